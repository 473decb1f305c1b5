/- WellFair answers true at every input, and its argument reads behind the call as it read before. No conditions. -/
import Derived.Test.YtindillghipjjaaK2
import Derived.Test.YtindillghipjjaaK3
import Derived.Test.YtindillghipjjaaK4
import Derived.Below
import Derived.Test.YtindillghipjjaaRows
import Derived.Conc.LeavingOf
import Derived.ChangeSlices
import Derived.OpenShut
import Derived.Carry

namespace Go.Proofs.Ytindillghipjjaa
open Go.Conc Go.Proofs.Try
set_option maxRecDepth 100000
set_option maxHeartbeats 4000000
set_option linter.unusedVariables false
section
variable {main : Bool} {J : JT} {n0 : Nat} {h : List AObj} {K : Value → List AObj → Prop}
theorem at30 : prog.funcs[30]? = some f30 := by kernel_rfl
theorem body30 : f30.body = some (codeOf f30) := by kernel_rfl
def pl30 : Plans := [(2, false, .take 0 (.take 1 (.take 2 (.take 3 (.take 4 (.take 5 (.take 9 (.take 10 (.last 6 true (.last 7 true (.last 8 true (.take 14 (.last 11 true (.last 12 true (.last 13 true (.last 15 false (.take 16 (.last 17 false (.fin)))))))))))))))))))]
def ct30 : Cuts := .go
theorem pok30 : plansOk prog pl30 (codeOf f30) = true := by kernel_rfl
theorem e30 {a0 a1 : Value} : W prog J 29 h.length 30 (codeOf f30) (RG.mk (regs [a0, a1]) []) h (RetQ prog [.cell 4 23] h.length K) =
(aAlloc [(vint 0), (vint 0), (vint 0)] h fun v1 h2 =>
aMin a1 [(vint 40)] fun v3 =>
aMax (vint 2) [v3] fun v4 =>
Good prog J 33 [a0, (vint 2), v4] h2 fun v5 h6 =>
aFill [(vint 0), (vint 0), (vint 0)] [(1, 1, v5)] fun c7 =>
aAlloc [(vint 0), (vint 0), (vint 0)] h6 fun v8 h9 =>
aStore 3 v8 (Value.agg ⟨c7⟩) h9 fun h10 =>
(∃ B, aOff v8 1 fun v11 =>
aLoad false 1 v11 h10 fun v12 =>
RdOk (some B) (ptrBlk v11) ∧ (aOff v8 1 fun v13 =>
aLoad false 1 v13 h10 fun v14 =>
RdOk (some B) (ptrBlk v13) ∧ (Good prog J 23 [a0, v14] h10 fun v15 h16 =>
SameB (some B) h10 h16 ∧ ((((1 * 1 : Nat) ≤ 16777216 ∧ (1 : Nat) ≤ 16777216 ∧ List.length [(vint 0)] = 1) ∧ aFill (zrep [(vint 0)] 1) [(0, 1, v15)] fun c17 =>
aNewS 1 c17 h16 fun v18 h19 =>
SameB (some B) h10 h19 ∧ (Good prog J 22 [a0, v12, v18] h19 fun v20 h21 =>
SameB (some B) h10 h21 ∧ (aOff v8 0 fun v22 =>
Good prog J 23 [a0, (vint 6)] h21 fun v23 h24 =>
SameB (some B) h10 h24 ∧ ((((3 * 1 : Nat) ≤ 16777216 ∧ (3 : Nat) ≤ 16777216 ∧ List.length [(vint 0)] = 1) ∧ aFill (zrep [(vint 0)] 3) [(0, 1, (vint 2)), (1, 1, (vint 3)), (2, 1, v23)] fun c25 =>
aNewS 3 c25 h24 fun v26 h27 =>
SameB (some B) h10 h27 ∧ (Good prog J 22 [a0, (vint 1), v26] h27 fun v28 h29 =>
SameB (some B) h10 h29 ∧ (aStore 1 v22 v20 h29 fun h30 =>
aOff v8 2 fun v31 =>
aStore 1 v31 v28 h30 fun h32 =>
aLoad true 3 v8 h32 fun v33 =>
aStore 3 v1 v33 h32 fun h34 =>
RetQ prog [.cell 4 23] h.length K .ret (RG.put (RG.put (RG.put (RG.put (RG.put (RG.put (RG.put (RG.put (RG.put (RG.put (RG.put (RG.put (RG.put (RG.put (RG.put (RG.put (RG.put (RG.put (RG.put (RG.put (RG.put (RG.put (RG.put (RG.put (RG.put (RG.mk (regs [a0, a1]) []) 4 v1) 6 a0) 7 a1) 8 v3) 9 v4) 10 v5) 11 (Value.agg ⟨c7⟩)) 5 v8) 12 a0) 13 v11) 14 v12) 15 a0) 16 v13) 17 v14) 21 a0) 22 a0) 18 v15) 19 v18) 20 v20) 26 v22) 23 v23) 24 v26) 25 v28) 27 v31) 28 v33) h34)))))))))))) := top_eq pok30 ct30 (by kernel_rfl)
theorem g30 (hJ : Closed prog main J) {a0 a1 : Value} (hs : heapOk h → W prog J 29 h.length 30 (codeOf f30) (RG.mk (regs [a0, a1]) []) h (RetQ prog [.cell 4 23] h.length K)) : Good prog J 30 [a0, a1] h K :=
  good_of_W hJ mixed at30 body30 (by kernel_rfl) (Nat.le_of_ble_eq_true rfl) hs
theorem at21 : prog.funcs[21]? = some f21 := by kernel_rfl
theorem body21 : f21.body = some (codeOf f21) := by kernel_rfl
def pl21 : Plans := [(5, false, .take 0 (.take 1 (.take 2 (.take 3 (.take 4 (.take 5 (.take 6 (.take 7 (.take 8 (.take 10 (.take 11 (.take 12 (.take 13 (.take 17 (.last 9 true (.last 14 true (.last 15 true (.last 16 true (.last 18 true (.take 19 (.last 20 true (.last 21 true (.take 22 (.last 23 false (.fin)))))))))))))))))))))))))]
def ct21 : Cuts := .go
theorem pok21 : plansOk prog pl21 (codeOf f21) = true := by kernel_rfl
theorem e21 {a0 a1 a2 : Value} : W prog J 45 h.length 21 (codeOf f21) (RG.mk (regs [a0, a1, a2]) []) h (RetQ prog [.cell 6 26] h.length K) =
(aAlloc [(vint 0), (vint 0), (vint 0), (Value.slice none 0 0)] h fun v1 h2 =>
Good prog J 30 [a0, a2] h2 fun v3 h4 =>
aFill [(vint 0), (vint 0), (vint 0), (Value.slice none 0 0)] [(0, 3, v3)] fun c5 =>
aAlloc [(vint 0), (vint 0), (vint 0), (Value.slice none 0 0)] h4 fun v6 h7 =>
aStore 4 v6 (Value.agg ⟨c5⟩) h7 fun h8 =>
aMin a1 [(vint 3)] fun v9 =>
Good prog J 33 [a0, (vint 1), v9] h8 fun v10 h11 =>
Sem J 45 h.length 21 (subC [1, 1, 0, 1, 0] (codeOf f21)) (RG.put (RG.put (RG.put (RG.put (RG.put (RG.put (RG.put (RG.put (RG.put (RG.put (RG.put (RG.mk (regs [a0, a1, a2]) []) 6 v1) 9 a0) 10 a2) 11 v3) 12 (Value.agg ⟨c5⟩)) 7 v6) 13 a0) 14 a1) 15 v9) 16 v10) 8 v10) h11 (contX pl21 prog J 45 h.length 21 ct21 [1, 1, 0, 1, 0] (codeOf f21) [] (RetQ prog [.cell 6 26] h.length K))) := top_eq pok21 ct21 (by kernel_rfl)
theorem g21 (hJ : Closed prog main J) {a0 a1 a2 : Value} (hs : heapOk h → W prog J 45 h.length 21 (codeOf f21) (RG.mk (regs [a0, a1, a2]) []) h (RetQ prog [.cell 6 26] h.length K)) : Good prog J 21 [a0, a1, a2] h K :=
  good_of_W hJ mixed at21 body21 (by kernel_rfl) (Nat.le_of_ble_eq_true rfl) hs
theorem s21_1 {f : RG} {nx0 : RG → List AObj → Prop} : W prog J 45 n0 21 (subC [1, 1, 0, 1, 0, 0] (codeOf f21)) f h (thenK nx0 (contX pl21 prog J 45 n0 21 ct21 [1, 1, 0, 1, 0] (codeOf f21) [] (RetQ prog [.cell 6 26] n0 K))) =
(aBin prog .gtr 3 (f.r 8) (vint 0) fun v1 =>
cnd v1
((∃ B, aOff (f.r 7) 3 fun v2 =>
aLoad false 1 v2 h fun v3 =>
RdOk (some B) (ptrBlk v2) ∧ (aOff (f.r 7) 0 fun v4 =>
aOff v4 1 fun v5 =>
aLoad false 1 v5 h fun v6 =>
RdOk (some B) (ptrBlk v5) ∧ (aBin prog .quo 3 v6 (vint 2) fun v7 =>
aMax (vint 1) [v7] fun v8 =>
aOff (f.r 7) 0 fun v9 =>
aOff v9 1 fun v10 =>
aLoad false 1 v10 h fun v11 =>
RdOk (some B) (ptrBlk v10) ∧ (Good prog J 33 [(f.r 0), (vint 1), v8] h fun v12 h13 =>
SameB (some B) h h13 ∧ (Good prog J 33 [(f.r 0), (vint 1), v11] h13 fun v14 h15 =>
SameB (some B) h h15 ∧ ((((3 * 1 : Nat) ≤ 16777216 ∧ (3 : Nat) ≤ 16777216 ∧ List.length [(vint 0)] = 1) ∧ aFill (zrep [(vint 0)] 3) [(0, 1, (vint 2)), (1, 1, v12), (2, 1, v14)] fun c16 =>
aNewS 3 c16 h15 fun v17 h18 =>
SameB (some B) h h18 ∧ (Good prog J 22 [(f.r 0), (vint 1), v17] h18 fun v19 h20 =>
SameB (some B) h h20 ∧ (Good prog J 33 [(f.r 0), (vint 1), (vint 6)] h20 fun v21 h22 =>
SameB (some B) h h22 ∧ (aFill [(vint 0), (vint 0)] [(0, 1, v19), (1, 1, v21)] fun c23 =>
(((1 * 2 : Nat) ≤ 16777216 ∧ (1 : Nat) ≤ 16777216 ∧ List.length [(vint 0), (vint 0)] = 2) ∧ aFill (zrep [(vint 0), (vint 0)] 1) [(0, 2, (Value.agg ⟨c23⟩))] fun c24 =>
aNewS 1 c24 h22 fun v25 h26 =>
SameB (some B) h h26 ∧ (((List.length [(vint 0), (vint 0)] = 2 ∧ 0 < (2 : Nat) ∧ 0 < (16 : Nat) ∧ (16 : Nat) ≤ 1024) ∧ aApp 2 v3 v25 h26 fun v27 h28 =>
SameB (some B) h h28 ∧ (aOff (f.r 7) 3 fun v29 =>
aStore 1 v29 v27 h28 fun h30 =>
aBin prog .sub 3 (f.r 8) (vint 1) fun v31 =>
nx0 (RG.put (RG.put (RG.put (RG.put (RG.put (RG.put (RG.put (RG.put (RG.put (RG.put (RG.put (RG.put (RG.put (RG.put (RG.put (RG.put (RG.put (RG.put (RG.put (RG.put (RG.put (RG.put (RG.put (RG.put (RG.put (RG.put (RG.put (RG.put f 17 (f.r 8)) 18 v1) 21 v2) 22 v3) 23 (f.r 0)) 24 (f.r 0)) 25 v4) 26 v5) 27 v6) 28 v7) 29 v8) 31 (f.r 0)) 32 v9) 33 v10) 34 v11) 38 (f.r 0)) 30 v12) 35 v14) 36 v17) 37 v19) 39 v21) 40 (Value.agg ⟨c23⟩)) 41 v25) 42 v27) 43 v29) 19 (f.r 8)) 20 v31) 8 v31) h30)))))))))))))))
(aLoad true 4 (f.r 7) h fun v32 =>
aStore 4 (f.r 6) v32 h fun h33 =>
RetQ prog [.cell 6 26] n0 K .ret (RG.put (RG.put (RG.put f 17 (f.r 8)) 18 v1) 44 v32) h33)) := sub_eq pok21 ct21 (by kernel_rfl)
theorem l21_1 (hJ : Closed prog main J) {S : Type} (μ : S → Nat) (I : S → RG → List AObj → Prop) (hI : ∀ s f h, I s f h → heapOk h → n0 ≤ h.length → W prog J 45 n0 21 (subC [1, 1, 0, 1, 0, 0] (codeOf f21)) f h (thenK (Nx n0 μ I s) (contX pl21 prog J 45 n0 21 ct21 [1, 1, 0, 1, 0] (codeOf f21) [] (RetQ prog [.cell 6 26] n0 K))))
  {s : S} {f : RG} (hi : Gets n0 I s f h) : Sem J 45 n0 21 (subC [1, 1, 0, 1, 0] (codeOf f21)) f h (contX pl21 prog J 45 n0 21 ct21 [1, 1, 0, 1, 0] (codeOf f21) [] (RetQ prog [.cell 6 26] n0 K)) :=
  loop_rule hJ mixed (b := subC [1, 1, 0, 1, 0, 0] (codeOf f21)) (by kernel_rfl) μ I hI hi
theorem at36 : prog.funcs[36]? = some f36 := by kernel_rfl
theorem body36 : f36.body = some (codeOf f36) := by kernel_rfl
def pl36 : Plans := []
def ct36 : Cuts := .go
theorem pok36 : plansOk prog pl36 (codeOf f36) = true := by kernel_rfl
theorem e36 {a0 a1 a2 : Value} : W prog J 27 h.length 36 (codeOf f36) (RG.mk (regs [a0, a1, a2]) []) h (RetQ prog [.tmp 6] h.length K) =
(aBox a1 h fun v1 h2 =>
aMin a2 [(vint 5)] fun v3 =>
Good prog J 33 [a0, (vint 1), v3] h2 fun v4 h5 =>
Sem J 27 h.length 36 (subC [1, 1, 0, 1, 0] (codeOf f36)) (RG.put (RG.put (RG.put (RG.put (RG.put (RG.put (RG.put (RG.put (RG.mk (regs [a0, a1, a2]) []) 4 v1) 6 (Value.slice none 0 0)) 7 (Value.slice none 0 0)) 9 a0) 10 a2) 11 v3) 12 v4) 8 v4) h5 (contX pl36 prog J 27 h.length 36 ct36 [1, 1, 0, 1, 0] (codeOf f36) [] (RetQ prog [.tmp 6] h.length K))) := top_eq pok36 ct36 (by kernel_rfl)
theorem g36 (hJ : Closed prog main J) {a0 a1 a2 : Value} (hs : heapOk h → W prog J 27 h.length 36 (codeOf f36) (RG.mk (regs [a0, a1, a2]) []) h (RetQ prog [.tmp 6] h.length K)) : Good prog J 36 [a0, a1, a2] h K :=
  good_of_W hJ mixed at36 body36 (by kernel_rfl) (Nat.le_of_ble_eq_true rfl) hs
theorem s36_1 {f : RG} {nx0 : RG → List AObj → Prop} : W prog J 27 n0 36 (subC [1, 1, 0, 1, 0, 0] (codeOf f36)) f h (thenK nx0 (contX pl36 prog J 27 n0 36 ct36 [1, 1, 0, 1, 0] (codeOf f36) [] (RetQ prog [.tmp 6] n0 K))) =
(aBin prog .gtr 3 (f.r 8) (vint 0) fun v1 =>
cnd v1
(aOff (f.r 4) 3 fun v2 =>
aLoad false 1 v2 h fun v3 =>
aLenS v3 fun v4 =>
Good prog J 23 [(f.r 0), v4] h fun v5 h6 =>
aBin prog .sub 3 v5 (vint 1) fun v7 =>
(((1 * 1 : Nat) ≤ 16777216 ∧ (1 : Nat) ≤ 16777216 ∧ List.length [(vint 0)] = 1) ∧ aFill (zrep [(vint 0)] 1) [(0, 1, v7)] fun c8 =>
aNewS 1 c8 h6 fun v9 h10 =>
((List.length [(vint 0)] = 1 ∧ 0 < (1 : Nat) ∧ 0 < (8 : Nat) ∧ (8 : Nat) ≤ 1024) ∧ aApp 1 (f.r 7) v9 h10 fun v11 h12 =>
aBin prog .sub 3 (f.r 8) (vint 1) fun v13 =>
nx0 (RG.put (RG.put (RG.put (RG.put (RG.put (RG.put (RG.put (RG.put (RG.put (RG.put (RG.put (RG.put (RG.put (RG.put (RG.put f 13 (f.r 8)) 14 v1) 17 (f.r 7)) 18 (f.r 0)) 19 v2) 20 v3) 21 v4) 22 v5) 23 v7) 24 v9) 25 v11) 7 v11) 15 (f.r 8)) 16 v13) 8 v13) h12)))
(retL n0 K f.ds [(f.r 7)] h)) := sub_eq pok36 ct36 (by kernel_rfl)
theorem l36_1 (hJ : Closed prog main J) {S : Type} (μ : S → Nat) (I : S → RG → List AObj → Prop) (hI : ∀ s f h, I s f h → heapOk h → n0 ≤ h.length → W prog J 27 n0 36 (subC [1, 1, 0, 1, 0, 0] (codeOf f36)) f h (thenK (Nx n0 μ I s) (contX pl36 prog J 27 n0 36 ct36 [1, 1, 0, 1, 0] (codeOf f36) [] (RetQ prog [.tmp 6] n0 K))))
  {s : S} {f : RG} (hi : Gets n0 I s f h) : Sem J 27 n0 36 (subC [1, 1, 0, 1, 0] (codeOf f36)) f h (contX pl36 prog J 27 n0 36 ct36 [1, 1, 0, 1, 0] (codeOf f36) [] (RetQ prog [.tmp 6] n0 K)) :=
  loop_rule hJ mixed (b := subC [1, 1, 0, 1, 0, 0] (codeOf f36)) (by kernel_rfl) μ I hI hi
end
end Go.Proofs.Ytindillghipjjaa

namespace Go.Proofs.Ytindillghipjjaa
open Go.Conc Go.Proofs.Try
def drinkOf (t : Tro) (who : Int) : Int := if 0 ≤ who then (droAt t who.toNat).drinks else 0
def nextL (t : Tro) (who now : Int) : Int := min t.well.holds (now - min now (drinkOf t who) + t.well.fill)
def turnOf (r : List Int) (h : Nat) : Int := r.getD (h % r.length) 0
def lvl (t : Tro) (r : List Int) : Nat → Int
  | 0 => t.well.now
  | h + 1 => nextL t (turnOf r h) (lvl t r h)
def dry (t : Tro) (r : List Int) (h : Nat) : Prop := lvl t r h < drinkOf t (turnOf r h)
instance (t : Tro) (r : List Int) (h : Nat) : Decidable (dry t r h) := by unfold dry; infer_instance

structure TroFine (t : Tro) : Prop where
  holds : 1 ≤ t.well.holds ∧ t.well.holds ≤ 40
  now : 0 ≤ t.well.now ∧ t.well.now ≤ t.well.holds
  fill : 0 ≤ t.well.fill ∧ t.well.fill ≤ 20
  len : 1 ≤ t.flocks.length ∧ t.flocks.length ≤ 3
  dro : ∀ d ∈ t.flocks, droOk d
theorem troE_fine {t : Tro} (h : troE t = 0) : TroFine t := by
  obtain ⟨⟨a, b, c⟩, d, e⟩ := troE_well h
  exact ⟨a, b, c, d, e⟩
theorem fine_troE {t : Tro} (f : TroFine t) : troE t = 0 := by
  have h1 : welE t.well = 0 := by unfold welE; rw [if_pos ⟨f.holds, f.now, f.fill⟩]
  have h2 : fewE t.flocks.length 1 3 = 0 := by
    have := f.len
    unfold fewE
    rw [if_neg (by omega), if_neg (by omega)]
  unfold troE
  rw [if_neg (by omega), if_neg (by omega), if_pos f.dro]

structure RotaFine (t : Tro) (r : List Int) : Prop where
  len : 1 ≤ r.length ∧ r.length ≤ 5
  who : ∀ n ∈ r, -1 ≤ n ∧ n < t.flocks.length

section
variable {t x : Tro} {r : List Int} {h k a b : Nat}
theorem droAt_mem {i : Nat} (hi : i < t.flocks.length) : droAt t i = t.flocks[i] := by
  unfold droAt
  rw [List.getD_eq_getElem?_getD, List.getElem?_eq_getElem hi]
  rfl
def firstH (p : Nat → Prop) [DecidablePred p] : Nat → Int
  | 0 => -1
  | n + 1 => if firstH p n < 0 then (if p n then n else -1) else firstH p n
theorem firstH_neg {p : Nat → Prop} [DecidablePred p] : ∀ {n : Nat}, firstH p n < 0 → firstH p n = -1 ∧ ∀ h, h < n → ¬ p h
  | 0, _ => ⟨rfl, fun h hh => absurd hh (Nat.not_lt_zero _)⟩
  | n + 1, hl => by
    unfold firstH at hl ⊢
    split at hl
    · rename_i hx
      rw [if_pos hx]
      split at hl
      · omega
      · rename_i hp
        rw [if_neg hp]
        refine ⟨rfl, fun h hh => ?_⟩
        rcases Nat.lt_or_ge h n with y | y
        · exact (firstH_neg hx).2 h y
        · rwa [show h = n from by omega]
    · omega
theorem firstH_pos {p : Nat → Prop} [DecidablePred p] : ∀ {n : Nat}, 0 ≤ firstH p n → ∃ k : Nat, firstH p n = k ∧ k < n ∧ p k ∧ ∀ h, h < k → ¬ p h
  | 0, hl => by simp [firstH] at hl
  | n + 1, hl => by
    unfold firstH at hl ⊢
    split at hl
    · rename_i hx
      rw [if_pos hx]
      split at hl
      · rename_i hp
        rw [if_pos hp]
        exact ⟨n, rfl, by omega, hp, (firstH_neg hx).2⟩
      · simp at hl
    · rename_i hx
      rw [if_neg hx]
      obtain ⟨k, a, b, c, d⟩ := firstH_pos (p := p) (n := n) (by omega)
      exact ⟨k, a, by omega, c, d⟩
theorem firstH_at {p : Nat → Prop} [DecidablePred p] {n k : Nat} (hk : k < n) (hp : p k) (hn : ∀ h, h < k → ¬ p h) : firstH p n = k := by
  rcases Int.lt_or_le (firstH p n) 0 with x | x
  · exact absurd hp ((firstH_neg x).2 k hk)
  · obtain ⟨j, e, a, b, c⟩ := firstH_pos x
    rw [e]
    rcases Nat.lt_trichotomy j k with y | y | y
    · exact absurd b (hn j y)
    · rw [y]
    · exact absurd hp (c k y)
theorem firstH_none {p : Nat → Prop} [DecidablePred p] {n : Nat} (hn : ∀ h, h < n → ¬ p h) : firstH p n = -1 := by
  rcases Int.lt_or_le (firstH p n) 0 with x | x
  · exact (firstH_neg x).1
  · obtain ⟨j, e, a, b, c⟩ := firstH_pos x
    exact absurd b (hn j a)

def occ (r : List Int) (f : Int) (i : Nat) : Prop := turnOf r i = f
instance (r : List Int) (f : Int) (i : Nat) : Decidable (occ r f i) := by unfold occ; infer_instance
def nextD (r : List Int) (f : Int) (i : Nat) : Int := firstH (fun d => occ r f (i + 1 + d)) r.length + 1
def gapG (r : List Int) (f : Int) : Nat → Int
  | 0 => 0
  | i + 1 => if occ r f i then max (gapG r f i) (nextD r f i) else gapG r f i
def gapR (r : List Int) (f : Int) : Int := gapG r f r.length

theorem occ_mod (f : Int) (i : Nat) : occ r f (i + r.length) ↔ occ r f i := by
  unfold occ turnOf
  rw [Nat.add_mod_right]
theorem occ_mul (f : Int) (i c : Nat) : occ r f (i + r.length * c) ↔ occ r f i := by
  unfold occ turnOf
  rw [Nat.add_mul_mod_self_left]
theorem nextD_spec {f : Int} {i : Nat} (hr : r ≠ []) (ho : occ r f i) : ∃ d : Nat, nextD r f i = d ∧ 1 ≤ d ∧ d ≤ r.length ∧ occ r f (i + d) ∧ ∀ e, 1 ≤ e → e < d → ¬ occ r f (i + e) := by
  have hp : 0 < r.length := by cases r <;> simp at hr ⊢
  unfold nextD
  rcases Int.lt_or_le (firstH (fun d => occ r f (i + 1 + d)) r.length) 0 with x | x
  · have := (firstH_neg x).2 (r.length - 1) (by omega)
    rw [show i + 1 + (r.length - 1) = i + r.length from by omega, occ_mod] at this
    exact absurd ho this
  · obtain ⟨k, e, a, b, c⟩ := firstH_pos x
    refine ⟨k + 1, by rw [e]; rfl, by omega, by omega, by rw [show i + (k + 1) = i + 1 + k from by omega]; exact b, fun e h1 h2 => ?_⟩
    rw [show i + e = i + 1 + (e - 1) from by omega]
    exact c (e - 1) (by omega)
theorem nextD_at {f : Int} {i d : Nat} (hr : r ≠ []) (ho : occ r f i) (h1 : 1 ≤ d) (hd : occ r f (i + d)) (hn : ∀ e, 1 ≤ e → e < d → ¬ occ r f (i + e)) : nextD r f i = d := by
  obtain ⟨k, e, a, b, c, g⟩ := nextD_spec hr ho
  rw [e]
  rcases Nat.lt_trichotomy k d with y | y | y
  · exact absurd c (hn k a y)
  · rw [y]
  · exact absurd hd (g d h1 y)
theorem nextD_mod (f : Int) (i : Nat) : nextD r f (i + r.length) = nextD r f i := by
  unfold nextD
  congr 1
  have : (fun d => occ r f (i + r.length + 1 + d)) = (fun d => occ r f (i + 1 + d)) := by
    funext d
    rw [show i + r.length + 1 + d = i + 1 + d + r.length from by omega]
    exact propext (occ_mod f _)
  simp only [this]

theorem gapG_nonneg {f : Int} : ∀ n : Nat, 0 ≤ gapG r f n
  | 0 => Int.le_refl _
  | n + 1 => by
    have := gapG_nonneg (f := f) n
    unfold gapG
    split <;> omega
theorem gapG_le {f B : Int} (hB : 0 ≤ B) : ∀ {n : Nat}, gapG r f n ≤ B ↔ ∀ i, i < n → occ r f i → nextD r f i ≤ B
  | 0 => by simp [gapG, hB]
  | n + 1 => by
    have ih : gapG r f n ≤ B ↔ ∀ i, i < n → occ r f i → nextD r f i ≤ B := gapG_le hB
    unfold gapG
    constructor
    · intro h i hi ho
      rcases Nat.lt_or_ge i n with x | x
      · refine ih.1 ?_ i x ho
        split at h <;> omega
      · have : i = n := by omega
        subst this
        rw [if_pos ho] at h
        omega
    · intro h
      have h1 := ih.2 fun i hi ho => h i (by omega) ho
      split
      · rename_i ho
        have := h n (by omega) ho
        omega
      · exact h1
theorem gapG_all {f B : Int} (hr : r ≠ []) (hB : 0 ≤ B) {n : Nat} (hn : r.length ≤ n) : gapG r f n ≤ B ↔ ∀ i, occ r f i → nextD r f i ≤ B := by
  have hp : 0 < r.length := by cases r <;> simp at hr ⊢
  rw [gapG_le hB]
  refine ⟨fun h i ho => ?_, fun h i _ ho => h i ho⟩
  induction i using Nat.strongRecOn with
  | ind i ih =>
    rcases Nat.lt_or_ge i n with x | x
    · exact h i x ho
    · have e : i = (i - r.length) + r.length := by omega
      rw [e, nextD_mod]
      rw [e, occ_mod] at ho
      exact ih (i - r.length) (by omega) ho
theorem gapG_more {f : Int} (hr : r ≠ []) {n : Nat} (hn : r.length ≤ n) : gapG r f n = gapR r f := by
  have h1 := gapG_nonneg (r := r) (f := f) n
  have h2 := gapG_nonneg (r := r) (f := f) r.length
  have a := (gapG_all hr h1 (Nat.le_refl _)).2 ((gapG_all hr h1 hn).1 (Int.le_refl _))
  have b := (gapG_all hr h2 hn).2 ((gapG_all hr h2 (Nat.le_refl _)).1 (Int.le_refl _))
  unfold gapR
  omega
theorem gapG_none {f : Int} : ∀ {n : Nat}, (∀ i, i < n → ¬ occ r f i) → gapG r f n = 0
  | 0, _ => rfl
  | n + 1, h => by
    unfold gapG
    rw [if_neg (h n (by omega))]
    exact gapG_none fun i hi => h i (by omega)
theorem gapR_le {f B : Int} (hr : r ≠ []) (hB : 0 ≤ B) : gapR r f ≤ B ↔ ∀ i, occ r f i → ∃ d : Nat, 1 ≤ d ∧ (d : Int) ≤ B ∧ occ r f (i + d) := by
  unfold gapR
  rw [gapG_all hr hB (Nat.le_refl _)]
  constructor
  · intro h i ho
    obtain ⟨d, e, a, b, c, _⟩ := nextD_spec hr ho
    have := h i ho
    exact ⟨d, a, by omega, c⟩
  · intro h i ho
    obtain ⟨d, e, a, b, c, g⟩ := nextD_spec hr ho
    obtain ⟨k, k1, k2, k3⟩ := h i ho
    rw [e]
    rcases Nat.lt_or_ge k d with y | y
    · exact absurd k3 (g k k1 y)
    · omega
theorem gapR_zero {f : Int} (hr : r ≠ []) : gapR r f = 0 ↔ ∀ i, ¬ occ r f i := by
  constructor
  · intro h i ho
    obtain ⟨d, a, b, c⟩ := (gapR_le (f := f) (B := 0) hr (Int.le_refl _)).1 (by omega) i ho
    omega
  · intro h
    exact gapG_none fun i _ => h i
theorem gapR_nonneg {f : Int} : 0 ≤ gapR r f := gapG_nonneg _
end
end Go.Proofs.Ytindillghipjjaa

namespace Go.Proofs.Ytindillghipjjaa
open Go.Conc Go.Proofs.Try
section
variable {t x : Tro} {r r' : List Int}
def later (r : List Int) (k : Nat) : List Int := r.drop k ++ r.take k
def waitF (r : List Int) (f : Int) (i : Nat) : Int := firstH (fun d => occ r f (i + d)) (r.length + 1)
theorem wait_mod (f : Int) (i : Nat) : waitF r f (i + r.length) = waitF r f i := by
  unfold waitF
  congr 1
  have : (fun d => occ r f (i + r.length + d)) = (fun d => occ r f (i + d)) := by
    funext d
    rw [show i + r.length + d = i + d + r.length from by omega]
    exact propext (occ_mod f _)
  simp only [this]
theorem last_occ {f : Int} : ∀ {n i : Nat}, occ r f i → i < n → ∃ j, i ≤ j ∧ j < n ∧ occ r f j ∧ ∀ m, j < m → m < n → ¬ occ r f m
  | 0, i, _, h => absurd h (Nat.not_lt_zero _)
  | n + 1, i, ho, h => by
    by_cases hn : occ r f n
    · exact ⟨n, by omega, by omega, hn, fun m h1 h2 => by omega⟩
    · have hin : i < n := by
        rcases Nat.lt_or_ge i n with x | x
        · exact x
        · have : i = n := by omega
          subst this
          exact absurd ho hn
      obtain ⟨j, a, b, c, d⟩ := last_occ ho hin
      refine ⟨j, a, by omega, c, fun m h1 h2 => ?_⟩
      rcases Nat.lt_or_ge m n with x | x
      · exact d m h1 x
      · have : m = n := by omega
        subst this
        exact hn
theorem gap_wait {f B : Int} (hr : r ≠ []) (hB : 0 ≤ B) (hs : ∃ i, occ r f i) : gapR r f ≤ B ↔ ∀ i, ∃ d : Nat, (d : Int) + 1 ≤ B ∧ occ r f (i + d) := by
  have hp : 0 < r.length := by cases r <;> simp at hr ⊢
  rw [gapR_le hr hB]
  constructor
  · intro h i
    obtain ⟨i0, h0⟩ := hs
    -- an occurrence ahead of a later copy of i
    have h1 : occ r f i0 := h0
    have hlt : i0 < i + r.length * (i0 + 1) := by
      have := Nat.le_mul_of_pos_left (i0 + 1) hp
      omega
    obtain ⟨j, a, b, c, d⟩ := last_occ h1 hlt
    obtain ⟨e, e1, e2, e3⟩ := h j c
    have hge : i + r.length * (i0 + 1) ≤ j + e := by
      rcases Nat.lt_or_ge (j + e) (i + r.length * (i0 + 1)) with x | x
      · exact absurd e3 (d _ (by omega) x)
      · exact x
    refine ⟨j + e - (i + r.length * (i0 + 1)), by omega, ?_⟩
    rw [← occ_mul f _ (i0 + 1), show i + (j + e - (i + r.length * (i0 + 1))) + r.length * (i0 + 1) = j + e from by omega]
    exact e3
  · intro h i ho
    obtain ⟨d, h1, h2⟩ := h (i + 1)
    exact ⟨d + 1, by omega, by omega, by rw [show i + (d + 1) = i + 1 + d from by omega]; exact h2⟩
theorem wait_spec {f : Int} (hr : r ≠ []) (hs : ∃ i, occ r f i) (i : Nat) : ∃ d : Nat, waitF r f i = d ∧ d < r.length ∧ occ r f (i + d) ∧ ∀ e, e < d → ¬ occ r f (i + e) := by
  have hp : 0 < r.length := by cases r <;> simp at hr ⊢
  have hB := gapR_nonneg (r := r) (f := f)
  obtain ⟨d, h1, h2⟩ := (gap_wait hr hB hs).1 (Int.le_refl _) i
  have hlen : gapR r f ≤ r.length := by
    rw [gapR_le hr (by omega)]
    intro i ho
    exact ⟨r.length, hp, Int.le_refl _, (occ_mod f i).2 ho⟩
  unfold waitF
  rcases Int.lt_or_le (firstH (fun d => occ r f (i + d)) (r.length + 1)) 0 with x | x
  · exact absurd h2 ((firstH_neg x).2 d (by omega))
  · obtain ⟨k, e, a, b, c⟩ := firstH_pos x
    refine ⟨k, e, ?_, b, c⟩
    rcases Nat.lt_or_ge d k with y | y
    · exact absurd h2 (c d y)
    · omega
end
end Go.Proofs.Ytindillghipjjaa

namespace Go.Proofs.Ytindillghipjjaa
open Go.Conc Go.Proofs.Try
set_option maxRecDepth 100000
section
variable {main : Bool} {J : JT} {h H : List AObj} {K : Value → List AObj → Prop} {KV : Value → Prop} {HL : List AObj → Prop} {n0 : Nat} {ns : List Int} {k : Nat}
theorem HX.lt (a : HX h H ns k) : h.length < H.length := by
  obtain ⟨nv, k1, s, rest, rfl, _⟩ := a
  rw [hf_len]
  omega
theorem sb1 {X : List Nat} {p : Nat} {H H' : List AObj} (S : SameX X H H') (hp : p < H.length) (hX : p ∉ X) : SameB (some [p]) H H' := fun b hb => by
  simp at hb
  subst hb
  exact S.2 _ hp hX
theorem quoI {t : TypeId} {a b : Int} (ha : 0 ≤ a ∧ a ≤ 1000000) (hb : 0 < b) (hk : KV (vint (a / b))) : aBin prog .quo t (vint a) (vint b) KV := by
  have h1 : Int.tdiv a b = a / b := Int.tdiv_eq_ediv_of_nonneg ha.1
  have h2 : 0 ≤ a / b := Int.ediv_nonneg ha.1 (by omega)
  have h3 : a / b ≤ a := Int.ediv_le_self _ ha.1
  simp only [aBin, aInt, true_and]
  rw [h1, wrap64 (by omega) (by omega)]
  exact ⟨by omega, hk⟩
theorem ofX (hJ : Closed prog main J) (a : HX h H ns k) (hk : k < 1000000) {x : Int} {others : List Int} {p n c : Nat} (hp : H[p]? = some (.cells (others.map vint) true 0)) (hne : p ≠ h.length) (hn : others.length = n) (hl : n < 1000)
    (hK : ∀ y H', (y = x ∨ y ∈ others) → SameX [h.length] H H' → H'.length = H.length → HX h H' ns (k + 1) → K (vint y) H') : Good prog J 22 [ptr h.length 0, vint x, .slice (some ⟨p, 0, none⟩) n c] H K := by
  subst hn
  obtain ⟨nv, k1, s, rest, rfl, b1, b2, b3⟩ := a
  refine good22 hJ (hf_hand b3.list b3.sane (by omega) b2.1 b2.2) (others := others) (fun h' hd => ?_) (by omega) fun y h1 hy hd => ?_
  · obtain ⟨k', s', c1, c2, c3, rfl⟩ := hf_dealt hd
    have S := hf_same (h := h) (nv := nv) (k1 := k1) (k2 := k') (s1 := s) (s2 := s') (rest := rest) (g := [])
    rw [List.append_nil] at S
    exact sli_new (wr := true) (sz := 0) (S.get hp (by simpa using hne)) (by simp) (kn_ints _)
  · obtain ⟨k', s', c1, c2, c3, rfl⟩ := hf_dealt hd
    have S := hf_same (h := h) (nv := nv) (k1 := k1) (k2 := k') (s1 := s) (s2 := s') (rest := rest) (g := [])
    rw [List.append_nil] at S
    exact hK y _ hy S (by simp [hf_len]) ⟨nv, k', s', rest, rfl, by omega, ⟨c2, c3⟩, b3⟩

structure WelOk (B : Int) (w : Wel) : Prop where
  holds : 2 ≤ w.holds ∧ w.holds ≤ B ∧ w.holds ≤ 40
  now : 0 ≤ w.now ∧ w.now ≤ w.holds
  fill : 0 ≤ w.fill ∧ w.fill ≤ 6

theorem good30 (hJ : Closed prog main J) (a : HX h H ns k) (hk : k < 500000) {B : Int} (hB : 2 ≤ B ∧ B ≤ 1000)
    (hK : ∀ w H', WelOk B w → SameX [h.length] H H' → HX h H' ns (k + 5) → K w.val H') : Good prog J 30 [ptr h.length 0, vint B] H K := by
  refine g30 hJ fun ok => ?_
  rw [e30]
  have hlt := a.lt
  refine qAl fun H1 p1 e1 S1 c1 l1 => minI (maxI ?_)
  have a1 := a.same S1 (by simp)
  refine amX hJ a1 (by omega) (by omega) (by omega) fun hd H2 b1 b2 S2 l2 a2 => ?_
  refine fill_one rfl rfl rfl (by decide) (fillI ?_)
  refine qAl fun H3 p3 e3 S3 c3 l3 => qStA (c := [vint 0, vint hd, vint 0]) c3 rfl rfl rfl fun H4 S4 c4 l4 => ?_
  have a4 := (a2.same S3 (by simp)).same S4 (by simp; omega)
  refine ⟨[p3], offI (ldI (v := vint hd) c4 rfl rfl ⟨by simp [RdOk, ptrBlk, ptr], offI (ldI (v := vint hd) c4 rfl rfl ⟨by simp [RdOk, ptrBlk, ptr], ?_⟩)⟩)⟩
  have hp4 : p3 < H4.length := lt_of_get c4
  refine upX hJ a4 (by omega) (by omega) fun now H5 d1 d2 S5 l5 a5 => ⟨sb1 S5 hp4 (by simp; omega), ⟨by decide, fill_one rfl rfl rfl (by decide) (fillI (qNew fun H6 p6 e6 S6 c6 l6 => ?_))⟩⟩
  have c6 : H6[p6]? = some (.cells ([now].map vint) true 0) := c6
  have T6 : SameX [h.length] H4 H6 := S5.trans S6.weak0
  refine ⟨sb1 T6 hp4 (by simp; omega), ?_⟩
  have a6 := a5.same S6 (by simp)
  refine ofX hJ a6 (by omega) c6 (by omega) rfl (by simp) fun nw H7 m7 S7 l7 a7 => ?_
  have T7 : SameX [h.length] H4 H7 := T6.trans S7
  refine ⟨sb1 T7 hp4 (by simp; omega), offI ?_⟩
  refine upX hJ a7 (by omega) (by omega) fun f0 H8 g1 g2 S8 l8 a8 => ?_
  have T8 : SameX [h.length] H4 H8 := T7.trans S8
  refine ⟨sb1 T8 hp4 (by simp; omega), ⟨by decide, fill_one rfl rfl rfl (by decide) (fill_one rfl rfl rfl (by decide) (fill_one rfl rfl rfl (by decide) (fillI (qNew fun H9 p9 e9 S9 c9 l9 => ?_))))⟩⟩
  have c9 : H9[p9]? = some (.cells ([2, 3, f0].map vint) true 0) := c9
  have T9 : SameX [h.length] H4 H9 := T8.trans S9.weak0
  refine ⟨sb1 T9 hp4 (by simp; omega), ?_⟩
  have hh := a8.lt
  have a9 := a8.same S9 (by simp)
  refine ofX hJ a9 (by omega) c9 (by omega) rfl (by simp) fun fl H10 m10 S10 l10 a10 => ?_
  have T10 : SameX [h.length] H4 H10 := T9.trans S10
  refine ⟨sb1 T10 hp4 (by simp; omega), ?_⟩
  refine qSt (T10.get c4 (by simp; omega)) (by simp) rfl rfl fun H11 S11 c11 l11 => offI (qSt c11 (by simp) rfl rfl fun H12 S12 c12 l12 => ?_)
  refine load_part (c := [vint nw, vint hd, vint fl]) c12 (by simp) rfl rfl ?_
  have T1 : SameX [h.length] H H1 := S1.weak0
  have T4 : SameX [h.length] H H4 := ((T1.trans S2).trans S3.weak0).thru S4 (by simp; omega)
  have T12 : SameX [h.length] H H12 := ((T4.trans T10).thru S11 (by simp; omega)).thru S12 (by simp; omega)
  have c1' : H12[p1]? = some (.cells [vint 0, vint 0, vint 0] true 0) := S12.get (S11.get (T10.get (S4.get (S3.get (S2.get c1 (by simp; omega)) (by simp)) (by simp; omega)) (by simp; omega)) (by simp; omega)) (by simp; omega)
  refine qStA (c := [vint nw, vint hd, vint fl]) c1' rfl rfl rfl fun H13 S13 c13 l13 => ?_
  refine retQ_same rfl (resW_cell (gg := true) (s := 3) (by kernel_rfl) (load_part (c := [vint nw, vint hd, vint fl]) c13 (by simp) rfl rfl (resW_nil ?_)))
  refine hK ⟨nw, hd, fl⟩ H13 ⟨?_, ?_, ?_⟩ (T12.thru S13 (by simp; omega)) (((a10.same S11 (by simp; omega)).same S12 (by simp; omega)).same S13 (by simp; omega))
  · show 2 ≤ hd ∧ hd ≤ B ∧ hd ≤ 40
    omega
  · show 0 ≤ nw ∧ nw ≤ hd
    rcases m7 with rfl | m7
    · omega
    · simp at m7
      omega
  · show 0 ≤ fl ∧ fl ≤ 6
    rcases m10 with rfl | m10
    · omega
    · simp at m10
      omega

structure TroOk (F B : Int) (t : Tro) : Prop where
  well : WelOk B t.well
  len : 1 ≤ t.flocks.length ∧ (t.flocks.length : Int) ≤ F
  dro : ∀ d ∈ t.flocks, (1 ≤ d.drinks ∧ d.drinks ≤ 40) ∧ (1 ≤ d.every ∧ d.every ≤ 6)
theorem TroOk.fine {F B : Int} {t : Tro} (o : TroOk F B t) (hF : F ≤ 3) : TroFine t := by
  obtain ⟨⟨h1, h2, h3⟩, h4, h5⟩ := o
  refine ⟨by omega, h2, by omega, by omega, fun d hd => ?_⟩
  have := h5 d hd
  exact ⟨this.1, by omega⟩

structure TroO (h H : List AObj) (t : Tro) (fv : Value) (o : Option Nat) : Prop where
  fl : OwnX H 2 (t.flocks.flatMap Dro.cells) t.flocks.length fv o
  b : ∀ i, o = some i → h.length < i
theorem TroO.at {t : Tro} {fv : Value} {o : Option Nat} (a : TroO h H t fv o) : TroAt H (.agg ⟨troCells t fv⟩) t fv := ⟨rfl, ownX_sli a.fl⟩
theorem TroO.same {H' : List AObj} {t : Tro} {fv : Value} {o : Option Nat} {X : List Nat} (a : TroO h H t fv o) (S : SameX X H H') (hX : ∀ i, o = some i → i ∉ X) : TroO h H' t fv o := ⟨ownX_keep a.fl S hX, a.b⟩

theorem good21 (hJ : Closed prog main J) (a : HX h H ns k) (hk : k < 400000) {F B : Int} (hF : 1 ≤ F ∧ F ≤ 3) (hB : 2 ≤ B ∧ B ≤ 40)
    (hK : ∀ t fv o H', TroOk F B t → SameX [h.length] H H' → HX h H' ns (k + 30) → TroO h H' t fv o → K (.agg ⟨troCells t fv⟩) H') : Good prog J 21 [ptr h.length 0, vint F, vint B] H K := by
  refine g21 hJ fun ok => ?_
  rw [e21]
  have hlt := a.lt
  refine qAl fun H1 p1 e1 S1 c1 l1 => ?_
  have a1 := a.same S1 (by simp)
  refine good30 hJ a1 (by omega) (by omega) fun w H2 ow S2 a2 => ?_
  refine fill_one rfl rfl rfl (by decide) (fillI ?_)
  have hl2 := S2.1
  refine qAl fun H3 p3 e3 S3 c3 l3 => qStA (c := troCells ⟨w, []⟩ (.slice none 0 0)) c3 rfl rfl rfl fun H4 S4 c4 l4 => minI ?_
  have a4 := (a2.same S3 (by simp)).same S4 (by simp; omega)
  refine amX hJ a4 (by omega) (by omega) (by omega) fun i0 H5 b1 b2 S5 l5 a5 => ?_
  have T4 : SameX [h.length] H H4 := ((S1.weak0.trans S2).trans S3.weak0).thru S4 (by simp; omega)
  have T5 : SameX [h.length] H H5 := T4.trans S5
  have c1' : H5[p1]? = some (.cells (troCells ⟨⟨0, 0, 0⟩, []⟩ (.slice none 0 0)) true 0) := S5.get (S4.get (S3.get (S2.get c1 (by simp; omega)) (by simp)) (by simp; omega)) (by simp; omega)
  have c3' : H5[p3]? = some (.cells (troCells ⟨w, []⟩ (.slice none 0 0)) true 0) := S5.get c4 (by simp; omega)
  obtain ⟨⟨w1, w2, w3⟩, w4, w5⟩ := id ow
  refine l21_1 hJ (fun i : Nat => i) (fun i f H' => ∃ ds fv o, SameX [h.length] H H' ∧ HX h H' ns (k + 30 - 5 * i) ∧ i ≤ 3 ∧ (i0 = i + List.length ds) ∧ (∀ d ∈ ds, (1 ≤ d.drinks ∧ d.drinks ≤ 40) ∧ (1 ≤ d.every ∧ d.every ≤ 6)) ∧
      TroO h H' ⟨w, ds⟩ fv o ∧ H'[p3]? = some (.cells (troCells ⟨w, ds⟩ fv) true 0) ∧ H'[p1]? = some (.cells (troCells ⟨⟨0, 0, 0⟩, []⟩ (.slice none 0 0)) true 0) ∧ (∀ j, o = some j → j ≠ p1 ∧ j ≠ p3 ∧ H.length ≤ j) ∧ f.ds = [] ∧ f.r 0 = ptr h.length 0 ∧ f.r 6 = ptr p1 0 ∧ f.r 7 = ptr p3 0 ∧ f.r 8 = vint (i : Nat)) ?_ (s := i0.toNat)
    (.inl ⟨[], .slice none 0 0, none, T5, a5.mono (by omega), by omega, by simp; omega, by simp, ⟨⟨rfl, rfl, .inl ⟨rfl, rfl, rfl⟩⟩, by simp⟩, c3', c1', by simp, rfl, rfl, rfl, rfl, by show vint i0 = vint _; congr 1; omega⟩)
  rintro i f Hc ⟨ds, fv, o, Sc, ac, hi, hsum, hds, TO, cp3, cp1, hoj, fds, r0, r6, r7, r8⟩ okc hnc
  rw [s21_1, r0, r6, r7, r8]
  have hp3 := lt_of_get cp3
  have hp1 := lt_of_get cp1
  refine gtrI (cndI (fun hpos => ?_) fun hz => ?_)
  · have kf := (ownX_val TO.fl).2.2
    refine ⟨[p3], offI (ldI (v := fv) cp3 rfl kf ⟨by simp [RdOk, ptrBlk, ptr], offI (offI (ldI (v := vint w.holds) cp3 rfl rfl ⟨by simp [RdOk, ptrBlk, ptr], quoI (by omega) (by omega) (maxI (offI (offI (ldI (v := vint w.holds) cp3 rfl rfl ⟨by simp [RdOk, ptrBlk, ptr], ?_⟩))))⟩))⟩)⟩
    have hq : 0 ≤ w.holds / 2 ∧ w.holds / 2 ≤ w.holds := ⟨Int.ediv_nonneg (by omega) (by omega), Int.ediv_le_self _ (by omega)⟩
    refine amX hJ ac (by omega) (by omega) (by omega) fun x1 Ha q1 q2 Sa la aa => ⟨sb1 Sa hp3 (by simp; omega), ?_⟩
    refine amX hJ aa (by omega) (by omega) (by omega) fun x2 Hb q3 q4 Sb lb ab => ⟨sb1 (Sa.trans Sb) hp3 (by simp; omega), ?_⟩
    refine ⟨by decide, fill_one rfl rfl rfl (by decide) (fill_one rfl rfl rfl (by decide) (fill_one rfl rfl rfl (Nat.le_of_ble_eq_true rfl) (fillI (qNew fun Hd pd ed Sd cd ld => ?_))))⟩
    have cd : Hd[pd]? = some (.cells ([2, x1, x2].map vint) true 0) := cd
    have Td : SameX [h.length] Hc Hd := (Sa.trans Sb).trans Sd.weak0
    have hlb := ab.lt
    have ad := ab.same Sd (by simp)
    refine ⟨sb1 Td hp3 (by simp; omega), ?_⟩
    refine ofX hJ ad (by omega) cd (by omega) rfl (by simp) fun dr He me Se le ae => ⟨sb1 (Td.trans Se) hp3 (by simp; omega), ?_⟩
    refine amX hJ ae (by omega) (by omega) (by omega) fun ev Hf q5 q6 Sf lf af => ?_
    have Tf : SameX [h.length] Hc Hf := (Td.trans Se).trans Sf
    refine ⟨sb1 Tf hp3 (by simp; omega), ?_⟩
    refine fill_one rfl rfl rfl (by decide) (fill_one rfl rfl rfl (Nat.le_of_ble_eq_true rfl) (fillI ?_))
    refine ⟨by decide, fill_one (l := [vint dr, vint ev]) rfl rfl rfl (Nat.le_of_ble_eq_true rfl) (fillI (qNew fun Hg pg eg Sg cg lg => ?_))⟩
    have cg : Hg[pg]? = some (.cells [vint dr, vint ev] true 0) := cg
    have Tg : SameX [h.length] Hc Hg := Tf.trans Sg.weak0
    refine ⟨sb1 Tg hp3 (by simp; omega), ⟨by decide, ?_⟩⟩
    have TOg := TO.same Tg (fun j hj => by have := TO.b j hj; simp; omega)
    have hdl : ds.length ≤ 3 := by omega
    refine ownX_more TOg.fl (by omega) (by show ds.length < 1000; omega) (ownX_sli (ownX_new (s := 2) (n := 1) (l := [vint dr, vint ev]) cg rfl rfl)) fun fv' Hh ph eh Oh Sh => ?_
    have hlc := Tg.1
    have Th : SameX (h.length :: o.toList) Hc Hh := (Tg.weak (by simp)).trans (Sh.weak fun x hx => List.mem_cons_of_mem _ hx)
    have hno : ∀ b, b = p1 ∨ b = p3 → b ∉ o.toList := fun b hb hm => by
      have := hoj b (by simpa using hm)
      omega
    refine ⟨sb1 Th hp3 (by simp only [List.mem_cons, not_or]; exact ⟨by omega, hno p3 (.inr rfl)⟩), offI ?_⟩
    refine qSt (Th.get cp3 (by simp only [List.mem_cons, not_or]; exact ⟨by omega, hno p3 (.inr rfl)⟩)) (by simp [troCells]) (ownX_val Oh).1 (ownX_val Oh).2.1 fun Hi Si ci li => subI (by omega) ?_
    refine ⟨i - 1, by dsimp only; omega, .inl ⟨ds ++ [⟨dr, ev⟩], fv', some ph, ?_, ?_, by omega, by simp; omega, fun d hd => ?_, ⟨ownX_keep ?_ Si (by intro j hj; cases hj; simp; omega), fun j hj => by cases hj; omega⟩, ci, ?_, fun j hj => by cases hj; omega, fds, r0, r6, r7, by show vint _ = vint _; congr 1; omega⟩⟩
    · refine ((Sc.trans Tg).thru Sh ?_).thru Si (by simp; omega)
      intro y hy
      have hy' : o = some y := by simpa using hy
      exact .inr (hoj y hy').2.2
    · refine HX.mono (k := k + 30 - 5 * i + 5) (HX.same (HX.same ((af.same Sg (by simp)).mono (by omega)) Sh ?_) Si (by simp; omega)) (by omega)
      intro y hy
      exact TO.b y (by simpa using hy)
    · rcases List.mem_append.1 hd with hd | hd
      · exact hds d hd
      · have : d = ⟨dr, ev⟩ := by simpa using hd
        subst this
        refine ⟨?_, by show 1 ≤ ev ∧ ev ≤ 6; omega⟩
        show 1 ≤ dr ∧ dr ≤ 40
        rcases me with rfl | me
        · omega
        · simp at me
          omega
    · simpa [List.flatMap_append, Dro.cells] using Oh
    · exact Si.get (Th.get cp1 (by simp only [List.mem_cons, not_or]; exact ⟨by omega, hno p1 (.inl rfl)⟩)) (by simp; omega)
  · have hi0 : i = 0 := by omega
    subst hi0
    have kf := (ownX_val TO.fl).2
    have k4 : (troCells ⟨w, ds⟩ fv).all one = true ∧ kn (troCells ⟨w, ds⟩ fv) = true := ⟨tro_one TO.at, tro_kn TO.at⟩
    refine load_part (c := troCells ⟨w, ds⟩ fv) cp3 (by simp [troCells]) rfl k4.2 ?_
    refine qStA (c := troCells ⟨w, ds⟩ fv) cp1 rfl rfl k4.1 fun Hz Sz cz lz => ?_
    refine retQ_same fds (resW_cell (gg := true) (s := 4) (by kernel_rfl) ?_)
    show aLoad true 4 (f.r 6) Hz _
    rw [r6]
    refine load_part (c := troCells ⟨w, ds⟩ fv) cz (by simp [troCells]) rfl k4.2 (resW_nil ?_)
    refine hK ⟨w, ds⟩ fv o Hz ⟨ow, ?_, hds⟩ (Sc.thru Sz (by simp; omega)) ((ac.same Sz (by simp; omega)).mono (by omega)) (TO.same Sz fun j hj => by have := hoj j hj; simp; omega)
    show 1 ≤ ds.length ∧ (ds.length : Int) ≤ F
    omega
structure RotO (h H : List AObj) (r : List Int) (v : Value) (o : Option Nat) : Prop where
  l : OwnX H 1 (r.map vint) r.length v o
  b : ∀ i, o = some i → h.length < i
theorem RotO.sli {r : List Int} {v : Value} {o : Option Nat} (a : RotO h H r v o) : Sli H v 1 r.length (r.map vint) := ownX_sli a.l
theorem RotO.same {H' : List AObj} {r : List Int} {v : Value} {o : Option Nat} {X : List Nat} (a : RotO h H r v o) (S : SameX X H H') (hX : ∀ i, o = some i → i ∉ X) : RotO h H' r v o := ⟨ownX_keep a.l S hX, a.b⟩

theorem good36 (hJ : Closed prog main J) (a : HX h H ns k) (hk : k < 400000) {t : Tro} {v fv : Value} (ht : TroAt H v t fv) (hfl : ∀ {H'}, SameX [h.length] H H' → SliE H' fv 2 Dro.cells t.flocks) (hl : 1 ≤ t.flocks.length ∧ t.flocks.length ≤ 3) {N : Int} (hN : 1 ≤ N ∧ N ≤ 5)
    (hK : ∀ r rv o H', RotaFine t r → (r.length : Int) ≤ N → SameX [h.length] H H' → HX h H' ns (k + 10) → RotO h H' r rv o → (∀ i, o = some i → H.length ≤ i) → K rv H') : Good prog J 36 [ptr h.length 0, v, vint N] H K := by
  refine g36 hJ fun ok => ?_
  rw [e36, ht.val]
  have hlt := a.lt
  refine qBox (tro_one ht) fun H1 p1 e1 S1 c1 l1 => minI ?_
  have a1 := a.same S1 (by simp)
  refine amX hJ a1 (by omega) (by omega) (by omega) fun i0 H2 b1 b2 S2 l2 a2 => ?_
  have T2 : SameX [h.length] H H2 := S1.weak0.trans S2
  have c2 := S2.get c1 (by simp; omega)
  refine l36_1 hJ (fun i : Nat => i) (fun i f H' => ∃ (r : List Int) (rv : Value) (o : Option Nat), SameX [h.length] H H' ∧ HX h H' ns (k + 10 - i) ∧ i ≤ 5 ∧ (i0 = i + List.length r) ∧ (∀ x ∈ r, -1 ≤ x ∧ x < t.flocks.length) ∧ RotO h H' r rv o ∧ H'[p1]? = some (.cells (troCells t fv) true 0) ∧ (∀ j, o = some j → j ≠ p1 ∧ H.length ≤ j) ∧
      f.ds = [] ∧ f.r 0 = ptr h.length 0 ∧ f.r 4 = ptr p1 0 ∧ f.r 7 = rv ∧ f.r 8 = vint (i : Nat)) ?_ (s := i0.toNat)
    (.inl ⟨[], .slice none 0 0, none, T2, a2.mono (by omega), by omega, by simp; omega, by simp, ⟨⟨rfl, rfl, .inl ⟨rfl, rfl, rfl⟩⟩, by simp⟩, c2, by simp, rfl, rfl, rfl, rfl, by show vint i0 = vint _; congr 1; omega⟩)
  rintro i f Hc ⟨r, rv, o, Sc, ac, hi, hsum, hr, RO, cp1, hoj, fds, r0, r4, r7, r8⟩ okc hnc
  rw [s36_1, r0, r4, r7, r8]
  have hp1 := lt_of_get cp1
  have hsl := hfl Sc
  have kf := (sli_val ht.fl).2.2
  refine gtrI (cndI (fun hpos => ?_) fun hz => ?_)
  · refine offI (ldI (v := fv) cp1 rfl kf (lenI hsl ?_))
    refine upX hJ ac (by omega) (by omega) fun x Ha q1 q2 Sa la aa => subI (by omega) ?_
    refine ⟨by decide, fill_one rfl rfl rfl (by decide) (fillI (qNew fun Hb pb eb Sb cb lb => ⟨by decide, ?_⟩))⟩
    have cb : Hb[pb]? = some (.cells [vint (x - 1)] true 0) := cb
    have Tb : SameX [h.length] Hc Hb := Sa.trans Sb.weak0
    have ROb := RO.same Tb (fun j hj => by have := RO.b j hj; simp; omega)
    have hrl : r.length ≤ 5 := by omega
    refine ownX_more ROb.l (by omega) (by omega) (ownX_sli (ownX_new (s := 1) (n := 1) (l := [vint (x - 1)]) cb rfl rfl)) fun rv' Hh ph eh Oh Sh => subI (by omega) ?_
    have hlc := Tb.1
    have hlb := aa.lt
    refine ⟨i - 1, by dsimp only; omega, .inl ⟨r ++ [x - 1], rv', some ph, ?_, ?_, by omega, by simp; omega, fun y hy => ?_, ⟨by simpa using Oh, fun j hj => by cases hj; omega⟩, ?_, fun j hj => by cases hj; have := Sc.1; omega, fds, r0, r4, rfl, by show vint _ = vint _; congr 1; omega⟩⟩
    · refine (Sc.trans Tb).thru Sh fun y hy => ?_
      exact .inr (hoj y (by simpa using hy)).2
    · exact ((aa.same Sb (by simp)).same Sh fun y hy => RO.b y (by simpa using hy)).mono (by omega)
    · rcases List.mem_append.1 hy with hy | hy
      · exact hr y hy
      · have : y = x - 1 := by simpa using hy
        subst this
        omega
    · exact Sh.get (Tb.get cp1 (by simp; omega)) fun hm => (hoj p1 (by simpa using hm)).1 rfl
  · have hi0 : i = 0 := by omega
    subst hi0
    rw [fds]
    refine retL_same ?_ (hK r rv o Hc ⟨by omega, hr⟩ (by omega) Sc (ac.mono (by omega)) RO fun j hj => (hoj j hj).2)
    simp only [List.mem_singleton, forall_eq]
    have := (ownX_val RO.l).2.2
    intro e
    rw [e] at this
    cases this
end
end Go.Proofs.Ytindillghipjjaa

namespace Go.Proofs.Ytindillghipjjaa
open Go.Conc Go.Proofs.Try
set_option maxRecDepth 100000
section
variable {main : Bool} {J : JT} {h H : List AObj} {K : Value → List AObj → Prop} {KV : Value → Prop} {HL : List AObj → Prop} {n0 : Nat}
theorem remI {t : TypeId} {a b : Nat} (ha : a < 1000000) (hb : 0 < b) (hk : KV (vint (a % b : Nat))) : aBin prog .rem t (vint (a : Nat)) (vint (b : Nat)) KV := by
  have h1 : Int.tmod (a : Int) (b : Int) = ((a % b : Nat) : Int) := by
    rw [Int.tmod_eq_emod_of_nonneg (by omega)]
    rfl
  simp only [aBin, aInt, true_and]
  rw [h1]
  exact ⟨by omega, hk⟩

end
end Go.Proofs.Ytindillghipjjaa

namespace Go.Proofs.Ytindillghipjjaa
open Go.Conc Go.Proofs.Try
set_option maxRecDepth 100000
theorem rotaE_fine {t : Tro} {r : List Int} (h : rotaE t r = 0) : TroFine t ∧ RotaFine t r := by
  unfold rotaE at h
  split at h
  · rename_i x
    exact absurd h x
  · rename_i x
    split at h
    · rename_i y
      exact absurd h y
    · rename_i y
      split at h
      · rename_i z
        refine ⟨troE_fine (by omega), ?_, fun k hk => by have := z k hk; omega⟩
        unfold fewE at y
        split at y
        · exact absurd (by decide) y
        · split at y
          · exact absurd (by decide) y
          · omega
      · cases h
theorem fine_rotaE {t : Tro} {r : List Int} (f : TroFine t) (g : RotaFine t r) : rotaE t r = 0 := by
  have h1 := fine_troE f
  have h2 : fewE r.length 1 5 = 0 := by
    have := g.len
    unfold fewE
    rw [if_neg (by omega), if_neg (by omega)]
  unfold rotaE
  rw [if_neg (by omega), if_neg (by omega), if_pos fun k hk => by have := g.who k hk; omega]

section
variable {main : Bool} {J : JT} {h H : List AObj} {K : Value → List AObj → Prop} {KV : Value → Prop} {n0 : Nat}
def GrowI (po : Nat) (L : Nat → List Int) (k : Nat) (O : List Nat) (H : List AObj) : Prop :=
  ∃ lv o, O = Option.toList o ∧ H[po]? = some (.cells [lv] true 0) ∧ OwnX H 1 ((L k).map vint) (L k).length lv o ∧ (∀ i, o = some i → i ≠ po) ∧ (L k).length ≤ k
theorem GrowI.lt {po k : Nat} {L : Nat → List Int} {O : List Nat} (a : GrowI po L k O H) : ∀ x ∈ O, x < H.length := by
  obtain ⟨lv, o, rfl, c, A, ho, hl⟩ := a
  intro x hx
  exact ownX_lt A x (by simpa using hx)
end
end Go.Proofs.Ytindillghipjjaa

namespace Go.Proofs.Ytindillghipjjaa
open Go.Conc Go.Proofs.Try
set_option maxRecDepth 100000
section
variable {main : Bool} {J : JT} {h H : List AObj} {K : Value → List AObj → Prop} {KV : Value → Prop} {n0 : Nat}
theorem good50 (hJ : Closed prog main J) {rv : Value} {r : List Int} {i : Nat} (hr : Sli H rv 1 r.length (r.map vint)) (hne : 0 < r.length) (hi : i < 1000000) (hK : K (vint (turnOf r i)) H) : Good prog J 50 [rv, vint (i : Nat)] H K := by
  refine g50 hJ fun ok => ?_
  rw [e50]
  have hmod := Nat.mod_lt i hne
  have hturn : r[i % r.length]? = some (turnOf r i) := by
    unfold turnOf
    rw [List.getD_eq_getElem?_getD, List.getElem?_eq_getElem hmod]
    rfl
  exact lenI hr (remI hi hne (sli_num' hr hturn fun q => retL_same (by simp [unk]) hK))

end
end Go.Proofs.Ytindillghipjjaa

namespace Go.Proofs.Ytindillghipjjaa
open Go.Conc Go.Proofs.Try
set_option maxRecDepth 100000
set_option maxHeartbeats 4000000
set_option linter.unusedVariables false
section
variable {main : Bool} {J : JT} {n0 : Nat} {h : List AObj} {K : Value → List AObj → Prop}
theorem at94 : prog.funcs[94]? = some f94 := by kernel_rfl
theorem body94 : f94.body = some (codeOf f94) := by kernel_rfl
def pl94 : Plans := []
def ct94 : Cuts := .bin (.go) (.bin (.go) (.bin (.bin (.go) (.un (.un (.bin (.go) (.bin (.go) (.bin (.un (.bin (.go) (.bin (.go) (.bin (.go) (.cut (.go)))))) (.go))))))) (.go)))
theorem pok94 : plansOk prog pl94 (codeOf f94) = true := by kernel_rfl
theorem e94 {a0 a1 : Value} : W prog J 34 h.length 94 (codeOf f94) (RG.mk (regs [a0, a1]) []) h (RetQ prog [.tmp 4] h.length K) =
(aBox a0 h fun v1 h2 =>
aOff v1 3 fun v3 =>
aLoad false 1 v3 h2 fun v4 =>
aLenS v4 fun v5 =>
Sem J 34 h.length 94 (subC [1, 1, 0, 1, 0] (codeOf f94)) (RG.put (RG.put (RG.put (RG.put (RG.put (RG.put (RG.put (RG.mk (regs [a0, a1]) []) 2 v1) 4 (Value.slice none 0 0)) 5 (Value.slice none 0 0)) 9 v3) 10 v4) 11 v5) 12 (vint 0)) h2 (contX pl94 prog J 34 h.length 94 ct94 [1, 1, 0, 1, 0] (codeOf f94) [] (RetQ prog [.tmp 4] h.length K))) := top_eq pok94 ct94 (by kernel_rfl)
theorem g94 (hJ : Closed prog main J) {a0 a1 : Value} (hs : heapOk h → W prog J 34 h.length 94 (codeOf f94) (RG.mk (regs [a0, a1]) []) h (RetQ prog [.tmp 4] h.length K)) : Good prog J 94 [a0, a1] h K :=
  good_of_W hJ mixed at94 body94 (by kernel_rfl) (Nat.le_of_ble_eq_true rfl) hs
theorem s94_1 {f : RG} {nx0 : RG → List AObj → Prop} : W prog J 34 n0 94 (subC [1, 1, 0, 1, 0, 0] (codeOf f94)) f h (thenK nx0 (contX pl94 prog J 34 n0 94 ct94 [1, 1, 0, 1, 0] (codeOf f94) [] (RetQ prog [.tmp 4] n0 K))) =
(aBin prog .lss 3 (f.r 12) (f.r 11) fun v1 =>
cnd v1
(aIdx 2 (f.r 10) (f.r 12) fun v2 =>
aLoad true 2 v2 h fun v3 =>
aAlloc [(vint 0), (vint 0)] h fun v4 h5 =>
aStore 2 v4 v3 h5 fun h6 =>
Good prog J 95 [(f.r 1), (f.r 12)] h6 fun v7 h8 =>
aBin prog .eql 3 v7 (vint 0) fun v9 =>
cnd v9
(Hold (W prog J 34 n0 94 (subC [1, 1, 0, 1, 0, 0, 1, 1, 0, 0, 1, 1, 1] (codeOf f94)) (RG.put (RG.put (RG.put (RG.put (RG.put (RG.put (RG.put (RG.put (RG.put (RG.put (RG.put (RG.put (RG.put (RG.put (RG.put (RG.put (RG.put (RG.put (RG.put f 13 v1) 14 (f.r 12)) 15 v2) 16 v3) 7 v4) 6 (f.r 12)) 17 (f.r 1)) 18 (f.r 12)) 19 v7) 8 v7) 20 v7) 21 v9) 22 v9) 22 (Value.bool true)) 23 undef) 24 undef) 25 undef) 26 undef) 27 (Value.bool true)) h8 (contX pl94 prog J 34 n0 94 ct94 [1, 1, 0, 1, 0, 0, 1, 1, 0, 0, 1, 1, 1] (codeOf f94) [nx0] (RetQ prog [.tmp 4] n0 K))))
(aOff v4 1 fun v10 =>
aLoad false 1 v10 h8 fun v11 =>
aBin prog .gtr 3 v7 v11 fun v12 =>
Hold (W prog J 34 n0 94 (subC [1, 1, 0, 1, 0, 0, 1, 1, 0, 0, 1, 1, 1] (codeOf f94)) (RG.put (RG.put (RG.put (RG.put (RG.put (RG.put (RG.put (RG.put (RG.put (RG.put (RG.put (RG.put (RG.put (RG.put (RG.put (RG.put (RG.put (RG.put (RG.put f 13 v1) 14 (f.r 12)) 15 v2) 16 v3) 7 v4) 6 (f.r 12)) 17 (f.r 1)) 18 (f.r 12)) 19 v7) 8 v7) 20 v7) 21 v9) 22 v9) 22 (Value.bool false)) 23 v7) 24 v10) 25 v11) 26 v12) 27 v12) h8 (contX pl94 prog J 34 n0 94 ct94 [1, 1, 0, 1, 0, 0, 1, 1, 0, 0, 1, 1, 1] (codeOf f94) [nx0] (RetQ prog [.tmp 4] n0 K)))))
(retL n0 K f.ds [(f.r 5)] h)) := sub_eq pok94 ct94 (by kernel_rfl)
theorem l94_1 (hJ : Closed prog main J) {S : Type} (μ : S → Nat) (I : S → RG → List AObj → Prop) (hI : ∀ s f h, I s f h → heapOk h → n0 ≤ h.length → W prog J 34 n0 94 (subC [1, 1, 0, 1, 0, 0] (codeOf f94)) f h (thenK (Nx n0 μ I s) (contX pl94 prog J 34 n0 94 ct94 [1, 1, 0, 1, 0] (codeOf f94) [] (RetQ prog [.tmp 4] n0 K))))
  {s : S} {f : RG} (hi : Gets n0 I s f h) : Sem J 34 n0 94 (subC [1, 1, 0, 1, 0] (codeOf f94)) f h (contX pl94 prog J 34 n0 94 ct94 [1, 1, 0, 1, 0] (codeOf f94) [] (RetQ prog [.tmp 4] n0 K)) :=
  loop_rule hJ mixed (b := subC [1, 1, 0, 1, 0, 0] (codeOf f94)) (by kernel_rfl) μ I hI hi
theorem s94_2 {f : RG} {nx0 : RG → List AObj → Prop} : W prog J 34 n0 94 (subC [1, 1, 0, 1, 0, 0, 1, 1, 0, 0, 1, 1, 1] (codeOf f94)) f h (contX pl94 prog J 34 n0 94 ct94 [1, 1, 0, 1, 0, 0, 1, 1, 0, 0, 1, 1, 1] (codeOf f94) [nx0] (RetQ prog [.tmp 4] n0 K)) =
(cnd (f.r 27)
((((1 * 1 : Nat) ≤ 16777216 ∧ (1 : Nat) ≤ 16777216 ∧ List.length [(vint 0)] = 1) ∧ aFill (zrep [(vint 0)] 1) [(0, 1, (f.r 6))] fun c1 =>
aNewS 1 c1 h fun v2 h3 =>
((List.length [(vint 0)] = 1 ∧ 0 < (1 : Nat) ∧ 0 < (8 : Nat) ∧ (8 : Nat) ≤ 1024) ∧ aApp 1 (f.r 5) v2 h3 fun v4 h5 =>
aBin prog .add 3 (f.r 12) (vint 1) fun v6 =>
nx0 (RG.put (RG.put (RG.put (RG.put (RG.put (RG.put (RG.put f 28 (f.r 5)) 29 (f.r 6)) 30 v2) 31 v4) 5 v4) 32 v6) 12 v6) h5)))
(aBin prog .add 3 (f.r 12) (vint 1) fun v7 =>
nx0 (RG.put (RG.put f 32 v7) 12 v7) h)) := sub_eq pok94 ct94 (by kernel_rfl)
theorem at95 : prog.funcs[95]? = some f95 := by kernel_rfl
theorem body95 : f95.body = some (codeOf f95) := by kernel_rfl
def pl95 : Plans := []
def ct95 : Cuts := .go
theorem pok95 : plansOk prog pl95 (codeOf f95) = true := by kernel_rfl
theorem e95 {a0 a1 : Value} : W prog J 32 h.length 95 (codeOf f95) (RG.mk (regs [a0, a1]) []) h (RetQ prog [.tmp 4] h.length K) =
((((2 * 1 : Nat) ≤ 16777216 ∧ (2 : Nat) ≤ 16777216 ∧ List.length [(Value.slice none 0 0)] = 1) ∧ aFill (zrep [(Value.slice none 0 0)] 2) [(0, 1, a0), (1, 1, a0)] fun c1 =>
aNewS 2 c1 h fun v2 h3 =>
Good prog J 122 [v2] h3 fun v4 h5 =>
aLenS v4 fun v6 =>
Sem J 32 h.length 95 (subC [1, 1, 0, 1, 0] (codeOf f95)) (RG.put (RG.put (RG.put (RG.put (RG.put (RG.put (RG.put (RG.put (RG.put (RG.mk (regs [a0, a1]) []) 4 (vint 0)) 5 (vint (-1))) 6 (vint 0)) 9 a0) 10 a0) 11 v2) 12 v4) 13 v6) 14 (vint 0)) h5 (contX pl95 prog J 32 h.length 95 ct95 [1, 1, 0, 1, 0] (codeOf f95) [] (RetQ prog [.tmp 4] h.length K)))) := top_eq pok95 ct95 (by kernel_rfl)
theorem g95 (hJ : Closed prog main J) {a0 a1 : Value} (hs : heapOk h → W prog J 32 h.length 95 (codeOf f95) (RG.mk (regs [a0, a1]) []) h (RetQ prog [.tmp 4] h.length K)) : Good prog J 95 [a0, a1] h K :=
  good_of_W hJ mixed at95 body95 (by kernel_rfl) (Nat.le_of_ble_eq_true rfl) hs
theorem s95_1 {f : RG} {nx0 : RG → List AObj → Prop} : W prog J 32 n0 95 (subC [1, 1, 0, 1, 0, 0] (codeOf f95)) f h (thenK nx0 (contX pl95 prog J 32 n0 95 ct95 [1, 1, 0, 1, 0] (codeOf f95) [] (RetQ prog [.tmp 4] n0 K))) =
(aBin prog .lss 3 (f.r 14) (f.r 13) fun v1 =>
cnd v1
(aIdx 1 (f.r 12) (f.r 14) fun v2 =>
aLoad false 1 v2 h fun v3 =>
aBin prog .neq 3 v3 (f.r 1) fun v4 =>
cnd v4
(aBin prog .add 3 (f.r 14) (vint 1) fun v5 =>
nx0 (RG.put (RG.put (RG.put (RG.put (RG.put (RG.put (RG.put (RG.put (RG.put (RG.put (RG.put f 15 v1) 16 (f.r 14)) 17 v2) 18 v3) 7 (f.r 14)) 8 v3) 19 v3) 20 (f.r 1)) 21 v4) 30 v5) 14 v5) h)
(aBin prog .geq 3 (f.r 5) (vint 0) fun v6 =>
cnd v6
(aBin prog .sub 3 (f.r 14) (f.r 5) fun v7 =>
aMax (f.r 6) [v7] fun v8 =>
aBin prog .add 3 (f.r 14) (vint 1) fun v9 =>
nx0 (RG.put (RG.put (RG.put (RG.put (RG.put (RG.put (RG.put (RG.put (RG.put (RG.put (RG.put (RG.put (RG.put (RG.put (RG.put (RG.put (RG.put (RG.put (RG.put (RG.put (RG.put f 15 v1) 16 (f.r 14)) 17 v2) 18 v3) 7 (f.r 14)) 8 v3) 19 v3) 20 (f.r 1)) 21 v4) 22 (f.r 5)) 23 v6) 24 (f.r 6)) 25 (f.r 14)) 26 (f.r 5)) 27 v7) 28 v8) 6 v8) 29 (f.r 14)) 5 (f.r 14)) 30 v9) 14 v9) h)
(aBin prog .add 3 (f.r 14) (vint 1) fun v10 =>
nx0 (RG.put (RG.put (RG.put (RG.put (RG.put (RG.put (RG.put (RG.put (RG.put (RG.put (RG.put (RG.put (RG.put (RG.put (RG.put f 15 v1) 16 (f.r 14)) 17 v2) 18 v3) 7 (f.r 14)) 8 v3) 19 v3) 20 (f.r 1)) 21 v4) 22 (f.r 5)) 23 v6) 29 (f.r 14)) 5 (f.r 14)) 30 v10) 14 v10) h)))
(retL n0 K f.ds [(f.r 6)] h)) := sub_eq pok95 ct95 (by kernel_rfl)
theorem l95_1 (hJ : Closed prog main J) {S : Type} (μ : S → Nat) (I : S → RG → List AObj → Prop) (hI : ∀ s f h, I s f h → heapOk h → n0 ≤ h.length → W prog J 32 n0 95 (subC [1, 1, 0, 1, 0, 0] (codeOf f95)) f h (thenK (Nx n0 μ I s) (contX pl95 prog J 32 n0 95 ct95 [1, 1, 0, 1, 0] (codeOf f95) [] (RetQ prog [.tmp 4] n0 K))))
  {s : S} {f : RG} (hi : Gets n0 I s f h) : Sem J 32 n0 95 (subC [1, 1, 0, 1, 0] (codeOf f95)) f h (contX pl95 prog J 32 n0 95 ct95 [1, 1, 0, 1, 0] (codeOf f95) [] (RetQ prog [.tmp 4] n0 K)) :=
  loop_rule hJ mixed (b := subC [1, 1, 0, 1, 0, 0] (codeOf f95)) (by kernel_rfl) μ I hI hi
theorem at52 : prog.funcs[52]? = some f52 := by kernel_rfl
theorem body52 : f52.body = some (codeOf f52) := by kernel_rfl
def pl52 : Plans := []
def ct52 : Cuts := .go
theorem pok52 : plansOk prog pl52 (codeOf f52) = true := by kernel_rfl
theorem e52 {a0 a1 : Value} : W prog J 16 h.length 52 (codeOf f52) (RG.mk (regs [a0, a1]) []) h (RetQ prog [.tmp 4, .tmp 5] h.length K) =
(aBox a0 h fun v1 h2 =>
aLoad true 4 v1 h2 fun v3 =>
Good prog J 86 [v3, a1] h2 fun v4 h5 =>
aBin prog .neq 39 v4 (vint 0) fun v6 =>
cnd v6
(retL h.length K [] [(Value.slice none 0 0), v4] h5)
(aLoad true 4 v1 h5 fun v7 =>
Good prog J 94 [v7, a1] h5 fun v8 h9 =>
retL h.length K [] [v8, (vint 0)] h9)) := top_eq pok52 ct52 (by kernel_rfl)
theorem g52 (hJ : Closed prog main J) {a0 a1 : Value} (hs : heapOk h → W prog J 16 h.length 52 (codeOf f52) (RG.mk (regs [a0, a1]) []) h (RetQ prog [.tmp 4, .tmp 5] h.length K)) : Good prog J 52 [a0, a1] h K :=
  good_of_W hJ mixed at52 body52 (by kernel_rfl) (Nat.le_of_ble_eq_true rfl) hs
theorem at53 : prog.funcs[53]? = some f53 := by kernel_rfl
theorem body53 : f53.body = some (codeOf f53) := by kernel_rfl
def pl53 : Plans := []
def ct53 : Cuts := .go
theorem pok53 : plansOk prog pl53 (codeOf f53) = true := by kernel_rfl
theorem e53 {a0 a1 : Value} : W prog J 29 h.length 53 (codeOf f53) (RG.mk (regs [a0, a1]) []) h (RetQ prog [.tmp 4, .tmp 5] h.length K) =
(aBox a0 h fun v1 h2 =>
aLoad true 4 v1 h2 fun v3 =>
Good prog J 86 [v3, a1] h2 fun v4 h5 =>
aBin prog .neq 39 v4 (vint 0) fun v6 =>
cnd v6
(retL h.length K [] [(Value.slice none 0 0), v4] h5)
(aOff v1 3 fun v7 =>
aLoad false 1 v7 h5 fun v8 =>
aLenS v8 fun v9 =>
Sem J 29 h.length 53 (subC [1, 1, 1, 0, 1, 0] (codeOf f53)) (RG.put (RG.put (RG.put (RG.put (RG.put (RG.put (RG.put (RG.put (RG.put (RG.put (RG.put (RG.put (RG.put (RG.put (RG.mk (regs [a0, a1]) []) 2 v1) 4 (Value.slice none 0 0)) 5 (vint 0)) 9 v3) 10 a1) 11 v4) 6 v4) 12 v4) 13 v6) 7 (Value.slice none 0 0)) 15 v7) 16 v8) 17 v9) 18 (vint 0)) h5 (contX pl53 prog J 29 h.length 53 ct53 [1, 1, 1, 0, 1, 0] (codeOf f53) [] (RetQ prog [.tmp 4, .tmp 5] h.length K)))) := top_eq pok53 ct53 (by kernel_rfl)
theorem g53 (hJ : Closed prog main J) {a0 a1 : Value} (hs : heapOk h → W prog J 29 h.length 53 (codeOf f53) (RG.mk (regs [a0, a1]) []) h (RetQ prog [.tmp 4, .tmp 5] h.length K)) : Good prog J 53 [a0, a1] h K :=
  good_of_W hJ mixed at53 body53 (by kernel_rfl) (Nat.le_of_ble_eq_true rfl) hs
theorem s53_1 {f : RG} {nx0 : RG → List AObj → Prop} : W prog J 29 n0 53 (subC [1, 1, 1, 0, 1, 0, 0] (codeOf f53)) f h (thenK nx0 (contX pl53 prog J 29 n0 53 ct53 [1, 1, 1, 0, 1, 0] (codeOf f53) [] (RetQ prog [.tmp 4, .tmp 5] n0 K))) =
(aBin prog .lss 3 (f.r 18) (f.r 17) fun v1 =>
cnd v1
(Good prog J 95 [(f.r 1), (f.r 18)] h fun v2 h3 =>
(((1 * 1 : Nat) ≤ 16777216 ∧ (1 : Nat) ≤ 16777216 ∧ List.length [(vint 0)] = 1) ∧ aFill (zrep [(vint 0)] 1) [(0, 1, v2)] fun c4 =>
aNewS 1 c4 h3 fun v5 h6 =>
((List.length [(vint 0)] = 1 ∧ 0 < (1 : Nat) ∧ 0 < (8 : Nat) ∧ (8 : Nat) ≤ 1024) ∧ aApp 1 (f.r 7) v5 h6 fun v7 h8 =>
aBin prog .add 3 (f.r 18) (vint 1) fun v9 =>
nx0 (RG.put (RG.put (RG.put (RG.put (RG.put (RG.put (RG.put (RG.put (RG.put (RG.put (RG.put (RG.put f 19 v1) 20 (f.r 18)) 8 (f.r 18)) 21 (f.r 7)) 22 (f.r 1)) 23 (f.r 18)) 24 v2) 25 v5) 26 v7) 7 v7) 27 v9) 18 v9) h8)))
(retL n0 K f.ds [(f.r 7), (vint 0)] h)) := sub_eq pok53 ct53 (by kernel_rfl)
theorem l53_1 (hJ : Closed prog main J) {S : Type} (μ : S → Nat) (I : S → RG → List AObj → Prop) (hI : ∀ s f h, I s f h → heapOk h → n0 ≤ h.length → W prog J 29 n0 53 (subC [1, 1, 1, 0, 1, 0, 0] (codeOf f53)) f h (thenK (Nx n0 μ I s) (contX pl53 prog J 29 n0 53 ct53 [1, 1, 1, 0, 1, 0] (codeOf f53) [] (RetQ prog [.tmp 4, .tmp 5] n0 K))))
  {s : S} {f : RG} (hi : Gets n0 I s f h) : Sem J 29 n0 53 (subC [1, 1, 1, 0, 1, 0] (codeOf f53)) f h (contX pl53 prog J 29 n0 53 ct53 [1, 1, 1, 0, 1, 0] (codeOf f53) [] (RetQ prog [.tmp 4, .tmp 5] n0 K)) :=
  loop_rule hJ mixed (b := subC [1, 1, 1, 0, 1, 0, 0] (codeOf f53)) (by kernel_rfl) μ I hI hi
end
end Go.Proofs.Ytindillghipjjaa

namespace Go.Proofs.Ytindillghipjjaa
open Go.Conc Go.Proofs.Try
set_option maxRecDepth 100000
set_option maxHeartbeats 4000000
set_option linter.unusedVariables false
section
variable {main : Bool} {J : JT} {n0 : Nat} {h : List AObj} {K : Value → List AObj → Prop}
theorem at122 : prog.funcs[122]? = some f122 := by kernel_rfl
theorem body122 : f122.body = some (codeOf f122) := by kernel_rfl
def pl122 : Plans := []
def ct122 : Cuts := .go
theorem pok122 : plansOk prog pl122 (codeOf f122) = true := by kernel_rfl
theorem e122 {a0 : Value} : W prog J 36 h.length 122 (codeOf f122) (RG.mk (regs [a0]) []) h (RetQ prog [.tmp 2] h.length K) =
(aLenS a0 fun v1 =>
Sem J 36 h.length 122 (subC [1, 1, 0, 1, 0] (codeOf f122)) (RG.put (RG.put (RG.put (RG.put (RG.put (RG.mk (regs [a0]) []) 2 (Value.slice none 0 0)) 3 (vint 0)) 9 a0) 10 v1) 11 (vint 0)) h (contX pl122 prog J 36 h.length 122 ct122 [1, 1, 0, 1, 0] (codeOf f122) [] (RetQ prog [.tmp 2] h.length K))) := top_eq pok122 ct122 (by kernel_rfl)
theorem g122 (hJ : Closed prog main J) {a0 : Value} (hs : heapOk h → W prog J 36 h.length 122 (codeOf f122) (RG.mk (regs [a0]) []) h (RetQ prog [.tmp 2] h.length K)) : Good prog J 122 [a0] h K :=
  good_of_W hJ mixed at122 body122 (by kernel_rfl) (Nat.le_of_ble_eq_true rfl) hs
theorem s122_1 {f : RG} {nx0 : RG → List AObj → Prop} : W prog J 36 n0 122 (subC [1, 1, 0, 1, 0, 0] (codeOf f122)) f h (thenK nx0 (contX pl122 prog J 36 n0 122 ct122 [1, 1, 0, 1, 0] (codeOf f122) [] (RetQ prog [.tmp 2] n0 K))) =
(aBin prog .lss 3 (f.r 11) (f.r 10) fun v1 =>
cnd v1
(aIdx 1 (f.r 9) (f.r 11) fun v2 =>
aLoad false 1 v2 h fun v3 =>
aLenS v3 fun v4 =>
aBin prog .add 3 (f.r 3) v4 fun v5 =>
aBin prog .lss 3 v5 (vint 0) fun v6 =>
cnd v6
(False)
(aBin prog .add 3 (f.r 11) (vint 1) fun v7 =>
nx0 (RG.put (RG.put (RG.put (RG.put (RG.put (RG.put (RG.put (RG.put (RG.put (RG.put (RG.put (RG.put (RG.put f 12 v1) 13 v2) 14 v3) 5 v3) 15 (f.r 3)) 16 v3) 17 v4) 18 v5) 3 v5) 19 v5) 20 v6) 22 v7) 11 v7) h))
(Good prog J 132 [(Value.slice none 0 0), (f.r 3)] h fun v8 h9 =>
aLenS (f.r 0) fun v10 =>
Sem J 36 n0 122 (subC [1, 1, 1, 1, 0, 1, 0] (codeOf f122)) (RG.put (RG.put (RG.put (RG.put (RG.put (RG.put (RG.put f 12 v1) 23 (f.r 3)) 24 v8) 6 v8) 25 (f.r 0)) 26 v10) 27 (vint 0)) h9 (contX pl122 prog J 36 n0 122 ct122 [1, 1, 1, 1, 0, 1, 0] (codeOf f122) [] (RetQ prog [.tmp 2] n0 K)))) := sub_eq pok122 ct122 (by kernel_rfl)
theorem l122_1 (hJ : Closed prog main J) {S : Type} (μ : S → Nat) (I : S → RG → List AObj → Prop) (hI : ∀ s f h, I s f h → heapOk h → n0 ≤ h.length → W prog J 36 n0 122 (subC [1, 1, 0, 1, 0, 0] (codeOf f122)) f h (thenK (Nx n0 μ I s) (contX pl122 prog J 36 n0 122 ct122 [1, 1, 0, 1, 0] (codeOf f122) [] (RetQ prog [.tmp 2] n0 K))))
  {s : S} {f : RG} (hi : Gets n0 I s f h) : Sem J 36 n0 122 (subC [1, 1, 0, 1, 0] (codeOf f122)) f h (contX pl122 prog J 36 n0 122 ct122 [1, 1, 0, 1, 0] (codeOf f122) [] (RetQ prog [.tmp 2] n0 K)) :=
  loop_rule hJ mixed (b := subC [1, 1, 0, 1, 0, 0] (codeOf f122)) (by kernel_rfl) μ I hI hi
theorem s122_2 {f : RG} {nx0 : RG → List AObj → Prop} : W prog J 36 n0 122 (subC [1, 1, 1, 1, 0, 1, 0, 0] (codeOf f122)) f h (thenK nx0 (contX pl122 prog J 36 n0 122 ct122 [1, 1, 1, 1, 0, 1, 0] (codeOf f122) [] (RetQ prog [.tmp 2] n0 K))) =
(aBin prog .lss 3 (f.r 27) (f.r 26) fun v1 =>
cnd v1
(aIdx 1 (f.r 25) (f.r 27) fun v2 =>
aLoad false 1 v2 h fun v3 =>
((List.length [(vint 0)] = 1 ∧ 0 < (1 : Nat) ∧ 0 < (8 : Nat) ∧ (8 : Nat) ≤ 1024) ∧ aApp 1 (f.r 6) v3 h fun v4 h5 =>
aBin prog .add 3 (f.r 27) (vint 1) fun v6 =>
nx0 (RG.put (RG.put (RG.put (RG.put (RG.put (RG.put (RG.put (RG.put (RG.put (RG.put f 28 v1) 29 v2) 30 v3) 8 v3) 31 (f.r 6)) 32 v3) 33 v4) 6 v4) 34 v6) 27 v6) h5))
(retL n0 K f.ds [(f.r 6)] h)) := sub_eq pok122 ct122 (by kernel_rfl)
theorem l122_2 (hJ : Closed prog main J) {S : Type} (μ : S → Nat) (I : S → RG → List AObj → Prop) (hI : ∀ s f h, I s f h → heapOk h → n0 ≤ h.length → W prog J 36 n0 122 (subC [1, 1, 1, 1, 0, 1, 0, 0] (codeOf f122)) f h (thenK (Nx n0 μ I s) (contX pl122 prog J 36 n0 122 ct122 [1, 1, 1, 1, 0, 1, 0] (codeOf f122) [] (RetQ prog [.tmp 2] n0 K))))
  {s : S} {f : RG} (hi : Gets n0 I s f h) : Sem J 36 n0 122 (subC [1, 1, 1, 1, 0, 1, 0] (codeOf f122)) f h (contX pl122 prog J 36 n0 122 ct122 [1, 1, 1, 1, 0, 1, 0] (codeOf f122) [] (RetQ prog [.tmp 2] n0 K)) :=
  loop_rule hJ mixed (b := subC [1, 1, 1, 1, 0, 1, 0, 0] (codeOf f122)) (by kernel_rfl) μ I hI hi
theorem at132 : prog.funcs[132]? = some f132 := by kernel_rfl
theorem body132 : f132.body = some (codeOf f132) := by kernel_rfl
def pl132 : Plans := []
def ct132 : Cuts := .go
theorem pok132 : plansOk prog pl132 (codeOf f132) = true := by kernel_rfl
theorem e132 {a0 a1 : Value} : W prog J 27 h.length 132 (codeOf f132) (RG.mk (regs [a0, a1]) []) h (RetQ prog [.tmp 4] h.length K) =
(aBin prog .lss 3 a1 (vint 0) fun v1 =>
cnd v1
(False)
(aCapS a0 fun v2 =>
aLenS a0 fun v3 =>
aBin prog .sub 3 v2 v3 fun v4 =>
aBin prog .sub 3 a1 v4 fun v5 =>
aBin prog .gtr 3 v5 (vint 0) fun v6 =>
cnd v6
(aCapS a0 fun v7 =>
aSl2 1 a0 none (some v7) h fun v8 =>
((List.length [(vint 0)] = 1 ∧ 0 < (1 : Nat) ∧ 0 < (8 : Nat) ∧ (8 : Nat) ≤ 1024) ∧ aAppZ 1 [(vint 0)] v8 v5 h fun v9 h10 =>
aLenS a0 fun v11 =>
aSl2 1 v9 none (some v11) h10 fun v12 =>
retL h.length K [] [v12] h10))
(retL h.length K [] [a0] h))) := top_eq pok132 ct132 (by kernel_rfl)
theorem g132 (hJ : Closed prog main J) {a0 a1 : Value} (hs : heapOk h → W prog J 27 h.length 132 (codeOf f132) (RG.mk (regs [a0, a1]) []) h (RetQ prog [.tmp 4] h.length K)) : Good prog J 132 [a0, a1] h K :=
  good_of_W hJ mixed at132 body132 (by kernel_rfl) (Nat.le_of_ble_eq_true rfl) hs
end
end Go.Proofs.Ytindillghipjjaa

namespace Go.Proofs.Ytindillghipjjaa
open Go.Conc Go.Proofs.Try
set_option maxRecDepth 100000
theorem gapG_skip {r : List Int} {f : Int} {a : Nat} : ∀ {b : Nat}, a ≤ b → (∀ j, a ≤ j → j < b → ¬ occ r f j) → gapG r f b = gapG r f a
  | 0, h, _ => by rw [show a = 0 from by omega]
  | b + 1, h, hn => by
    rcases Nat.lt_or_ge b a with x | x
    · rw [show b + 1 = a from by omega]
    · have e : gapG r f (b + 1) = gapG r f b := by
        conv => lhs; unfold gapG
        rw [if_neg (hn b x (by omega))]
      rw [e]
      exact gapG_skip x fun j h1 h2 => hn j h1 (by omega)
theorem turn_twice {r : List Int} {i : Nat} (hr : 0 < r.length) (hi : i < r.length + r.length) : (r ++ r)[i]? = some (turnOf r i) := by
  unfold turnOf
  rw [List.getD_eq_getElem?_getD]
  rcases Nat.lt_or_ge i r.length with x | x
  · rw [List.getElem?_append_left x, Nat.mod_eq_of_lt x, List.getElem?_eq_getElem x]
    rfl
  · have e : i % r.length = i - r.length := by
      rw [Nat.mod_eq_sub_mod x, Nat.mod_eq_of_lt (by omega)]
    rw [List.getElem?_append_right x, e, List.getElem?_eq_getElem (by omega)]
    rfl

def unfTo (t : Tro) (r : List Int) (i : Nat) : List Int := ((List.range i).filter fun (i : Nat) => decide (gapR r i = 0 ∨ gapR r i > (droAt t i).every)).map Int.ofNat
def unfL (t : Tro) (r : List Int) : List Int := unfTo t r t.flocks.length
def gapsTo (r : List Int) (i : Nat) : List Int := (List.range i).map fun (i : Nat) => gapR r i
theorem unfTo_succ {t : Tro} {r : List Int} {i : Nat} : unfTo t r (i + 1) = if gapR r i = 0 ∨ gapR r i > (droAt t i).every then unfTo t r i ++ [(i : Int)] else unfTo t r i := by
  unfold unfTo
  rw [List.range_succ, List.filter_append]
  by_cases h : gapR r i = 0 ∨ gapR r i > (droAt t i).every
  · simp [h]
  · simp [h]
theorem gapsTo_succ {r : List Int} {i : Nat} : gapsTo r (i + 1) = gapsTo r i ++ [gapR r i] := by simp [gapsTo, List.range_succ]
theorem unfTo_len {t : Tro} {r : List Int} (n : Nat) : (unfTo t r n).length ≤ n := by
  unfold unfTo
  rw [List.length_map]
  have := List.length_filter_le (fun (i : Nat) => decide (gapR r i = 0 ∨ gapR r i > (droAt t i).every)) (List.range n)
  simpa using this
theorem gapR_bd {r : List Int} (hr : r ≠ []) (f : Int) : 0 ≤ gapR r f ∧ gapR r f ≤ r.length := by
  refine ⟨gapR_nonneg, ?_⟩
  rw [gapR_le hr (by omega)]
  intro i ho
  have hp : 0 < r.length := by cases r <;> simp at hr ⊢
  exact ⟨r.length, hp, Int.le_refl _, (occ_mod f i).2 ho⟩

section
variable {main : Bool} {J : JT} {h H : List AObj} {K : Value → List AObj → Prop} {KV : Value → Prop} {n0 : Nat}
theorem capI {b : Option Addr} {n c : Nat} (h : c < fz) (hk : KV (vint c)) : aCapS (.slice b n c) KV := ⟨h, hk⟩

theorem len0 {K' : Value → Prop} (hk : K' (vint 0)) : aLenS (.slice none 0 0) K' := hk
theorem sl2nil {K' : Value → Prop} (hk : K' (.slice none 0 0)) : aSl2 1 (.slice none 0 0) none (some (vint 0)) h K' := ⟨Nat.le_refl _, ⟨rfl, rfl⟩, hk⟩
theorem sl2zero {b n : Nat} {cs : List Value} {wr : Bool} {K' : Value → Prop} (hb : h[b]? = some (.cells cs wr 1)) (hk : K' (.slice (some ⟨b, 0, none⟩) 0 fz)) : aSl2 1 (.slice (some ⟨b, 0, none⟩) n fz) none (some (vint 0)) h K' := by
  refine ⟨Nat.le_refl _, fun hx => absurd hx (Nat.lt_irrefl _), fun _ => ?_⟩
  rw [hb]
  exact ⟨⟨rfl, rfl, by decide, by simp, .inl rfl⟩, hk⟩

theorem good132 (hJ : Closed prog main J) {n : Nat} (hn : 0 < n ∧ n ≤ 1000) (hK : ∀ H' b cs, SameX [] H H' → H'[b]? = some (.cells cs true 1) → H.length ≤ b → K (.slice (some ⟨b, 0, none⟩) 0 fz) H') : Good prog J 132 [.slice none 0 0, vint (n : Nat)] H K := by
  have hz : (0 : Nat) < fz := by decide
  have hr : room = 1073741824 := rfl
  refine g132 hJ fun ok => ?_
  rw [e132]
  refine lssI (cndI (fun hx => absurd hx (by omega)) fun _ => capI hz ?_)
  show aBin prog .sub 3 (vint 0) (vint 0) _
  refine subI (by omega) (subI (by omega) (gtrI (cndI (fun _ => capI hz (sl2nil ⟨by decide, ?_⟩)) fun hx => absurd hx (by omega))))
  have e : vint ((n : Int) - (0 - 0)) = vint (n : Nat) := by congr 1
  rw [e]
  refine ⟨⟨rfl, rfl, by omega, by omega⟩, fun hx => absurd hx (by omega), fun _ => ?_⟩
  refine len0 (sl2zero (cs := zrep [vint 0] n) (wr := true) (by simp) (retL_same (by simp [unk]) ?_))
  exact hK _ H.length (zrep [vint 0] n) SameX.refl.app (by simp) (Nat.le_refl _)

theorem good122 (hJ : Closed prog main J) {av rv : Value} {r : List Int} (ha : Sli H av 1 2 [rv, rv]) (hr : Sli H rv 1 r.length (r.map vint)) (hl : 0 < r.length ∧ r.length ≤ 100)
    (hK : ∀ H' v, SameX [] H H' → Sli H' v 1 (r ++ r).length ((r ++ r).map vint) → K v H') : Good prog J 122 [av] H K := by
  have hroom : room = 1073741824 := rfl
  refine g122 hJ fun ok => ?_
  rw [e122]
  refine lenI ha ?_
  refine l122_1 hJ (fun i : Nat => 2 - i) (fun i F H' => H' = H ∧ i ≤ 2 ∧ F.ds = [] ∧ F.r 0 = av ∧ F.r 3 = vint ((i * r.length : Nat) : Int) ∧ F.r 9 = av ∧ F.r 10 = vint (2 : Nat) ∧ F.r 11 = vint (i : Nat)) ?_ (s := 0)
    (.inl ⟨rfl, by omega, rfl, rfl, by show vint 0 = vint _; congr 1; omega, rfl, rfl, rfl⟩)
  rintro i F H' ⟨rfl, hi, ds, r0, r3, r9, r10, r11⟩ okc hnc
  rw [s122_1, r0, r3, r9, r10, r11]
  refine lssI (cndI (fun hlt => ?_) fun hge => ?_)
  · have hx : ([rv, rv] : List Value)[((i : Nat) : Int).toNat]? = some rv := by
      have : i = 0 ∨ i = 1 := by omega
      rcases this with rfl | rfl <;> rfl
    refine idx_load ha ⟨by omega, by omega⟩ hx fun p => lenI hr (addI ?_ (lssI (cndI (fun hx => ?_) fun _ => addI (by omega) ?_)))
    · have : i = 0 ∨ i = 1 := by omega
      rcases this with rfl | rfl <;> omega
    · have : 0 ≤ ((i * r.length : Nat) : Int) := Int.natCast_nonneg _
      omega
    · refine ⟨i + 1, by dsimp only; omega, .inl ⟨rfl, by omega, ds, r0, ?_, r9, r10, by show vint _ = vint _; congr 1⟩⟩
      show vint _ = vint _
      congr 1
      rw [Nat.succ_mul]
      omega
  · have hi2 : i = 2 := by omega
    subst hi2
    refine good132 hJ (n := 2 * r.length) (by omega) fun H2 b cs S2 cb gb => lenI (S2.sli ha (by simp)) ?_
    refine l122_2 hJ (fun i : Nat => 2 - i) (fun i F H3 => i ≤ 2 ∧ SameX [] H' H3 ∧ F.ds = [] ∧ F.r 25 = av ∧ F.r 26 = vint (2 : Nat) ∧ F.r 27 = vint (i : Nat) ∧ ∃ b cs, H'.length ≤ b ∧ H3[b]? = some (.cells cs true 1) ∧ F.r 6 = .slice (some ⟨b, 0, none⟩) (i * r.length) fz ∧ i * r.length ≤ cs.length ∧ cs.take (i * r.length) = ((r ++ r).take (i * r.length)).map vint) ?_ (s := 0)
      (.inl ⟨by omega, S2, ds, rfl, rfl, rfl, b, cs, gb, cb, by show Value.slice _ _ _ = _; rw [Nat.zero_mul], by omega, by rw [Nat.zero_mul]; rfl⟩)
    rintro j F3 H3 ⟨hj, S3, ds3, r25, r26, r27, b3, cs3, g3, c3, r6, hl3, ht3⟩ okc3 hnc3
    rw [s122_2, r25, r26, r27, r6, ds3]
    refine lssI (cndI (fun hlt => ?_) fun hge => ?_)
    · have hj2 : j = 0 ∨ j = 1 := by omega
      have hx : ([rv, rv] : List Value)[((j : Nat) : Int).toNat]? = some rv := by
        rcases hj2 with rfl | rfl <;> rfl
      have hkn : kn (cs3.take (j * r.length * 1)) = true := by
        rw [Nat.mul_one, ht3]
        exact kn_ints _
      refine idx_load (S3.sli ha (by simp)) ⟨by omega, by omega⟩ hx fun p => ⟨by decide, ?_⟩
      refine app_own (m := r.length) c3 (by omega) hkn (by decide) (S3.sli hr (by simp)) (by rcases hj2 with rfl | rfl <;> omega) (addI (by omega) ?_)
      have hb3 := lt_of_get c3
      have e1 : (j + 1) * r.length = j * r.length + r.length := Nat.succ_mul _ _
      refine ⟨j + 1, by dsimp only; omega, .inl ⟨by omega, ?_, ds3, r25, r26, by show vint _ = vint _; congr 1, H3.length, cs3.take (j * r.length * 1) ++ r.map vint, by have := S3.1; omega, ?_, by show Value.slice _ _ _ = _; rw [e1], ?_, ?_⟩⟩
      · exact (S3.set (.inr g3)).app
      · rw [List.getElem?_append_right (by simp)]
        simp
      · simp
        omega
      · have h1 : (cs3.take (j * r.length * 1)).length = j * r.length := by simp; omega
        rw [List.take_of_length_le (by simp; omega), Nat.mul_one, ht3]
        rw [e1, ← List.map_append]
        congr 1
        rcases hj2 with rfl | rfl
        · simp
        · rw [Nat.one_mul, List.take_left, List.take_of_length_le (by simp)]
    · have hj2 : j = 2 := by omega
      subst hj2
      refine retL_same (by simp [unk]) (hK H3 _ S3 ?_)
      have e : (r ++ r).length = 2 * r.length := by simp; omega
      rw [e]
      refine ⟨_, _, rfl, ⟨by simp; omega, kn_ints _⟩, .inr ⟨b3, 0, rfl, .inr ⟨cs3, true, 1, c3, ?_⟩⟩⟩
      rw [List.drop_zero, Nat.mul_one, ht3, List.take_of_length_le (by omega)]

theorem good95 (hJ : Closed prog main J) {rv : Value} {r : List Int} {f : Int} (hr : Sli H rv 1 r.length (r.map vint)) (hl : 0 < r.length ∧ r.length ≤ 100)
    (hK : ∀ H', SameX [] H H' → K (vint (gapR r f)) H') : Good prog J 95 [rv, vint f] H K := by
  have hrne : r ≠ [] := by intro e; rw [e] at hl; simp at hl
  refine g95 hJ fun ok => ?_
  rw [e95]
  have rvo := sli_val hr
  refine ⟨by decide, fill_one (l := [rv]) (by rw [rvo.1]) rfl (by simp [rvo.2.1]) (by decide) (fill_one (l := [rv]) (by rw [rvo.1]) rfl (by simp [rvo.2.1]) (Nat.le_of_ble_eq_true rfl) (fillI (qNew fun H1 p1 e1 S1 c1 l1 => ?_)))⟩
  have c1 : H1[p1]? = some (.cells [rv, rv] true 0) := c1
  have s1 : Sli H1 (.slice (some ⟨p1, 0, none⟩) 2 2) 1 2 [rv, rv] := ownX_sli (ownX_new (s := 1) (n := 2) (l := [rv, rv]) c1 rfl (by simp [kn, rvo.2.2]))
  refine good122 hJ s1 (S1.sli hr (by simp)) hl fun H2 cv S2 C2 => lenI C2 ?_
  have e2 : (r ++ r).length = r.length + r.length := List.length_append
  have T2 : SameX [] H H2 := S1.trans S2
  refine l95_1 hJ (fun i : Nat => (r ++ r).length - i) (fun i F H' => H' = H2 ∧ i ≤ (r ++ r).length ∧ F.ds = [] ∧ F.r 1 = vint f ∧ F.r 12 = cv ∧ F.r 13 = vint ((r ++ r).length : Nat) ∧ F.r 14 = vint (i : Nat) ∧
      ((F.r 5 = vint (-1) ∧ F.r 6 = vint 0 ∧ ∀ j, j < i → ¬ occ r f j) ∨ ∃ l : Nat, F.r 5 = vint (l : Nat) ∧ F.r 6 = vint (gapG r f l) ∧ l < i ∧ occ r f l ∧ ∀ j, l < j → j < i → ¬ occ r f j)) ?_ (s := 0)
    (.inl ⟨rfl, by omega, rfl, rfl, rfl, rfl, rfl, .inl ⟨rfl, rfl, by simp⟩⟩)
  rintro i F H' ⟨rfl, hi, ds, r1, r12, r13, r14, hst⟩ okc hnc
  have hgb := gapR_bd hrne f
  rw [s95_1, r1, r12, r13, r14, ds]
  refine lssI (cndI (fun hlt => ?_) fun hge => ?_)
  · have hturn := turn_twice hl.1 (i := i) (by omega)
    refine sli_num' C2 hturn fun q => neqI (cndI (fun hne => addI (by omega) ?_) fun heq => ?_)
    · refine ⟨i + 1, by dsimp only; omega, .inl ⟨rfl, by omega, ds, r1, r12, r13, by show vint _ = vint _; congr 1, ?_⟩⟩
      have hno : ¬ occ r f i := hne
      rcases hst with ⟨a, b, c⟩ | ⟨l, a, b, c, d, e⟩
      · refine .inl ⟨a, b, fun j hj => ?_⟩
        rcases Nat.lt_or_ge j i with x | x
        · exact c j x
        · rwa [show j = i from by omega]
      · refine .inr ⟨l, a, b, by omega, d, fun j h1 h2 => ?_⟩
        rcases Nat.lt_or_ge j i with x | x
        · exact e j h1 x
        · rwa [show j = i from by omega]
    · have ho : occ r f i := Decidable.of_not_not heq
      rcases hst with ⟨a, b, c⟩ | ⟨l, a, b, c, d, e⟩
      · rw [a, b]
        refine geqI (cndI (fun hx => absurd hx (by decide)) fun _ => addI (by omega) ?_)
        refine ⟨i + 1, by dsimp only; omega, .inl ⟨rfl, by omega, ds, r1, r12, r13, by show vint _ = vint _; congr 1, .inr ⟨i, rfl, ?_, by omega, ho, fun j h1 h2 => by omega⟩⟩⟩
        rw [gapG_none c]
        exact b
      · have hgl : 0 ≤ gapG r f l := gapG_nonneg l
        rw [a, b]
        refine geqI (cndI (fun _ => subI (by omega) (maxI (addI (by omega) ?_))) fun hx => absurd (by omega) hx)
        have hnd : nextD r f l = ((i - l : Nat) : Int) := nextD_at hrne d (by omega) (by rw [show l + (i - l) = i from by omega]; exact ho) fun x h1 h2 => e _ (by omega) (by omega)
        have hg : gapG r f i = max (gapG r f l) ((i : Int) - l) := by
          rw [gapG_skip (a := l + 1) (b := i) (by omega) fun j h1 h2 => e j (by omega) h2]
          conv => lhs; unfold gapG
          rw [if_pos d, hnd]
          congr 1
          omega
        exact ⟨i + 1, by dsimp only; omega, .inl ⟨rfl, by omega, ds, r1, r12, r13, by show vint _ = vint _; congr 1, .inr ⟨i, rfl, by rw [hg]; rfl, by omega, ho, fun j h1 h2 => by omega⟩⟩⟩
  · have hi2 : i = r.length + r.length := by omega
    have hres : F.r 6 = vint (gapR r f) := by
      rcases hst with ⟨a, b, c⟩ | ⟨l, a, b, c, d, e⟩
      · rw [b]
        congr 1
        exact (gapG_none (n := r.length) fun j hj => c j (by omega)).symm
      · rw [b]
        congr 1
        refine gapG_more hrne ?_
        rcases Nat.lt_or_ge l r.length with x | x
        · exact absurd ((occ_mod f l).2 d) (e _ (by omega) (by omega))
        · exact x
    rw [hres]
    exact retL_same (by simp [unk]) (hK _ T2)

theorem good94 (hJ : Closed prog main J) {v fv rv : Value} {t : Tro} {r : List Int} (ht : TroAt H v t fv) (hr : Sli H rv 1 r.length (r.map vint)) (f : TroFine t) (g : RotaFine t r)
    (hK : ∀ H' lv, SameX [] H H' → Sli H' lv 1 (unfL t r).length ((unfL t r).map vint) → K lv H') : Good prog J 94 [v, rv] H K := by
  refine g94 hJ fun ok => ?_
  rw [e94, ht.val]
  have fl := f.len
  have gl := g.len
  have kf := (sli_val ht.fl).2.2
  refine qBox (tro_one ht) fun H1 p1 e1 S1 c1 l1 => offI (ldI (v := fv) c1 rfl kf (lenI (S1.sli ht.fl (by simp)) ?_))
  refine l94_1 hJ (fun i : Nat => t.flocks.length - i) (fun i F H' => SameX [] H H' ∧ i ≤ t.flocks.length ∧ F.ds = [] ∧ F.r 1 = rv ∧ F.r 10 = fv ∧ F.r 11 = vint (t.flocks.length : Nat) ∧ F.r 12 = vint (i : Nat) ∧ ∃ o, OwnX H' 1 ((unfTo t r i).map vint) (unfTo t r i).length (F.r 5) o ∧ ∀ j, o = some j → H.length ≤ j) ?_ (s := 0)
    (.inl ⟨S1, by omega, rfl, rfl, rfl, rfl, rfl, none, ⟨rfl, rfl, .inl ⟨rfl, rfl, rfl⟩⟩, by simp⟩)
  rintro i F H' ⟨S, hi, ds, r1, r10, r11, r12, o, O, ho⟩ okc hnc
  rw [s94_1, r1, r10, r11, r12, ds]
  refine lssI (cndI (fun hlt => ?_) fun hge => ?_)
  · have hil : i < t.flocks.length := by omega
    obtain ⟨b, of, cs, wr, sz, hidx, hb, hol, hft, hkn⟩ := sliE_elem dro_len (by omega) (S.sli ht.fl (by simp)) hil
    refine hidx _ (load_part hb hol hft hkn ?_)
    refine qAl fun H2 p2 e2 S2 c2 l2 => qStA (c := t.flocks[i].cells) c2 rfl rfl rfl fun H3 S3 c3 l3 => ?_
    have S13 : SameX [] H' H3 := S2.thru S3 (by simp; omega)
    refine good95 hJ ((S.trans S13).sli hr (by simp)) (by omega) fun H4 S4 => ?_
    have S14 : SameX [] H' H4 := S13.trans S4
    have T4 : SameX [] H H4 := S.trans S14
    have hev : (droAt t i).every = t.flocks[i].every := by rw [droAt_mem hil]
    -- the end of a round
    have last : ∀ {F' : RG}, F'.ds = [] → F'.r 1 = rv → F'.r 10 = fv → F'.r 11 = vint (t.flocks.length : Nat) → F'.r 12 = vint (i : Nat) → F'.r 5 = F.r 5 → F'.r 6 = vint (i : Nat) → F'.r 27 = .bool (decide (gapR r i = 0 ∨ gapR r i > (droAt t i).every)) →
        W prog J 34 H.length 94 (subC [1, 1, 0, 1, 0, 0, 1, 1, 0, 0, 1, 1, 1] (codeOf f94)) F' H4 (contX pl94 prog J 34 H.length 94 ct94 [1, 1, 0, 1, 0, 0, 1, 1, 0, 0, 1, 1, 1] (codeOf f94) [Nx H.length (fun i : Nat => t.flocks.length - i) (fun i F H' => SameX [] H H' ∧ i ≤ t.flocks.length ∧ F.ds = [] ∧ F.r 1 = rv ∧ F.r 10 = fv ∧ F.r 11 = vint (t.flocks.length : Nat) ∧ F.r 12 = vint (i : Nat) ∧ ∃ o, OwnX H' 1 ((unfTo t r i).map vint) (unfTo t r i).length (F.r 5) o ∧ ∀ j, o = some j → H.length ≤ j) i] (RetQ prog [.tmp 4] H.length K)) := by
      intro F' ds r1 r10 r11 r12 r5 r6 r27
      have O4 := ownX_keep O S14 (by simp)
      have hul := unfTo_len (t := t) (r := r) i
      rw [s94_2, r27, r5, r6, r12]
      refine cndI (fun hc => ?_) fun hc => ?_
      · refine ⟨by decide, fill_one rfl rfl rfl (by decide) (fillI (qNew fun H5 p5 e5 S5 c5 l5 => ⟨by decide, ?_⟩))⟩
        have c5 : H5[p5]? = some (.cells [vint (i : Nat)] true 0) := c5
        refine ownX_more (ownX_keep O4 S5 (by simp)) (by omega) (by omega) (ownX_sli (ownX_new (s := 1) (n := 1) (l := [vint (i : Nat)]) c5 rfl rfl)) fun lv' H6 p6 e6 O6 S6 => addI (by omega) ?_
        have e1 : unfTo t r (i + 1) = unfTo t r i ++ [(i : Int)] := by rw [unfTo_succ, if_pos hc]
        refine ⟨i + 1, by dsimp only; omega, .inl ⟨(T4.trans S5).thru S6 fun y hy => .inr (ho y (by simpa using hy)), by omega, ds, r1, r10, r11, by show vint _ = vint _; congr 1, some p6, ?_, fun j hj => by cases hj; have := T4.1; have := S5.1; omega⟩⟩
        rw [e1, List.map_append, List.length_append]
        exact O6
      · have e1 : unfTo t r (i + 1) = unfTo t r i := by rw [unfTo_succ, if_neg hc]
        refine addI (by omega) ⟨i + 1, by dsimp only; omega, .inl ⟨T4, by omega, ds, r1, r10, r11, by show vint _ = vint _; congr 1, o, ?_, ho⟩⟩
        rw [e1]
        show OwnX H4 1 _ _ (F'.r 5) o
        rw [r5]
        exact O4
    refine eqlI (cndI (fun hz => hold.2 ?_) fun hz => ?_)
    · refine last ds r1 r10 r11 r12 rfl rfl ?_
      show Value.bool _ = _
      rw [decide_eq_true (show gapR r i = 0 ∨ gapR r i > (droAt t i).every from .inl hz)]
    · refine offI (ldI (v := vint t.flocks[i].every) (S4.get c3 (by simp)) rfl rfl (gtrI (hold.2 ?_)))
      refine last ds r1 r10 r11 r12 rfl rfl ?_
      show Value.bool (decide _) = _
      congr 1
      rw [hev]
      exact decide_eq_decide.2 ⟨.inr, fun h => h.resolve_left hz⟩
  · have : i = t.flocks.length := by omega
    subst this
    refine retL_same ?_ (hK H' _ S (ownX_sli O))
    intro v hv
    have : v = F.r 5 := by simpa using hv
    subst this
    intro e
    have := (ownX_val O).2.2
    rw [e] at this
    cases this

def unfA (t : Tro) (r : List Int) : List Int := if rotaE t r = 0 then unfL t r else []
def gapsA (t : Tro) (r : List Int) : List Int := if rotaE t r = 0 then gapsTo r t.flocks.length else []
theorem good52 (hJ : Closed prog main J) {v fv rv : Value} {t : Tro} {r : List Int} (ht : TroAt H v t fv) (hr : Sli H rv 1 r.length (r.map vint)) (hl : t.flocks.length ≤ 1000000)
    (hK : ∀ H' lv, SameX [] H H' → Sli H' lv 1 (unfA t r).length ((unfA t r).map vint) → K (.tuple ⟨[lv, vint (rotaE t r)]⟩) H') : Good prog J 52 [v, rv] H K := by
  refine g52 hJ fun ok => ?_
  rw [e52, ht.val]
  refine qBox (tro_one ht) fun H1 p1 e1 S1 c1 l1 => ?_
  have tk := tro_kn ht
  refine load_part (c := troCells t fv) c1 (by simp [troCells]) rfl tk (good86 hJ ⟨rfl, S1.sli ht.fl (by simp)⟩ (S1.sli hr (by simp)) hl (neqI (cndI (fun g1 => ?_) fun g1 => ?_)))
  · refine retL_same (by simp [unk]) ?_
    exact hK H1 (.slice none 0 0) S1 (by unfold unfA; rw [if_neg g1]; exact sli_nil)
  · have g0 : rotaE t r = 0 := by omega
    obtain ⟨f, g⟩ := rotaE_fine g0
    refine load_part (c := troCells t fv) c1 (by simp [troCells]) rfl tk (good94 hJ ⟨rfl, S1.sli ht.fl (by simp)⟩ (S1.sli hr (by simp)) f g fun H2 lv S2 L2 => ?_)
    have kl := (sli_val L2).2.2
    refine retL_same ?_ ?_
    · intro v hv
      rcases List.mem_cons.1 hv with rfl | hv
      · intro e
        rw [e] at kl
        cases kl
      · have : v = vint 0 := by simpa using hv
        subst this
        simp [unk]
    · have := hK H2 lv (S1.trans S2) (by unfold unfA; rw [if_pos g0]; exact L2)
      rw [g0] at this
      exact this

theorem good53 (hJ : Closed prog main J) {v fv rv : Value} {t : Tro} {r : List Int} (ht : TroAt H v t fv) (hr : Sli H rv 1 r.length (r.map vint)) (hl : t.flocks.length ≤ 1000000)
    (hK : ∀ H' lv, SameX [] H H' → Sli H' lv 1 (gapsA t r).length ((gapsA t r).map vint) → K (.tuple ⟨[lv, vint (rotaE t r)]⟩) H') : Good prog J 53 [v, rv] H K := by
  refine g53 hJ fun ok => ?_
  rw [e53, ht.val]
  refine qBox (tro_one ht) fun H1 p1 e1 S1 c1 l1 => ?_
  have tk := tro_kn ht
  have kf := (sli_val ht.fl).2.2
  refine load_part (c := troCells t fv) c1 (by simp [troCells]) rfl tk (good86 hJ ⟨rfl, S1.sli ht.fl (by simp)⟩ (S1.sli hr (by simp)) hl (neqI (cndI (fun g1 => ?_) fun g1 => ?_)))
  · refine retL_same (by simp [unk]) ?_
    exact hK H1 (.slice none 0 0) S1 (by unfold gapsA; rw [if_neg g1]; exact sli_nil)
  · have g0 : rotaE t r = 0 := by omega
    obtain ⟨f, g⟩ := rotaE_fine g0
    have fl := f.len
    have gl := g.len
    refine offI (ldI (v := fv) c1 rfl kf (lenI (S1.sli ht.fl (by simp)) ?_))
    refine l53_1 hJ (fun i : Nat => t.flocks.length - i) (fun i F H' => SameX [] H H' ∧ i ≤ t.flocks.length ∧ F.ds = [] ∧ F.r 1 = rv ∧ F.r 17 = vint (t.flocks.length : Nat) ∧ F.r 18 = vint (i : Nat) ∧ ∃ o, OwnX H' 1 ((gapsTo r i).map vint) (gapsTo r i).length (F.r 7) o ∧ ∀ j, o = some j → H.length ≤ j) ?_ (s := 0)
      (.inl ⟨S1, by omega, rfl, rfl, rfl, rfl, none, ⟨rfl, rfl, .inl ⟨rfl, rfl, rfl⟩⟩, by simp⟩)
    rintro i F H' ⟨S, hi, ds, r1, r17, r18, o, O, ho⟩ okc hnc
    rw [s53_1, r1, r17, r18, ds]
    refine lssI (cndI (fun hlt => ?_) fun hge => ?_)
    · refine good95 hJ (S.sli hr (by simp)) (by omega) fun H4 S4 => ⟨by decide, fill_one rfl rfl rfl (by decide) (fillI (qNew fun H5 p5 e5 S5 c5 l5 => ⟨by decide, ?_⟩))⟩
      have c5 : H5[p5]? = some (.cells [vint (gapR r i)] true 0) := c5
      have hgl : (gapsTo r i).length = i := by simp [gapsTo]
      refine ownX_more (ownX_keep (ownX_keep O S4 (by simp)) S5 (by simp)) (by omega) (by omega) (ownX_sli (ownX_new (s := 1) (n := 1) (l := [vint (gapR r i)]) c5 rfl rfl)) fun lv' H6 p6 e6 O6 S6 => addI (by omega) ?_
      refine ⟨i + 1, by dsimp only; omega, .inl ⟨((S.trans S4).trans S5).thru S6 fun y hy => .inr (ho y (by simpa using hy)), by omega, ds, r1, r17, by show vint _ = vint _; congr 1, some p6, ?_, fun j hj => by cases hj; have := S.1; have := S4.1; have := S5.1; omega⟩⟩
      rw [gapsTo_succ, List.map_append, List.length_append]
      exact O6
    · have : i = t.flocks.length := by omega
      subst this
      have kl := (ownX_val O).2.2
      refine retL_same ?_ ?_
      · intro v hv
        rcases List.mem_cons.1 hv with rfl | hv
        · intro e
          rw [e] at kl
          cases kl
        · have : v = vint 0 := by simpa using hv
          subst this
          simp [unk]
      · have := hK H' (F.r 7) S (by unfold gapsA; rw [if_pos g0]; exact ownX_sli O)
        rw [g0] at this
        exact this

end
end Go.Proofs.Ytindillghipjjaa

namespace Go.Proofs.Ytindillghipjjaa
open Go.Conc Go.Proofs.Try
set_option maxRecDepth 100000
def waitW (r : List Int) (f : Int) (i : Nat) : Nat := if waitF r f i < 0 then r.length + 1 else (waitF r f i).toNat
def longW (r : List Int) (f : Int) : Nat → Nat
  | 0 => 0
  | m + 1 => max (longW r f m) (waitW r f m)
section
variable {r : List Int} {f : Int}
theorem waitW_none {i : Nat} (h : ∀ e, e < r.length + 1 → ¬ occ r f (i + e)) : waitW r f i = r.length + 1 := by
  unfold waitW
  rw [if_pos (by unfold waitF; rw [firstH_none h]; decide)]
theorem waitW_at {i n : Nat} (hn : n < r.length + 1) (ho : occ r f (i + n)) (h : ∀ e, e < n → ¬ occ r f (i + e)) : waitW r f i = n := by
  have e : waitF r f i = n := firstH_at hn ho h
  unfold waitW
  rw [e, if_neg (by omega)]
  simp
theorem longW_le {B : Nat} : ∀ {m : Nat}, longW r f m ≤ B ↔ ∀ i, i < m → waitW r f i ≤ B
  | 0 => by simp [longW]
  | m + 1 => by
    have ih : longW r f m ≤ B ↔ ∀ i, i < m → waitW r f i ≤ B := longW_le
    unfold longW
    constructor
    · intro h i hi
      rcases Nat.lt_or_ge i m with x | x
      · exact ih.1 (by omega) i x
      · have : i = m := by omega
        subst this
        omega
    · intro h
      have h1 := ih.2 fun i hi => h i (by omega)
      have h2 := h m (by omega)
      omega
theorem waitW_bd (i : Nat) : waitW r f i ≤ r.length + 1 := by
  unfold waitW
  split
  · omega
  · rename_i x
    obtain ⟨k, e, a, _⟩ := firstH_pos (p := fun d => occ r f (i + d)) (n := r.length + 1) (by unfold waitF at x; omega)
    have : waitF r f i = k := e
    omega
theorem gap_long (hr : r ≠ []) (hs : ∃ i, occ r f i) : gapR r f = longW r f r.length + 1 ∧ longW r f r.length < r.length := by
  have hp : 0 < r.length := by cases r <;> simp at hr ⊢
  have hw : ∀ i, ∃ d : Nat, waitW r f i = d ∧ d < r.length ∧ occ r f (i + d) ∧ ∀ e, e < d → ¬ occ r f (i + e) := fun i => by
    obtain ⟨d, e, a, b, c⟩ := wait_spec hr hs i
    exact ⟨d, waitW_at (by omega) b c, a, b, c⟩
  have hmod : ∀ i, waitW r f (i + r.length) = waitW r f i := fun i => by unfold waitW; rw [wait_mod]
  have hall : ∀ {B : Nat}, (∀ i, i < r.length → waitW r f i ≤ B) → ∀ i, waitW r f i ≤ B := by
    intro B h i
    induction i using Nat.strongRecOn with
    | ind i ih =>
      rcases Nat.lt_or_ge i r.length with x | x
      · exact h i x
      · have := hmod (i - r.length)
        rw [show i - r.length + r.length = i from by omega] at this
        rw [this]
        exact ih _ (by omega)
  have hlt : longW r f r.length < r.length := by
    have : longW r f r.length ≤ r.length - 1 := longW_le.2 fun i _ => by
      obtain ⟨d, e, a, _⟩ := hw i
      omega
    omega
  refine ⟨?_, hlt⟩
  have g0 := gapR_nonneg (r := r) (f := f)
  have a : gapR r f ≤ longW r f r.length + 1 := by
    rw [gap_wait hr (by omega) hs]
    intro i
    obtain ⟨d, e, _, b, _⟩ := hw i
    have := hall (longW_le.1 (Nat.le_refl (longW r f r.length))) i
    exact ⟨d, by omega, b⟩
  have b : longW r f r.length + 1 ≤ (gapR r f).toNat := by
    have hg := (gap_wait hr g0 hs).1 (Int.le_refl _)
    have h1 : 1 ≤ gapR r f := by
      obtain ⟨d, h, _⟩ := hg 0
      omega
    have : longW r f r.length ≤ (gapR r f).toNat - 1 := longW_le.2 fun i _ => by
      obtain ⟨d, e, _, _, c⟩ := hw i
      obtain ⟨d', h', o'⟩ := hg i
      rcases Nat.lt_or_ge d' d with x | x
      · exact absurd o' (c d' x)
      · omega
    omega
  omega
theorem long_none (hr : r ≠ []) (hs : ¬ ∃ i, occ r f i) : gapR r f = 0 ∧ longW r f r.length = r.length + 1 := by
  have hp : 0 < r.length := by cases r <;> simp at hr ⊢
  refine ⟨(gapR_zero hr).2 fun i ho => hs ⟨i, ho⟩, ?_⟩
  have h1 : longW r f r.length ≤ r.length + 1 := longW_le.2 fun i _ => waitW_bd i
  have h2 := longW_le.1 (Nat.le_refl (longW r f r.length)) 0 hp
  rw [waitW_none fun e _ ho => hs ⟨_, ho⟩] at h2
  omega
end
theorem unf_get {t : Tro} {r : List Int} {i : Nat} (hd : gapR r i = 0 ∨ gapR r i > (droAt t i).every) : ∀ {n : Nat}, i < n → (unfTo t r n)[(unfTo t r i).length]? = some (i : Int)
  | 0, h => absurd h (Nat.not_lt_zero _)
  | n + 1, h => by
    rw [unfTo_succ]
    rcases Nat.lt_or_ge i n with x | x
    · have ih := unf_get hd x
      split
      · rw [List.getElem?_append_left (List.getElem?_eq_some_iff.1 ih).1]
        exact ih
      · exact ih
    · have : i = n := by omega
      subst this
      rw [if_pos hd, List.getElem?_append_right (Nat.le_refl _)]
      simp
theorem gaps_get {r : List Int} {i n : Nat} (h : i < n) : (gapsTo r n)[i]? = some (gapR r i) := by
  unfold gapsTo
  rw [List.getElem?_map, List.getElem?_range h]
  rfl

structure Reg11 (rv uv gv : Value) (p : Nat) (t : Tro) (r : List Int) (x : Nat) (F : RG) : Prop where
  ds : F.ds = []
  r4 : F.r 4 = ptr p 0
  r5 : F.r 5 = rv
  r6 : F.r 6 = uv
  r8 : F.r 8 = gv
  r10 : F.r 10 = vint ((unfTo t r x).length : Nat)
  r11 : F.r 11 = vint (x : Nat)

section
variable {main : Bool} {J : JT} {h H : List AObj} {K : Value → List AObj → Prop} {n0 : Nat} {t : Tro} {r : List Int} {fv rv uv gv : Value} {p x : Nat} {nx0 nx1 : RG → List AObj → Prop}
theorem inner11 (hJ : Closed prog main J) (g : RotaFine t r) (hx : x < t.flocks.length) (cp : H[p]? = some (.cells (troCells t fv) true 0)) (ht : SliE H fv 2 Dro.cells t.flocks) (hr : Sli H rv 1 r.length (r.map vint)) {m : Nat} (hm : m < r.length) {b : Bool} (hb : b = true ↔ ∀ i, i < m → (waitW r x i : Int) < (droAt t x).every)
    {F : RG} (G : Reg11 rv uv gv p t r x F) (r12 : F.r 12 = .bool b) (r13 : F.r 13 = vint (longW r x m : Nat)) (r14 : F.r 14 = vint (m : Nat)) (r15 : F.r 15 = vint 0)
    (hn : ∀ F' b', Reg11 rv uv gv p t r x F' → F'.r 12 = .bool b' → (b' = true ↔ ∀ i, i < m + 1 → (waitW r x i : Int) < (droAt t x).every) → F'.r 13 = vint (longW r x (m + 1) : Nat) → F'.r 14 = vint ((m + 1 : Nat) : Int) → nx1 F' H) :
    Sem J 125 n0 11 (subC [1, 1, 1, 1, 1, 1, 1, 1, 0, 1, 0, 0, 1, 0, 0, 1, 0, 1, 0, 0, 1, 0, 0, 1, 0, 0] (codeOf f11)) F H (contX pl11 prog J 125 n0 11 ct11 [1, 1, 1, 1, 1, 1, 1, 1, 0, 1, 0, 0, 1, 0, 0, 1, 0, 1, 0, 0, 1, 0, 0, 1, 0, 0] (codeOf f11) [nx0, nx1] (RetQ prog [.tmp 2] n0 K)) := by
  have gl := g.len
  refine l11_4 hJ (fun n : Nat => r.length + 1 - n) (fun n F H' => H' = H ∧ n ≤ r.length + 1 ∧ (∀ e, e < n → ¬ occ r x (m + e)) ∧ Reg11 rv uv gv p t r x F ∧ F.r 12 = .bool b ∧ F.r 13 = vint (longW r x m : Nat) ∧ F.r 14 = vint (m : Nat) ∧ F.r 15 = vint (n : Nat)) ?_ (s := 0)
    (.inl ⟨rfl, by omega, by simp, G, r12, r13, r14, r15⟩)
  rintro n F H' ⟨rfl, hnl, hno, G, r12, r13, r14, r15⟩ ok hn0
  have kf := (sli_val ht).2.2
  have G0 := G
  obtain ⟨ds, r4, r5, r6, r8, r10, r11⟩ := G
  -- the end of the waiting
  have fin : ∀ {F' : RG}, waitW r x m = n → Reg11 rv uv gv p t r x F' → F'.r 12 = .bool b → F'.r 13 = vint (longW r x m : Nat) → F'.r 14 = vint (m : Nat) → F'.r 15 = vint (n : Nat) → F'.r 74 = .bool false →
      W prog J 125 n0 11 (subC [1, 1, 1, 1, 1, 1, 1, 1, 0, 1, 0, 0, 1, 0, 0, 1, 0, 1, 0, 0, 1, 0, 0, 1, 0, 0, 0, 0, 1] (codeOf f11)) F' H' (contX pl11 prog J 125 n0 11 ct11 [1, 1, 1, 1, 1, 1, 1, 1, 0, 1, 0, 0, 1, 0, 0, 1, 0, 1, 0, 0, 1, 0, 0, 1, 0, 0, 0, 0, 1] (codeOf f11) [nx0, nx1, Nx n0 (fun n : Nat => r.length + 1 - n) (fun n F H'' => H'' = H' ∧ n ≤ r.length + 1 ∧ (∀ e, e < n → ¬ occ r x (m + e)) ∧ Reg11 rv uv gv p t r x F ∧ F.r 12 = .bool b ∧ F.r 13 = vint (longW r x m : Nat) ∧ F.r 14 = vint (m : Nat) ∧ F.r 15 = vint (n : Nat)) n] (RetQ prog [.tmp 2] n0 K)) := by
    intro F' hw G r12 r13 r14 r15 r74
    have G0 := G
    obtain ⟨ds, r4, r5, r6, r8, r10, r11⟩ := G
    have hlong : max (longW r x m : Int) (n : Int) = ((longW r x (m + 1) : Nat) : Int) := by
      have : longW r x (m + 1) = max (longW r x m) n := by
        conv => lhs; unfold longW
        rw [hw]
      rw [this]
      omega
    rw [s11_6, r74, r12, r4, r11, r13, r14, r15]
    refine cnd_false.2 ?_
    cases b with
    | true =>
      refine cnd_true.2 ?_
      obtain ⟨bb, o, cs, wr, sz, hidx, hb', hol, hft, hkn⟩ := sliE_elem dro_len (by omega) ht hx
      have he : (droAt t x).every = t.flocks[x].every := by rw [droAt_mem hx]
      refine offI (ldI (v := fv) cp rfl kf (hidx _ (offI (ldI (v := vint (droAt t x).every) hb' (part_get (j := 1) hft (by rw [he]; rfl)) rfl (lssI (maxI (addI (by omega) ?_)))))))
      rw [hlong]
      refine hn _ (decide ((n : Int) < (droAt t x).every)) ⟨ds, r4, r5, r6, r8, r10, r11⟩ rfl ?_ rfl (by show vint _ = vint _; congr 1)
      rw [decide_eq_true_eq]
      constructor
      · intro h i hi
        rcases Nat.lt_or_ge i m with y | y
        · exact hb.1 rfl i y
        · have : i = m := by omega
          subst this
          rw [hw]
          exact h
      · intro h
        have := h m (by omega)
        rw [hw] at this
        exact this
    | false =>
      refine cnd_false.2 (maxI (addI (by omega) ?_))
      rw [hlong]
      refine hn _ false ⟨ds, r4, r5, r6, r8, r10, r11⟩ rfl ⟨fun h => (by cases h), fun h => ?_⟩ rfl (by show vint _ = vint _; congr 1)
      exact hb.2 fun i hi => h i (by omega)
  rw [s11_4, r5, r14, r15, r11]
  refine lenI hr (leqI (cndI (fun hle => ?_) fun hgt => hold.2 ?_))
  · refine addI (by omega) ?_
    have e : vint ((m : Int) + (n : Int)) = vint ((m + n : Nat) : Int) := by congr 1
    rw [e]
    refine good50 hJ hr (by omega) (by omega) (neqI (hold.2 ?_))
    by_cases ho : occ r x (m + n)
    · refine fin (waitW_at (by omega) ho hno) ⟨ds, r4, r5, r6, r8, r10, r11⟩ r12 r13 r14 r15 ?_
      show Value.bool (decide (turnOf r (m + n) ≠ (x : Int))) = _
      rw [decide_eq_false fun y => y ho]
    · rw [s11_6]
      have e2 : ∀ {A B : Prop}, A → cnd (Value.bool (decide (turnOf r (m + n) ≠ (x : Int)))) A B := fun hA => by
        rw [decide_eq_true (show turnOf r (m + n) ≠ (x : Int) from ho)]
        exact cnd_true.2 hA
      refine e2 ?_
      show aBin prog .add 3 (F.r 15) _ _
      rw [r15]
      refine addI (by omega) ⟨n + 1, by dsimp only; omega, .inl ⟨rfl, by omega, fun y hy => ?_, ⟨ds, r4, r5, r6, r8, r10, r11⟩, r12, r13, r14, by show vint _ = vint _; congr 1⟩⟩
      rcases Nat.lt_or_ge y n with z | z
      · exact hno y z
      · rwa [show y = n from by omega]
  · have hn1 : n = r.length + 1 := by omega
    subst hn1
    exact fin (waitW_none hno) ⟨ds, r4, r5, r6, r8, r10, r11⟩ r12 r13 r14 r15 rfl

theorem mid11 (hJ : Closed prog main J) (f : TroFine t) (g : RotaFine t r) (hx : x < t.flocks.length) (cp : H[p]? = some (.cells (troCells t fv) true 0)) (ht : SliE H fv 2 Dro.cells t.flocks) (hr : Sli H rv 1 r.length (r.map vint))
    (hu : Sli H uv 1 (unfTo t r t.flocks.length).length ((unfTo t r t.flocks.length).map vint)) (hg : Sli H gv 1 (gapsTo r t.flocks.length).length ((gapsTo r t.flocks.length).map vint))
    {F : RG} (G : Reg11 rv uv gv p t r x F) (r12 : F.r 12 = .bool true) (r13 : F.r 13 = vint 0) (r14 : F.r 14 = vint 0) (hn : ∀ F', Reg11 rv uv gv p t r (x + 1) F' → nx0 F' H) :
    Sem J 125 n0 11 (subC [1, 1, 1, 1, 1, 1, 1, 1, 0, 1, 0, 0, 1, 0, 0, 1, 0, 1, 0] (codeOf f11)) F H (contX pl11 prog J 125 n0 11 ct11 [1, 1, 1, 1, 1, 1, 1, 1, 0, 1, 0, 0, 1, 0, 0, 1, 0, 1, 0] (codeOf f11) [nx0] (RetQ prog [.tmp 2] n0 K)) := by
  have gl := g.len
  have fl := f.len
  have hrne : r ≠ [] := by intro e; rw [e] at gl; simp at gl
  refine l11_3 hJ (fun m : Nat => r.length - m) (fun m F H' => H' = H ∧ m ≤ r.length ∧ Reg11 rv uv gv p t r x F ∧ (∃ b, F.r 12 = .bool b ∧ (b = true ↔ ∀ i, i < m → (waitW r x i : Int) < (droAt t x).every)) ∧ F.r 13 = vint (longW r x m : Nat) ∧ F.r 14 = vint (m : Nat)) ?_ (s := 0)
    (.inl ⟨rfl, by omega, G, ⟨true, r12, by simp⟩, r13, r14⟩)
  rintro m F H' ⟨rfl, hm, G, ⟨b, r12, hb⟩, r13, r14⟩ ok hn0
  have G0 := G
  obtain ⟨ds, r4, r5, r6, r8, r10, r11⟩ := G
  have hlb : longW r x m ≤ r.length + 1 := longW_le.2 fun i _ => waitW_bd i
  -- what is asked behind
  have fin : ∀ {F' : RG} (b' : Bool) (L : Int), Reg11 rv uv gv p t r x F' → F'.r 12 = .bool b' → F'.r 13 = vint L → gapR r x = L + 1 → (b' = true ↔ ¬ (gapR r x = 0 ∨ gapR r x > (droAt t x).every)) → -1 ≤ L ∧ L ≤ 10 →
      W prog J 125 n0 11 (subC [1, 1, 1, 1, 1, 1, 1, 1, 0, 1, 0, 0, 1, 0, 0, 1, 1, 1] (codeOf f11)) F' H' (contX pl11 prog J 125 n0 11 ct11 [1, 1, 1, 1, 1, 1, 1, 1, 0, 1, 0, 0, 1, 0, 0, 1, 1, 1] (codeOf f11) [nx0] (RetQ prog [.tmp 2] n0 K)) := by
    intro F' b' L G r12 r13 hgap hfair hL
    obtain ⟨ds, r4, r5, r6, r8, r10, r11⟩ := G
    have hul := unfTo_len (t := t) (r := r) x
    rw [s11_5, r6, r8, r10, r11, r12, r13]
    refine sli_num' hg (gaps_get hx) fun q => addI (by omega) (neqI (cndI (fun hy => absurd hgap hy) fun _ => notI ?_))
    cases b' with
    | true =>
      have hno : ¬ (gapR r x = 0 ∨ gapR r x > (droAt t x).every) := hfair.1 rfl
      refine cnd_false.2 (addI (by omega) (hn _ ⟨ds, r4, r5, r6, r8, ?_, by show vint _ = vint _; congr 1⟩))
      rw [unfTo_succ, if_neg hno]
      exact r10
    | false =>
      have hyes : gapR r x = 0 ∨ gapR r x > (droAt t x).every := Decidable.of_not_not fun h => by
        have := hfair.2 h
        cases this
      have hget := unf_get hyes hx
      have hlt := (List.getElem?_eq_some_iff.1 hget).1
      refine cnd_true.2 (lenI hu (geqI (cndI (fun hy => absurd hy (by omega)) fun _ => sli_num' hu hget fun q => neqI (hold.2 ?_))))
      rw [s11_7]
      refine cndI (fun hy => absurd rfl hy) fun _ => ?_
      show aBin prog .add 3 (F'.r 10) _ _
      rw [r10]
      refine addI (by omega) ?_
      show aBin prog .add 3 (F'.r 11) _ _
      rw [r11]
      refine addI (by omega) (hn _ ⟨ds, r4, r5, r6, r8, ?_, by show vint _ = vint _; congr 1⟩)
      rw [unfTo_succ, if_pos hyes, List.length_append]
      rfl
  rw [s11_3, r5, r13, r14]
  refine lenI hr (lssI (cndI (fun hlt => ?_) fun hge => lenI hr (gtrI (cndI (fun hgt => hold.2 ?_) fun hle => hold.2 ?_))))
  · refine inner11 hJ g hx cp ht hr (m := m) (by omega) hb ⟨ds, r4, r5, r6, r8, r10, r11⟩ r12 r13 r14 rfl fun F' b' G' q12 hb' q13 q14 => ?_
    exact ⟨m + 1, by dsimp only; omega, .inl ⟨rfl, by omega, G', ⟨b', q12, hb'⟩, q13, q14⟩⟩
  · have hmr : m = r.length := by omega
    subst hmr
    have hs : ¬ ∃ i, occ r x i := fun hs => by
      have := (gap_long hrne hs).2
      omega
    obtain ⟨g0, _⟩ := long_none hrne hs
    exact fin false (-1) ⟨ds, r4, r5, r6, r8, r10, r11⟩ rfl rfl (by omega) ⟨fun h => (by cases h), fun h => absurd (.inl g0) h⟩ (by omega)
  · have hmr : m = r.length := by omega
    subst hmr
    have hs : ∃ i, occ r x i := Classical.byContradiction fun hs => by
      have := (long_none hrne hs).2
      omega
    obtain ⟨g1, g2⟩ := gap_long hrne hs
    refine fin b (longW r x r.length : Nat) ⟨ds, r4, r5, r6, r8, r10, r11⟩ r12 r13 g1 ⟨fun h => ?_, fun h => hb.2 fun i hi => ?_⟩ (by omega)
    · have h1 := hb.1 h
      intro hc
      have hev : 1 ≤ (droAt t x).every := by rw [droAt_mem hx]; exact (f.dro _ (List.getElem_mem hx)).2.1
      have : longW r x r.length ≤ (droAt t x).every.toNat - 1 := longW_le.2 fun i hi => by have := h1 i hi; omega
      omega
    · have := longW_le.1 (Nat.le_refl (longW r x r.length)) i hi
      omega
end
section
variable {W0 : World} {Post : Value → World → Prop} {h H : List AObj} {K : Value → List AObj → Prop} {n0 : Nat}
theorem walk11 {nv : Value} {ns : List Int} (sn : Sli h nv 1 ns.length (ns.map vint)) (hln : ns.length < 4611686018427387904) (hK : ∀ h', K (.bool true) h') :
    W prog (J1 prog W0 Post) 125 h.length 11 (codeOf f11) (RG.mk (regs [nv]) []) h (RetQ prog [.tmp 2] h.length K) := by
  have hJ := J1.closed prog W0 Post
  rw [e11]
  refine newX hJ sn hln fun H0 a0 => ?_
  refine good21 hJ a0 (by omega) (by omega) (by omega) fun t fv o H1 ot S1 a1 TO => ?_
  have f := ot.fine (by omega)
  have fl := f.len
  have ta := TO.at
  refine qAl fun H2 p2 e2 S2 c2 l2 => qStA (c := troCells t fv) c2 rfl rfl (tro_one ta) fun H3 S3 c3 l3 => ?_
  have hl1 := a1.lt
  have S13 : SameX [] H1 H3 := S2.thru S3 (by simp; omega)
  have TO3 := TO.same S13 (by simp)
  have a3 := a1.same S13 (by simp)
  have kt := tro_kn ta
  have kf := (sli_val ta.fl).2.2
  refine load_part (c := troCells t fv) c3 (by simp [troCells]) rfl kt ?_
  refine good36 hJ a3 (by omega) TO3.at (fun S => (TO3.same S (fun j hj => by have := TO3.b j hj; simp; omega)).at.fl) (by omega) (by omega) fun r rv o' H4 g hrl S4 a4 RO ho' => ?_
  have TO4 := TO3.same S4 (fun j hj => by have := TO3.b j hj; simp; omega)
  have c4 := S4.get c3 (by simp; omega)
  have e0 := fine_rotaE f g
  have eG : gapsA t r = gapsTo r t.flocks.length := by unfold gapsA; rw [if_pos e0]
  have eU : unfA t r = unfTo t r t.flocks.length := by unfold unfA; rw [if_pos e0]; rfl
  refine load_part (c := troCells t fv) c4 (by simp [troCells]) rfl kt ?_
  refine good52 hJ TO4.at RO.sli (by omega) fun H5 uv S5 U5 => ext0 (ext1 ?_)
  refine load_part (c := troCells t fv) (S5.get c4 (by simp)) (by simp [troCells]) rfl kt ?_
  refine good53 hJ (TO4.same S5 (by simp)).at (S5.sli RO.sli (by simp)) (by omega) fun H6 gv S6 G6 => ext0 (ext1 ?_)
  rw [e0]
  rw [eU] at U5
  rw [eG] at G6
  have T6 := S5.trans S6
  have c6 := T6.get c4 (by simp)
  have ht6 := (TO4.same T6 (by simp)).at.fl
  have hu6 := S6.sli U5 (by simp)
  have hr6 := T6.sli RO.sli (by simp)
  have hgl : (gapsTo r t.flocks.length).length = t.flocks.length := by simp [gapsTo]
  refine neqI (cndI (fun hx => absurd rfl hx) fun _ => neqI (cndI (fun hx => absurd rfl hx) fun _ => lenI G6 (offI (ldI (v := fv) c6 rfl kf (lenI ht6 (neqI (hold.2 ?_)))))))
  rw [s11_1]
  refine cndI (fun hx => absurd (by rw [hgl]) hx) fun _ => ?_
  refine l11_2 hJ (fun x : Nat => t.flocks.length - x) (fun x F H' => H' = H6 ∧ x ≤ t.flocks.length ∧ Reg11 rv uv gv p2 t r x F) ?_ (s := 0) (.inl ⟨rfl, by omega, ⟨rfl, rfl, rfl, rfl, rfl, rfl, rfl⟩⟩)
  rintro x F H' ⟨rfl, hx, G⟩ ok hn
  have G0 := G
  obtain ⟨ds, r4, r5, r6, r8, r10, r11⟩ := G
  rw [s11_2, r4, r6, r10, r11, ds]
  refine offI (ldI (v := fv) c6 rfl kf (lenI ht6 (lssI (cndI (fun hlt => ?_) fun hge => ?_))))
  · refine mid11 hJ f g (by omega) c6 ht6 hr6 hu6 G6 ⟨ds, r4, r5, r6, r8, r10, r11⟩ rfl rfl rfl fun F' G' => ?_
    exact ⟨x + 1, by dsimp only; omega, .inl ⟨rfl, by omega, G'⟩⟩
  · have : x = t.flocks.length := by omega
    subst this
    exact lenI hu6 (eqlI (cndI (fun _ => good19 fun H2 => retL_same (by simp [unk]) (hK _)) fun hx => absurd rfl hx))
end
end Go.Proofs.Ytindillghipjjaa

namespace Go.Proofs.Ytindillghipjjaa
open Go.Conc
section
variable {P : Program} {W0 : World} {Post : Value → World → Prop} {ρ : Env} {h : List AObj} {FC : Frm} {w : World} {ft : Foot} {f : RG} {a : Act} {b : FB} {K : Value → List AObj → Prop} {n0 : Nat}
theorem leave_top {fn : Func} (hk : b.kind = .normal) (hf : P.funcs[b.fn]? = some fn) (hin : P.inits.idxOf? b.fn = none)
    (hc : ∀ v h' ρ' w' ft' cv, K v h' → HRel ρ' h' FC w' ft' → Env.upto n0 ρ ρ' → n0 ≤ h'.length → VRel h'.length ρ' v cv → Base W0 w' → Post cv w') :
    ∀ (ds : List Nat) (h : List AObj) (w : World) (ft : Foot) (a : Act) (fr : Frame), fr.fn = b.fn → fr.kind = .normal → fr.mode = .returning → fr.tmps = a.tmps → fr.defers = ds.map (fun d => { target := .collected (ρ.blk d), args := #[] }) → RegRel h.length ρ f.r a.tmps → HRel ρ h FC w ft → n0 ≤ h.length →
      takeW ds h (fun h => resW P fn.results.toList f.r h fun vs => K (pack vs) h ∨ ∃ σ h' v, GC n0 σ h h' ∧ pack vs = sub σ v ∧ VOk h'.length v ∧ K v h') → J1 P W0 Post (G fr []) w ft
  | [], h, w, ft, a, fr, e1, e2, e3, e4, e5, hr, H, hn, hq => by
    obtain ⟨fn', tmps, todo, defers, mode, kind, ro⟩ := fr
    simp only at e1 e2 e3 e4 e5
    subst e1 e2 e3 e4 e5
    refine J1.both rfl fun w₁ h₁ hbase => .inr ?_
    have H₁ := H.rely h₁
    have hrun : RunsTo P (EvOk ft) (results fn a.tmps) w₁ fun cv w' => w' = w₁ ∧ ∃ vs, cv = ren ρ (pack vs) ∧ (∀ v ∈ vs, VOk h.length v) ∧ (K (pack vs) h ∨ ∃ σ h' v, GC n0 σ h h' ∧ pack vs = sub σ v ∧ VOk h'.length v ∧ K v h') := by
      unfold results
      have : (fn.results.mapM (resF a.tmps)) = List.toArray <$> fn.results.toList.mapM (resF a.tmps) := by
        rw [Array.mapM_eq_mapM_toList]
      show RunsTo P (EvOk ft) (do
        let vs ← fn.results.mapM (resF a.tmps)
        pure (if h : vs.size = 1 then vs[0] else .tuple vs)) w₁ _
      rw [this]
      refine RunsTo.bind (RunsTo.map (res_run (n := 0) H₁ hr fn.results.toList hq fun vs hvs hok => RunsTo.pure ⟨rfl, vs, ?_, hok, hvs⟩))
      exact pack_ren vs
    obtain ⟨cv, w', es, hr', he, rfl, vs, rfl, hvok, hvs⟩ := hrun #[] (by simp)
    have hes : ∀ e ∈ seen P b.fn es, EvOk ft e := fun e hm => he e (mem_seen hm)
    refine ⟨ren ρ (pack vs), seen P b.fn es, ?_, hes, ?_⟩
    · simp only [G, stepG, unwind, List.map_nil, hf, hr']
      simp [doReturn, GStep.after, hin]
    · rcases hvs with hK | ⟨σ, h', v, g, hp, hok, hK⟩
      · exact hc _ h _ w' ft _ hK H₁ (Env.upto_refl _ _) hn (.inr ⟨pack_ok hvok, rfl⟩) hbase
      · rw [hp, ren_sub]
        exact hc v h' _ w' ft _ hK (g.rel H₁) g.upto g.le (.inr ⟨hok, rfl⟩) hbase
  | d :: ds, h, w, ft, a, fr, e1, e2, e3, e4, e5, hr, H, hn, hq => by
    obtain ⟨fn', tmps, todo, defers, mode, kind, ro⟩ := fr
    simp only at e1 e2 e3 e4 e5
    subst e1 e2 e3 e4 e5
    obtain ⟨hd, hq⟩ := hq
    refine (J1.closed P W0 Post).step rfl fun w₁ h₁ => ?_
    have H₁ := H.rely h₁
    obtain ⟨cv, w', es, hr', he, rfl, H', hst, hsz⟩ := take_run (P := P) H₁ hd (Q := fun l w' => l = [] ∧ HRel ρ (h.set d .dead) FC w' ft ∧ Stays ft w₁ w' ∧ w'.heap.size = w₁.heap.size) (fun w' a1 a2 a3 => ⟨rfl, a1, a2, a3⟩) #[] (by simp)
    have hes : ∀ e ∈ seen P b.fn es, EvOk ft e := fun e hm => he e (mem_seen hm)
    refine ⟨G { fn := b.fn, tmps := a.tmps, todo := todo, defers := ds.map (fun d => { target := .collected (ρ.blk d), args := #[] }), mode := .returning, kind := .normal, roundOf := ro } [], w', seen P b.fn es, ?_, rfl, hst.guar hes, ?_⟩
    · simp only [G, stepG, unwind, List.map_cons, hr']
      simp [GStep.after]
    · rw [hsz, Foot.ext_self]
      exact leave_top hk hf hin hc ds _ w' ft a _ rfl rfl rfl rfl rfl (by rw [List.length_set]; exact hr) H' (by rw [List.length_set]; exact hn) hq

theorem top_of_W (hm : P.follows .mixedOrders = true) {g : FuncId} {fn : Func} (hf : P.funcs[g]? = some fn) {c : Code} (hb : fn.body = some c) (hin : P.inits.idxOf? g = none) {args : List Value} {cargs : Array Value} (ha : args.length ≤ fn.ntmps) (hl : cargs.size = args.length)
    (hr : ∀ i : Nat, VRel h.length ρ (args.getD i unk) (cargs.toList.getD i undef)) (H : HRel ρ h FC w ft)
    (hs : W P (J1 P W0 Post) fn.ntmps h.length g c ⟨regs args, []⟩ h (RetQ P fn.results.toList h.length K))
    (hc : ∀ v h' ρ' w' ft' cv, K v h' → HRel ρ' h' FC w' ft' → Env.upto h.length ρ ρ' → h.length ≤ h'.length → VRel h'.length ρ' v cv → Base W0 w' → Post cv w') : J1 P W0 Post (G (Frame.enter P g cargs .normal) []) w ft := by
  have hJ := J1.closed P W0 Post
  obtain ⟨cargs⟩ := cargs
  simp only at hl hr
  have he : Frame.enter P g ⟨cargs⟩ .normal = FB.at ⟨g, .normal, none⟩ ⟨⟨cargs⟩ ++ Array.replicate (fn.ntmps - cargs.length) undef, []⟩ [.code c] := by
    simp [Frame.enter, FB.at, hf, hb]
  rw [he]
  have A : ActRel h.length ρ fn.ntmps ⟨regs args, []⟩ ⟨⟨cargs⟩ ++ Array.replicate (fn.ntmps - cargs.length) undef, []⟩ := by
    refine ⟨fun t => ?_, by simp at hl ⊢; omega, rfl, by simp⟩
    have := hr t
    have ht : ((⟨cargs⟩ : Array Value) ++ Array.replicate (fn.ntmps - cargs.length) undef).getD t undef = cargs.getD t undef := by
      rw [Array.getD_eq_getD_getElem?, List.getD_eq_getElem?_getD]
      by_cases hx : t < cargs.length
      · rw [Array.getElem?_append_left (by simpa using hx)]
        simp
      · rw [Array.getElem?_append_right (by simp; omega), List.getElem?_eq_none (by omega)]
        simp only [Array.getElem?_replicate]
        split <;> rfl
    rw [ht]
    exact this
  have last : ∀ f' h' ρ' w' ft' a' todo, RetQ P fn.results.toList h.length K .ret f' h' → ActRel h'.length ρ' fn.ntmps f' a' → HRel ρ' h' FC w' ft' → Env.upto h.length ρ ρ' → h.length ≤ h'.length →
      J1 P W0 Post (G { (FB.at ⟨g, .normal, none⟩ a' todo) with mode := .returning } []) w' ft' := by
    intro f' h' ρ' w' ft' a' todo q A' H' hu hl
    exact leave_top (b := ⟨g, .normal, none⟩) (f := f') (n0 := h.length) (ρ := ρ') rfl hf hin (fun v h2 ρ2 w2 ft2 cv k H2 u2 l2 v2 => hc v h2 ρ2 w2 ft2 cv k H2 (Env.upto_trans hu u2) l2 v2) f'.ds h' w' ft' a' _ rfl rfl rfl rfl A'.defers A'.regs H' hl q
  refine W_sound hJ hm c hs ⟨g, .normal, none⟩ _ [] [] (fun jump a w ft => jump = some .ret ∧ ∀ todo, J1 P W0 Post (G { (FB.at ⟨g, .normal, none⟩ a todo) with mode := .returning } []) w ft) ρ FC w ft rfl (by simp) ?_ A H (Nat.le_refl _) ?_
  · rintro jump a w ft todo ⟨rfl, hj⟩ hh
    rcases hh with ⟨_, k, rfl⟩ | ⟨id, k, e, _⟩ | ⟨e, _⟩
    · exact hJ.ctrl rfl rfl (fun w => by simp [G, stepG, stepG.exec, FB.at]) (hj (.code .ret :: k))
    · cases e
    · cases e
  · intro e f' h' ρ' w' ft' a' q A' H' hu hl
    cases e with
    | normal => exact hJ.ctrl rfl rfl (fun w => by simp [G, stepG, stepG.exec, FB.at]) (last f' h' ρ' w' ft' a' [] q A' H' hu hl)
    | ret => exact ⟨rfl, fun todo => last f' h' ρ' w' ft' a' todo q A' H' hu hl⟩
    | exit id => exact q.elim
    | goto l => exact q.elim
    | panic l => exact q.elim
    | outgrown => exact q.elim

theorem run_of_J1 {g : Goroutine} {w : World} {ft : Foot} (h : J1 P W0 Post g w ft) (hb : ∀ b, ft.rd b → b < w.heap.size) (hs : ∀ b, ft.wr b → ft.rd b) (hw : W0 = w) : Ends P Post (solo g w) #[] := by
  rw [solo_eq_crowd]
  exact h #[g] w none #[] (fun _ => 0) hb hs (RelyW.refl _ _) (by subst hw; exact ⟨rfl, rfl, rfl, Nat.le_refl _⟩) rfl (leavers_one P g) (past_nil.mono (Nat.zero_le _))
end
end Go.Proofs.Ytindillghipjjaa

namespace Go.Proofs.Ytindillghipjjaa
open Go.Conc Go.RowKit
def idEnv : Env := ⟨fun b => b, fun _ => 0⟩
def startFt (w : World) : Foot := ⟨fun b => b < w.heap.size, fun _ => False⟩
def startFC (w : World) : Frm := ⟨fun b => w.heap[b]?, fun _ => False⟩

def Fine (n : Nat) (v : Value) : Prop := VOk n v ∧ one v = true ∧ ren idEnv v = v

open Classical in
noncomputable def clean (n : Nat) (v : Value) : Value := if Fine n v then v else unk

noncomputable def absO (n : Nat) : Obj → AObj
  | .cells c _ _ => .cells (c.toList.map (clean n)) false 0
  | _ => .dead

noncomputable def absH (w : World) : List AObj := w.heap.toList.map (absO w.heap.size)

section
variable {w w' : World} {n : Nat}
theorem clean_fine {v : Value} (h : Fine n v) : clean n v = v := by simp [clean, h]
theorem absH_len : (absH w).length = w.heap.size := by simp [absH]
theorem absH_get {b : Nat} : (absH w)[b]? = (w.heap[b]?).map (absO w.heap.size) := by simp [absH]

theorem absO_wrt (x : Obj) : (absO n x).wrt = false := by cases x <;> rfl

theorem start_rel (w : World) : HRel idEnv (absH w) (startFC w) w (startFt w) where
  obj := fun b o hb => by
    rw [absH_get] at hb
    obtain ⟨x, hx, rfl⟩ := Option.map_eq_some_iff.1 hb
    show ORel (absH w).length idEnv b (absO w.heap.size x) w.heap[b]?
    rw [absH_len, hx]
    cases x with
    | cells c ty fr =>
      refine ⟨fun i v hv => ?_, fun _ => by simp, fun hz => absurd rfl hz, fun e => by cases e⟩
      rw [List.getElem?_map] at hv
      obtain ⟨u, hu, rfl⟩ := Option.map_eq_some_iff.1 hv
      by_cases hf : Fine w.heap.size u
      · rw [clean_fine hf]
        exact .inr ⟨hf.1, hf.2.1, by rw [hf.2.2]; simpa using hu⟩
      · exact .inl ⟨by simp [clean, hf], rfl⟩
    | _ => trivial
  inj := fun b b' o o' _ _ _ _ e => e
  rd := fun b o hb _ => by
    have : b < (absH w).length := (List.getElem?_eq_some_iff.1 hb).1
    rw [absH_len] at this
    exact this
  wr := fun b o hb hw => by
    rw [absH_get] at hb
    obtain ⟨x, hx, rfl⟩ := Option.map_eq_some_iff.1 hb
    rw [absO_wrt] at hw
    cases hw
  lt := fun b hb => hb
  sub := fun b hb => hb.elim
  kept := fun b o hb => by
    refine ⟨hb, ?_, fun a oa ha hw => ?_⟩
    · exact (Array.getElem?_eq_some_iff.1 hb).1
    · rw [absH_get] at ha
      obtain ⟨x, hx, rfl⟩ := Option.map_eq_some_iff.1 ha
      rw [absO_wrt] at hw
      cases hw
  keptW := fun b hb => hb.elim

theorem absH_cell {b o : Nat} {v : Value} (hc : w.cell? ⟨b, o, none⟩ = some v) (hf : Fine w.heap.size v) : ∃ c, (absH w)[b]? = some (.cells c false 0) ∧ c[o]? = some v := by
  unfold World.cell? at hc
  simp only at hc
  split at hc
  · rename_i c ty fr hx
    refine ⟨c.toList.map (clean w.heap.size), by rw [absH_get, hx]; rfl, ?_⟩
    have hc' : c[o]? = some v := by simpa using hc
    rw [List.getElem?_map, Array.getElem?_toList, hc']
    simp [clean_fine hf]
  · cases hc

theorem below_of {ρ' : Env} {h' : List AObj} {ft' : Foot} (H : HRel ρ' h' (startFC w) w' ft') (B : Base w w') : Below w.heap.size w w' :=
  ⟨B.os, B.tape, B.output, B.size, fun k hk => by
    have : (startFC w).ob k = some w.heap[k] := by simp [startFC, hk]
    rw [(H.kept k _ this).1, Array.getElem?_eq_getElem hk]⟩
end
end Go.Proofs.Ytindillghipjjaa

namespace Go.Proofs.Ytindillghipjjaa
open Go.Conc Go.ChangeShapes Go.WideShapes Go.ChangeAt Go.RowKit Go.Proofs.Try
set_option maxRecDepth 100000
theorem own : ownKnob prog.godebug = none := by kernel_rfl
theorem laidOut : laidOutB prog = true := by kernel_rfl

def ArgOk (W : World) (v : Value) : Prop := VOk W.heap.size v ∧ ren idEnv v = v

theorem law_run1 {g : FuncId} {fn : Func} {c : Code} (hf : prog.funcs[g]? = some fn) (hb : fn.body = some c) (hin : prog.inits.idxOf? g = none) (W₀ : World) (args : List Value) (ha : args.length ≤ fn.ntmps) (hok : ∀ v ∈ args, ArgOk W₀ v)
    (walk : ∀ Post, W prog (J1 prog W₀ Post) fn.ntmps (absH W₀).length g c ⟨regs args, []⟩ (absH W₀) (RetQ prog fn.results.toList (absH W₀).length fun v _ => v = .bool true)) :
    Ends prog (fun v w' => v = .bool true ∧ Below W₀.heap.size W₀ w') (solo (G (Frame.enter prog g ⟨args⟩ .normal) []) W₀) #[] := by
  refine run_of_J1 (W0 := W₀) (ft := startFt W₀) (top_of_W mixed hf hb hin ha rfl (fun i => ?_) (start_rel W₀) (walk _) ?_) (fun b hb => hb) (fun b hb => hb.elim) rfl
  · show VRel (absH W₀).length idEnv (args.getD i unk) (args.getD i undef)
    simp only [List.getD_eq_getElem?_getD]
    cases hi : args[i]? with
    | none => exact .inl rfl
    | some v =>
      obtain ⟨h1, h2⟩ := hok v (List.mem_of_getElem? hi)
      exact .inr ⟨by rw [absH_len]; exact h1, h2.symm⟩
  · intro v h' ρ' w' ft' cv hv H' _ _ hcv hB
    subst hv
    refine ⟨?_, below_of H' hB⟩
    rcases hcv with e | ⟨_, e⟩
    · cases e
    · rw [e]
      rfl

section
variable {H : Type} {enc : TypeId × Value → H}
theorem arg_ints {t e : TypeId} (ht : prog.underlying t = some (.slice e)) (he : prog.underlying e = some (.int .i64)) (hc : prog.cellsOf e = 1) {W : World} {base : Nat} {v : Value} {d : DataW H} {ps : List MemPlace}
    (hval : Value.okWide prog W .any base t v) (hd : DataW.Trod enc prog W 0 (fun _ => true) true t v d ps) :
    ∃ zs : List Int, Sli (absH W) v 1 zs.length (zs.map vint) ∧ ArgOk W v ∧ (zs = [] ∨ ∃ es sp, d = .slice es sp ∧ zs.length ≤ es.length + sp.length) := by
  obtain ⟨a0, len, cap, rfl⟩ := okWide_slice ht hval
  obtain ⟨fuel, hf⟩ := hd
  rcases open_ints ht he hc hf with ⟨hcs, hx⟩ | ⟨a, len', cap', zs, hcs, _, hl, hm, hz, hx, hcell, hwz⟩
  · simp [Value.cells] at hcs
    obtain ⟨rfl, rfl, rfl⟩ := hcs
    exact ⟨[], sli_nil, ⟨by simp [VOk], by simp [ren]⟩, .inl rfl⟩
  · simp [Value.cells] at hcs
    obtain ⟨rfl, rfl, rfl⟩ := hcs
    simp only [Prod.mk.injEq] at hx
    obtain ⟨rfl, rfl⟩ := hx
    simp only [if_true] at hz
    simp only [Value.okWide, ht, Cell.okWide, Cell.ok, World.has] at hval
    obtain ⟨_, _, _, hspot, row, cells, hshape, _⟩ := hval
    obtain ⟨b, o, spot⟩ := a
    simp only at hspot hshape
    subst hspot
    have hb : b < W.heap.size := by
      unfold World.shape? at hshape
      split at hshape
      · rename_i h
        exact (Array.getElem?_eq_some_iff.1 h).1
      · cases hshape
    have hlen : (zs.take len).length = len := by simp; omega
    have hcell' : ∀ i, i < zs.length → W.cell? ⟨b, o + i, none⟩ = some (vint (zs.getD i 0)) := by
      intro i hi
      have := hcell i hi
      unfold Addr.add at this
      by_cases h0 : i = 0
      · subst h0; simpa using this
      · simpa [h0] using this
    have hmax : cap < fz := by
      simp only [maxLen] at hm
      unfold fz
      omega
    refine ⟨zs.take len, ?_, ⟨by simp only [VOk, AddrOk]; exact ⟨hb, trivial⟩, ?_⟩, .inr ⟨_, _, rfl, ?_⟩⟩
    · refine ⟨some ⟨b, o, none⟩, cap, by rw [hlen], ⟨by simp, kn_ints _⟩, .inr ⟨b, o, rfl, ?_⟩⟩
      rw [hlen]
      by_cases h0 : len = 0
      · exact .inl h0
      · right
        have fine : ∀ n : Int, Fine W.heap.size (vint n) := fun n => ⟨by simp [VOk], rfl, by simp [ren]⟩
        obtain ⟨c, hc1, hc2⟩ := absH_cell (hcell' 0 (by omega)) (fine _)
        refine ⟨c, false, 0, hc1, ?_⟩
        apply List.ext_getElem?
        intro i
        rw [Nat.mul_one]
        by_cases hi : i < len
        · obtain ⟨c', hc1', hc2'⟩ := absH_cell (hcell' i (by omega)) (fine _)
          rw [hc1] at hc1'
          cases hc1'
          rw [List.getElem?_take, if_pos hi, List.getElem?_drop, hc2']
          have hzi : i < zs.length := by omega
          simp [hi, hzi]
        · rw [List.getElem?_take, if_neg hi, List.getElem?_eq_none (by simp; omega)]
    · have hnf : ¬ fz ≤ cap := by omega
      simp [ren, renAddr, renCap, idEnv, hnf]
    · simp only [lits, List.length_map, List.length_take, List.length_drop]
      omega
end
end Go.Proofs.Ytindillghipjjaa

namespace Go.Proofs.Ytindillghipjjaa
open Go.Conc Go.ChangeShapes Go.WideShapes Go.ChangeAt Go.RowKit Go.Proofs.Try
set_option maxRecDepth 100000
theorem lifted11 (os : Os) (started : os.Started) (H : Type) (enc : TypeId × Value → H) :
    ReturnsInLeavingWide {} checked os 11 .any (Rows.wellFairSpec.pre6 enc prog f11 Rows.wellFairRow.domain false) (Rows.wellFairSpec.post enc prog f11 false true false false) := by
  refine returnsInLeavingWide_of_change_sized (C := checked) own started at11
    (ChangeSpec.witness6 (enc := enc) (C := checked) false ⟨#[], #[.slice none 0 0], []⟩ 8 (by kernel_rfl) (by kernel_rfl) (by kernel_rfl) (by kernel_rfl)) ?_
  intro W base args ds gs before hval0 hW _ hsz0 _
  have hsz : (DataW.weightsEach prog (f11.params.toList ++ Rows.wellFairSpec.plain.varTypes prog) (ds ++ gs)).all (· ≤ reachBytes) = true := hsz0
  clear hsz0
  have hval : ∀ (j : Nat) t v, f11.params[j]? = some t → args[j]? = some v → Value.okWide prog W .any base t v := hval0
  have hW' := hW
  obtain ⟨p, q, hA0, hV, rfl, _, _⟩ := hW
  have hA : DataW.TrodAll enc prog W 0 (fun _ => true) true f11.params.toList args.toList ds p := hA0
  have hps : f11.params = #[27] := by kernel_rfl
  rw [hps] at hA hval hsz
  obtain ⟨v0, d0, rfl, rfl, h0⟩ := trodAll_one hA
  obtain ⟨rfl, rfl⟩ := trodVars_none hV
  have u3 : prog.underlying 3 = some (.int .i64) := by kernel_rfl
  have u27 : prog.underlying 27 = some (.slice 3) := by kernel_rfl
  have u4 : prog.underlying 4 = some .bool := by kernel_rfl
  have c3 : prog.cellsOf 3 = 1 := by kernel_rfl
  have b3 : prog.bytesOf 3 = 8 := by kernel_rfl
  have hlt : ∀ x ∈ p, x.block < W.heap.size := fun x hx => by simpa using hW'.lt x (by simpa using hx)
  have hargs : ∀ (W' : World), Below W.heap.size W W' → DataW.TrodAll enc prog W' 0 (fun b => decide (b < W.heap.size)) true [27] [v0] [d0] p := fun W' hn =>
    trodAll_mk1 (Below.trod laidOut (by kernel_rfl) (of_decide_eq_true (by kernel_rfl)) h0 hn hlt)
  obtain ⟨ns, sn, ok2, hbig⟩ := arg_ints u27 u3 c3 (hval 0 27 v0 rfl rfl) h0
  have hln : ns.length < 4611686018427387904 := by
    rcases hbig with rfl | ⟨es, sp, rfl, hle⟩
    · simp
    · have := sized_slice hsz (j := 0) (t := 27) (e := 3) rfl rfl u27
      rw [b3] at this
      simp only [reachBytes] at this
      omega
  obtain ⟨M, last, o, w', t', r1, r2, r3, r4⟩ := law_run1 (g := 11) (fn := f11) at11 body11 (by kernel_rfl) W [v0] (Nat.le_of_ble_eq_true (by kernel_rfl : Nat.ble 1 f11.ntmps = true))
    (by
      intro v hv
      simp only [List.mem_cons, List.not_mem_nil, or_false] at hv
      subst hv
      exact ok2)
    (fun Post => walk11 (K := fun v _ => v = .bool true) sn hln fun _ => rfl)
  refine ⟨M, last, o, w', t', r1, r2, r3, r4.mono fun v hF => ?_⟩
  obtain ⟨rfl, hbelow⟩ := hF
  refine ⟨_, _, _, [], _, [], hW', ?_, hargs _ hbelow, by rfl, hbelow.frame _, fun h => by cases h⟩
  exact trodAll_mk1 (shut_bool u4 true)

theorem wellFair_holds : Rows.WellFairSaid :=
  OpenClaim.holds_of_wide_leaving 11 f11 rfl rfl rfl rfl rfl rfl rfl ⟨rfl, rfl, rfl, rfl, rfl⟩ rfl rfl rfl rfl rfl (by kernel_rfl) at11 (by kernel_rfl)
    (of_decide_eq_true (by kernel_rfl)) (by unfold Func.isWrapper; first | (rw [if_pos (by decide +kernel)]; kernel_rfl) | (rw [if_neg (by decide +kernel)]; exact ⟨rfl, rfl⟩))
    (fun os started H enc _ => lifted11 os started H enc)

#print axioms wellFair_holds
end Go.Proofs.Ytindillghipjjaa
