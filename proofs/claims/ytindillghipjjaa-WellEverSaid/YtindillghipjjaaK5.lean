/- WellEver answers true at every input, and its argument reads behind the call as it read before. No conditions. -/
import Derived.Test.YtindillghipjjaaK2
import Derived.Test.YtindillghipjjaaK4
import Derived.Test.YtindillghipjjaaK3
import Derived.Below
import Derived.Test.YtindillghipjjaaRows
import Derived.Conc.LeavingOf
import Derived.ChangeSlices
import Derived.OpenShut
import Derived.Carry

namespace Go.Proofs.Ytindillghipjjaa
open Go.Conc Go.Proofs.Try
set_option maxRecDepth 100000
set_option maxHeartbeats 4000000
set_option linter.unusedVariables false
section
variable {main : Bool} {J : JT} {n0 : Nat} {h : List AObj} {K : Value → List AObj → Prop}
theorem at131 : prog.funcs[131]? = some f131 := by kernel_rfl
theorem body131 : f131.body = some (codeOf f131) := by kernel_rfl
def pl131 : Plans := [(4, true, .take 0 (.take 1 (.take 2 (.take 3 (.take 4 (.take 5 (.take 6 (.take 7 (.fin)))))))))]
def ct131 : Cuts := .bin (.go) (.bin (.go) (.un (.un (.bin (.un (.bin (.go) (.bin (.go) (.cut (.go))))) (.go)))))
theorem pok131 : plansOk prog pl131 (codeOf f131) = true := by kernel_rfl
theorem e131 {a0 a1 a2 : Value} : W prog J 55 h.length 131 (codeOf f131) (RG.mk (regs [a0, a1, a2]) []) h (RetQ prog [] h.length K) =
(aOff a1 0 fun v1 =>
aLoad true 3 v1 h fun v2 =>
aFill [(vint 0), (vint 0), (vint 0)] [(0, 3, v2)] fun c3 =>
aAlloc [(vint 0), (vint 0), (vint 0)] h fun v4 h5 =>
aStore 3 v4 (Value.agg ⟨c3⟩) h5 fun h6 =>
Sem J 55 h.length 131 (subC [1, 1, 0] (codeOf f131)) (RG.put (RG.put (RG.put (RG.put (RG.put (RG.put (RG.put (RG.mk (regs [a0, a1, a2]) []) 11 v1) 12 v2) 13 (Value.agg ⟨c3⟩)) 4 v4) 5 (Value.func (.func 82) #[] #[])) 6 (Value.func (.func 79) #[] #[])) 7 (vint 0)) h6 (contX pl131 prog J 55 h.length 131 ct131 [1, 1, 0] (codeOf f131) [] (RetQ prog [] h.length K))) := top_eq pok131 ct131 (by kernel_rfl)
theorem g131 (hJ : Closed prog main J) {a0 a1 a2 : Value} (hs : heapOk h → W prog J 55 h.length 131 (codeOf f131) (RG.mk (regs [a0, a1, a2]) []) h (RetQ prog [] h.length K)) : Good prog J 131 [a0, a1, a2] h K :=
  good_of_W hJ mixed at131 body131 (by kernel_rfl) (Nat.le_of_ble_eq_true rfl) hs
theorem s131_1 {f : RG} {nx0 : RG → List AObj → Prop} : W prog J 55 n0 131 (subC [1, 1, 0, 0] (codeOf f131)) f h (thenK nx0 (contX pl131 prog J 55 n0 131 ct131 [1, 1, 0] (codeOf f131) [] (RetQ prog [] n0 K))) =
(aLoad false 1 (f.r 2) h fun v1 =>
aLoad false 1 (f.r 2) h fun v2 =>
aLenS v2 fun v3 =>
aBin prog .rem 3 (f.r 7) v3 fun v4 =>
aIdx 1 v1 v4 fun v5 =>
aLoad false 1 v5 h fun v6 =>
aBin prog .geq 3 v6 (vint 0) fun v7 =>
cnd v7
(aOff (f.r 1) 3 fun v8 =>
aLoad false 1 v8 h fun v9 =>
aIdx 2 v9 v6 fun v10 =>
aOff v10 0 fun v11 =>
aLoad false 1 v11 h fun v12 =>
Hold (W prog J 55 n0 131 (subC [1, 1, 0, 0, 0, 0, 1, 1] (codeOf f131)) (RG.put (RG.put (RG.put (RG.put (RG.put (RG.put (RG.put (RG.put (RG.put (RG.put (RG.put (RG.put (RG.put (RG.put (RG.put (RG.put (RG.put (RG.put f 8 (vint 0)) 16 v1) 17 (f.r 7)) 18 v2) 19 v3) 20 v4) 21 v5) 22 v6) 9 v6) 23 v6) 24 v7) 25 v8) 26 v9) 27 v6) 28 v10) 29 v11) 30 v12) 8 v12) h (contX pl131 prog J 55 n0 131 ct131 [1, 1, 0, 0, 0, 0, 1, 1] (codeOf f131) [nx0] (RetQ prog [] n0 K))))
(Hold (W prog J 55 n0 131 (subC [1, 1, 0, 0, 0, 0, 1, 1] (codeOf f131)) (RG.put (RG.put (RG.put (RG.put (RG.put (RG.put (RG.put (RG.put (RG.put (RG.put (RG.put f 8 (vint 0)) 16 v1) 17 (f.r 7)) 18 v2) 19 v3) 20 v4) 21 v5) 22 v6) 9 v6) 23 v6) 24 v7) h (contX pl131 prog J 55 n0 131 ct131 [1, 1, 0, 0, 0, 0, 1, 1] (codeOf f131) [nx0] (RetQ prog [] n0 K))))) := sub_eq pok131 ct131 (by kernel_rfl)
theorem l131_1 (hJ : Closed prog main J) {S : Type} (μ : S → Nat) (I : S → RG → List AObj → Prop) (hI : ∀ s f h, I s f h → heapOk h → n0 ≤ h.length → W prog J 55 n0 131 (subC [1, 1, 0, 0] (codeOf f131)) f h (thenK (Nx n0 μ I s) (contX pl131 prog J 55 n0 131 ct131 [1, 1, 0] (codeOf f131) [] (RetQ prog [] n0 K))))
  {s : S} {f : RG} (hi : Gets n0 I s f h) : Sem J 55 n0 131 (subC [1, 1, 0] (codeOf f131)) f h (contX pl131 prog J 55 n0 131 ct131 [1, 1, 0] (codeOf f131) [] (RetQ prog [] n0 K)) :=
  loop_rule hJ mixed (b := subC [1, 1, 0, 0] (codeOf f131)) (by kernel_rfl) μ I hI hi
theorem s131_2 {f : RG} {nx0 : RG → List AObj → Prop} : W prog J 55 n0 131 (subC [1, 1, 0, 0, 0, 0, 1, 1] (codeOf f131)) f h (contX pl131 prog J 55 n0 131 ct131 [1, 1, 0, 0, 0, 0, 1, 1] (codeOf f131) [nx0] (RetQ prog [] n0 K)) =
(aOff (f.r 4) 0 fun v1 =>
aOff v1 0 fun v2 =>
aLoad false 1 v2 h fun v3 =>
aFill [(vint 0), (vint 0), (Value.bool false)] [(0, 1, v3)] fun c4 =>
aAlloc [(vint 0), (vint 0), (Value.bool false)] h fun v5 h6 =>
aStore 3 v5 (Value.agg ⟨c4⟩) h6 fun h7 =>
aLoad true 3 (f.r 4) h7 fun v8 =>
callV prog (Good prog J) (f.r 5) [v8, (f.r 8)] h7 fun v9 h10 =>
aExt v9 0 fun v11 =>
aExt v9 1 fun v12 =>
aStore 3 (f.r 4) v11 h10 fun h13 =>
aOff v5 2 fun v14 =>
aStore 1 v14 v12 h13 fun h15 =>
aLoad true 3 (f.r 4) h15 fun v16 =>
callV prog (Good prog J) (f.r 6) [v16] h15 fun v17 h18 =>
aStore 3 (f.r 4) v17 h18 fun h19 =>
aOff (f.r 4) 0 fun v20 =>
aOff v20 0 fun v21 =>
aLoad false 1 v21 h19 fun v22 =>
aOff v5 1 fun v23 =>
aStore 1 v23 v22 h19 fun h24 =>
aLoad true 3 v5 h24 fun v25 =>
callV prog (Good prog J) (f.r 0) [(f.r 7), v25] h24 fun v26 h27 =>
aUn .not v26 fun v28 =>
cnd v28
(retL n0 K f.ds [] h27)
(aBin prog .add 3 (f.r 7) (vint 1) fun v29 =>
nx0 (RG.put (RG.put (RG.put (RG.put (RG.put (RG.put (RG.put (RG.put (RG.put (RG.put (RG.put (RG.put (RG.put (RG.put (RG.put (RG.put (RG.put (RG.put (RG.put (RG.put (RG.put (RG.put (RG.put (RG.put (RG.put (RG.put (RG.put (RG.put f 31 v1) 32 v2) 33 v3) 34 (Value.agg ⟨c4⟩)) 10 v5) 36 (f.r 5)) 37 v8) 38 (f.r 8)) 39 v9) 35 v9) 40 v11) 41 v12) 42 v14) 43 (f.r 6)) 44 v16) 45 v17) 46 v20) 47 v21) 48 v22) 49 v23) 50 (f.r 0)) 51 (f.r 7)) 52 v25) 53 v26) 54 v28) 14 (f.r 7)) 15 v29) 7 v29) h27)) := sub_eq pok131 ct131 (by kernel_rfl)
theorem at93 : prog.funcs[93]? = some f93 := by kernel_rfl
theorem body93 : f93.body = some (codeOf f93) := by kernel_rfl
def pl93 : Plans := []
def ct93 : Cuts := .go
theorem pok93 : plansOk prog pl93 (codeOf f93) = true := by kernel_rfl
theorem e93 {a0 a1 a2 : Value} : W prog J 11 h.length 93 (codeOf f93) (RG.mk (regs [a0, a1, a2]) []) h (RetQ prog [] h.length K) =
(aBox a1 h fun v1 h2 =>
aOff v1 2 fun v3 =>
aLoad false 1 v3 h2 fun v4 =>
cnd v4
(aLoad false 1 a2 h2 fun v5 =>
(((1 * 1 : Nat) ≤ 16777216 ∧ (1 : Nat) ≤ 16777216 ∧ List.length [(vint 0)] = 1) ∧ aFill (zrep [(vint 0)] 1) [(0, 1, a0)] fun c6 =>
aNewS 1 c6 h2 fun v7 h8 =>
((List.length [(vint 0)] = 1 ∧ 0 < (1 : Nat) ∧ 0 < (8 : Nat) ∧ (8 : Nat) ≤ 1024) ∧ aApp 1 v5 v7 h8 fun v9 h10 =>
aStore 1 a2 v9 h10 fun h11 =>
retL h.length K [] [] h11)))
(retL h.length K [] [] h2)) := top_eq pok93 ct93 (by kernel_rfl)
theorem g93 (hJ : Closed prog main J) {a0 a1 a2 : Value} (hs : heapOk h → W prog J 11 h.length 93 (codeOf f93) (RG.mk (regs [a0, a1, a2]) []) h (RetQ prog [] h.length K)) : Good prog J 93 [a0, a1, a2] h K :=
  good_of_W hJ mixed at93 body93 (by kernel_rfl) (Nat.le_of_ble_eq_true rfl) hs
theorem at46 : prog.funcs[46]? = some f46 := by kernel_rfl
theorem body46 : f46.body = some (codeOf f46) := by kernel_rfl
def pl46 : Plans := []
def ct46 : Cuts := .go
theorem pok46 : plansOk prog pl46 (codeOf f46) = true := by kernel_rfl
theorem e46 {a0 a1 a2 : Value} : W prog J 25 h.length 46 (codeOf f46) (RG.mk (regs [a0, a1, a2]) []) h (RetQ prog [.tmp 6, .tmp 7] h.length K) =
(aBox a0 h fun v1 h2 =>
aLoad true 4 v1 h2 fun v3 =>
Good prog J 86 [v3, a1] h2 fun v4 h5 =>
aBin prog .neq 39 v4 (vint 0) fun v6 =>
cnd v6
(retL h.length K [] [(Value.slice none 0 0), v4] h5)
(Good prog J 71 [a2, (vint 1), (vint 48)] h5 fun v7 h8 =>
aUn .not v7 fun v9 =>
cnd v9
(retL h.length K [] [(Value.slice none 0 0), (vint 1)] h8)
(aAlloc [(Value.slice none 0 0)] h8 fun v10 h11 =>
aLoad true 4 v1 h11 fun v12 =>
aMkF 93 [] [v10] fun v13 =>
Good prog J 87 [v12, a1, a2, v13] h11 fun v14 h15 =>
aLoad false 1 v10 h15 fun v16 =>
retL h.length K [] [v16, (vint 0)] h15))) := top_eq pok46 ct46 (by kernel_rfl)
theorem g46 (hJ : Closed prog main J) {a0 a1 a2 : Value} (hs : heapOk h → W prog J 25 h.length 46 (codeOf f46) (RG.mk (regs [a0, a1, a2]) []) h (RetQ prog [.tmp 6, .tmp 7] h.length K)) : Good prog J 46 [a0, a1, a2] h K :=
  good_of_W hJ mixed at46 body46 (by kernel_rfl) (Nat.le_of_ble_eq_true rfl) hs
end
end Go.Proofs.Ytindillghipjjaa

namespace Go.Proofs.Ytindillghipjjaa
open Go.Conc Go.Proofs.Try
set_option maxRecDepth 100000
def rotaE (t : Tro) (rota : List Int) : Int := if troE t ≠ 0 then troE t else if fewE rota.length 1 5 ≠ 0 then fewE rota.length 1 5 else if ∀ r ∈ rota, -1 ≤ r ∧ r ≤ (t.flocks.length : Int) - 1 then 0 else 3

section
variable {main : Bool} {J : JT} {h : List AObj} {K : Value → List AObj → Prop}
theorem good86 (hJ : Closed prog main J) {v fv rv : Value} {t : Tro} {rota : List Int} (ht : TroAt h v t fv) (hr : Sli h rv 1 rota.length (rota.map vint)) (hl : t.flocks.length ≤ 1000000) (hK : K (vint (rotaE t rota)) h) : Good prog J 86 [v, rv] h K := by
  refine g86 hJ fun ok => ?_
  rw [e86, ht.val]
  refine qBox (tro_one ht) fun H1 p2 e1 S1 c1 l1 => ?_
  have t1 : TroAt H1 (.agg ⟨troCells t fv⟩) t fv := ⟨rfl, S1.sli ht.fl (by simp)⟩
  have kf := (sli_val ht.fl).2.2
  have r1 : Sli H1 rv 1 rota.length (rota.map vint) := S1.sli hr (by simp)
  have fin : ∀ (e : Int) (n0 : Nat), n0 = h.length → rotaE t rota = e → retL n0 K [] [vint e] H1 := fun e n0 hn he => by
    subst he hn
    exact retX ok (Nat.le_refl _) S1 (by simp) (by simp [unk]) (by simp [pack, VOk]) hK
  refine load_part (c := troCells t fv) c1 (by simp [troCells]) rfl (by simp [kn, troCells, kf]; exact ⟨rfl, rfl, rfl⟩) (good48 hJ t1 ?_)
  refine neqI (cndI (fun g1 => fin _ _ rfl (by unfold rotaE; rw [if_pos g1])) fun g1 => ?_)
  refine lenI r1 (good70 hJ (neqI (cndI (fun g2 => fin _ _ rfl (by unfold rotaE; rw [if_neg g1, if_pos g2])) fun g2 => lenI r1 ?_)))
  have hlen : rota.length ≤ 5 := by
    have g2 : fewE rota.length 1 5 = 0 := by omega
    unfold fewE at g2
    split at g2
    · cases g2
    · split at g2
      · cases g2
      · omega
  refine l86_1 hJ (fun i : Nat => rota.length - i) (fun i f H => H1 = H ∧ i ≤ rota.length ∧ (∀ r ∈ rota.take i, -1 ≤ r ∧ r ≤ (t.flocks.length : Int) - 1) ∧ f.ds = [] ∧ f.r 2 = ptr p2 0 ∧ f.r 20 = rv ∧ f.r 21 = vint (rota.length : Nat) ∧ f.r 22 = vint (i : Nat)) ?_ (s := 0)
    (.inl ⟨rfl, by omega, by simp, rfl, rfl, rfl, rfl, rfl⟩)
  rintro i f H ⟨e, hi, hd, ds, r2, r20, r21, r22⟩ _ _
  subst e
  rw [s86_1, ds, r2, r20, r21, r22]
  refine lssI (cndI (fun g => ?_) fun g => fin 0 _ rfl ?_)
  · have hil : i < rota.length := by omega
    have hx := List.getElem?_eq_getElem hil
    refine sli_num' r1 hx fun q => offI (ldI (v := fv) c1 rfl kf (lenI t1.fl (subI (by omega) (good71 hJ (notI (cndN (fun g3 => fin 3 _ rfl ?_) fun g3 => addI (by omega) ?_))))))
    · unfold rotaE
      rw [if_neg g1, if_neg g2, if_neg fun y => g3 (y _ (List.getElem_mem hil))]
    · refine ⟨i + 1, by show rota.length - (i + 1) < rota.length - i; omega, .inl ⟨rfl, by omega, ?_, ds, r2, r20, r21, ?_⟩⟩
      · intro c hcm
        rw [List.take_add_one, hx] at hcm
        rcases List.mem_append.1 hcm with y | y
        · exact hd c y
        · simp at y
          subst y
          exact g3
      · show vint _ = vint _
        congr 1
  · have hin : i = rota.length := by omega
    subst hin
    rw [List.take_length] at hd
    unfold rotaE
    rw [if_neg g1, if_neg g2, if_pos hd]
end
end Go.Proofs.Ytindillghipjjaa

namespace Go.Proofs.Ytindillghipjjaa
open Go.Conc Go.Proofs.Try
set_option maxRecDepth 100000
set_option maxHeartbeats 4000000
set_option linter.unusedVariables false
section
variable {main : Bool} {J : JT} {n0 : Nat} {h : List AObj} {K : Value → List AObj → Prop}
theorem at30 : prog.funcs[30]? = some f30 := by kernel_rfl
theorem body30 : f30.body = some (codeOf f30) := by kernel_rfl
def pl30 : Plans := [(2, false, .take 0 (.take 1 (.take 2 (.take 3 (.take 4 (.take 5 (.take 9 (.take 10 (.last 6 true (.last 7 true (.last 8 true (.take 14 (.last 11 true (.last 12 true (.last 13 true (.last 15 false (.take 16 (.last 17 false (.fin)))))))))))))))))))]
def ct30 : Cuts := .go
theorem pok30 : plansOk prog pl30 (codeOf f30) = true := by kernel_rfl
theorem e30 {a0 a1 : Value} : W prog J 29 h.length 30 (codeOf f30) (RG.mk (regs [a0, a1]) []) h (RetQ prog [.cell 4 23] h.length K) =
(aAlloc [(vint 0), (vint 0), (vint 0)] h fun v1 h2 =>
aMin a1 [(vint 40)] fun v3 =>
aMax (vint 2) [v3] fun v4 =>
Good prog J 33 [a0, (vint 2), v4] h2 fun v5 h6 =>
aFill [(vint 0), (vint 0), (vint 0)] [(1, 1, v5)] fun c7 =>
aAlloc [(vint 0), (vint 0), (vint 0)] h6 fun v8 h9 =>
aStore 3 v8 (Value.agg ⟨c7⟩) h9 fun h10 =>
(∃ B, aOff v8 1 fun v11 =>
aLoad false 1 v11 h10 fun v12 =>
RdOk (some B) (ptrBlk v11) ∧ (aOff v8 1 fun v13 =>
aLoad false 1 v13 h10 fun v14 =>
RdOk (some B) (ptrBlk v13) ∧ (Good prog J 23 [a0, v14] h10 fun v15 h16 =>
SameB (some B) h10 h16 ∧ ((((1 * 1 : Nat) ≤ 16777216 ∧ (1 : Nat) ≤ 16777216 ∧ List.length [(vint 0)] = 1) ∧ aFill (zrep [(vint 0)] 1) [(0, 1, v15)] fun c17 =>
aNewS 1 c17 h16 fun v18 h19 =>
SameB (some B) h10 h19 ∧ (Good prog J 22 [a0, v12, v18] h19 fun v20 h21 =>
SameB (some B) h10 h21 ∧ (aOff v8 0 fun v22 =>
Good prog J 23 [a0, (vint 6)] h21 fun v23 h24 =>
SameB (some B) h10 h24 ∧ ((((3 * 1 : Nat) ≤ 16777216 ∧ (3 : Nat) ≤ 16777216 ∧ List.length [(vint 0)] = 1) ∧ aFill (zrep [(vint 0)] 3) [(0, 1, (vint 2)), (1, 1, (vint 3)), (2, 1, v23)] fun c25 =>
aNewS 3 c25 h24 fun v26 h27 =>
SameB (some B) h10 h27 ∧ (Good prog J 22 [a0, (vint 1), v26] h27 fun v28 h29 =>
SameB (some B) h10 h29 ∧ (aStore 1 v22 v20 h29 fun h30 =>
aOff v8 2 fun v31 =>
aStore 1 v31 v28 h30 fun h32 =>
aLoad true 3 v8 h32 fun v33 =>
aStore 3 v1 v33 h32 fun h34 =>
RetQ prog [.cell 4 23] h.length K .ret (RG.put (RG.put (RG.put (RG.put (RG.put (RG.put (RG.put (RG.put (RG.put (RG.put (RG.put (RG.put (RG.put (RG.put (RG.put (RG.put (RG.put (RG.put (RG.put (RG.put (RG.put (RG.put (RG.put (RG.put (RG.put (RG.mk (regs [a0, a1]) []) 4 v1) 6 a0) 7 a1) 8 v3) 9 v4) 10 v5) 11 (Value.agg ⟨c7⟩)) 5 v8) 12 a0) 13 v11) 14 v12) 15 a0) 16 v13) 17 v14) 21 a0) 22 a0) 18 v15) 19 v18) 20 v20) 26 v22) 23 v23) 24 v26) 25 v28) 27 v31) 28 v33) h34)))))))))))) := top_eq pok30 ct30 (by kernel_rfl)
theorem g30 (hJ : Closed prog main J) {a0 a1 : Value} (hs : heapOk h → W prog J 29 h.length 30 (codeOf f30) (RG.mk (regs [a0, a1]) []) h (RetQ prog [.cell 4 23] h.length K)) : Good prog J 30 [a0, a1] h K :=
  good_of_W hJ mixed at30 body30 (by kernel_rfl) (Nat.le_of_ble_eq_true rfl) hs
theorem at21 : prog.funcs[21]? = some f21 := by kernel_rfl
theorem body21 : f21.body = some (codeOf f21) := by kernel_rfl
def pl21 : Plans := [(5, false, .take 0 (.take 1 (.take 2 (.take 3 (.take 4 (.take 5 (.take 6 (.take 7 (.take 8 (.take 10 (.take 11 (.take 12 (.take 13 (.take 17 (.last 9 true (.last 14 true (.last 15 true (.last 16 true (.last 18 true (.take 19 (.last 20 true (.last 21 true (.take 22 (.last 23 false (.fin)))))))))))))))))))))))))]
def ct21 : Cuts := .go
theorem pok21 : plansOk prog pl21 (codeOf f21) = true := by kernel_rfl
theorem e21 {a0 a1 a2 : Value} : W prog J 45 h.length 21 (codeOf f21) (RG.mk (regs [a0, a1, a2]) []) h (RetQ prog [.cell 6 26] h.length K) =
(aAlloc [(vint 0), (vint 0), (vint 0), (Value.slice none 0 0)] h fun v1 h2 =>
Good prog J 30 [a0, a2] h2 fun v3 h4 =>
aFill [(vint 0), (vint 0), (vint 0), (Value.slice none 0 0)] [(0, 3, v3)] fun c5 =>
aAlloc [(vint 0), (vint 0), (vint 0), (Value.slice none 0 0)] h4 fun v6 h7 =>
aStore 4 v6 (Value.agg ⟨c5⟩) h7 fun h8 =>
aMin a1 [(vint 3)] fun v9 =>
Good prog J 33 [a0, (vint 1), v9] h8 fun v10 h11 =>
Sem J 45 h.length 21 (subC [1, 1, 0, 1, 0] (codeOf f21)) (RG.put (RG.put (RG.put (RG.put (RG.put (RG.put (RG.put (RG.put (RG.put (RG.put (RG.put (RG.mk (regs [a0, a1, a2]) []) 6 v1) 9 a0) 10 a2) 11 v3) 12 (Value.agg ⟨c5⟩)) 7 v6) 13 a0) 14 a1) 15 v9) 16 v10) 8 v10) h11 (contX pl21 prog J 45 h.length 21 ct21 [1, 1, 0, 1, 0] (codeOf f21) [] (RetQ prog [.cell 6 26] h.length K))) := top_eq pok21 ct21 (by kernel_rfl)
theorem g21 (hJ : Closed prog main J) {a0 a1 a2 : Value} (hs : heapOk h → W prog J 45 h.length 21 (codeOf f21) (RG.mk (regs [a0, a1, a2]) []) h (RetQ prog [.cell 6 26] h.length K)) : Good prog J 21 [a0, a1, a2] h K :=
  good_of_W hJ mixed at21 body21 (by kernel_rfl) (Nat.le_of_ble_eq_true rfl) hs
theorem s21_1 {f : RG} {nx0 : RG → List AObj → Prop} : W prog J 45 n0 21 (subC [1, 1, 0, 1, 0, 0] (codeOf f21)) f h (thenK nx0 (contX pl21 prog J 45 n0 21 ct21 [1, 1, 0, 1, 0] (codeOf f21) [] (RetQ prog [.cell 6 26] n0 K))) =
(aBin prog .gtr 3 (f.r 8) (vint 0) fun v1 =>
cnd v1
((∃ B, aOff (f.r 7) 3 fun v2 =>
aLoad false 1 v2 h fun v3 =>
RdOk (some B) (ptrBlk v2) ∧ (aOff (f.r 7) 0 fun v4 =>
aOff v4 1 fun v5 =>
aLoad false 1 v5 h fun v6 =>
RdOk (some B) (ptrBlk v5) ∧ (aBin prog .quo 3 v6 (vint 2) fun v7 =>
aMax (vint 1) [v7] fun v8 =>
aOff (f.r 7) 0 fun v9 =>
aOff v9 1 fun v10 =>
aLoad false 1 v10 h fun v11 =>
RdOk (some B) (ptrBlk v10) ∧ (Good prog J 33 [(f.r 0), (vint 1), v8] h fun v12 h13 =>
SameB (some B) h h13 ∧ (Good prog J 33 [(f.r 0), (vint 1), v11] h13 fun v14 h15 =>
SameB (some B) h h15 ∧ ((((3 * 1 : Nat) ≤ 16777216 ∧ (3 : Nat) ≤ 16777216 ∧ List.length [(vint 0)] = 1) ∧ aFill (zrep [(vint 0)] 3) [(0, 1, (vint 2)), (1, 1, v12), (2, 1, v14)] fun c16 =>
aNewS 3 c16 h15 fun v17 h18 =>
SameB (some B) h h18 ∧ (Good prog J 22 [(f.r 0), (vint 1), v17] h18 fun v19 h20 =>
SameB (some B) h h20 ∧ (Good prog J 33 [(f.r 0), (vint 1), (vint 6)] h20 fun v21 h22 =>
SameB (some B) h h22 ∧ (aFill [(vint 0), (vint 0)] [(0, 1, v19), (1, 1, v21)] fun c23 =>
(((1 * 2 : Nat) ≤ 16777216 ∧ (1 : Nat) ≤ 16777216 ∧ List.length [(vint 0), (vint 0)] = 2) ∧ aFill (zrep [(vint 0), (vint 0)] 1) [(0, 2, (Value.agg ⟨c23⟩))] fun c24 =>
aNewS 1 c24 h22 fun v25 h26 =>
SameB (some B) h h26 ∧ (((List.length [(vint 0), (vint 0)] = 2 ∧ 0 < (2 : Nat) ∧ 0 < (16 : Nat) ∧ (16 : Nat) ≤ 1024) ∧ aApp 2 v3 v25 h26 fun v27 h28 =>
SameB (some B) h h28 ∧ (aOff (f.r 7) 3 fun v29 =>
aStore 1 v29 v27 h28 fun h30 =>
aBin prog .sub 3 (f.r 8) (vint 1) fun v31 =>
nx0 (RG.put (RG.put (RG.put (RG.put (RG.put (RG.put (RG.put (RG.put (RG.put (RG.put (RG.put (RG.put (RG.put (RG.put (RG.put (RG.put (RG.put (RG.put (RG.put (RG.put (RG.put (RG.put (RG.put (RG.put (RG.put (RG.put (RG.put (RG.put f 17 (f.r 8)) 18 v1) 21 v2) 22 v3) 23 (f.r 0)) 24 (f.r 0)) 25 v4) 26 v5) 27 v6) 28 v7) 29 v8) 31 (f.r 0)) 32 v9) 33 v10) 34 v11) 38 (f.r 0)) 30 v12) 35 v14) 36 v17) 37 v19) 39 v21) 40 (Value.agg ⟨c23⟩)) 41 v25) 42 v27) 43 v29) 19 (f.r 8)) 20 v31) 8 v31) h30)))))))))))))))
(aLoad true 4 (f.r 7) h fun v32 =>
aStore 4 (f.r 6) v32 h fun h33 =>
RetQ prog [.cell 6 26] n0 K .ret (RG.put (RG.put (RG.put f 17 (f.r 8)) 18 v1) 44 v32) h33)) := sub_eq pok21 ct21 (by kernel_rfl)
theorem l21_1 (hJ : Closed prog main J) {S : Type} (μ : S → Nat) (I : S → RG → List AObj → Prop) (hI : ∀ s f h, I s f h → heapOk h → n0 ≤ h.length → W prog J 45 n0 21 (subC [1, 1, 0, 1, 0, 0] (codeOf f21)) f h (thenK (Nx n0 μ I s) (contX pl21 prog J 45 n0 21 ct21 [1, 1, 0, 1, 0] (codeOf f21) [] (RetQ prog [.cell 6 26] n0 K))))
  {s : S} {f : RG} (hi : Gets n0 I s f h) : Sem J 45 n0 21 (subC [1, 1, 0, 1, 0] (codeOf f21)) f h (contX pl21 prog J 45 n0 21 ct21 [1, 1, 0, 1, 0] (codeOf f21) [] (RetQ prog [.cell 6 26] n0 K)) :=
  loop_rule hJ mixed (b := subC [1, 1, 0, 1, 0, 0] (codeOf f21)) (by kernel_rfl) μ I hI hi
theorem at36 : prog.funcs[36]? = some f36 := by kernel_rfl
theorem body36 : f36.body = some (codeOf f36) := by kernel_rfl
def pl36 : Plans := []
def ct36 : Cuts := .go
theorem pok36 : plansOk prog pl36 (codeOf f36) = true := by kernel_rfl
theorem e36 {a0 a1 a2 : Value} : W prog J 27 h.length 36 (codeOf f36) (RG.mk (regs [a0, a1, a2]) []) h (RetQ prog [.tmp 6] h.length K) =
(aBox a1 h fun v1 h2 =>
aMin a2 [(vint 5)] fun v3 =>
Good prog J 33 [a0, (vint 1), v3] h2 fun v4 h5 =>
Sem J 27 h.length 36 (subC [1, 1, 0, 1, 0] (codeOf f36)) (RG.put (RG.put (RG.put (RG.put (RG.put (RG.put (RG.put (RG.put (RG.mk (regs [a0, a1, a2]) []) 4 v1) 6 (Value.slice none 0 0)) 7 (Value.slice none 0 0)) 9 a0) 10 a2) 11 v3) 12 v4) 8 v4) h5 (contX pl36 prog J 27 h.length 36 ct36 [1, 1, 0, 1, 0] (codeOf f36) [] (RetQ prog [.tmp 6] h.length K))) := top_eq pok36 ct36 (by kernel_rfl)
theorem g36 (hJ : Closed prog main J) {a0 a1 a2 : Value} (hs : heapOk h → W prog J 27 h.length 36 (codeOf f36) (RG.mk (regs [a0, a1, a2]) []) h (RetQ prog [.tmp 6] h.length K)) : Good prog J 36 [a0, a1, a2] h K :=
  good_of_W hJ mixed at36 body36 (by kernel_rfl) (Nat.le_of_ble_eq_true rfl) hs
theorem s36_1 {f : RG} {nx0 : RG → List AObj → Prop} : W prog J 27 n0 36 (subC [1, 1, 0, 1, 0, 0] (codeOf f36)) f h (thenK nx0 (contX pl36 prog J 27 n0 36 ct36 [1, 1, 0, 1, 0] (codeOf f36) [] (RetQ prog [.tmp 6] n0 K))) =
(aBin prog .gtr 3 (f.r 8) (vint 0) fun v1 =>
cnd v1
(aOff (f.r 4) 3 fun v2 =>
aLoad false 1 v2 h fun v3 =>
aLenS v3 fun v4 =>
Good prog J 23 [(f.r 0), v4] h fun v5 h6 =>
aBin prog .sub 3 v5 (vint 1) fun v7 =>
(((1 * 1 : Nat) ≤ 16777216 ∧ (1 : Nat) ≤ 16777216 ∧ List.length [(vint 0)] = 1) ∧ aFill (zrep [(vint 0)] 1) [(0, 1, v7)] fun c8 =>
aNewS 1 c8 h6 fun v9 h10 =>
((List.length [(vint 0)] = 1 ∧ 0 < (1 : Nat) ∧ 0 < (8 : Nat) ∧ (8 : Nat) ≤ 1024) ∧ aApp 1 (f.r 7) v9 h10 fun v11 h12 =>
aBin prog .sub 3 (f.r 8) (vint 1) fun v13 =>
nx0 (RG.put (RG.put (RG.put (RG.put (RG.put (RG.put (RG.put (RG.put (RG.put (RG.put (RG.put (RG.put (RG.put (RG.put (RG.put f 13 (f.r 8)) 14 v1) 17 (f.r 7)) 18 (f.r 0)) 19 v2) 20 v3) 21 v4) 22 v5) 23 v7) 24 v9) 25 v11) 7 v11) 15 (f.r 8)) 16 v13) 8 v13) h12)))
(retL n0 K f.ds [(f.r 7)] h)) := sub_eq pok36 ct36 (by kernel_rfl)
theorem l36_1 (hJ : Closed prog main J) {S : Type} (μ : S → Nat) (I : S → RG → List AObj → Prop) (hI : ∀ s f h, I s f h → heapOk h → n0 ≤ h.length → W prog J 27 n0 36 (subC [1, 1, 0, 1, 0, 0] (codeOf f36)) f h (thenK (Nx n0 μ I s) (contX pl36 prog J 27 n0 36 ct36 [1, 1, 0, 1, 0] (codeOf f36) [] (RetQ prog [.tmp 6] n0 K))))
  {s : S} {f : RG} (hi : Gets n0 I s f h) : Sem J 27 n0 36 (subC [1, 1, 0, 1, 0] (codeOf f36)) f h (contX pl36 prog J 27 n0 36 ct36 [1, 1, 0, 1, 0] (codeOf f36) [] (RetQ prog [.tmp 6] n0 K)) :=
  loop_rule hJ mixed (b := subC [1, 1, 0, 1, 0, 0] (codeOf f36)) (by kernel_rfl) μ I hI hi
end
end Go.Proofs.Ytindillghipjjaa

namespace Go.Proofs.Ytindillghipjjaa
open Go.Conc Go.Proofs.Try
def drinkOf (t : Tro) (who : Int) : Int := if 0 ≤ who then (droAt t who.toNat).drinks else 0
def nextL (t : Tro) (who now : Int) : Int := min t.well.holds (now - min now (drinkOf t who) + t.well.fill)
def turnOf (r : List Int) (h : Nat) : Int := r.getD (h % r.length) 0
def lvl (t : Tro) (r : List Int) : Nat → Int
  | 0 => t.well.now
  | h + 1 => nextL t (turnOf r h) (lvl t r h)
def dry (t : Tro) (r : List Int) (h : Nat) : Prop := lvl t r h < drinkOf t (turnOf r h)
instance (t : Tro) (r : List Int) (h : Nat) : Decidable (dry t r h) := by unfold dry; infer_instance

structure TroFine (t : Tro) : Prop where
  holds : 1 ≤ t.well.holds ∧ t.well.holds ≤ 40
  now : 0 ≤ t.well.now ∧ t.well.now ≤ t.well.holds
  fill : 0 ≤ t.well.fill ∧ t.well.fill ≤ 20
  len : 1 ≤ t.flocks.length ∧ t.flocks.length ≤ 3
  dro : ∀ d ∈ t.flocks, droOk d
theorem troE_fine {t : Tro} (h : troE t = 0) : TroFine t := by
  obtain ⟨⟨a, b, c⟩, d, e⟩ := troE_well h
  exact ⟨a, b, c, d, e⟩
theorem fine_troE {t : Tro} (f : TroFine t) : troE t = 0 := by
  have h1 : welE t.well = 0 := by unfold welE; rw [if_pos ⟨f.holds, f.now, f.fill⟩]
  have h2 : fewE t.flocks.length 1 3 = 0 := by
    have := f.len
    unfold fewE
    rw [if_neg (by omega), if_neg (by omega)]
  unfold troE
  rw [if_neg (by omega), if_neg (by omega), if_pos f.dro]

structure RotaFine (t : Tro) (r : List Int) : Prop where
  len : 1 ≤ r.length ∧ r.length ≤ 5
  who : ∀ n ∈ r, -1 ≤ n ∧ n < t.flocks.length

section
variable {t x : Tro} {r : List Int} {h k a b : Nat}
theorem droAt_mem {i : Nat} (hi : i < t.flocks.length) : droAt t i = t.flocks[i] := by
  unfold droAt
  rw [List.getD_eq_getElem?_getD, List.getElem?_eq_getElem hi]
  rfl
theorem drink_bd (f : TroFine t) (who : Int) : 0 ≤ drinkOf t who ∧ drinkOf t who ≤ 40 := by
  unfold drinkOf
  split
  · rcases Nat.lt_or_ge who.toNat t.flocks.length with hi | hi
    · rw [droAt_mem hi]
      have := (f.dro _ (List.getElem_mem hi)).1
      omega
    · unfold droAt
      rw [List.getD_eq_getElem?_getD, List.getElem?_eq_none hi]
      exact ⟨Int.le_refl _, by decide⟩
  · omega
theorem turnOf_mem (hr : r ≠ []) (h : Nat) : turnOf r h ∈ r := by
  have hp : 0 < r.length := by cases r <;> simp at hr ⊢
  have := Nat.mod_lt h hp
  unfold turnOf
  rw [List.getD_eq_getElem?_getD, List.getElem?_eq_getElem this]
  exact List.getElem_mem this
theorem nextL_bd (f : TroFine t) {who now : Int} (h0 : 0 ≤ now) (h1 : now ≤ t.well.holds) : 0 ≤ nextL t who now ∧ nextL t who now ≤ t.well.holds := by
  have := drink_bd f who
  have := f.holds
  have := f.fill
  unfold nextL
  omega
theorem lvl_bd (f : TroFine t) : ∀ h : Nat, 0 ≤ lvl t r h ∧ lvl t r h ≤ t.well.holds
  | 0 => f.now
  | h + 1 => nextL_bd f (lvl_bd f h).1 (lvl_bd f h).2

theorem turnOf_congr (hm : a % r.length = b % r.length) (k : Nat) : turnOf r (a + k) = turnOf r (b + k) := by
  unfold turnOf
  rw [Nat.add_mod a, Nat.add_mod b, hm]
theorem lvl_congr (hl : lvl t r a = lvl t r b) (hm : a % r.length = b % r.length) : ∀ k : Nat, lvl t r (a + k) = lvl t r (b + k)
  | 0 => hl
  | k + 1 => by
    show nextL t (turnOf r (a + k)) (lvl t r (a + k)) = nextL t (turnOf r (b + k)) (lvl t r (b + k))
    rw [lvl_congr hl hm k, turnOf_congr hm k]
theorem dry_congr (hl : lvl t r a = lvl t r b) (hm : a % r.length = b % r.length) (k : Nat) : dry t r (a + k) ↔ dry t r (b + k) := by
  unfold dry
  rw [lvl_congr hl hm k, turnOf_congr hm k]

theorem dry_back {i j : Nat} (hij : i < j) (hl : lvl t r i = lvl t r j) (hm : i % r.length = j % r.length) (hn : ∀ h, h < j → ¬ dry t r h) : ∀ h, ¬ dry t r h := by
  intro h
  induction h using Nat.strongRecOn with
  | ind h ih =>
    rcases Nat.lt_or_ge h j with x | x
    · exact hn h x
    · have := dry_congr hl hm (h - j)
      rw [show j + (h - j) = h from by omega] at this
      rw [← this]
      exact ih _ (by omega)

theorem pigeon : ∀ (N : Nat) (f : Nat → Nat), (∀ i, i ≤ N → f i < N) → ∃ i j, i < j ∧ j ≤ N ∧ f i = f j
  | 0, f, hf => absurd (hf 0 (Nat.le_refl _)) (Nat.not_lt_zero _)
  | N + 1, f, hf => by
    by_cases hx : ∃ i, i ≤ N ∧ f i = f (N + 1)
    · obtain ⟨i, hi, e⟩ := hx
      exact ⟨i, N + 1, by omega, Nat.le_refl _, e⟩
    · obtain ⟨i, j, h1, h2, h3⟩ := pigeon N (fun i => if f i > f (N + 1) then f i - 1 else f i) (fun i hi => by
        have h1 := hf i (by omega)
        have h2 := hf (N + 1) (Nat.le_refl _)
        have h3 : f i ≠ f (N + 1) := fun e => hx ⟨i, hi, e⟩
        split <;> omega)
      refine ⟨i, j, h1, by omega, ?_⟩
      have n1 : f i ≠ f (N + 1) := fun e => hx ⟨i, by omega, e⟩
      have n2 : f j ≠ f (N + 1) := fun e => hx ⟨j, h2, e⟩
      split at h3 <;> split at h3 <;> omega

theorem code_inj {n a b c d : Nat} (hb : b < n) (hd : d < n) (h : a * n + b = c * n + d) : a = c ∧ b = d := by
  have h1 : (a * n + b) / n = (c * n + d) / n := by rw [h]
  have h2 : (a * n + b) % n = (c * n + d) % n := by rw [h]
  rw [Nat.mul_comm a, Nat.mul_comm c, Nat.mul_add_div (by omega), Nat.mul_add_div (by omega), Nat.div_eq_of_lt hb, Nat.div_eq_of_lt hd] at h1
  rw [Nat.mul_comm a, Nat.mul_comm c, Nat.mul_add_mod, Nat.mul_add_mod, Nat.mod_eq_of_lt hb, Nat.mod_eq_of_lt hd] at h2
  omega
theorem code_lt {n H a b : Nat} (hb : b < n) (ha : a ≤ H) : a * n + b < (H + 1) * n := by
  have := Nat.mul_le_mul_right n ha
  rw [Nat.succ_mul]
  omega

def bound (t : Tro) (r : List Int) : Nat := (t.well.holds.toNat + 1) * r.length
theorem never (f : TroFine t) (hr : r ≠ []) (hn : ∀ h, h < bound t r → ¬ dry t r h) : ∀ h, ¬ dry t r h := by
  have hp : 0 < r.length := by cases r <;> simp at hr ⊢
  obtain ⟨i, j, hij, hj, e⟩ := pigeon (bound t r) (fun h => (lvl t r h).toNat * r.length + h % r.length) (fun h _ => by
    have := lvl_bd (r := r) f h
    exact code_lt (Nat.mod_lt h hp) (by omega))
  obtain ⟨e1, e2⟩ := code_inj (Nat.mod_lt i hp) (Nat.mod_lt j hp) e
  have b1 := lvl_bd (r := r) f i
  have b2 := lvl_bd (r := r) f j
  exact dry_back hij (by omega) e2 fun h hh => hn h (by omega)

theorem bound_le (f : TroFine t) (g : r.length ≤ 5) : bound t r ≤ 205 := by
  have := f.holds
  have h2 : t.well.holds.toNat + 1 ≤ 41 := by omega
  exact Nat.mul_le_mul h2 g

def firstH (p : Nat → Prop) [DecidablePred p] : Nat → Int
  | 0 => -1
  | n + 1 => if firstH p n < 0 then (if p n then n else -1) else firstH p n
theorem firstH_neg {p : Nat → Prop} [DecidablePred p] : ∀ {n : Nat}, firstH p n < 0 → firstH p n = -1 ∧ ∀ h, h < n → ¬ p h
  | 0, _ => ⟨rfl, fun h hh => absurd hh (Nat.not_lt_zero _)⟩
  | n + 1, hl => by
    unfold firstH at hl ⊢
    split at hl
    · rename_i hx
      rw [if_pos hx]
      split at hl
      · omega
      · rename_i hp
        rw [if_neg hp]
        refine ⟨rfl, fun h hh => ?_⟩
        rcases Nat.lt_or_ge h n with y | y
        · exact (firstH_neg hx).2 h y
        · rwa [show h = n from by omega]
    · omega
theorem firstH_pos {p : Nat → Prop} [DecidablePred p] : ∀ {n : Nat}, 0 ≤ firstH p n → ∃ k : Nat, firstH p n = k ∧ k < n ∧ p k ∧ ∀ h, h < k → ¬ p h
  | 0, hl => by simp [firstH] at hl
  | n + 1, hl => by
    unfold firstH at hl ⊢
    split at hl
    · rename_i hx
      rw [if_pos hx]
      split at hl
      · rename_i hp
        rw [if_pos hp]
        exact ⟨n, rfl, by omega, hp, (firstH_neg hx).2⟩
      · simp at hl
    · rename_i hx
      rw [if_neg hx]
      obtain ⟨k, a, b, c, d⟩ := firstH_pos (p := p) (n := n) (by omega)
      exact ⟨k, a, by omega, c, d⟩
theorem firstH_at {p : Nat → Prop} [DecidablePred p] {n k : Nat} (hk : k < n) (hp : p k) (hn : ∀ h, h < k → ¬ p h) : firstH p n = k := by
  rcases Int.lt_or_le (firstH p n) 0 with x | x
  · exact absurd hp ((firstH_neg x).2 k hk)
  · obtain ⟨j, e, a, b, c⟩ := firstH_pos x
    rw [e]
    rcases Nat.lt_trichotomy j k with y | y | y
    · exact absurd b (hn j y)
    · rw [y]
    · exact absurd hp (c k y)
theorem firstH_none {p : Nat → Prop} [DecidablePred p] {n : Nat} (hn : ∀ h, h < n → ¬ p h) : firstH p n = -1 := by
  rcases Int.lt_or_le (firstH p n) 0 with x | x
  · exact (firstH_neg x).1
  · obtain ⟨j, e, a, b, c⟩ := firstH_pos x
    exact absurd b (hn j a)

def lastsR (t : Tro) (r : List Int) : Int := firstH (dry t r) (bound t r)
theorem lasts_at (f : TroFine t) (hr : r ≠ []) {k : Nat} (hp : dry t r k) (hn : ∀ h, h < k → ¬ dry t r h) : lastsR t r = k := by
  refine firstH_at ?_ hp hn
  rcases Nat.lt_or_ge k (bound t r) with x | x
  · exact x
  · exact absurd hp (never f hr (fun h hh => hn h (by omega)) k)
theorem lasts_none (hn : ∀ h, ¬ dry t r h) : lastsR t r = -1 := firstH_none fun h _ => hn h
theorem lasts_pos (h : 0 ≤ lastsR t r) : ∃ k : Nat, lastsR t r = k ∧ k < bound t r ∧ dry t r k ∧ ∀ h, h < k → ¬ dry t r h := firstH_pos h

def occ (r : List Int) (f : Int) (i : Nat) : Prop := turnOf r i = f
instance (r : List Int) (f : Int) (i : Nat) : Decidable (occ r f i) := by unfold occ; infer_instance
end
end Go.Proofs.Ytindillghipjjaa

namespace Go.Proofs.Ytindillghipjjaa
open Go.Conc Go.Proofs.Try
set_option maxRecDepth 100000
section
variable {main : Bool} {J : JT} {h H : List AObj} {K : Value → List AObj → Prop} {KV : Value → Prop} {HL : List AObj → Prop} {n0 : Nat} {ns : List Int} {k : Nat}
theorem HX.lt (a : HX h H ns k) : h.length < H.length := by
  obtain ⟨nv, k1, s, rest, rfl, _⟩ := a
  rw [hf_len]
  omega
theorem sb1 {X : List Nat} {p : Nat} {H H' : List AObj} (S : SameX X H H') (hp : p < H.length) (hX : p ∉ X) : SameB (some [p]) H H' := fun b hb => by
  simp at hb
  subst hb
  exact S.2 _ hp hX
theorem quoI {t : TypeId} {a b : Int} (ha : 0 ≤ a ∧ a ≤ 1000000) (hb : 0 < b) (hk : KV (vint (a / b))) : aBin prog .quo t (vint a) (vint b) KV := by
  have h1 : Int.tdiv a b = a / b := Int.tdiv_eq_ediv_of_nonneg ha.1
  have h2 : 0 ≤ a / b := Int.ediv_nonneg ha.1 (by omega)
  have h3 : a / b ≤ a := Int.ediv_le_self _ ha.1
  simp only [aBin, aInt, true_and]
  rw [h1, wrap64 (by omega) (by omega)]
  exact ⟨by omega, hk⟩
theorem ofX (hJ : Closed prog main J) (a : HX h H ns k) (hk : k < 1000000) {x : Int} {others : List Int} {p n c : Nat} (hp : H[p]? = some (.cells (others.map vint) true 0)) (hne : p ≠ h.length) (hn : others.length = n) (hl : n < 1000)
    (hK : ∀ y H', (y = x ∨ y ∈ others) → SameX [h.length] H H' → H'.length = H.length → HX h H' ns (k + 1) → K (vint y) H') : Good prog J 22 [ptr h.length 0, vint x, .slice (some ⟨p, 0, none⟩) n c] H K := by
  subst hn
  obtain ⟨nv, k1, s, rest, rfl, b1, b2, b3⟩ := a
  refine good22 hJ (hf_hand b3.list b3.sane (by omega) b2.1 b2.2) (others := others) (fun h' hd => ?_) (by omega) fun y h1 hy hd => ?_
  · obtain ⟨k', s', c1, c2, c3, rfl⟩ := hf_dealt hd
    have S := hf_same (h := h) (nv := nv) (k1 := k1) (k2 := k') (s1 := s) (s2 := s') (rest := rest) (g := [])
    rw [List.append_nil] at S
    exact sli_new (wr := true) (sz := 0) (S.get hp (by simpa using hne)) (by simp) (kn_ints _)
  · obtain ⟨k', s', c1, c2, c3, rfl⟩ := hf_dealt hd
    have S := hf_same (h := h) (nv := nv) (k1 := k1) (k2 := k') (s1 := s) (s2 := s') (rest := rest) (g := [])
    rw [List.append_nil] at S
    exact hK y _ hy S (by simp [hf_len]) ⟨nv, k', s', rest, rfl, by omega, ⟨c2, c3⟩, b3⟩

structure WelOk (B : Int) (w : Wel) : Prop where
  holds : 2 ≤ w.holds ∧ w.holds ≤ B ∧ w.holds ≤ 40
  now : 0 ≤ w.now ∧ w.now ≤ w.holds
  fill : 0 ≤ w.fill ∧ w.fill ≤ 6

theorem good30 (hJ : Closed prog main J) (a : HX h H ns k) (hk : k < 500000) {B : Int} (hB : 2 ≤ B ∧ B ≤ 1000)
    (hK : ∀ w H', WelOk B w → SameX [h.length] H H' → HX h H' ns (k + 5) → K w.val H') : Good prog J 30 [ptr h.length 0, vint B] H K := by
  refine g30 hJ fun ok => ?_
  rw [e30]
  have hlt := a.lt
  refine qAl fun H1 p1 e1 S1 c1 l1 => minI (maxI ?_)
  have a1 := a.same S1 (by simp)
  refine amX hJ a1 (by omega) (by omega) (by omega) fun hd H2 b1 b2 S2 l2 a2 => ?_
  refine fill_one rfl rfl rfl (by decide) (fillI ?_)
  refine qAl fun H3 p3 e3 S3 c3 l3 => qStA (c := [vint 0, vint hd, vint 0]) c3 rfl rfl rfl fun H4 S4 c4 l4 => ?_
  have a4 := (a2.same S3 (by simp)).same S4 (by simp; omega)
  refine ⟨[p3], offI (ldI (v := vint hd) c4 rfl rfl ⟨by simp [RdOk, ptrBlk, ptr], offI (ldI (v := vint hd) c4 rfl rfl ⟨by simp [RdOk, ptrBlk, ptr], ?_⟩)⟩)⟩
  have hp4 : p3 < H4.length := lt_of_get c4
  refine upX hJ a4 (by omega) (by omega) fun now H5 d1 d2 S5 l5 a5 => ⟨sb1 S5 hp4 (by simp; omega), ⟨by decide, fill_one rfl rfl rfl (by decide) (fillI (qNew fun H6 p6 e6 S6 c6 l6 => ?_))⟩⟩
  have c6 : H6[p6]? = some (.cells ([now].map vint) true 0) := c6
  have T6 : SameX [h.length] H4 H6 := S5.trans S6.weak0
  refine ⟨sb1 T6 hp4 (by simp; omega), ?_⟩
  have a6 := a5.same S6 (by simp)
  refine ofX hJ a6 (by omega) c6 (by omega) rfl (by simp) fun nw H7 m7 S7 l7 a7 => ?_
  have T7 : SameX [h.length] H4 H7 := T6.trans S7
  refine ⟨sb1 T7 hp4 (by simp; omega), offI ?_⟩
  refine upX hJ a7 (by omega) (by omega) fun f0 H8 g1 g2 S8 l8 a8 => ?_
  have T8 : SameX [h.length] H4 H8 := T7.trans S8
  refine ⟨sb1 T8 hp4 (by simp; omega), ⟨by decide, fill_one rfl rfl rfl (by decide) (fill_one rfl rfl rfl (by decide) (fill_one rfl rfl rfl (by decide) (fillI (qNew fun H9 p9 e9 S9 c9 l9 => ?_))))⟩⟩
  have c9 : H9[p9]? = some (.cells ([2, 3, f0].map vint) true 0) := c9
  have T9 : SameX [h.length] H4 H9 := T8.trans S9.weak0
  refine ⟨sb1 T9 hp4 (by simp; omega), ?_⟩
  have hh := a8.lt
  have a9 := a8.same S9 (by simp)
  refine ofX hJ a9 (by omega) c9 (by omega) rfl (by simp) fun fl H10 m10 S10 l10 a10 => ?_
  have T10 : SameX [h.length] H4 H10 := T9.trans S10
  refine ⟨sb1 T10 hp4 (by simp; omega), ?_⟩
  refine qSt (T10.get c4 (by simp; omega)) (by simp) rfl rfl fun H11 S11 c11 l11 => offI (qSt c11 (by simp) rfl rfl fun H12 S12 c12 l12 => ?_)
  refine load_part (c := [vint nw, vint hd, vint fl]) c12 (by simp) rfl rfl ?_
  have T1 : SameX [h.length] H H1 := S1.weak0
  have T4 : SameX [h.length] H H4 := ((T1.trans S2).trans S3.weak0).thru S4 (by simp; omega)
  have T12 : SameX [h.length] H H12 := ((T4.trans T10).thru S11 (by simp; omega)).thru S12 (by simp; omega)
  have c1' : H12[p1]? = some (.cells [vint 0, vint 0, vint 0] true 0) := S12.get (S11.get (T10.get (S4.get (S3.get (S2.get c1 (by simp; omega)) (by simp)) (by simp; omega)) (by simp; omega)) (by simp; omega)) (by simp; omega)
  refine qStA (c := [vint nw, vint hd, vint fl]) c1' rfl rfl rfl fun H13 S13 c13 l13 => ?_
  refine retQ_same rfl (resW_cell (gg := true) (s := 3) (by kernel_rfl) (load_part (c := [vint nw, vint hd, vint fl]) c13 (by simp) rfl rfl (resW_nil ?_)))
  refine hK ⟨nw, hd, fl⟩ H13 ⟨?_, ?_, ?_⟩ (T12.thru S13 (by simp; omega)) (((a10.same S11 (by simp; omega)).same S12 (by simp; omega)).same S13 (by simp; omega))
  · show 2 ≤ hd ∧ hd ≤ B ∧ hd ≤ 40
    omega
  · show 0 ≤ nw ∧ nw ≤ hd
    rcases m7 with rfl | m7
    · omega
    · simp at m7
      omega
  · show 0 ≤ fl ∧ fl ≤ 6
    rcases m10 with rfl | m10
    · omega
    · simp at m10
      omega

structure TroOk (F B : Int) (t : Tro) : Prop where
  well : WelOk B t.well
  len : 1 ≤ t.flocks.length ∧ (t.flocks.length : Int) ≤ F
  dro : ∀ d ∈ t.flocks, (1 ≤ d.drinks ∧ d.drinks ≤ 40) ∧ (1 ≤ d.every ∧ d.every ≤ 6)
theorem TroOk.fine {F B : Int} {t : Tro} (o : TroOk F B t) (hF : F ≤ 3) : TroFine t := by
  obtain ⟨⟨h1, h2, h3⟩, h4, h5⟩ := o
  refine ⟨by omega, h2, by omega, by omega, fun d hd => ?_⟩
  have := h5 d hd
  exact ⟨this.1, by omega⟩

structure TroO (h H : List AObj) (t : Tro) (fv : Value) (o : Option Nat) : Prop where
  fl : OwnX H 2 (t.flocks.flatMap Dro.cells) t.flocks.length fv o
  b : ∀ i, o = some i → h.length < i
theorem TroO.at {t : Tro} {fv : Value} {o : Option Nat} (a : TroO h H t fv o) : TroAt H (.agg ⟨troCells t fv⟩) t fv := ⟨rfl, ownX_sli a.fl⟩
theorem TroO.same {H' : List AObj} {t : Tro} {fv : Value} {o : Option Nat} {X : List Nat} (a : TroO h H t fv o) (S : SameX X H H') (hX : ∀ i, o = some i → i ∉ X) : TroO h H' t fv o := ⟨ownX_keep a.fl S hX, a.b⟩

theorem good21 (hJ : Closed prog main J) (a : HX h H ns k) (hk : k < 400000) {F B : Int} (hF : 1 ≤ F ∧ F ≤ 3) (hB : 2 ≤ B ∧ B ≤ 40)
    (hK : ∀ t fv o H', TroOk F B t → SameX [h.length] H H' → HX h H' ns (k + 30) → TroO h H' t fv o → K (.agg ⟨troCells t fv⟩) H') : Good prog J 21 [ptr h.length 0, vint F, vint B] H K := by
  refine g21 hJ fun ok => ?_
  rw [e21]
  have hlt := a.lt
  refine qAl fun H1 p1 e1 S1 c1 l1 => ?_
  have a1 := a.same S1 (by simp)
  refine good30 hJ a1 (by omega) (by omega) fun w H2 ow S2 a2 => ?_
  refine fill_one rfl rfl rfl (by decide) (fillI ?_)
  have hl2 := S2.1
  refine qAl fun H3 p3 e3 S3 c3 l3 => qStA (c := troCells ⟨w, []⟩ (.slice none 0 0)) c3 rfl rfl rfl fun H4 S4 c4 l4 => minI ?_
  have a4 := (a2.same S3 (by simp)).same S4 (by simp; omega)
  refine amX hJ a4 (by omega) (by omega) (by omega) fun i0 H5 b1 b2 S5 l5 a5 => ?_
  have T4 : SameX [h.length] H H4 := ((S1.weak0.trans S2).trans S3.weak0).thru S4 (by simp; omega)
  have T5 : SameX [h.length] H H5 := T4.trans S5
  have c1' : H5[p1]? = some (.cells (troCells ⟨⟨0, 0, 0⟩, []⟩ (.slice none 0 0)) true 0) := S5.get (S4.get (S3.get (S2.get c1 (by simp; omega)) (by simp)) (by simp; omega)) (by simp; omega)
  have c3' : H5[p3]? = some (.cells (troCells ⟨w, []⟩ (.slice none 0 0)) true 0) := S5.get c4 (by simp; omega)
  obtain ⟨⟨w1, w2, w3⟩, w4, w5⟩ := id ow
  refine l21_1 hJ (fun i : Nat => i) (fun i f H' => ∃ ds fv o, SameX [h.length] H H' ∧ HX h H' ns (k + 30 - 5 * i) ∧ i ≤ 3 ∧ (i0 = i + List.length ds) ∧ (∀ d ∈ ds, (1 ≤ d.drinks ∧ d.drinks ≤ 40) ∧ (1 ≤ d.every ∧ d.every ≤ 6)) ∧
      TroO h H' ⟨w, ds⟩ fv o ∧ H'[p3]? = some (.cells (troCells ⟨w, ds⟩ fv) true 0) ∧ H'[p1]? = some (.cells (troCells ⟨⟨0, 0, 0⟩, []⟩ (.slice none 0 0)) true 0) ∧ (∀ j, o = some j → j ≠ p1 ∧ j ≠ p3 ∧ H.length ≤ j) ∧ f.ds = [] ∧ f.r 0 = ptr h.length 0 ∧ f.r 6 = ptr p1 0 ∧ f.r 7 = ptr p3 0 ∧ f.r 8 = vint (i : Nat)) ?_ (s := i0.toNat)
    (.inl ⟨[], .slice none 0 0, none, T5, a5.mono (by omega), by omega, by simp; omega, by simp, ⟨⟨rfl, rfl, .inl ⟨rfl, rfl, rfl⟩⟩, by simp⟩, c3', c1', by simp, rfl, rfl, rfl, rfl, by show vint i0 = vint _; congr 1; omega⟩)
  rintro i f Hc ⟨ds, fv, o, Sc, ac, hi, hsum, hds, TO, cp3, cp1, hoj, fds, r0, r6, r7, r8⟩ okc hnc
  rw [s21_1, r0, r6, r7, r8]
  have hp3 := lt_of_get cp3
  have hp1 := lt_of_get cp1
  refine gtrI (cndI (fun hpos => ?_) fun hz => ?_)
  · have kf := (ownX_val TO.fl).2.2
    refine ⟨[p3], offI (ldI (v := fv) cp3 rfl kf ⟨by simp [RdOk, ptrBlk, ptr], offI (offI (ldI (v := vint w.holds) cp3 rfl rfl ⟨by simp [RdOk, ptrBlk, ptr], quoI (by omega) (by omega) (maxI (offI (offI (ldI (v := vint w.holds) cp3 rfl rfl ⟨by simp [RdOk, ptrBlk, ptr], ?_⟩))))⟩))⟩)⟩
    have hq : 0 ≤ w.holds / 2 ∧ w.holds / 2 ≤ w.holds := ⟨Int.ediv_nonneg (by omega) (by omega), Int.ediv_le_self _ (by omega)⟩
    refine amX hJ ac (by omega) (by omega) (by omega) fun x1 Ha q1 q2 Sa la aa => ⟨sb1 Sa hp3 (by simp; omega), ?_⟩
    refine amX hJ aa (by omega) (by omega) (by omega) fun x2 Hb q3 q4 Sb lb ab => ⟨sb1 (Sa.trans Sb) hp3 (by simp; omega), ?_⟩
    refine ⟨by decide, fill_one rfl rfl rfl (by decide) (fill_one rfl rfl rfl (by decide) (fill_one rfl rfl rfl (Nat.le_of_ble_eq_true rfl) (fillI (qNew fun Hd pd ed Sd cd ld => ?_))))⟩
    have cd : Hd[pd]? = some (.cells ([2, x1, x2].map vint) true 0) := cd
    have Td : SameX [h.length] Hc Hd := (Sa.trans Sb).trans Sd.weak0
    have hlb := ab.lt
    have ad := ab.same Sd (by simp)
    refine ⟨sb1 Td hp3 (by simp; omega), ?_⟩
    refine ofX hJ ad (by omega) cd (by omega) rfl (by simp) fun dr He me Se le ae => ⟨sb1 (Td.trans Se) hp3 (by simp; omega), ?_⟩
    refine amX hJ ae (by omega) (by omega) (by omega) fun ev Hf q5 q6 Sf lf af => ?_
    have Tf : SameX [h.length] Hc Hf := (Td.trans Se).trans Sf
    refine ⟨sb1 Tf hp3 (by simp; omega), ?_⟩
    refine fill_one rfl rfl rfl (by decide) (fill_one rfl rfl rfl (Nat.le_of_ble_eq_true rfl) (fillI ?_))
    refine ⟨by decide, fill_one (l := [vint dr, vint ev]) rfl rfl rfl (Nat.le_of_ble_eq_true rfl) (fillI (qNew fun Hg pg eg Sg cg lg => ?_))⟩
    have cg : Hg[pg]? = some (.cells [vint dr, vint ev] true 0) := cg
    have Tg : SameX [h.length] Hc Hg := Tf.trans Sg.weak0
    refine ⟨sb1 Tg hp3 (by simp; omega), ⟨by decide, ?_⟩⟩
    have TOg := TO.same Tg (fun j hj => by have := TO.b j hj; simp; omega)
    have hdl : ds.length ≤ 3 := by omega
    refine ownX_more TOg.fl (by omega) (by show ds.length < 1000; omega) (ownX_sli (ownX_new (s := 2) (n := 1) (l := [vint dr, vint ev]) cg rfl rfl)) fun fv' Hh ph eh Oh Sh => ?_
    have hlc := Tg.1
    have Th : SameX (h.length :: o.toList) Hc Hh := (Tg.weak (by simp)).trans (Sh.weak fun x hx => List.mem_cons_of_mem _ hx)
    have hno : ∀ b, b = p1 ∨ b = p3 → b ∉ o.toList := fun b hb hm => by
      have := hoj b (by simpa using hm)
      omega
    refine ⟨sb1 Th hp3 (by simp only [List.mem_cons, not_or]; exact ⟨by omega, hno p3 (.inr rfl)⟩), offI ?_⟩
    refine qSt (Th.get cp3 (by simp only [List.mem_cons, not_or]; exact ⟨by omega, hno p3 (.inr rfl)⟩)) (by simp [troCells]) (ownX_val Oh).1 (ownX_val Oh).2.1 fun Hi Si ci li => subI (by omega) ?_
    refine ⟨i - 1, by dsimp only; omega, .inl ⟨ds ++ [⟨dr, ev⟩], fv', some ph, ?_, ?_, by omega, by simp; omega, fun d hd => ?_, ⟨ownX_keep ?_ Si (by intro j hj; cases hj; simp; omega), fun j hj => by cases hj; omega⟩, ci, ?_, fun j hj => by cases hj; omega, fds, r0, r6, r7, by show vint _ = vint _; congr 1; omega⟩⟩
    · refine ((Sc.trans Tg).thru Sh ?_).thru Si (by simp; omega)
      intro y hy
      have hy' : o = some y := by simpa using hy
      exact .inr (hoj y hy').2.2
    · refine HX.mono (k := k + 30 - 5 * i + 5) (HX.same (HX.same ((af.same Sg (by simp)).mono (by omega)) Sh ?_) Si (by simp; omega)) (by omega)
      intro y hy
      exact TO.b y (by simpa using hy)
    · rcases List.mem_append.1 hd with hd | hd
      · exact hds d hd
      · have : d = ⟨dr, ev⟩ := by simpa using hd
        subst this
        refine ⟨?_, by show 1 ≤ ev ∧ ev ≤ 6; omega⟩
        show 1 ≤ dr ∧ dr ≤ 40
        rcases me with rfl | me
        · omega
        · simp at me
          omega
    · simpa [List.flatMap_append, Dro.cells] using Oh
    · exact Si.get (Th.get cp1 (by simp only [List.mem_cons, not_or]; exact ⟨by omega, hno p1 (.inl rfl)⟩)) (by simp; omega)
  · have hi0 : i = 0 := by omega
    subst hi0
    have kf := (ownX_val TO.fl).2
    have k4 : (troCells ⟨w, ds⟩ fv).all one = true ∧ kn (troCells ⟨w, ds⟩ fv) = true := ⟨tro_one TO.at, tro_kn TO.at⟩
    refine load_part (c := troCells ⟨w, ds⟩ fv) cp3 (by simp [troCells]) rfl k4.2 ?_
    refine qStA (c := troCells ⟨w, ds⟩ fv) cp1 rfl rfl k4.1 fun Hz Sz cz lz => ?_
    refine retQ_same fds (resW_cell (gg := true) (s := 4) (by kernel_rfl) ?_)
    show aLoad true 4 (f.r 6) Hz _
    rw [r6]
    refine load_part (c := troCells ⟨w, ds⟩ fv) cz (by simp [troCells]) rfl k4.2 (resW_nil ?_)
    refine hK ⟨w, ds⟩ fv o Hz ⟨ow, ?_, hds⟩ (Sc.thru Sz (by simp; omega)) ((ac.same Sz (by simp; omega)).mono (by omega)) (TO.same Sz fun j hj => by have := hoj j hj; simp; omega)
    show 1 ≤ ds.length ∧ (ds.length : Int) ≤ F
    omega
structure RotO (h H : List AObj) (r : List Int) (v : Value) (o : Option Nat) : Prop where
  l : OwnX H 1 (r.map vint) r.length v o
  b : ∀ i, o = some i → h.length < i
theorem RotO.sli {r : List Int} {v : Value} {o : Option Nat} (a : RotO h H r v o) : Sli H v 1 r.length (r.map vint) := ownX_sli a.l
theorem RotO.same {H' : List AObj} {r : List Int} {v : Value} {o : Option Nat} {X : List Nat} (a : RotO h H r v o) (S : SameX X H H') (hX : ∀ i, o = some i → i ∉ X) : RotO h H' r v o := ⟨ownX_keep a.l S hX, a.b⟩

theorem good36 (hJ : Closed prog main J) (a : HX h H ns k) (hk : k < 400000) {t : Tro} {v fv : Value} (ht : TroAt H v t fv) (hfl : ∀ {H'}, SameX [h.length] H H' → SliE H' fv 2 Dro.cells t.flocks) (hl : 1 ≤ t.flocks.length ∧ t.flocks.length ≤ 3) {N : Int} (hN : 1 ≤ N ∧ N ≤ 5)
    (hK : ∀ r rv o H', RotaFine t r → (r.length : Int) ≤ N → SameX [h.length] H H' → HX h H' ns (k + 10) → RotO h H' r rv o → (∀ i, o = some i → H.length ≤ i) → K rv H') : Good prog J 36 [ptr h.length 0, v, vint N] H K := by
  refine g36 hJ fun ok => ?_
  rw [e36, ht.val]
  have hlt := a.lt
  refine qBox (tro_one ht) fun H1 p1 e1 S1 c1 l1 => minI ?_
  have a1 := a.same S1 (by simp)
  refine amX hJ a1 (by omega) (by omega) (by omega) fun i0 H2 b1 b2 S2 l2 a2 => ?_
  have T2 : SameX [h.length] H H2 := S1.weak0.trans S2
  have c2 := S2.get c1 (by simp; omega)
  refine l36_1 hJ (fun i : Nat => i) (fun i f H' => ∃ (r : List Int) (rv : Value) (o : Option Nat), SameX [h.length] H H' ∧ HX h H' ns (k + 10 - i) ∧ i ≤ 5 ∧ (i0 = i + List.length r) ∧ (∀ x ∈ r, -1 ≤ x ∧ x < t.flocks.length) ∧ RotO h H' r rv o ∧ H'[p1]? = some (.cells (troCells t fv) true 0) ∧ (∀ j, o = some j → j ≠ p1 ∧ H.length ≤ j) ∧
      f.ds = [] ∧ f.r 0 = ptr h.length 0 ∧ f.r 4 = ptr p1 0 ∧ f.r 7 = rv ∧ f.r 8 = vint (i : Nat)) ?_ (s := i0.toNat)
    (.inl ⟨[], .slice none 0 0, none, T2, a2.mono (by omega), by omega, by simp; omega, by simp, ⟨⟨rfl, rfl, .inl ⟨rfl, rfl, rfl⟩⟩, by simp⟩, c2, by simp, rfl, rfl, rfl, rfl, by show vint i0 = vint _; congr 1; omega⟩)
  rintro i f Hc ⟨r, rv, o, Sc, ac, hi, hsum, hr, RO, cp1, hoj, fds, r0, r4, r7, r8⟩ okc hnc
  rw [s36_1, r0, r4, r7, r8]
  have hp1 := lt_of_get cp1
  have hsl := hfl Sc
  have kf := (sli_val ht.fl).2.2
  refine gtrI (cndI (fun hpos => ?_) fun hz => ?_)
  · refine offI (ldI (v := fv) cp1 rfl kf (lenI hsl ?_))
    refine upX hJ ac (by omega) (by omega) fun x Ha q1 q2 Sa la aa => subI (by omega) ?_
    refine ⟨by decide, fill_one rfl rfl rfl (by decide) (fillI (qNew fun Hb pb eb Sb cb lb => ⟨by decide, ?_⟩))⟩
    have cb : Hb[pb]? = some (.cells [vint (x - 1)] true 0) := cb
    have Tb : SameX [h.length] Hc Hb := Sa.trans Sb.weak0
    have ROb := RO.same Tb (fun j hj => by have := RO.b j hj; simp; omega)
    have hrl : r.length ≤ 5 := by omega
    refine ownX_more ROb.l (by omega) (by omega) (ownX_sli (ownX_new (s := 1) (n := 1) (l := [vint (x - 1)]) cb rfl rfl)) fun rv' Hh ph eh Oh Sh => subI (by omega) ?_
    have hlc := Tb.1
    have hlb := aa.lt
    refine ⟨i - 1, by dsimp only; omega, .inl ⟨r ++ [x - 1], rv', some ph, ?_, ?_, by omega, by simp; omega, fun y hy => ?_, ⟨by simpa using Oh, fun j hj => by cases hj; omega⟩, ?_, fun j hj => by cases hj; have := Sc.1; omega, fds, r0, r4, rfl, by show vint _ = vint _; congr 1; omega⟩⟩
    · refine (Sc.trans Tb).thru Sh fun y hy => ?_
      exact .inr (hoj y (by simpa using hy)).2
    · exact ((aa.same Sb (by simp)).same Sh fun y hy => RO.b y (by simpa using hy)).mono (by omega)
    · rcases List.mem_append.1 hy with hy | hy
      · exact hr y hy
      · have : y = x - 1 := by simpa using hy
        subst this
        omega
    · exact Sh.get (Tb.get cp1 (by simp; omega)) fun hm => (hoj p1 (by simpa using hm)).1 rfl
  · have hi0 : i = 0 := by omega
    subst hi0
    rw [fds]
    refine retL_same ?_ (hK r rv o Hc ⟨by omega, hr⟩ (by omega) Sc (ac.mono (by omega)) RO fun j hj => (hoj j hj).2)
    simp only [List.mem_singleton, forall_eq]
    have := (ownX_val RO.l).2.2
    intro e
    rw [e] at this
    cases this
end
end Go.Proofs.Ytindillghipjjaa

namespace Go.Proofs.Ytindillghipjjaa
open Go.Conc Go.Proofs.Try
set_option maxRecDepth 100000
def welAt (t : Tro) (r : List Int) (k : Nat) : Wel := { t.well with now := lvl t r k }
def hourC (t : Tro) (r : List Int) (k : Nat) : List Value := [vint (lvl t r k), vint (lvl t r (k + 1)), .bool (decide (dry t r k))]
def hourV (t : Tro) (r : List Int) (k : Nat) : Value := .agg ⟨hourC t r k⟩

def Till (n : Nat) (O : List Nat) (h H : List AObj) : Prop := h.length ≤ H.length ∧ ∀ i, i < n ∨ i ∈ O → H[i]? = h[i]?

section
variable {main : Bool} {J : JT} {h H : List AObj} {K : Value → List AObj → Prop} {KV : Value → Prop} {HL : List AObj → Prop} {n0 : Nat}
theorem callF {g : FuncId} {args : List Value} (hg : Nat.blt g prog.funcs.size = true) (hk : Good prog J g args H K) : callV prog (Good prog J) (.func (.func g) #[] #[]) args H K := by
  show (bif Nat.blt g prog.funcs.size then Good prog J g ([] ++ args ++ []) H K else False)
  rw [hg, cond_true, List.nil_append, List.append_nil]
  exact hk
theorem callC {g : FuncId} {args cap : List Value} (hg : Nat.blt g prog.funcs.size = true) (hk : Good prog J g (args ++ cap) H K) : callV prog (Good prog J) (.func (.func g) ⟨[]⟩ ⟨cap⟩) args H K := by
  show (bif Nat.blt g prog.funcs.size then Good prog J g ([] ++ args ++ cap) H K else False)
  rw [hg, cond_true, List.nil_append]
  exact hk
theorem remI {t : TypeId} {a b : Nat} (ha : a < 1000000) (hb : 0 < b) (hk : KV (vint (a % b : Nat))) : aBin prog .rem t (vint (a : Nat)) (vint (b : Nat)) KV := by
  have h1 : Int.tmod (a : Int) (b : Int) = ((a % b : Nat) : Int) := by
    rw [Int.tmod_eq_emod_of_nonneg (by omega)]
    rfl
  simp only [aBin, aInt, true_and]
  rw [h1]
  exact ⟨by omega, hk⟩

theorem good120 (hJ : Closed prog main J) {t : Tro} {fv rv : Value} (ho : (troCells t fv).all one = true) (hr : rv.cells = #[rv] ∧ one rv = true)
    (hK : ∀ H' pt pr, SameX [] H H' → H'[pt]? = some (.cells (troCells t fv) true 0) → H'[pr]? = some (.cells [rv] true 0) → H.length ≤ pt → H.length ≤ pr → K (.func (.func 131) ⟨[]⟩ ⟨[ptr pt 0, ptr pr 0]⟩) H') : Good prog J 120 [.agg ⟨troCells t fv⟩, rv] H K := by
  refine g120 hJ fun ok => ?_
  rw [e120]
  refine qBox ho fun H1 p1 e1 S1 c1 l1 => qBox1 hr.1 hr.2 fun H2 p2 e2 S2 c2 l2 => ?_
  refine ⟨rfl, retL_same (by simp [unk]) (hK H2 p1 p2 (S1.trans S2) (S2.get c1 (by simp)) c2 (by omega) (by omega))⟩

theorem welAt_sm {t : Tro} {r : List Int} (f : TroFine t) (k : Nat) : (welAt t r k).sm := by
  have := lvl_bd (r := r) f k
  have := f.holds
  have := f.fill
  exact ⟨by show -1000000 ≤ lvl t r k ∧ lvl t r k ≤ 1000000; omega, by show -1000000 ≤ t.well.holds ∧ t.well.holds ≤ 1000000; omega, by show -1000000 ≤ t.well.fill ∧ t.well.fill ≤ 1000000; omega⟩
theorem welAt_step {t : Tro} {r : List Int} (k : Nat) : ((welAt t r k).drunk (drinkOf t (turnOf r k))).filled = welAt t r (k + 1) := by
  unfold Wel.drunk Wel.filled welAt
  simp only [Wel.mk.injEq, and_true]
  rfl

theorem good131 (hJ : Closed prog main J) {pt pr : Nat} {t : Tro} {r : List Int} {fv rv y : Value} (X : List Nat) (hX : ∀ x ∈ X, x < H.length) (ct : H[pt]? = some (.cells (troCells t fv) true 0)) (cr : H[pr]? = some (.cells [rv] true 0)) (nt : pt ∉ X) (nr : pr ∉ X)
    (hF : ∀ {H'}, SameX X H H' → SliE H' fv 2 Dro.cells t.flocks) (hR : ∀ {H'}, SameX X H H' → Sli H' rv 1 r.length (r.map vint)) (f : TroFine t) (g : RotaFine t r)
    {I : Nat → List Nat → List AObj → Prop} {St : List AObj → Prop} {N : Nat} (hN : N < 1000) (hlt : ∀ {k O H'}, I k O H' → k < N) (hO : ∀ {k O H'}, I k O H' → ∀ x ∈ O, x < H'.length) (hI : ∀ {k O H1 H2}, Till H.length O H1 H2 → I k O H1 → I k O H2) (h0 : I 0 [] H)
    (round : ∀ (k : Nat) (O : List Nat) (H1 : List AObj) (Q : Value → List AObj → Prop), SameX X H H1 → (∀ x ∈ O, H.length ≤ x) → I k O H1 → (∀ O' H2, SameX (X ++ O) H1 H2 → (∀ x ∈ O', x ∈ O ∨ H1.length ≤ x) → I (k + 1) O' H2 → Q (.bool true) H2) → (∀ H2, SameX (X ++ O) H1 H2 → St H2 → Q (.bool false) H2) → callV prog (Good prog J) y [vint (k : Nat), hourV t r k] H1 Q)
    (hK : ∀ H2, SameX X H H2 → St H2 → K (.tuple ⟨[]⟩) H2) : Good prog J 131 [y, ptr pt 0, ptr pr 0] H K := by
  refine g131 hJ fun ok => ?_
  rw [e131]
  have kn4 : kn1 fv = true := (sli_val (hF SameX.refl)).2.2
  have knr : kn1 rv = true := (sli_val (hR SameX.refl)).2.2
  refine offI (load_part (c := t.well.cells) ct (by simp [troCells]) rfl rfl ?_)
  refine fill_one (l := t.well.cells) rfl rfl rfl (by simp) (fillI ?_)
  refine qAl fun H1 p4 e4 S1 c1 l1 => qStA (c := (welAt t r 0).cells) c1 rfl rfl rfl fun H2 S2 c2 l2 => ?_
  have T2 : SameX X H H2 := S1.weak0.thru S2 (by simp; omega)
  have hlen := g.len
  have hrne : r ≠ [] := by intro e; rw [e] at hlen; simp at hlen
  refine l131_1 hJ (fun k : Nat => N - k) (fun k F H' => ∃ O, SameX X H H' ∧ I k O H' ∧ (∀ x ∈ O, H.length ≤ x ∧ x < H'.length ∧ x ≠ p4) ∧ H'[p4]? = some (.cells (welAt t r k).cells true 0) ∧ F.ds = [] ∧ F.r 0 = y ∧ F.r 1 = ptr pt 0 ∧ F.r 2 = ptr pr 0 ∧ F.r 4 = ptr p4 0 ∧ F.r 5 = .func (.func 82) #[] #[] ∧ F.r 6 = .func (.func 79) #[] #[] ∧ F.r 7 = vint (k : Nat)) ?_ (s := 0)
    (.inl ⟨[], T2, hI ⟨T2.1, fun i hi => by have hi : i < H.length := hi.resolve_right (by simp); rw [S2.2 i (by omega) (by simp; omega), S1.2 i hi (by simp)]⟩ h0, by simp, c2, rfl, rfl, rfl, rfl, rfl, rfl, rfl, rfl⟩)
  rintro k F Hc ⟨O, Sc, ik, iO, cp, ds, r0, r1, r2, r4, r5, r6, r7⟩ okc hnc
  have hkN := hlt ik
  have cpt := Sc.get ct nt
  have cpr := Sc.get cr nr
  have hlc := Sc.1
  have hpc := lt_of_get cp
  rw [s131_1, r1, r2, r7]
  have hmod := Nat.mod_lt k (by omega : 0 < r.length)
  have hturn : r[k % r.length]? = some (turnOf r k) := by
    unfold turnOf
    rw [List.getD_eq_getElem?_getD, List.getElem?_eq_getElem hmod]
    rfl
  have hw := g.who _ (turnOf_mem hrne k)
  -- behind the drinking
  have post : ∀ {F' : RG}, F'.ds = [] → F'.r 0 = y → F'.r 1 = ptr pt 0 → F'.r 2 = ptr pr 0 → F'.r 4 = ptr p4 0 → F'.r 5 = .func (.func 82) #[] #[] → F'.r 6 = .func (.func 79) #[] #[] → F'.r 7 = vint (k : Nat) → F'.r 8 = vint (drinkOf t (turnOf r k)) →
      W prog J 55 H.length 131 (subC [1, 1, 0, 0, 0, 0, 1, 1] (codeOf f131)) F' Hc (contX pl131 prog J 55 H.length 131 ct131 [1, 1, 0, 0, 0, 0, 1, 1] (codeOf f131) [Nx H.length (fun k : Nat => N - k) (fun k F H' => ∃ O, SameX X H H' ∧ I k O H' ∧ (∀ x ∈ O, H.length ≤ x ∧ x < H'.length ∧ x ≠ p4) ∧ H'[p4]? = some (.cells (welAt t r k).cells true 0) ∧ F.ds = [] ∧ F.r 0 = y ∧ F.r 1 = ptr pt 0 ∧ F.r 2 = ptr pr 0 ∧ F.r 4 = ptr p4 0 ∧ F.r 5 = .func (.func 82) #[] #[] ∧ F.r 6 = .func (.func 79) #[] #[] ∧ F.r 7 = vint (k : Nat)) k] (RetQ prog [] H.length K)) := by
    intro F' ds r0 r1 r2 r4 r5 r6 r7 r8
    rw [s131_2, r0, r4, r5, r6, r7, r8]
    refine offI (offI (ldI (v := vint (lvl t r k)) cp rfl rfl ?_))
    refine fill_one rfl rfl rfl (by decide) (fillI ?_)
    refine qAl fun H3 p5 e5 S3 c3 l3 => qStA (c := [vint (lvl t r k), vint 0, .bool false]) c3 rfl rfl rfl fun H4 S4 c4 l4 => ?_
    have cp4 := S4.get (S3.get cp (by simp)) (by simp; omega)
    refine load_part (c := (welAt t r k).cells) cp4 (by simp [Wel.cells]) rfl rfl ?_
    have hdb := drink_bd f (turnOf r k)
    refine callF (by kernel_rfl) (good82 hJ (w := welAt t r k) (welAt_sm f k) (by omega) (vext0 (vext1 ?_)))
    refine qStA (c := ((welAt t r k).drunk (drinkOf t (turnOf r k))).cells) cp4 rfl rfl rfl fun H5 S5 c5 l5 => offI ?_
    have hdry : Value.bool (decide ((welAt t r k).now < drinkOf t (turnOf r k))) = Value.bool (decide (dry t r k)) := rfl
    rw [hdry]
    refine qSt (S5.get c4 (by simp; omega)) (by simp) rfl rfl fun H6 S6 c6 l6 => ?_
    have c56 := S6.get c5 (by simp; omega)
    refine load_part (c := ((welAt t r k).drunk (drinkOf t (turnOf r k))).cells) c56 (by simp [Wel.cells]) rfl rfl ?_
    refine callF (by kernel_rfl) (good79 hJ (w := (welAt t r k).drunk (drinkOf t (turnOf r k))) ?_ ?_)
    · obtain ⟨a, b, c⟩ := welAt_sm (r := r) f k
      have := lvl_bd (r := r) f k
      refine ⟨?_, b, c⟩
      show -1000000 ≤ lvl t r k - min (lvl t r k) (drinkOf t (turnOf r k)) ∧ lvl t r k - min (lvl t r k) (drinkOf t (turnOf r k)) ≤ 1000000
      have := f.holds
      omega
    rw [welAt_step]
    refine qStA (c := (welAt t r (k + 1)).cells) c56 rfl rfl rfl fun H7 S7 c7 l7 => offI (offI (ldI (v := vint (lvl t r (k + 1))) c7 rfl rfl (offI ?_)))
    refine qSt (S7.get c6 (by simp; omega)) (by simp) rfl rfl fun H8 S8 c8 l8 => ?_
    refine load_part (c := hourC t r k) c8 (by simp [hourC]) rfl rfl ?_
    have T8 : SameX [p4] Hc H8 := (((((SameX.refl (X := [p4])).trans S3.weak0).thru S4 (by simp; omega)).trans S5).thru S6 (by simp; omega)).trans S7 |>.thru S8 (by simp; omega)
    have S8' : SameX X H H8 := Sc.thru T8 (by simp; omega)
    have c78 := S8.get c7 (by simp; omega)
    have nO : p4 ∉ X ++ O := by
      intro hm
      rcases List.mem_append.1 hm with hm | hm
      · have := hX _ hm
        omega
      · exact (iO _ hm).2.2 rfl
    have hY : ∀ y ∈ X ++ O, y ∈ X ∨ H.length ≤ y := fun y hm => (List.mem_append.1 hm).imp id fun hm => (iO y hm).1
    have hl8 := T8.1
    refine round k O H8 _ S8' (fun x hx => (iO x hx).1) (hI ⟨T8.1, fun i hi => T8.2 i (by rcases hi with hi | hi; omega; exact (iO i hi).2.1) (by
      rcases hi with hi | hi
      · simp
        omega
      · simpa using (iO i hi).2.2)⟩ ik) (fun O' H9 S9 hO' i9 => notI (cnd_false.2 (addI (by omega) ?_))) fun H9 S9 st => notI (cnd_true.2 ?_)
    · refine ⟨k + 1, by dsimp only; omega, .inl ⟨O', S8'.thru S9 hY, i9, fun x hx => ?_, S9.get c78 nO, ds, r0, r1, r2, r4, r5, r6, by show vint _ = vint _; congr 1⟩⟩
      have h9 := hO i9 x hx
      rcases hO' x hx with hm | hm
      · exact ⟨(iO x hm).1, h9, (iO x hm).2.2⟩
      · exact ⟨by omega, h9, by omega⟩
    · rw [ds]
      exact retL_same (by simp) (hK H9 (S8'.thru S9 hY) st)
  refine ldI (v := rv) cpr rfl knr (ldI (v := rv) cpr rfl knr (lenI (hR Sc) (remI (by omega) (by omega) ?_)))
  refine sli_num' (hR Sc) hturn fun q => geqI (cndI (fun hge => ?_) fun hlt0 => hold.2 ?_)
  · have hwl : (turnOf r k).toNat < t.flocks.length := by omega
    refine offI (ldI (v := fv) cpt rfl kn4 ?_)
    obtain ⟨b, o, cs, wr, sz, hidx, hb, hol, hft, hkn⟩ := sliE_elem dro_len (by omega) (hF Sc) hwl
    have e : vint (turnOf r k) = vint ((turnOf r k).toNat : Nat) := by congr 1; omega
    rw [e]
    have hd : drinkOf t (turnOf r k) = t.flocks[(turnOf r k).toNat].drinks := by
      unfold drinkOf
      rw [if_pos hge, droAt_mem hwl]
    refine hidx _ (offI (ldI (v := vint (drinkOf t (turnOf r k))) hb (part_get hft (by rw [hd]; rfl)) rfl (hold.2 ?_)))
    exact post ds r0 r1 r2 r4 r5 r6 r7 rfl
  · refine post ds r0 r1 r2 r4 r5 r6 r7 ?_
    show vint 0 = vint _
    unfold drinkOf
    rw [if_neg hlt0]
theorem hour_one {t : Tro} {r : List Int} {k : Nat} : (hourC t r k).all one = true ∧ kn (hourC t r k) = true := ⟨rfl, rfl⟩

noncomputable abbrev lp87 (st : LoopState) (pend : Option Code) (r : Nat → Value) (d : Nat) : AObj := .loop st pend 87 r 22 #[13, 14] (subC [1, 1, 0, 0] (codeOf f87)) (subC [1, 1, 0, 1] (codeOf f87)) d

theorem round87 (hJ : Closed prog main J) {l p6 p7 d k : Nat} {R : Nat → Value} {many : Int} {tell : Value} {t : Tro} {r : List Int} {Q : Value → List AObj → Prop} (hl : H[l]? = some (lp87 .ready none R d))
    (r6 : R 6 = ptr p6 0) (r7 : R 7 = ptr p7 0) (c6 : H[p6]? = some (.cells [vint many] true 0)) (c7 : H[p7]? = some (.cells [tell] true 0)) (kt : kn1 tell = true) (n6 : p6 ≠ l) (n7 : p7 ≠ l)
    (call : ∀ (H1 : List AObj) (Q1 : Value → List AObj → Prop), (k : Int) ≠ many → SameX [l] H H1 → H1[l]? = some (lp87 .busy none R d) → (∀ u H2, H2[l]? = some (lp87 .busy none R d) → Q (.bool true) (H2.set l (lp87 .ready none R d)) → Q1 u H2) → callV prog (Good prog J) tell [vint (k : Nat), hourV t r k] H1 Q1)
    (stop : ∀ H1, (k : Int) = many → SameX [l] H H1 → H1[l]? = some (lp87 .done (some .ret) R d) → Q (.bool false) H1) :
    callV prog (Good prog J) (.func (.yield l) ⟨[]⟩ ⟨[]⟩) [vint (k : Nat), hourV t r k] H Q := by
  show Good prog J (yid prog l) [vint (k : Nat), hourV t r k] H Q
  have hll := lt_of_get hl
  refine good_round hJ hl rfl (by decide) fun ok => W_sound hJ mixed _ ?_
  rw [a87_1]
  refine qAl fun H1 p1 e1 S1 c1 l1 => qStA (c := hourC t r k) c1 rfl rfl hour_one.1 fun H2 S2 c2 l2 => ?_
  have hl2 : H2[l]? = some (lp87 .ready none R d) := S2.get (S1.get hl (by simp)) (by simp; omega)
  refine ⟨rfl, none, _, _, _, _, _, _, _, hl2, W_sound hJ mixed _ ?_⟩
  rw [b87_1]
  have S02 : SameX [] H H2 := S1.thru S2 (by simp; omega)
  have hl3 : (H2.set l (lp87 .busy none R d))[l]? = some (lp87 .busy none R d) := List.getElem?_set_self (lt_of_get hl2)
  have S3 : SameX [l] H (H2.set l (lp87 .busy none R d)) := (S02.weak0).set (.inl (by simp))
  show aLoad false 1 (R 6) _ _
  rw [r6]
  refine ldI (v := vint many) (S3.get c6 (by simpa using n6)) rfl rfl ?_
  show aBin prog .eql 3 (vint (k : Nat)) (vint many) _
  refine eqlI (cndI (fun he => ?_) fun hne => ?_)
  · refine ⟨.busy, none, _, _, _, _, _, _, _, hl3, .inl (stop _ he (S3.set (.inl (by simp))) (List.getElem?_set_self (lt_of_get hl3)))⟩
  · show aLoad false 1 (R 7) _ _
    rw [r7]
    refine ldI (v := tell) (S3.get c7 (by simpa using n7)) rfl kt ?_
    refine load_part (c := hourC t r k) (get_set c2 (by omega)) (by simp [hourC]) rfl hour_one.2 ?_
    refine call _ _ hne S3 hl3 fun u H4 hl4 hq => ?_
    exact ⟨.busy, none, _, _, _, _, _, _, _, hl4, .inl hq⟩

theorem endQ_ret {n : Nat} {f : RG} {Q : QT} {v : Value} {st : LoopState} {fn : FuncId} {r : Nat → Value} {size : Nat} {params : Array Tmp} {assign body : Code} {dfr : Nat} (hl : h[n + 1]? = some (.loop st (some .ret) fn r size params assign body dfr)) (hs : st ≠ .busy) (hq : Q .ret ⟨f.r, n :: f.ds⟩ (h.set (n + 1) .dead)) : endQ n f Q v h :=
  ⟨st, some .ret, _, _, _, _, _, _, _, hl, hs, hq⟩
theorem retL_def {n0 n : Nat} {vs : List Value} (hd : h[n]? = some .deferred) (hv : ∀ v ∈ vs, v ≠ unk) (hk : K (pack vs) (h.set n .dead)) : retL n0 K [n] vs h := by
  have := retL_same (n0 := n0) (H := K) hv hk
  unfold retL at *
  exact ⟨hd, this⟩

theorem good87 (hJ : Closed prog main J) {t : Tro} {r : List Int} {fv rv tell : Value} {many : Int} (X : List Nat) (hX : ∀ x ∈ X, x < H.length)
    (hF : ∀ {H'}, SameX X H H' → SliE H' fv 2 Dro.cells t.flocks) (hR : ∀ {H'}, SameX X H H' → Sli H' rv 1 r.length (r.map vint)) (f : TroFine t) (g : RotaFine t r) (hm : 0 ≤ many ∧ many ≤ 100)
    (htell : tell.cells = #[tell] ∧ one tell = true ∧ kn1 tell = true)
    {I : Nat → List Nat → List AObj → Prop} (hO : ∀ {k O H'}, I k O H' → ∀ x ∈ O, x < H'.length) (hI : ∀ {k O H1 H2}, Till H.length O H1 H2 → I k O H1 → I k O H2) (h0 : I 0 [] H)
    (call : ∀ (k : Nat) (O : List Nat) (H1 : List AObj) (Q : Value → List AObj → Prop), (k : Int) < many → SameX X H H1 → (∀ x ∈ O, H.length ≤ x) → I k O H1 → (∀ u O' H2, SameX (X ++ O) H1 H2 → (∀ x ∈ O', x ∈ O ∨ H1.length ≤ x) → I (k + 1) O' H2 → Q u H2) → callV prog (Good prog J) tell [vint (k : Nat), hourV t r k] H1 Q)
    (hK : ∀ O H2, SameX X H H2 → (∀ x ∈ O, H.length ≤ x) → I many.toNat O H2 → K (.tuple ⟨[]⟩) H2) : Good prog J 87 [.agg ⟨troCells t fv⟩, rv, vint many, tell] H K := by
  have tA : TroAt H (.agg ⟨troCells t fv⟩) t fv := ⟨rfl, hF SameX.refl⟩
  refine g87 hJ fun ok => ?_
  rw [e87]
  have rvo := sli_val (hR SameX.refl)
  refine qBox (tro_one tA) fun H1 p4 e4 S1 c1 l1 => qBox1 (v := vint many) rfl rfl fun H2 p6 e6 S2 c2 l2 => qBox1 htell.1 htell.2.1 fun H3 p7 e7 S3 c3 l3 => ?_
  refine load_part (c := troCells t fv) (S3.get (S2.get c1 (by simp)) (by simp)) (by simp [troCells]) rfl (tro_kn tA) ?_
  refine good120 hJ (tro_one tA) ⟨rvo.1, rvo.2.1⟩ fun H4 pt pr S4 ct cr gt gr => ?_
  have T4 : SameX [] H H4 := ((S1.trans S2).trans S3).trans S4
  have hT4 := T4.1
  have hS4 := S4.1
  refine l87_1 hJ (first := []) (cap := [ptr pt 0, ptr pr 0]) rfl (by decide) ?_
  -- the heap with the loop
  obtain ⟨R, hRe⟩ : ∃ R : Nat → Value, R = (RG.put (RG.put (RG.put (RG.put (RG.put (RG.put (RG.mk (regs [Value.agg ⟨troCells t fv⟩, rv, vint many, tell]) []) 4 (ptr p4 0)) 6 (ptr p6 0)) 7 (ptr p7 0)) 10 (Value.agg ⟨troCells t fv⟩)) 11 rv) 12 (Value.func (.func 131) ⟨[]⟩ ⟨[ptr pt 0, ptr pr 0]⟩)).r := ⟨_, rfl⟩
  have hl5 : (H4 ++ [AObj.deferred] ++ [lp87 .ready none R H4.length])[H4.length + 1]? = some (lp87 .ready none R H4.length) := by
    rw [List.append_assoc]
    simp
  have hd5 : (H4 ++ [AObj.deferred] ++ [lp87 .ready none R H4.length])[H4.length]? = some .deferred := by
    rw [List.append_assoc]
    simp
  have hln : (H4 ++ [AObj.deferred] ++ [lp87 .ready none R H4.length]).length = H4.length + 2 := by simp
  have S5 : SameX [] H4 (H4 ++ [AObj.deferred] ++ [lp87 .ready none R H4.length]) := SameX.refl.app.app
  have c7 : H4[p7]? = some (.cells [tell] true 0) := S4.get c3 (by simp)
  have c6 : H4[p6]? = some (.cells [vint many] true 0) := S4.get (S3.get c2 (by simp)) (by simp)
  have r6 : R 6 = ptr p6 0 := by subst hRe; rfl
  have r7 : R 7 = ptr p7 0 := by subst hRe; rfl
  generalize hH5 : H4 ++ [AObj.deferred] ++ [lp87 .ready none R H4.length] = H5 at hl5 hd5 hln S5
  have T5 : SameX [] H H5 := T4.trans S5
  have hXn : ∀ x ∈ X, x < H5.length := fun x hx => by have := hX x hx; omega
  have nX : ∀ {p : Nat}, H.length ≤ p → p ∉ X := fun hp hx => by have := hX _ hx; omega
  have hY : ∀ {H'}, SameX ((H4.length + 1) :: X) H5 H' → SameX X H H' := fun S => (T5.weak0).thru S (by
    intro y hy
    rcases List.mem_cons.1 hy with rfl | hy
    · exact .inr (by omega)
    · exact .inl hy)
  have fin : ∀ {O H'}, SameX ((H4.length + 1) :: X) H5 H' → (∀ x ∈ O, H5.length ≤ x) → I many.toNat O H' → H'[H4.length + 1]? = some (lp87 .done (some .ret) R H4.length) → ∀ v, endQ H4.length ⟨R, []⟩ (contX pl87 prog J 22 H.length 87 ct87 [1, 1, 0] (codeOf f87) [] (RetQ prog [] H.length K)) v H' := by
    intro O H' S hO5 i hl v
    refine endQ_ret hl (by simp) ?_
    rw [c87_1r]
    have hd' := S.get hd5 (by simp only [List.mem_cons, not_or]; exact ⟨by omega, nX (by omega)⟩)
    refine retL_def (get_set hd' (by omega)) (by simp) ?_
    have hs := hY S
    have hs2 : SameX X H ((H'.set (H4.length + 1) .dead).set H4.length .dead) := (hs.set (.inr (by omega))).set (.inr (by omega))
    refine hK O _ hs2 (fun x hx => by have := hO5 x hx; omega) (hI ⟨by simp, fun j hj => ?_⟩ i)
    have : j ≠ H4.length ∧ j ≠ H4.length + 1 := by
      rcases hj with hj | hj
      · omega
      · have := hO5 j hj
        omega
    rw [List.getElem?_set, if_neg (by omega), List.getElem?_set, if_neg (by omega)]
  have main131 : Good prog J 131 [.func (.yield (H4.length + 1)) ⟨[]⟩ ⟨[]⟩, ptr pt 0, ptr pr 0] H5 (endQ H4.length ⟨R, []⟩ (contX pl87 prog J 22 H.length 87 ct87 [1, 1, 0] (codeOf f87) [] (RetQ prog [] H.length K))) := by
    refine good131 hJ ((H4.length + 1) :: X) (fun x hx => ?_) (S5.get ct (by simp)) (S5.get cr (by simp)) ?_ ?_ (fun S => hF (hY S)) (fun S => hR (hY S)) f g
      (I := fun k O H' => (k : Int) ≤ many ∧ I k O H' ∧ H'[H4.length + 1]? = some (lp87 .ready none R H4.length)) (St := fun H' => ∃ O, (∀ x ∈ O, H5.length ≤ x) ∧ I many.toNat O H' ∧ H'[H4.length + 1]? = some (lp87 .done (some .ret) R H4.length)) (N := many.toNat + 1) (by omega) (fun hi => by omega) (fun hi => hO hi.2.1)
      (fun ht hi => ⟨hi.1, hI ⟨ht.1, fun j hj => ht.2 j (hj.imp (fun hj => by omega) id)⟩ hi.2.1, by rw [ht.2 _ (.inl (by omega))]; exact hi.2.2⟩) ⟨by omega, hI ⟨T5.1, fun j hj => T5.2 j (hj.resolve_right (by simp)) (by simp)⟩ h0, hl5⟩ (fun k O H1 Q S1 hOn hi k1 k2 => ?_) fun H2 S2 st => by obtain ⟨O, s1, s2, s3⟩ := st; exact fin S2 s1 s2 s3 _
    · rcases List.mem_cons.1 hx with rfl | hx
      · omega
      · exact hXn x hx
    · have := lt_of_get ct
      simp only [List.mem_cons, not_or]
      exact ⟨by omega, nX (by omega)⟩
    · have := lt_of_get cr
      simp only [List.mem_cons, not_or]
      exact ⟨by omega, nX (by omega)⟩
    · obtain ⟨i1, i2, i3⟩ := hi
      have m6 := lt_of_get c6
      have m7 := lt_of_get c7
      have c6' := S1.get (S5.get c6 (by simp)) (by simp only [List.mem_cons, not_or]; exact ⟨by omega, nX (by omega)⟩)
      have c7' := S1.get (S5.get c7 (by simp)) (by simp only [List.mem_cons, not_or]; exact ⟨by omega, nX (by omega)⟩)
      have hl1 := S1.1
      have nO : ∀ {p : Nat}, H.length ≤ p → p < H5.length → p ∉ X ++ O := fun hp hp5 hx => by
        rcases List.mem_append.1 hx with hx | hx
        · exact nX hp hx
        · have := hOn _ hx
          omega
      have hO1 := hO i2
      refine round87 hJ i3 r6 r7 c6' c7' htell.2.2 (by omega) (by omega) (fun H6 Q1 hne S6 hl6 kq => ?_) fun H6 he S6 hl6 => ?_
      · have T6 : Till H.length O H1 H6 := ⟨S6.1, fun j hj => S6.2 j (by rcases hj with hj | hj; omega; exact hO1 j hj) (by
          rcases hj with hj | hj
          · simp
            omega
          · have := hOn j hj
            simp
            omega)⟩
        refine call k O H6 _ (by omega) ((hY S1).thru S6 (by simp; omega)) (fun x hx => by have := hOn x hx; omega) (hI T6 i2) fun u O' H7 S7 hO' i7 => kq u H7 (S7.get hl6 (nO (by omega) (by omega))) ?_
        have hl7 := S7.1
        have hl66 := S6.1
        have hOn' : ∀ x ∈ O', H5.length ≤ x := fun x hx => by
          rcases hO' x hx with h | h
          · exact hOn x h
          · omega
        refine k1 O' _ ?_ (fun x hx => (hO' x hx).imp id fun h => by omega) ⟨by omega, hI ⟨by simp, fun j hj => ?_⟩ i7, List.getElem?_set_self (by omega)⟩
        · refine (((S6.weak (Y := ((H4.length + 1) :: X) ++ O) (by simp)).trans (S7.weak fun x hx => by rw [List.cons_append]; exact List.mem_cons_of_mem _ hx))).set (.inl (by simp))
        · have : j ≠ H4.length + 1 := by
            rcases hj with hj | hj
            · omega
            · have := hOn' j hj
              omega
          rw [List.getElem?_set, if_neg (by omega)]
      · have T6 : Till H.length O H1 H6 := ⟨S6.1, fun j hj => S6.2 j (by rcases hj with hj | hj; omega; exact hO1 j hj) (by
          rcases hj with hj | hj
          · simp
            omega
          · have := hOn j hj
            simp
            omega)⟩
        have hk : k = many.toNat := by omega
        subst hk
        exact k2 _ (S6.weak (by simp)) ⟨O, hOn, hI T6 i2, hl6⟩
  subst hRe
  rw [← hH5] at main131
  exact main131
end
end Go.Proofs.Ytindillghipjjaa

namespace Go.Proofs.Ytindillghipjjaa
open Go.Conc Go.Proofs.Try
set_option maxRecDepth 100000
theorem rotaE_fine {t : Tro} {r : List Int} (h : rotaE t r = 0) : TroFine t ∧ RotaFine t r := by
  unfold rotaE at h
  split at h
  · rename_i x
    exact absurd h x
  · rename_i x
    split at h
    · rename_i y
      exact absurd h y
    · rename_i y
      split at h
      · rename_i z
        refine ⟨troE_fine (by omega), ?_, fun k hk => by have := z k hk; omega⟩
        unfold fewE at y
        split at y
        · exact absurd (by decide) y
        · split at y
          · exact absurd (by decide) y
          · omega
      · cases h
theorem fine_rotaE {t : Tro} {r : List Int} (f : TroFine t) (g : RotaFine t r) : rotaE t r = 0 := by
  have h1 := fine_troE f
  have h2 : fewE r.length 1 5 = 0 := by
    have := g.len
    unfold fewE
    rw [if_neg (by omega), if_neg (by omega)]
  unfold rotaE
  rw [if_neg (by omega), if_neg (by omega), if_pos fun k hk => by have := g.who k hk; omega]

def hrsE (t : Tro) (r : List Int) (n : Int) : Int := if rotaE t r ≠ 0 then rotaE t r else if 1 ≤ n ∧ n ≤ 48 then 0 else 1
def dryR (t : Tro) (r : List Int) (n : Nat) : List Int := ((List.range n).filter fun i => decide (dry t r i)).map Int.ofNat
def dryA (t : Tro) (r : List Int) (n : Int) : List Int := if hrsE t r n = 0 then dryR t r n.toNat else []
theorem dryR_succ {t : Tro} {r : List Int} {n : Nat} : dryR t r (n + 1) = if dry t r n then dryR t r n ++ [(n : Int)] else dryR t r n := by
  unfold dryR
  rw [List.range_succ, List.filter_append]
  by_cases h : dry t r n
  · simp [h]
  · simp [h]
theorem dryR_len {t : Tro} {r : List Int} (n : Nat) : (dryR t r n).length ≤ n := by
  unfold dryR
  rw [List.length_map]
  have := List.length_filter_le (fun i => decide (dry t r i)) (List.range n)
  simpa using this

section
variable {main : Bool} {J : JT} {h H : List AObj} {K : Value → List AObj → Prop} {KV : Value → Prop} {n0 : Nat}
theorem ownX_to {H' : List AObj} {s len : Nat} {cs : List Value} {v : Value} {o : Option Nat} (ho : OwnX H s cs len v o) (e : ∀ i, o = some i → H'[i]? = H[i]?) : OwnX H' s cs len v o := by
  obtain ⟨h1, h2, h3 | ⟨i, c, sz, rfl, h4, h5, h6⟩⟩ := ho
  · exact ⟨h1, h2, .inl h3⟩
  · exact ⟨h1, h2, .inr ⟨i, c, sz, rfl, h4, by rw [e i rfl]; exact h5, h6⟩⟩

theorem putMore {po : Nat} {cs : List Value} {x lv : Value} {len : Nat} {o : Option Nat} {C : Prop} (hC : C) (h1 : x.cells = #[x]) (h2 : one x = true) (h3 : kn1 x = true) (cp : H[po]? = some (.cells [lv] true 0)) (A : OwnX H 1 cs len lv o) (ho : ∀ i, o = some i → i ≠ po) (hl : len < 1000)
    {HL : List AObj → Prop} (hK : ∀ lv' H' p', SameX (po :: o.toList) H H' → H'[po]? = some (.cells [lv'] true 0) → OwnX H' 1 (cs ++ [x]) (len + 1) lv' (some p') → H.length ≤ p' → HL H') :
    aNewS 1 [x] H fun v h => (C ∧ aApp 1 lv v h fun v9 h10 => aStore 1 (ptr po 0) v9 h10 HL) := by
  refine qNew fun H1 p1 e1 S1 c1 l1 => ⟨hC, ?_⟩
  have A1 := ownX_keep A S1 (by simp)
  refine ownX_more A1 (by omega) hl (ownX_sli (ownX_new (s := 1) (n := 1) (l := [x]) c1 rfl (by simp [kn, h3]))) fun v' H2 p2 e2 A2 S2 => ?_
  have hpo := lt_of_get cp
  have c2 := S2.get (S1.get cp (by simp)) (fun hm => ho po (by simpa using hm) rfl)
  refine qSt c2 (by simp) (ownX_val A2).1 (ownX_val A2).2.1 fun H3 S3 c3 l3 => ?_
  have hl1 := S1.1
  refine hK v' H3 p2 ?_ c3 (ownX_keep A2 S3 fun i hi => by cases hi; simp; omega) (by omega)
  exact (((S1.weak0 (Y := po :: o.toList)).trans (S2.weak fun x hx => List.mem_cons_of_mem _ hx))).trans (S3.weak (by simp))

theorem good93 (hJ : Closed prog main J) {po k : Nat} {t : Tro} {r : List Int} {cs : List Value} {lv : Value} {len : Nat} {o : Option Nat} (cp : H[po]? = some (.cells [lv] true 0)) (A : OwnX H 1 cs len lv o) (ho : ∀ i, o = some i → i ≠ po) (hl : len < 1000)
    (hK : ∀ lv' H' p', dry t r k → SameX (po :: o.toList) H H' → H'[po]? = some (.cells [lv'] true 0) → OwnX H' 1 (cs ++ [vint (k : Nat)]) (len + 1) lv' (some p') → H.length ≤ p' → K (.tuple ⟨[]⟩) H')
    (hN : ∀ H', ¬ dry t r k → SameX [] H H' → K (.tuple ⟨[]⟩) H') :
    Good prog J 93 [vint (k : Nat), hourV t r k, ptr po 0] H K := by
  refine g93 hJ fun ok => ?_
  rw [e93]
  refine qBox hour_one.1 fun H1 p1 e1 S1 c1 l1 => ?_
  refine offI (ldI (v := .bool (decide (dry t r k))) c1 rfl rfl ?_)
  have hl1 := S1.1
  refine cndI (fun hd => ?_) fun hd => retL_same (by simp) (hN H1 hd S1)
  refine ldI (v := lv) (S1.get cp (by simp)) rfl (ownX_val A).2.2 ?_
  refine ⟨by decide, fill_one rfl rfl rfl (by decide) (fillI ?_)⟩
  refine putMore (x := vint (k : Nat)) (by decide) rfl rfl rfl (S1.get cp (by simp)) (ownX_keep A S1 (by simp)) ho hl fun lv' H' p' S' c' A' g' => retL_same (by simp) (hK lv' H' p' hd ?_ c' A' (by omega))
  exact (S1.weak0).trans S'

def GrowI (po : Nat) (L : Nat → List Int) (k : Nat) (O : List Nat) (H : List AObj) : Prop :=
  ∃ lv o, O = Option.toList o ∧ H[po]? = some (.cells [lv] true 0) ∧ OwnX H 1 ((L k).map vint) (L k).length lv o ∧ (∀ i, o = some i → i ≠ po) ∧ (L k).length ≤ k
theorem GrowI.lt {po k : Nat} {L : Nat → List Int} {O : List Nat} (a : GrowI po L k O H) : ∀ x ∈ O, x < H.length := by
  obtain ⟨lv, o, rfl, c, A, ho, hl⟩ := a
  intro x hx
  exact ownX_lt A x (by simpa using hx)
theorem GrowI.to {po k n : Nat} {L : Nat → List Int} {O : List Nat} {H1 H2 : List AObj} (hp : po < n) (T : Till n O H1 H2) (a : GrowI po L k O H1) : GrowI po L k O H2 := by
  obtain ⟨lv, o, rfl, c, A, ho, hl⟩ := a
  exact ⟨lv, o, rfl, by rw [T.2 po (.inl hp)]; exact c, ownX_to A fun i hi => T.2 i (.inr (by simpa using hi)), ho, hl⟩

theorem good46 (hJ : Closed prog main J) {v fv rv : Value} {t : Tro} {r : List Int} {n : Int} (ht : TroAt H v t fv) (hr : Sli H rv 1 r.length (r.map vint)) (hl : t.flocks.length ≤ 1000000)
    (hK : ∀ H' lv, SameX [] H H' → Sli H' lv 1 (dryA t r n).length ((dryA t r n).map vint) → K (.tuple ⟨[lv, vint (hrsE t r n)]⟩) H') : Good prog J 46 [v, rv, vint n] H K := by
  refine g46 hJ fun ok => ?_
  rw [e46, ht.val]
  refine qBox (tro_one ht) fun H1 p1 e1 S1 c1 l1 => ?_
  have tk := tro_kn ht
  refine load_part (c := troCells t fv) c1 (by simp [troCells]) rfl tk (good86 hJ ⟨rfl, S1.sli ht.fl (by simp)⟩ (S1.sli hr (by simp)) hl (neqI (cndI (fun g1 => ?_) fun g1 => ?_)))
  · have e : hrsE t r n = rotaE t r := by unfold hrsE; rw [if_pos g1]
    refine retL_same (by simp [unk]) ?_
    have := hK H1 (.slice none 0 0) S1 (by unfold dryA; rw [if_neg (by omega)]; exact sli_nil)
    rw [e] at this
    exact this
  · obtain ⟨f, g⟩ := rotaE_fine (by omega : rotaE t r = 0)
    refine good71 hJ (notI (cndN (fun g2 => ?_) fun g2 => ?_))
    · have e : hrsE t r n = 1 := by unfold hrsE; rw [if_neg g1, if_neg g2]
      refine retL_same (by simp [unk]) ?_
      have := hK H1 (.slice none 0 0) S1 (by unfold dryA; rw [if_neg (by omega)]; exact sli_nil)
      rw [e] at this
      exact this
    · have e : hrsE t r n = 0 := by unfold hrsE; rw [if_neg g1, if_pos g2]
      have eA : dryA t r n = dryR t r n.toNat := by unfold dryA; rw [if_pos e]
      refine qAl fun H2 p2 e2 S2 c2 l2 => load_part (c := troCells t fv) (S2.get c1 (by simp)) (by simp [troCells]) rfl tk ⟨rfl, ?_⟩
      have T2 : SameX [] H H2 := S1.trans S2
      refine good87 hJ [p2] (by simp; omega) (fun S => (T2.weak0.trans S).sli ht.fl (by simp; omega)) (fun S => (T2.weak0.trans S).sli hr (by simp; omega)) f g (by omega) ⟨rfl, rfl, rfl⟩
        (I := GrowI p2 (dryR t r)) (fun i => i.lt) (fun T i => i.to (by omega) T) ⟨.slice none 0 0, none, rfl, c2, ⟨rfl, rfl, .inl ⟨rfl, rfl, rfl⟩⟩, by simp, by simp [dryR]⟩ (fun k O H3 Q hk S3 hO i3 kq => ?_) fun O H3 S3 hO i3 => ?_
      · obtain ⟨lv, o, rfl, c3, A3, ho, hll⟩ := i3
        have hsucc := dryR_succ (t := t) (r := r) (n := k)
        refine callC (by kernel_rfl) (good93 hJ (t := t) (r := r) c3 A3 ho (by omega) (fun lv' H4 p4 hd S4 c4 A4 g4 => kq _ [p4] H4 (by simpa using S4) (fun x hx => ?_) ⟨lv', some p4, rfl, c4, ?_, fun i hi => by cases hi; have := lt_of_get c3; omega, dryR_len _⟩) fun H4 hd S4 => kq _ o.toList H4 S4.weak0 (fun x hx => .inl hx) ⟨lv, o, rfl, S4.get c3 (by simp), ?_, ho, dryR_len _⟩)
        · have : x = p4 := by simpa using hx
          exact .inr (by omega)
        · rw [if_pos hd] at hsucc
          rw [hsucc, List.map_append, List.length_append]
          exact A4
        · rw [if_neg hd] at hsucc
          rw [hsucc]
          exact ownX_keep A3 S4 (by simp)
      · obtain ⟨lv, o, rfl, c3, A3, ho, hll⟩ := i3
        refine ldI (v := lv) c3 rfl (ownX_val A3).2.2 (retL_same ?_ ?_)
        · intro v hv
          rcases List.mem_cons.1 hv with rfl | hv
          · intro e
            have := (ownX_val A3).2.2
            rw [e] at this
            cases this
          · have : v = vint 0 := by simpa using hv
            subst this
            simp [unk]
        · have := hK H3 lv (T2.thru S3 (by simp; omega)) (by rw [eA]; exact ownX_sli A3)
          rw [e] at this
          exact this
end
end Go.Proofs.Ytindillghipjjaa

namespace Go.Proofs.Ytindillghipjjaa
open Go.Conc Go.Proofs.Try
set_option maxRecDepth 100000
theorem dryR_get {t : Tro} {r : List Int} {i : Nat} (hd : dry t r i) : ∀ {n : Nat}, i < n → (dryR t r n)[(dryR t r i).length]? = some (i : Int)
  | 0, h => absurd h (Nat.not_lt_zero _)
  | n + 1, h => by
    rw [dryR_succ]
    rcases Nat.lt_or_ge i n with x | x
    · have ih := dryR_get hd x
      split
      · rw [List.getElem?_append_left (List.getElem?_eq_some_iff.1 ih).1]
        exact ih
      · exact ih
    · have : i = n := by omega
      subst this
      rw [if_pos hd, List.getElem?_append_right (Nat.le_refl _)]
      simp
theorem hrsE_fine {t : Tro} {r : List Int} {n : Int} (f : TroFine t) (g : RotaFine t r) (h : 1 ≤ n ∧ n ≤ 48) : hrsE t r n = 0 := by
  unfold hrsE
  have := fine_rotaE f g
  rw [if_neg (by omega), if_pos h]

section
variable {main : Bool} {J : JT} {h H : List AObj} {K : Value → List AObj → Prop} {KV : Value → Prop} {n0 : Nat}
theorem good50 (hJ : Closed prog main J) {rv : Value} {r : List Int} {i : Nat} (hr : Sli H rv 1 r.length (r.map vint)) (hne : 0 < r.length) (hi : i < 1000000) (hK : K (vint (turnOf r i)) H) : Good prog J 50 [rv, vint (i : Nat)] H K := by
  refine g50 hJ fun ok => ?_
  rw [e50]
  have hmod := Nat.mod_lt i hne
  have hturn : r[i % r.length]? = some (turnOf r i) := by
    unfold turnOf
    rw [List.getD_eq_getElem?_getD, List.getElem?_eq_getElem hmod]
    rfl
  exact lenI hr (remI hi hne (sli_num' hr hturn fun q => retL_same (by simp [unk]) hK))

end
end Go.Proofs.Ytindillghipjjaa

namespace Go.Proofs.Ytindillghipjjaa
open Go.Conc Go.Proofs.Try
set_option maxRecDepth 100000
def metP (t : Tro) (r : List Int) (k : Nat) : Int × Int := (lvl t r k, ((k % r.length : Nat) : Int))
def metV (p : Int × Int) : Value := .agg ⟨[vint p.1, vint p.2]⟩
def metL (t : Tro) (r : List Int) (k : Nat) : List (Int × Int) := (List.range k).map (metP t r)
def metE (l : List (Int × Int)) : List (Value × Value) := l.map fun p => (metV p, .bool true)
theorem metL_succ {t : Tro} {r : List Int} {k : Nat} : metL t r (k + 1) = metL t r k ++ [metP t r k] := by simp [metL, List.range_succ]

theorem teqM (a b c d : Int) : teq prog 10000 136 (.agg ⟨[vint a, vint b]⟩) (.agg ⟨[vint c, vint d]⟩) =
    (match some (a == c) with
    | some true => (match some (b == d) with
      | some true => some true
      | some false => some false
      | none => none)
    | some false => some false
    | none => none) := by kernel_rfl
theorem teqM2 (p q : Int × Int) : teq prog 10000 136 (metV p) (metV q) = some (decide (p = q)) := by
  obtain ⟨a, b⟩ := p
  obtain ⟨c, d⟩ := q
  unfold metV
  rw [teqM]
  by_cases e1 : a = c
  · by_cases e2 : b = d
    · simp [e1, e2]
    · rw [beq_eq_false_iff_ne.2 e2, beq_iff_eq.2 e1]
      simp [e2]
  · rw [beq_eq_false_iff_ne.2 e1]
    simp [e1]
theorem met_find (p : Int × Int) : ∀ l : List (Int × Int), mfind prog 136 (metV p) (metE l) = if p ∈ l then some (some (.bool true)) else some none
  | [] => rfl
  | q :: l => by
    have ih := met_find p l
    show (match teq prog 10000 136 (metV p) (metV q) with
      | some true => some (some (Value.bool true))
      | some false => mfind prog 136 (metV p) (metE l)
      | none => none) = _
    rw [teqM2]
    by_cases h : p = q
    · simp [h]
    · rw [decide_eq_false h]
      simp only [ih, List.mem_cons, h, false_or]
theorem met_key (p : Int × Int) : kOk prog 10000 136 (metV p) = true := by kernel_rfl

section
variable {main : Bool} {J : JT} {h H : List AObj} {K : Value → List AObj → Prop} {KV : Value → Prop} {HL : List AObj → Prop} {n0 : Nat}
theorem met_look {b : Nat} {l : List (Int × Int)} {wr : Bool} {p : Int × Int} (hb : h[b]? = some (.map (metE l) wr)) (hk : KV (.bool (decide (p ∈ l)))) : aLook prog 134 false (.map (some b)) (metV p) h KV := by
  have e1 : prog.underlying 134 = some (.map 136 4) := by kernel_rfl
  have e2 : zv1 prog 4 = some (.bool false) := by kernel_rfl
  unfold aLook
  rw [e1]
  simp only
  rw [hb, e2]
  simp only
  rw [met_find]
  by_cases hm : p ∈ l
  · rw [if_pos hm]
    rw [decide_eq_true hm] at hk
    exact ⟨met_key p, hk⟩
  · rw [if_neg hm]
    rw [decide_eq_false hm] at hk
    exact ⟨met_key p, hk⟩
theorem met_upd {b : Nat} {l : List (Int × Int)} {p : Int × Int} (hb : h[b]? = some (.map (metE l) true)) (hm : p ∉ l) (hk : HL (h.set b (.map (metE (l ++ [p])) true))) : aUpd prog 134 (.map (some b)) (metV p) (.bool true) h HL := by
  have e1 : prog.underlying 134 = some (.map 136 4) := by kernel_rfl
  unfold aUpd
  rw [e1]
  simp only
  rw [hb]
  have e : metE (l ++ [p]) = metE l ++ [(metV p, .bool true)] := by simp [metE]
  rw [e] at hk
  refine ⟨met_key p, by simp [metV, VOk, AOk, LOk], ?_, hk⟩
  rw [met_find, if_neg hm]

theorem endQ_exit {n id : Nat} {f : RG} {Q : QT} {v : Value} {st : LoopState} {fn : FuncId} {r : Nat → Value} {size : Nat} {params : Array Tmp} {assign body : Code} {dfr : Nat} (hl : h[n + 1]? = some (.loop st (some (.exit id)) fn r size params assign body dfr)) (hs : st ≠ .busy) (hq : Q (.exit id) ⟨f.r, n :: f.ds⟩ (h.set (n + 1) .dead)) : endQ n f Q v h :=
  ⟨st, some (.exit id), _, _, _, _, _, _, _, hl, hs, hq⟩

noncomputable abbrev lp89 (st : LoopState) (pend : Option Code) (r : Nat → Value) (d : Nat) : AObj := .loop st pend 89 r 34 #[14, 15] (subC [1, 0, 1, 1, 1, 0, 1, 0, 0] (codeOf f89)) (subC [1, 0, 1, 1, 1, 0, 1, 0, 1] (codeOf f89)) d

theorem round89 (hJ : Closed prog main J) {l p3 p5 p6 pm d k : Nat} {R : Nat → Value} {rv : Value} {t : Tro} {r : List Int} {L : List (Int × Int)} {Q : Value → List AObj → Prop} (hl : H[l]? = some (lp89 .ready none R d))
    (r3 : R 3 = ptr p3 0) (r5 : R 5 = ptr p5 0) (r6 : R 6 = ptr p6 0) (c3 : H[p3]? = some (.cells [rv] true 0)) (c5 : H[p5]? = some (.cells [.map (some pm)] true 0)) (cm : H[pm]? = some (.map (metE L) true)) (c6 : H[p6]? = some (.cells [vint (-1)] true 0))
    (hr : Sli H rv 1 r.length (r.map vint)) (hlen : 0 < r.length) (hk : k < 1000000)
    (n3 : p3 ≠ l) (n5 : p5 ≠ l) (nm : pm ≠ l) (n6 : p6 ≠ l) (n36 : p3 ≠ p6) (nm6 : pm ≠ p6)
    (k1 : ∀ H', ¬ dry t r k → metP t r k ∉ L → SameX [l, pm] H H' → H'[l]? = some (lp89 .ready none R d) → H'[pm]? = some (.map (metE (L ++ [metP t r k])) true) → Q (.bool true) H')
    (k2 : ∀ H', ¬ dry t r k → metP t r k ∈ L → SameX [l] H H' → H'[l]? = some (lp89 .done (some (.exit 0)) R d) → Q (.bool false) H')
    (k3 : ∀ H', dry t r k → SameX [l, p6] H H' → H'[l]? = some (lp89 .done (some (.exit 0)) R d) → H'[p6]? = some (.cells [vint (k : Nat)] true 0) → Q (.bool false) H') :
    callV prog (Good prog J) (.func (.yield l) ⟨[]⟩ ⟨[]⟩) [vint (k : Nat), hourV t r k] H Q := by
  show Good prog J (yid prog l) [vint (k : Nat), hourV t r k] H Q
  have hll := lt_of_get hl
  have kr := (sli_val hr).2.2
  have hmb : mapBlk rv = none := by
    obtain ⟨base, c, hrv, _⟩ := id hr
    rw [hrv]
    rfl
  have h3l := lt_of_get c3
  have h5l := lt_of_get c5
  have h6l := lt_of_get c6
  have hml := lt_of_get cm
  refine good_round hJ hl rfl (by decide) fun ok => W_sound hJ mixed _ ?_
  rw [a89_1]
  refine qAl fun H1 p1 e1 S1 c1 l1 => qStA (c := hourC t r k) c1 rfl rfl hour_one.1 fun H2 S2 c2 l2 => ?_
  have hl2 : H2[l]? = some (lp89 .ready none R d) := S2.get (S1.get hl (by simp)) (by simp; omega)
  refine ⟨rfl, none, _, _, _, _, _, _, _, hl2, W_sound hJ mixed _ ?_⟩
  rw [b89_1]
  have S02 : SameX [] H H2 := S1.thru S2 (by simp; omega)
  have hl3 : (H2.set l (lp89 .busy none R d))[l]? = some (lp89 .busy none R d) := List.getElem?_set_self (lt_of_get hl2)
  have S3 : SameX [l] H (H2.set l (lp89 .busy none R d)) := (S02.weak0).set (.inl (by simp))
  have cx3 : (H2.set l (lp89 .busy none R d))[p1]? = some (.cells (hourC t r k) true 0) := get_set c2 (by omega)
  generalize H2.set l (lp89 .busy none R d) = H3 at hl3 S3 cx3
  have hs3 := S3.1
  have hx3 := lt_of_get cx3
  refine ⟨[p1, p3], ?_⟩
  show aOff (ptr p1 0) 0 _
  refine offI (ldI (v := vint (lvl t r k)) cx3 rfl rfl ⟨by simp [RdOk, ptrBlk, ptr], ?_⟩)
  show aLoad false 1 (R 3) _ _
  rw [r3]
  have hr3 : Sli H3 rv 1 r.length (r.map vint) := by
    obtain ⟨base, c, hrv, hc, hb⟩ := id hr
    refine ⟨base, c, hrv, hc, ?_⟩
    rcases hb with hb | ⟨b, o, hb, hb2 | ⟨cs, wr, sz, hb2, hb3⟩⟩
    · exact .inl hb
    · exact .inr ⟨b, o, hb, .inl hb2⟩
    · refine .inr ⟨b, o, hb, .inr ⟨cs, wr, sz, S3.get hb2 ?_, hb3⟩⟩
      simp only [List.mem_singleton]
      intro e
      subst e
      rw [hl] at hb2
      cases hb2
  refine ldI (v := rv) (S3.get c3 (by simpa using n3)) rfl kr ⟨?_, lenI hr3 ⟨by rw [hmb]; trivial, ?_⟩⟩
  · show RdOk (some [p1, p3]) (ptrBlk (R 3))
    rw [r3]
    simp [RdOk, ptrBlk, ptr]
  show aBin prog .rem 3 (vint (k : Nat)) (vint (r.length : Nat)) _
  refine remI hk hlen ?_
  refine fill_one rfl rfl rfl (by decide) (fill_one rfl rfl rfl (Nat.le_of_ble_eq_true rfl) (fillI ?_))
  refine qAl fun H4 p7 e7 S4 c4 l4 => ⟨fun b hb => S4.2 b (by simp at hb; omega) (by simp), ?_⟩
  refine qStA (c := [vint (metP t r k).1, vint (metP t r k).2]) c4 rfl rfl rfl fun H5 S5 c5' l5 => ?_
  have S35 : SameX [] H3 H5 := S4.thru S5 (by simp; omega)
  have S05 : SameX [l] H H5 := S3.trans S35.weak0
  have hl5 := S35.get hl3 (by simp)
  refine offI (ldI (v := .bool (decide (dry t r k))) (S35.get cx3 (by simp)) rfl rfl ?_)
  refine cndI (fun hd => ?_) fun hd => ?_
  · show aStore 1 (R 6) (vint (k : Nat)) _ _
    rw [r6]
    refine qSt (S05.get c6 (by simpa using n6)) (by simp) rfl rfl fun H6 S6 c6' l6 => ?_
    have hl6 := S6.get hl5 (by simpa using n6.symm)
    have hl66 := lt_of_get hl6
    refine ⟨.busy, none, _, _, _, _, _, _, _, hl6, .inl (k3 _ hd ?_ (List.getElem?_set_self hl66) (get_set c6' n6))⟩
    exact ((S05.weak (by simp)).trans (S6.weak (by simp))).set (.inl (by simp))
  · show aLoad false 1 (R 5) _ _
    rw [r5]
    refine ldI (v := .map (some pm)) (S05.get c5 (by simpa using n5)) rfl rfl ?_
    refine load_part (c := [vint (metP t r k).1, vint (metP t r k).2]) c5' (by simp) rfl rfl ?_
    have cm5 := S05.get cm (by simpa using nm)
    refine met_look (p := metP t r k) cm5 (cndI (fun hm => ?_) fun hm => ?_)
    · have hl55 := lt_of_get hl5
      refine ⟨.busy, none, _, _, _, _, _, _, _, hl5, .inl (k2 _ hd hm (S05.set (.inl (by simp))) (List.getElem?_set_self hl55))⟩
    · show aLoad false 1 (R 5) _ _
      rw [r5]
      refine ldI (v := .map (some pm)) (S05.get c5 (by simpa using n5)) rfl rfl ?_
      refine load_part (c := [vint (metP t r k).1, vint (metP t r k).2]) c5' (by simp) rfl rfl ⟨⟨by simp [VOk], rfl⟩, ?_⟩
      refine met_upd (p := metP t r k) cm5 hm ?_
      have hm5 := lt_of_get cm5
      have hl6 : (H5.set pm (.map (metE (L ++ [metP t r k])) true))[l]? = some (lp89 .busy none R d) := get_set hl5 nm.symm
      have hl66 := lt_of_get hl6
      refine ⟨.busy, none, _, _, _, _, _, _, _, hl6, .inl (k1 _ hd hm ?_ (List.getElem?_set_self hl66) (get_set (List.getElem?_set_self hm5) nm))⟩
      exact ((S05.weak (Y := [l, pm]) (by simp)).set (.inl (by simp))).set (.inl (by simp))

theorem met_bound {t : Tro} {r : List Int} (f : TroFine t) (hp : 0 < r.length) {k : Nat} (hd : ∀ i j, i < j → j < k → metP t r i ≠ metP t r j) : k ≤ bound t r := by
  rcases Nat.lt_or_ge (bound t r) k with hk | hk
  · obtain ⟨i, j, hij, hj, e⟩ := pigeon (bound t r) (fun h => (lvl t r h).toNat * r.length + h % r.length) (fun h _ => by
      have := lvl_bd (r := r) f h
      exact code_lt (Nat.mod_lt h hp) (by omega))
    obtain ⟨e1, e2⟩ := code_inj (Nat.mod_lt i hp) (Nat.mod_lt j hp) e
    have b1 := lvl_bd (r := r) f i
    have b2 := lvl_bd (r := r) f j
    refine absurd ?_ (hd i j hij (by omega))
    unfold metP
    rw [e2, show lvl t r i = lvl t r j from by omega]
  · exact hk
theorem met_mem {t : Tro} {r : List Int} {k : Nat} {p : Int × Int} : p ∈ metL t r k ↔ ∃ i, i < k ∧ metP t r i = p := by
  simp [metL]

theorem good89 (hJ : Closed prog main J) {v fv rv : Value} {t : Tro} {r : List Int} (ht : TroAt H v t fv) (hr : Sli H rv 1 r.length (r.map vint)) (f : TroFine t) (g : RotaFine t r)
    (hK : ∀ H', SameX [] H H' → K (vint (lastsR t r)) H') : Good prog J 89 [v, rv] H K := by
  refine g89 hJ fun ok => ?_
  rw [e89, ht.val]
  have rvo := sli_val hr
  have hlen := g.len
  have hrne : r ≠ [] := by intro e; rw [e] at hlen; simp at hlen
  refine qBox (tro_one ht) fun H1 p2 e2 S1 c2 l1 => qBox1 rvo.1 rvo.2.1 fun H2 p3 e3 S2 c3 l2 => qNewM fun H3 pm em S3 cm l3 => qAl fun H4 p5 e5 S4 c5 l4 => ?_
  refine qSt c5 (by simp) rfl rfl fun H5 S5 c5 l5 => qAl fun H6 p6 e6 S6 c6 l6 => qSt c6 (by simp) rfl rfl fun H7 S7 c6 l7 => ?_
  have c5 : H5[p5]? = some (.cells [.map (some pm)] true 0) := c5
  have c6 : H7[p6]? = some (.cells [vint (-1)] true 0) := c6
  have T4 : SameX [] H H4 := ((S1.trans S2).trans S3).trans S4
  have T7 : SameX [] H H7 := (((T4.thru S5 (by have := T4.1; simp; omega)).trans S6).thru S7 (by have := T4.1; simp; omega))
  have U7 : SameX [p5, p6] H4 H7 := ((S5.weak (by simp)).trans S6.weak0).trans (S7.weak (by simp))
  have c27 : H7[p2]? = some (.cells (troCells t fv) true 0) := U7.get (S4.get (S3.get (S2.get c2 (by simp)) (by simp)) (by simp)) (by simp; omega)
  have c37 : H7[p3]? = some (.cells [rv] true 0) := U7.get (S4.get (S3.get c3 (by simp)) (by simp)) (by simp; omega)
  have cm7 : H7[pm]? = some (.map [] true) := U7.get (S4.get cm (by simp)) (by simp; omega)
  have c57 : H7[p5]? = some (.cells [.map (some pm)] true 0) := S7.get (S6.get c5 (by simp)) (by simp; omega)
  have hS1 := S1.1
  refine load_part (c := troCells t fv) c27 (by simp [troCells]) rfl (tro_kn ht) (ldI (v := rv) c37 rfl rvo.2.2 ?_)
  refine good120 hJ (tro_one ht) ⟨rvo.1, rvo.2.1⟩ fun H8 pt pr S8 ct cr gt gr => ?_
  have T8 : SameX [] H H8 := T7.trans S8
  have hT8 := S8.1
  have hT7 := T7.1
  refine l89_1 hJ (first := []) (cap := [ptr pt 0, ptr pr 0]) rfl (by decide) ?_
  obtain ⟨R, hRe⟩ : ∃ R : Nat → Value, R = (RG.put (RG.put (RG.put (RG.put (RG.put (RG.put (RG.put (RG.put (RG.put (RG.mk (regs [Value.agg ⟨troCells t fv⟩, rv]) []) 2 (ptr p2 0)) 3 (ptr p3 0)) 4 (vint 0)) 10 (.map (some pm))) 5 (ptr p5 0)) 6 (ptr p6 0)) 11 (Value.agg ⟨troCells t fv⟩)) 12 rv) 13 (Value.func (.func 131) ⟨[]⟩ ⟨[ptr pt 0, ptr pr 0]⟩)).r := ⟨_, rfl⟩
  have hl9 : (H8 ++ [AObj.deferred] ++ [lp89 .ready none R H8.length])[H8.length + 1]? = some (lp89 .ready none R H8.length) := by
    rw [List.append_assoc]
    simp
  have hd9 : (H8 ++ [AObj.deferred] ++ [lp89 .ready none R H8.length])[H8.length]? = some .deferred := by
    rw [List.append_assoc]
    simp
  have hln : (H8 ++ [AObj.deferred] ++ [lp89 .ready none R H8.length]).length = H8.length + 2 := by simp
  have S9 : SameX [] H8 (H8 ++ [AObj.deferred] ++ [lp89 .ready none R H8.length]) := SameX.refl.app.app
  have r3 : R 3 = ptr p3 0 := by subst hRe; rfl
  have r5 : R 5 = ptr p5 0 := by subst hRe; rfl
  have r6 : R 6 = ptr p6 0 := by subst hRe; rfl
  generalize hH9 : H8 ++ [AObj.deferred] ++ [lp89 .ready none R H8.length] = H9 at hl9 hd9 hln S9
  have T9 : SameX [] H H9 := T8.trans S9
  have S79 : SameX [] H7 H9 := S8.trans S9
  have cx3 := S79.get c37 (by simp)
  have cx5 := S79.get c57 (by simp)
  have cx6 := S79.get c6 (by simp)
  have cxm := S79.get cm7 (by simp)
  have q2 := lt_of_get c2
  have q3 := lt_of_get c3
  have qm := lt_of_get cm
  have q6 := lt_of_get c6
  have q5 := lt_of_get c57
  have hlp : H.length ≤ p2 := by omega
  have hY : ∀ {H'}, SameX [H8.length + 1, pm, p6] H9 H' → SameX [] H H' := fun S => T9.thru S (by simp; omega)
  have fin : ∀ {H'}, SameX [H8.length + 1, pm, p6] H9 H' → H'[p6]? = some (.cells [vint (lastsR t r)] true 0) → H'[H8.length + 1]? = some (lp89 .done (some (.exit 0)) R H8.length) → ∀ v, endQ H8.length ⟨R, []⟩ (contX pl89 prog J 34 H.length 89 ct89 [1, 0, 1, 1, 1, 0, 1, 0] (codeOf f89) [] (RetQ prog [.tmp 4] H.length K)) v H' := by
    intro H' S h6 hl v
    refine endQ_exit hl (by simp) ?_
    rw [c89_1x0]
    show aLoad false 1 (R 6) _ _
    rw [r6]
    refine ldI (v := vint (lastsR t r)) (get_set h6 (by omega)) rfl rfl ?_
    have hd' := S.get hd9 (by simp; omega)
    refine retL_def (get_set hd' (by omega)) (by simp [unk]) ?_
    exact hK _ (((hY S).set (.inr (by omega))).set (.inr (by omega)))
  have main131 : Good prog J 131 [.func (.yield (H8.length + 1)) ⟨[]⟩ ⟨[]⟩, ptr pt 0, ptr pr 0] H9 (endQ H8.length ⟨R, []⟩ (contX pl89 prog J 34 H.length 89 ct89 [1, 0, 1, 1, 1, 0, 1, 0] (codeOf f89) [] (RetQ prog [.tmp 4] H.length K))) := by
    have lpt := lt_of_get ct
    have lpr := lt_of_get cr
    refine good131 hJ [H8.length + 1, pm, p6] (by simp; omega) (S9.get ct (by simp)) (S9.get cr (by simp)) (by simp; omega) (by simp; omega) (fun S => (hY S).sli ht.fl (by simp)) (fun S => (hY S).sli hr (by simp)) f g
      (I := fun k O H' => O = [] ∧ H'[H8.length + 1]? = some (lp89 .ready none R H8.length) ∧ H'[pm]? = some (.map (metE (metL t r k)) true) ∧ H'[p6]? = some (.cells [vint (-1)] true 0) ∧ (∀ i, i < k → ¬ dry t r i) ∧ (∀ i j, i < j → j < k → metP t r i ≠ metP t r j))
      (St := fun H' => H'[H8.length + 1]? = some (lp89 .done (some (.exit 0)) R H8.length) ∧ H'[p6]? = some (.cells [vint (lastsR t r)] true 0)) (N := bound t r + 1) (by have := bound_le f g.len.2; omega) (fun hi => Nat.lt_succ_of_le (met_bound f (by omega) hi.2.2.2.2.2)) (fun hi => by rw [hi.1]; simp)
      (fun T hi => ⟨hi.1, by rw [T.2 _ (.inl (by omega))]; exact hi.2.1, by rw [T.2 _ (.inl (by omega))]; exact hi.2.2.1, by rw [T.2 _ (.inl (by omega))]; exact hi.2.2.2.1, hi.2.2.2.2⟩)
      ⟨rfl, hl9, cxm, cx6, by simp, by simp⟩ (fun k O Ha Q Sa _ hi k1 k2 => ?_) fun H' S' st => fin S' st.2 st.1 _
    obtain ⟨rfl, i1, i2, i3, i4, i5⟩ := hi
    have hkb := met_bound f (by omega) i5
    have hbl := bound_le f g.len.2
    refine round89 hJ (t := t) i1 r3 r5 r6 (Sa.get cx3 (by simp; omega)) (Sa.get cx5 (by simp; omega)) i2 i3 ((hY Sa).sli hr (by simp)) (by omega) (by omega) (by omega) (by omega) (by omega) (by omega) (by omega) (by omega) (fun Hb nd nm Sb hb1 hb2 => ?_) (fun Hb nd hm Sb hb1 => ?_) fun Hb hd Sb hb1 hb2 => ?_
    · refine k1 [] Hb (Sb.weak (by simp)) (by simp) ⟨rfl, hb1, by rw [metL_succ]; exact hb2, Sb.get i3 (by simp; omega), fun i hi => ?_, fun i j hij hj => ?_⟩
      · rcases Nat.lt_or_ge i k with x | x
        · exact i4 i x
        · rwa [show i = k from by omega]
      · rcases Nat.lt_or_ge j k with x | x
        · exact i5 i j hij x
        · have : j = k := by omega
          subst this
          intro e
          exact nm (met_mem.2 ⟨i, hij, e⟩)
    · obtain ⟨i, hik, e⟩ := met_mem.1 hm
      have hlst : lastsR t r = -1 := by
        refine lasts_none (dry_back hik ?_ ?_ i4)
        · have := congrArg Prod.fst e
          exact this
        · have := congrArg Prod.snd e
          have : ((i % r.length : Nat) : Int) = ((k % r.length : Nat) : Int) := this
          omega
      exact k2 Hb (Sb.weak (by simp)) ⟨hb1, by rw [hlst]; exact Sb.get i3 (by simp; omega)⟩
    · have hlst : lastsR t r = k := lasts_at f hrne hd i4
      exact k2 Hb (Sb.weak (by simp)) ⟨hb1, by rw [hlst]; exact hb2⟩
  subst hRe
  rw [← hH9] at main131
  exact main131

def lastA (t : Tro) (r : List Int) : Int := if rotaE t r = 0 ∧ 0 ≤ lastsR t r then lastsR t r else 0
def lastE (t : Tro) (r : List Int) : Int := if rotaE t r ≠ 0 then rotaE t r else if lastsR t r < 0 then 11 else 0
theorem good38 (hJ : Closed prog main J) {v fv rv : Value} {t : Tro} {r : List Int} (ht : TroAt H v t fv) (hr : Sli H rv 1 r.length (r.map vint)) (hl : t.flocks.length ≤ 1000000)
    (hK : ∀ H', SameX [] H H' → K (.tuple ⟨[vint (lastA t r), vint (lastE t r)]⟩) H') : Good prog J 38 [v, rv] H K := by
  refine g38 hJ fun ok => ?_
  rw [e38, ht.val]
  refine qBox (tro_one ht) fun H1 p1 e1 S1 c1 l1 => ?_
  have tk := tro_kn ht
  refine load_part (c := troCells t fv) c1 (by simp [troCells]) rfl tk (good86 hJ ⟨rfl, S1.sli ht.fl (by simp)⟩ (S1.sli hr (by simp)) hl (neqI (cndI (fun g1 => ?_) fun g1 => ?_)))
  · have e : lastE t r = rotaE t r := by unfold lastE; rw [if_pos g1]
    have e' : lastA t r = 0 := by unfold lastA; rw [if_neg fun x => g1 x.1]
    refine retL_same (by simp [unk]) ?_
    have := hK H1 S1
    rw [e, e'] at this
    exact this
  · obtain ⟨f, g⟩ := rotaE_fine (by omega : rotaE t r = 0)
    refine load_part (c := troCells t fv) c1 (by simp [troCells]) rfl tk (good89 hJ ⟨rfl, S1.sli ht.fl (by simp)⟩ (S1.sli hr (by simp)) f g fun H2 S2 => ?_)
    have T2 := S1.trans S2
    refine lssI (cndI (fun g2 => ?_) fun g2 => ?_)
    · have e : lastE t r = 11 := by unfold lastE; rw [if_neg g1, if_pos g2]
      have e' : lastA t r = 0 := by unfold lastA; rw [if_neg fun x => by have := x.2; omega]
      refine retL_same (by simp [unk]) ?_
      have := hK H2 T2
      rw [e, e'] at this
      exact this
    · have e : lastE t r = 0 := by unfold lastE; rw [if_neg g1, if_neg g2]
      have e' : lastA t r = lastsR t r := by unfold lastA; rw [if_pos ⟨by omega, by omega⟩]
      refine retL_same (by simp [unk]) ?_
      have := hK H2 T2
      rw [e, e'] at this
      exact this
end
end Go.Proofs.Ytindillghipjjaa

namespace Go.Proofs.Ytindillghipjjaa
open Go.Conc Go.Proofs.Try
set_option maxRecDepth 100000
def sumD (t : Tro) (r : List Int) : Nat → Int
  | 0 => 0
  | i + 1 => if i < r.length then sumD t r i + drinkOf t (turnOf r i) else sumD t r i
theorem sumD_bd {t : Tro} {r : List Int} (f : TroFine t) : ∀ i : Nat, 0 ≤ sumD t r i ∧ sumD t r i ≤ 40 * i
  | 0 => by simp [sumD]
  | i + 1 => by
    have := sumD_bd (r := r) f i
    have := drink_bd f (turnOf r i)
    unfold sumD
    split <;> omega
theorem sumD_all {t : Tro} {r : List Int} {i : Nat} (h : r.length ≤ i) : sumD t r i = sumD t r r.length := by
  induction i with
  | zero =>
    have : r.length = 0 := by omega
    rw [this]
  | succ i ih =>
    rcases Nat.lt_or_ge i r.length with x | x
    · have : r.length = i + 1 := by omega
      rw [this]
    · have e : sumD t r (i + 1) = sumD t r i := by
        conv => lhs; unfold sumD
        rw [if_neg (by omega)]
      rw [e, ih x]
theorem cyc_lvl {t : Tro} {r : List Int} (hn : ∀ h, ¬ dry t r h) (c : Nat) : ∀ i : Nat, i ≤ r.length → lvl t r (r.length * c + i) ≤ lvl t r (r.length * c) - sumD t r i + t.well.fill * i
  | 0, _ => by simp [sumD]
  | i + 1, h => by
    have ih := cyc_lvl hn c i (by omega)
    have e : sumD t r (i + 1) = sumD t r i + drinkOf t (turnOf r i) := by
      conv => lhs; unfold sumD
      rw [if_pos (by omega)]
    have hd := hn (r.length * c + i)
    have ht : turnOf r (r.length * c + i) = turnOf r i := by
      unfold turnOf
      rw [Nat.mul_add_mod]
    unfold dry at hd
    rw [ht] at hd
    have h2 : lvl t r (r.length * c + i + 1) = min t.well.holds (lvl t r (r.length * c + i) - min (lvl t r (r.length * c + i)) (drinkOf t (turnOf r i)) + t.well.fill) := by
      rw [← ht]
      rfl
    have h3 : t.well.fill * ((i + 1 : Nat) : Int) = t.well.fill * (i : Int) + t.well.fill := by
      rw [Int.natCast_add, Int.mul_add]
      simp
    rw [show r.length * c + (i + 1) = r.length * c + i + 1 from by omega, h2, e, h3]
    omega
theorem sum_le {t : Tro} {r : List Int} (f : TroFine t) (hn : ∀ h, ¬ dry t r h) : sumD t r r.length ≤ t.well.fill * r.length := by
  rcases Int.lt_or_le (t.well.fill * r.length) (sumD t r r.length) with x | x
  · have key : ∀ c : Nat, lvl t r (r.length * c) ≤ t.well.now - c := by
      intro c
      induction c with
      | zero =>
        simp
        exact Int.le_refl _
      | succ c ih =>
        have := cyc_lvl hn c r.length (Nat.le_refl _)
        rw [Nat.mul_succ]
        omega
    have h1 := key (t.well.now.toNat + 1)
    have h2 := (lvl_bd (r := r) f (r.length * (t.well.now.toNat + 1))).1
    have := f.now
    omega
  · exact x
theorem dry_first {t : Tro} {r : List Int} {k n : Nat} (hk : dry t r k) (hn : ∀ h, h < k → ¬ dry t r h) (hkn : k < n) : (dryR t r n)[0]? = some (k : Int) := by
  have h0 : dryR t r k = [] := by
    unfold dryR
    rw [List.map_eq_nil_iff, List.filter_eq_nil_iff]
    intro a ha
    simpa using hn a (by simpa using ha)
  have := dryR_get hk hkn
  rw [h0] at this
  exact this
theorem dry_nil {t : Tro} {r : List Int} {n : Nat} (hn : ∀ h, h < n → ¬ dry t r h) : dryR t r n = [] := by
  unfold dryR
  rw [List.map_eq_nil_iff, List.filter_eq_nil_iff]
  intro a ha
  simpa using hn a (by simpa using ha)

section
variable {main : Bool} {J : JT} {h H : List AObj} {K : Value → List AObj → Prop} {KV : Value → Prop} {n0 : Nat}
theorem good51 (hJ : Closed prog main J) {v fv : Value} {t : Tro} {now who : Int} (ht : TroAt H v t fv) (f : TroFine t) (h0 : 0 ≤ now ∧ now ≤ 40) (hw : -1 ≤ who ∧ who < t.flocks.length)
    (hK : ∀ H', SameX [] H H' → K (.tuple ⟨[vint (nextL t who now), .bool (decide (now < drinkOf t who))]⟩) H') : Good prog J 51 [v, vint now, vint who] H K := by
  refine g51 hJ fun ok => ?_
  rw [e51, ht.val]
  have kf := (sli_val ht.fl).2.2
  have fh := f.holds
  have ff := f.fill
  have hdk := drink_bd f who
  refine qBox (tro_one ht) fun H1 p1 e1 S1 c1 l1 => geqI (cndI (fun hge => ?_) fun hlt => ?_)
  · have hwl : who.toNat < t.flocks.length := by omega
    obtain ⟨b, o, cs, wr, sz, hidx, hb, hol, hft, hkn⟩ := sliE_elem dro_len (by omega) (S1.sli ht.fl (by simp)) hwl
    have e : vint who = vint (who.toNat : Nat) := by congr 1; omega
    have hd : drinkOf t who = t.flocks[who.toNat].drinks := by
      unfold drinkOf
      rw [if_pos hge, droAt_mem hwl]
    rw [e]
    have hx : cs[o + 0]? = some (vint (drinkOf t who)) := part_get hft (by rw [hd]; rfl)
    refine offI (ldI (v := fv) c1 rfl kf (hidx _ (offI (ldI (v := vint (drinkOf t who)) hb hx rfl (lssI ?_)))))
    refine offI (ldI (v := fv) c1 rfl kf (hidx _ (offI (ldI (v := vint (drinkOf t who)) hb hx rfl (subI (by omega) (maxI ?_))))))
    refine offI (offI (ldI (v := vint t.well.holds) c1 rfl rfl ?_))
    refine offI (offI (ldI (v := vint t.well.fill) c1 rfl rfl (addI (by omega) (minI ?_))))
    refine retL_same (by simp [unk]) ?_
    have := hK H1 S1
    rw [show nextL t who now = min t.well.holds (max 0 (now - drinkOf t who) + t.well.fill) from by unfold nextL; omega] at this
    exact this
  · have hd : drinkOf t who = 0 := by
      unfold drinkOf
      rw [if_neg hlt]
    refine offI (offI (ldI (v := vint t.well.holds) c1 rfl rfl ?_))
    refine offI (offI (ldI (v := vint t.well.fill) c1 rfl rfl (addI (by omega) (minI ?_))))
    refine retL_same (by simp [unk]) ?_
    have := hK H1 S1
    rw [show nextL t who now = min t.well.holds (now + t.well.fill) from by unfold nextL; omega, decide_eq_false (by omega : ¬ now < drinkOf t who)] at this
    exact this

structure Reg10 (rv : Value) (p : Nat) (t : Tro) (r : List Int) (i : Nat) (F : RG) : Prop where
  ds : F.ds = []
  r4 : F.r 4 = ptr p 0
  r5 : F.r 5 = rv
  r6 : F.r 6 = vint (lastA t r)
  r7 : F.r 7 = vint (lastE t r)
  r10 : F.r 10 = vint (lvl t r i)
  r11 : F.r 11 = vint (sumD t r i)
  r12 : F.r 12 = vint (i : Nat)
end
section
variable {W0 : World} {Post : Value → World → Prop} {h H : List AObj} {K : Value → List AObj → Prop} {n0 : Nat}
theorem loop10 {t : Tro} {r : List Int} {fv rv : Value} {p : Nat} {F : RG} (f : TroFine t) (g : RotaFine t r) (hb : bound t r ≤ 100) (hp : H[p]? = some (.cells (troCells t fv) true 0)) (ht : SliE H fv 2 Dro.cells t.flocks) (hr : Sli H rv 1 r.length (r.map vint))
    (G : Reg10 rv p t r 0 F) (hK : ∀ h', K (.bool true) h') :
    Sem (J1 prog W0 Post) 132 n0 10 (subC [1, 1, 1, 1, 1, 1, 1, 1, 1, 0, 1, 0] (codeOf f10)) F H (contX pl10 prog (J1 prog W0 Post) 132 n0 10 ct10 [1, 1, 1, 1, 1, 1, 1, 1, 1, 0, 1, 0] (codeOf f10) [] (RetQ prog [.tmp 2] n0 K)) := by
  have hJ := J1.closed prog W0 Post
  have glen := g.len
  have hrne : r ≠ [] := by intro e; rw [e] at glen; simp at glen
  have e0 := fine_rotaE f g
  refine l10_3 hJ (fun i : Nat => 100 - i) (fun i F H' => SameX [] H H' ∧ i ≤ 100 ∧ (∀ j, j < i → ¬ dry t r j) ∧ Reg10 rv p t r i F) ?_ (s := 0) (.inl ⟨SameX.refl, by omega, by simp, G⟩)
  rintro i F H' ⟨S, hi, hnd, G⟩ ok hn
  obtain ⟨ds, r4, r5, r6, r7, r10, r11, r12⟩ := G
  have cp := S.get hp (by simp)
  have ta : TroAt H' (.agg ⟨troCells t fv⟩) t fv := ⟨rfl, S.sli ht (by simp)⟩
  have kt := tro_kn ta
  have kf := (sli_val ht).2.2
  have hr' := S.sli hr (by simp)
  have hbd := lvl_bd (r := r) f i
  have fh := f.holds
  have ff := f.fill
  have hsb := sumD_bd (r := r) f i
  rw [s10_3, r4, r5, r6, r7, r10, r11, r12, ds]
  refine lssI (cndI (fun hlt => ?_) fun hge => ?_)
  · have hw := g.who _ (turnOf_mem hrne i)
    refine good50 hJ hr' (by omega) (by omega) (load_part (c := troCells t fv) cp (by simp [troCells]) rfl kt ?_)
    refine good51 hJ ta f (by omega) hw fun H2 S2 => vext0 (vext1 (cndI (fun hd => ?_) fun hd => ?_))
    · have hdr : dry t r i := hd
      have hl : lastsR t r = i := lasts_at f hrne hdr hnd
      have hE : lastE t r = 0 := by unfold lastE; rw [if_neg (by omega), if_neg (by omega)]
      have hA : lastA t r = i := by unfold lastA; rw [if_pos ⟨e0, by omega⟩, hl]
      rw [hE, hA]
      exact eqlI (cndI (fun _ => eqlI (cndI (fun _ => good19 fun H3 => retL_same (by simp [unk]) (hK _)) fun hx => absurd rfl hx)) fun hx => absurd rfl hx)
    · have hdr : ¬ dry t r i := hd
      have S' : SameX [] H H2 := S.trans S2
      have hnd' : ∀ j, j < i + 1 → ¬ dry t r j := fun j hj => by
        rcases Nat.lt_or_ge j i with x | x
        · exact hnd j x
        · rwa [show j = i from by omega]
      have cp2 := S'.get hp (by simp)
      have hnx : vint (nextL t (turnOf r i) (lvl t r i)) = vint (lvl t r (i + 1)) := rfl
      have hs1 := sumD_bd (r := r) f (i + 1)
      rw [hnx]
      refine geqI (cndI (fun hpos => ?_) fun hneg => hold.2 ?_)
      · refine lenI (S'.sli hr (by simp)) (lssI (hold.2 ?_))
        rw [s10_4]
        refine cndI (fun hil => ?_) fun hil => ?_
        · show aOff (F.r 4) 3 _
          rw [r4]
          have hwl : (turnOf r i).toNat < t.flocks.length := by omega
          obtain ⟨b, o, cs, wr, sz, hidx, hb, hol, hft, hkn⟩ := sliE_elem dro_len (by omega) (S'.sli ht (by simp)) hwl
          have e : vint (turnOf r i) = vint ((turnOf r i).toNat : Nat) := by congr 1; omega
          have hd : drinkOf t (turnOf r i) = t.flocks[(turnOf r i).toNat].drinks := by
            unfold drinkOf
            rw [if_pos hpos, droAt_mem hwl]
          refine offI (ldI (v := fv) cp2 rfl kf ?_)
          show aIdx 2 fv (vint (turnOf r i)) _
          rw [e]
          refine hidx _ (offI (ldI (v := vint (drinkOf t (turnOf r i))) hb (part_get hft (by rw [hd]; rfl)) rfl ?_))
          show aBin prog .add 3 (F.r 11) _ _
          rw [r11]
          have hdk := drink_bd f (turnOf r i)
          refine addI (by omega) ?_
          show aBin prog .add 3 (F.r 12) _ _
          rw [r12]
          refine addI (by omega) ⟨i + 1, by dsimp only; omega, .inl ⟨S', by omega, hnd', ⟨ds, r4, r5, r6, r7, rfl, ?_, by show vint _ = vint _; congr 1⟩⟩⟩
          show vint _ = vint (sumD t r (i + 1))
          congr 1
          conv => rhs; unfold sumD
          rw [if_pos (by omega)]
        · show aBin prog .add 3 (F.r 12) _ _
          rw [r12]
          refine addI (by omega) ⟨i + 1, by dsimp only; omega, .inl ⟨S', by omega, hnd', ⟨ds, r4, r5, r6, r7, rfl, ?_, by show vint _ = vint _; congr 1⟩⟩⟩
          show F.r 11 = vint (sumD t r (i + 1))
          rw [r11]
          congr 1
          conv => rhs; unfold sumD
          rw [if_neg (by omega)]
      · rw [s10_4]
        refine cnd_false.2 ?_
        show aBin prog .add 3 (F.r 12) _ _
        rw [r12]
        refine addI (by omega) ⟨i + 1, by dsimp only; omega, .inl ⟨S', by omega, hnd', ⟨ds, r4, r5, r6, r7, rfl, ?_, by show vint _ = vint _; congr 1⟩⟩⟩
        show F.r 11 = vint (sumD t r (i + 1))
        rw [r11]
        congr 1
        have hd0 : drinkOf t (turnOf r i) = 0 := by
          unfold drinkOf
          rw [if_neg hneg]
        conv => rhs; unfold sumD
        rw [hd0]
        split <;> omega
  · have : i = 100 := by omega
    subst this
    have hnv := never f hrne (fun h hh => hnd h (by omega))
    have hl : lastsR t r = -1 := lasts_none hnv
    have hE : lastE t r = 11 := by unfold lastE; rw [if_neg (by omega), if_pos (by omega)]
    have hsum := sum_le f hnv
    have hall : sumD t r 100 = sumD t r r.length := sumD_all (by omega)
    have hfl : 0 ≤ t.well.fill * (r.length : Int) ∧ t.well.fill * (r.length : Int) ≤ 20 * 5 := mul_bd ff.1 ff.2 (by omega) (by omega)
    rw [hE]
    refine eqlI (cndI (fun _ => ?_) fun hx => absurd rfl hx)
    refine offI (offI (ldI (v := vint t.well.fill) cp rfl rfl (lenI hr' (mulI (by omega) (leqI (cndI (fun _ => good19 fun H3 => retL_same (by simp [unk]) (hK _)) fun hx => absurd (by omega) hx))))))

theorem walk10 {nv : Value} {ns : List Int} (sn : Sli h nv 1 ns.length (ns.map vint)) (hln : ns.length < 4611686018427387904) (hK : ∀ h', K (.bool true) h') :
    W prog (J1 prog W0 Post) 132 h.length 10 (codeOf f10) (RG.mk (regs [nv]) []) h (RetQ prog [.tmp 2] h.length K) := by
  have hJ := J1.closed prog W0 Post
  rw [e10]
  refine newX hJ sn hln fun H0 a0 => ?_
  refine good21 hJ a0 (by omega) (by omega) (by omega) fun t fv o H1 ot S1 a1 TO => ?_
  have f := ot.fine (by omega)
  have fl := f.len
  have ta := TO.at
  refine qAl fun H2 p2 e2 S2 c2 l2 => qStA (c := troCells t fv) c2 rfl rfl (tro_one ta) fun H3 S3 c3 l3 => ?_
  have hl1 := a1.lt
  have S13 : SameX [] H1 H3 := S2.thru S3 (by simp; omega)
  have TO3 := TO.same S13 (by simp)
  have a3 := a1.same S13 (by simp)
  have kt := tro_kn ta
  refine load_part (c := troCells t fv) c3 (by simp [troCells]) rfl kt ?_
  refine good36 hJ a3 (by omega) TO3.at (fun S => (TO3.same S (fun j hj => by have := TO3.b j hj; simp; omega)).at.fl) (by omega) (by omega) fun r rv o' H4 g hrl S4 a4 RO ho' => ?_
  have TO4 := TO3.same S4 (fun j hj => by have := TO3.b j hj; simp; omega)
  have c4 := S4.get c3 (by simp; omega)
  have glen := g.len
  have hrne : r ≠ [] := by intro e; rw [e] at glen; simp at glen
  refine load_part (c := troCells t fv) c4 (by simp [troCells]) rfl kt ?_
  have e0 := hrsE_fine (n := 48) f g (by omega)
  have er := fine_rotaE f g
  have eD : dryA t r 48 = dryR t r 48 := by unfold dryA; rw [if_pos e0]; rfl
  refine good38 hJ TO4.at RO.sli (by omega) fun H5 S5 => ext0 (ext1 ?_)
  refine load_part (c := troCells t fv) (S5.get c4 (by simp)) (by simp [troCells]) rfl kt ?_
  refine good46 hJ (TO4.same S5 (by simp)).at (S5.sli RO.sli (by simp)) (by omega) fun H6 dv S6 L6 => ext0 (ext1 ?_)
  rw [eD] at L6
  rw [e0]
  have S46 := S5.trans S6
  have c6 := S46.get c4 (by simp)
  have hbnd : bound t r ≤ 100 := by
    obtain ⟨⟨w1, w2, w3⟩, _, _⟩ := ot.well
    have h1 : t.well.holds.toNat + 1 ≤ 15 := by omega
    have h2 : r.length ≤ 4 := by omega
    have := Nat.mul_le_mul h1 h2
    unfold bound
    omega
  -- behind the questions of the beginning
  have last : ∀ {F' : RG}, F'.ds = [] → F'.r 4 = ptr p2 0 → F'.r 5 = rv → F'.r 6 = vint (lastA t r) → F'.r 7 = vint (lastE t r) → F'.r 71 = .bool false →
      W prog (J1 prog W0 Post) 132 h.length 10 (subC [1, 1, 1, 1, 1, 1, 1, 0, 1] (codeOf f10)) F' H6 (contX pl10 prog (J1 prog W0 Post) 132 h.length 10 ct10 [1, 1, 1, 1, 1, 1, 1, 0, 1] (codeOf f10) [] (RetQ prog [.tmp 2] h.length K)) := by
    intro F' ds r4 r5 r6 r7 r71
    rw [s10_2, r71, r4]
    refine cnd_false.2 (offI (offI (ldI (v := vint t.well.now) c6 rfl rfl ?_)))
    exact loop10 f g hbnd c6 (TO4.same S46 (by simp)).at.fl (S46.sli RO.sli (by simp)) ⟨ds, r4, r5, r6, r7, rfl, rfl, rfl⟩ hK
  have mid : ∀ {F' : RG}, F'.ds = [] → F'.r 4 = ptr p2 0 → F'.r 5 = rv → F'.r 6 = vint (lastA t r) → F'.r 7 = vint (lastE t r) → F'.r 8 = dv → F'.r 44 = .bool false →
      W prog (J1 prog W0 Post) 132 h.length 10 (subC [1, 1, 1, 1, 1, 1, 0, 1] (codeOf f10)) F' H6 (contX pl10 prog (J1 prog W0 Post) 132 h.length 10 ct10 [1, 1, 1, 1, 1, 1, 0, 1] (codeOf f10) [] (RetQ prog [.tmp 2] h.length K)) := by
    intro F' ds r4 r5 r6 r7 r8 r44
    rw [s10_1, r44, r6, r7, r8]
    refine cnd_false.2 (lenI L6 (gtrI (cndI (fun hpos => ?_) fun hnp => ?_)))
    · -- some hour is dry
      have hex : ∃ k, k < 48 ∧ dry t r k ∧ ∀ h, h < k → ¬ dry t r h := by
        rcases Int.lt_or_le (firstH (dry t r) 48) 0 with x | x
        · rw [dry_nil (firstH_neg x).2] at hpos
          simp at hpos
        · obtain ⟨k, _, a, b, c⟩ := firstH_pos x
          exact ⟨k, a, b, c⟩
      obtain ⟨k, hk, hd, hf⟩ := hex
      have hl : lastsR t r = k := lasts_at f hrne hd hf
      have hE : lastE t r = 0 := by unfold lastE; rw [if_neg (by omega), if_neg (by omega)]
      have hA : lastA t r = k := by unfold lastA; rw [if_pos ⟨er, by omega⟩, hl]
      have hd0 := dry_first hd hf hk
      rw [hE, hA]
      refine neqI (cndI (fun hx => absurd rfl hx) fun _ => sli_num' (i := 0) L6 hd0 fun q => neqI (cndI (fun hx => absurd rfl hx) fun _ => lenI L6 (eqlI (cndI (fun hx => absurd hx (by omega)) fun _ => hold.2 ?_))))
      exact last ds r4 r5 (by rw [hA]; exact r6.trans (by rw [hA])) (by rw [hE]; exact r7.trans (by rw [hE])) rfl
    · have hnone : ∀ h, h < 48 → ¬ dry t r h := fun h hh hd => by
        have := (List.getElem?_eq_some_iff.1 (dryR_get hd hh)).1
        omega
      refine lenI L6 (eqlI (cndI (fun _ => eqlI (cndI (fun hE => lssI (hold.2 ?_)) fun hE => hold.2 ?_)) fun hx => hold.2 ?_))
      · refine last ds r4 r5 r6 r7 ?_
        show Value.bool (decide _) = _
        rw [decide_eq_false fun hx => ?_]
        have hl : ¬ lastsR t r < 0 := fun y => by
          have : lastE t r = 11 := by unfold lastE; rw [if_neg (by omega), if_pos y]
          omega
        obtain ⟨k, e1, _, e2, _⟩ := lasts_pos (t := t) (r := r) (by omega)
        have hA : lastA t r = k := by unfold lastA; rw [if_pos ⟨er, by omega⟩, e1]
        rw [hA] at hx
        exact hnone k (by omega) e2
      · exact last ds r4 r5 r6 r7 rfl
      · exact last ds r4 r5 r6 r7 rfl
  refine neqI (cndI (fun hx => absurd rfl hx) fun _ => neqI (cndI (fun hx => neqI (hold.2 ?_)) fun hx => hold.2 ?_))
  · have h11 : lastE t r = 11 := by
      unfold lastE at hx ⊢
      rw [if_neg (by omega)] at hx ⊢
      by_cases hz : lastsR t r < 0
      · rw [if_pos hz]
      · rw [if_neg hz] at hx
        exact absurd rfl hx
    refine mid rfl rfl rfl rfl rfl rfl ?_
    show Value.bool (decide (lastE t r ≠ 11)) = _
    rw [h11]
    rfl
  · exact mid rfl rfl rfl rfl rfl rfl rfl
end
end Go.Proofs.Ytindillghipjjaa

namespace Go.Proofs.Ytindillghipjjaa
open Go.Conc
section
variable {P : Program} {W0 : World} {Post : Value → World → Prop} {ρ : Env} {h : List AObj} {FC : Frm} {w : World} {ft : Foot} {f : RG} {a : Act} {b : FB} {K : Value → List AObj → Prop} {n0 : Nat}
theorem leave_top {fn : Func} (hk : b.kind = .normal) (hf : P.funcs[b.fn]? = some fn) (hin : P.inits.idxOf? b.fn = none)
    (hc : ∀ v h' ρ' w' ft' cv, K v h' → HRel ρ' h' FC w' ft' → Env.upto n0 ρ ρ' → n0 ≤ h'.length → VRel h'.length ρ' v cv → Base W0 w' → Post cv w') :
    ∀ (ds : List Nat) (h : List AObj) (w : World) (ft : Foot) (a : Act) (fr : Frame), fr.fn = b.fn → fr.kind = .normal → fr.mode = .returning → fr.tmps = a.tmps → fr.defers = ds.map (fun d => { target := .collected (ρ.blk d), args := #[] }) → RegRel h.length ρ f.r a.tmps → HRel ρ h FC w ft → n0 ≤ h.length →
      takeW ds h (fun h => resW P fn.results.toList f.r h fun vs => K (pack vs) h ∨ ∃ σ h' v, GC n0 σ h h' ∧ pack vs = sub σ v ∧ VOk h'.length v ∧ K v h') → J1 P W0 Post (G fr []) w ft
  | [], h, w, ft, a, fr, e1, e2, e3, e4, e5, hr, H, hn, hq => by
    obtain ⟨fn', tmps, todo, defers, mode, kind, ro⟩ := fr
    simp only at e1 e2 e3 e4 e5
    subst e1 e2 e3 e4 e5
    refine J1.both rfl fun w₁ h₁ hbase => .inr ?_
    have H₁ := H.rely h₁
    have hrun : RunsTo P (EvOk ft) (results fn a.tmps) w₁ fun cv w' => w' = w₁ ∧ ∃ vs, cv = ren ρ (pack vs) ∧ (∀ v ∈ vs, VOk h.length v) ∧ (K (pack vs) h ∨ ∃ σ h' v, GC n0 σ h h' ∧ pack vs = sub σ v ∧ VOk h'.length v ∧ K v h') := by
      unfold results
      have : (fn.results.mapM (resF a.tmps)) = List.toArray <$> fn.results.toList.mapM (resF a.tmps) := by
        rw [Array.mapM_eq_mapM_toList]
      show RunsTo P (EvOk ft) (do
        let vs ← fn.results.mapM (resF a.tmps)
        pure (if h : vs.size = 1 then vs[0] else .tuple vs)) w₁ _
      rw [this]
      refine RunsTo.bind (RunsTo.map (res_run (n := 0) H₁ hr fn.results.toList hq fun vs hvs hok => RunsTo.pure ⟨rfl, vs, ?_, hok, hvs⟩))
      exact pack_ren vs
    obtain ⟨cv, w', es, hr', he, rfl, vs, rfl, hvok, hvs⟩ := hrun #[] (by simp)
    have hes : ∀ e ∈ seen P b.fn es, EvOk ft e := fun e hm => he e (mem_seen hm)
    refine ⟨ren ρ (pack vs), seen P b.fn es, ?_, hes, ?_⟩
    · simp only [G, stepG, unwind, List.map_nil, hf, hr']
      simp [doReturn, GStep.after, hin]
    · rcases hvs with hK | ⟨σ, h', v, g, hp, hok, hK⟩
      · exact hc _ h _ w' ft _ hK H₁ (Env.upto_refl _ _) hn (.inr ⟨pack_ok hvok, rfl⟩) hbase
      · rw [hp, ren_sub]
        exact hc v h' _ w' ft _ hK (g.rel H₁) g.upto g.le (.inr ⟨hok, rfl⟩) hbase
  | d :: ds, h, w, ft, a, fr, e1, e2, e3, e4, e5, hr, H, hn, hq => by
    obtain ⟨fn', tmps, todo, defers, mode, kind, ro⟩ := fr
    simp only at e1 e2 e3 e4 e5
    subst e1 e2 e3 e4 e5
    obtain ⟨hd, hq⟩ := hq
    refine (J1.closed P W0 Post).step rfl fun w₁ h₁ => ?_
    have H₁ := H.rely h₁
    obtain ⟨cv, w', es, hr', he, rfl, H', hst, hsz⟩ := take_run (P := P) H₁ hd (Q := fun l w' => l = [] ∧ HRel ρ (h.set d .dead) FC w' ft ∧ Stays ft w₁ w' ∧ w'.heap.size = w₁.heap.size) (fun w' a1 a2 a3 => ⟨rfl, a1, a2, a3⟩) #[] (by simp)
    have hes : ∀ e ∈ seen P b.fn es, EvOk ft e := fun e hm => he e (mem_seen hm)
    refine ⟨G { fn := b.fn, tmps := a.tmps, todo := todo, defers := ds.map (fun d => { target := .collected (ρ.blk d), args := #[] }), mode := .returning, kind := .normal, roundOf := ro } [], w', seen P b.fn es, ?_, rfl, hst.guar hes, ?_⟩
    · simp only [G, stepG, unwind, List.map_cons, hr']
      simp [GStep.after]
    · rw [hsz, Foot.ext_self]
      exact leave_top hk hf hin hc ds _ w' ft a _ rfl rfl rfl rfl rfl (by rw [List.length_set]; exact hr) H' (by rw [List.length_set]; exact hn) hq

theorem top_of_W (hm : P.follows .mixedOrders = true) {g : FuncId} {fn : Func} (hf : P.funcs[g]? = some fn) {c : Code} (hb : fn.body = some c) (hin : P.inits.idxOf? g = none) {args : List Value} {cargs : Array Value} (ha : args.length ≤ fn.ntmps) (hl : cargs.size = args.length)
    (hr : ∀ i : Nat, VRel h.length ρ (args.getD i unk) (cargs.toList.getD i undef)) (H : HRel ρ h FC w ft)
    (hs : W P (J1 P W0 Post) fn.ntmps h.length g c ⟨regs args, []⟩ h (RetQ P fn.results.toList h.length K))
    (hc : ∀ v h' ρ' w' ft' cv, K v h' → HRel ρ' h' FC w' ft' → Env.upto h.length ρ ρ' → h.length ≤ h'.length → VRel h'.length ρ' v cv → Base W0 w' → Post cv w') : J1 P W0 Post (G (Frame.enter P g cargs .normal) []) w ft := by
  have hJ := J1.closed P W0 Post
  obtain ⟨cargs⟩ := cargs
  simp only at hl hr
  have he : Frame.enter P g ⟨cargs⟩ .normal = FB.at ⟨g, .normal, none⟩ ⟨⟨cargs⟩ ++ Array.replicate (fn.ntmps - cargs.length) undef, []⟩ [.code c] := by
    simp [Frame.enter, FB.at, hf, hb]
  rw [he]
  have A : ActRel h.length ρ fn.ntmps ⟨regs args, []⟩ ⟨⟨cargs⟩ ++ Array.replicate (fn.ntmps - cargs.length) undef, []⟩ := by
    refine ⟨fun t => ?_, by simp at hl ⊢; omega, rfl, by simp⟩
    have := hr t
    have ht : ((⟨cargs⟩ : Array Value) ++ Array.replicate (fn.ntmps - cargs.length) undef).getD t undef = cargs.getD t undef := by
      rw [Array.getD_eq_getD_getElem?, List.getD_eq_getElem?_getD]
      by_cases hx : t < cargs.length
      · rw [Array.getElem?_append_left (by simpa using hx)]
        simp
      · rw [Array.getElem?_append_right (by simp; omega), List.getElem?_eq_none (by omega)]
        simp only [Array.getElem?_replicate]
        split <;> rfl
    rw [ht]
    exact this
  have last : ∀ f' h' ρ' w' ft' a' todo, RetQ P fn.results.toList h.length K .ret f' h' → ActRel h'.length ρ' fn.ntmps f' a' → HRel ρ' h' FC w' ft' → Env.upto h.length ρ ρ' → h.length ≤ h'.length →
      J1 P W0 Post (G { (FB.at ⟨g, .normal, none⟩ a' todo) with mode := .returning } []) w' ft' := by
    intro f' h' ρ' w' ft' a' todo q A' H' hu hl
    exact leave_top (b := ⟨g, .normal, none⟩) (f := f') (n0 := h.length) (ρ := ρ') rfl hf hin (fun v h2 ρ2 w2 ft2 cv k H2 u2 l2 v2 => hc v h2 ρ2 w2 ft2 cv k H2 (Env.upto_trans hu u2) l2 v2) f'.ds h' w' ft' a' _ rfl rfl rfl rfl A'.defers A'.regs H' hl q
  refine W_sound hJ hm c hs ⟨g, .normal, none⟩ _ [] [] (fun jump a w ft => jump = some .ret ∧ ∀ todo, J1 P W0 Post (G { (FB.at ⟨g, .normal, none⟩ a todo) with mode := .returning } []) w ft) ρ FC w ft rfl (by simp) ?_ A H (Nat.le_refl _) ?_
  · rintro jump a w ft todo ⟨rfl, hj⟩ hh
    rcases hh with ⟨_, k, rfl⟩ | ⟨id, k, e, _⟩ | ⟨e, _⟩
    · exact hJ.ctrl rfl rfl (fun w => by simp [G, stepG, stepG.exec, FB.at]) (hj (.code .ret :: k))
    · cases e
    · cases e
  · intro e f' h' ρ' w' ft' a' q A' H' hu hl
    cases e with
    | normal => exact hJ.ctrl rfl rfl (fun w => by simp [G, stepG, stepG.exec, FB.at]) (last f' h' ρ' w' ft' a' [] q A' H' hu hl)
    | ret => exact ⟨rfl, fun todo => last f' h' ρ' w' ft' a' todo q A' H' hu hl⟩
    | exit id => exact q.elim
    | goto l => exact q.elim
    | panic l => exact q.elim
    | outgrown => exact q.elim

theorem run_of_J1 {g : Goroutine} {w : World} {ft : Foot} (h : J1 P W0 Post g w ft) (hb : ∀ b, ft.rd b → b < w.heap.size) (hs : ∀ b, ft.wr b → ft.rd b) (hw : W0 = w) : Ends P Post (solo g w) #[] := by
  rw [solo_eq_crowd]
  exact h #[g] w none #[] (fun _ => 0) hb hs (RelyW.refl _ _) (by subst hw; exact ⟨rfl, rfl, rfl, Nat.le_refl _⟩) rfl (leavers_one P g) (past_nil.mono (Nat.zero_le _))
end
end Go.Proofs.Ytindillghipjjaa

namespace Go.Proofs.Ytindillghipjjaa
open Go.Conc Go.RowKit
def idEnv : Env := ⟨fun b => b, fun _ => 0⟩
def startFt (w : World) : Foot := ⟨fun b => b < w.heap.size, fun _ => False⟩
def startFC (w : World) : Frm := ⟨fun b => w.heap[b]?, fun _ => False⟩

def Fine (n : Nat) (v : Value) : Prop := VOk n v ∧ one v = true ∧ ren idEnv v = v

open Classical in
noncomputable def clean (n : Nat) (v : Value) : Value := if Fine n v then v else unk

noncomputable def absO (n : Nat) : Obj → AObj
  | .cells c _ _ => .cells (c.toList.map (clean n)) false 0
  | _ => .dead

noncomputable def absH (w : World) : List AObj := w.heap.toList.map (absO w.heap.size)

section
variable {w w' : World} {n : Nat}
theorem clean_fine {v : Value} (h : Fine n v) : clean n v = v := by simp [clean, h]
theorem absH_len : (absH w).length = w.heap.size := by simp [absH]
theorem absH_get {b : Nat} : (absH w)[b]? = (w.heap[b]?).map (absO w.heap.size) := by simp [absH]

theorem absO_wrt (x : Obj) : (absO n x).wrt = false := by cases x <;> rfl

theorem start_rel (w : World) : HRel idEnv (absH w) (startFC w) w (startFt w) where
  obj := fun b o hb => by
    rw [absH_get] at hb
    obtain ⟨x, hx, rfl⟩ := Option.map_eq_some_iff.1 hb
    show ORel (absH w).length idEnv b (absO w.heap.size x) w.heap[b]?
    rw [absH_len, hx]
    cases x with
    | cells c ty fr =>
      refine ⟨fun i v hv => ?_, fun _ => by simp, fun hz => absurd rfl hz, fun e => by cases e⟩
      rw [List.getElem?_map] at hv
      obtain ⟨u, hu, rfl⟩ := Option.map_eq_some_iff.1 hv
      by_cases hf : Fine w.heap.size u
      · rw [clean_fine hf]
        exact .inr ⟨hf.1, hf.2.1, by rw [hf.2.2]; simpa using hu⟩
      · exact .inl ⟨by simp [clean, hf], rfl⟩
    | _ => trivial
  inj := fun b b' o o' _ _ _ _ e => e
  rd := fun b o hb _ => by
    have : b < (absH w).length := (List.getElem?_eq_some_iff.1 hb).1
    rw [absH_len] at this
    exact this
  wr := fun b o hb hw => by
    rw [absH_get] at hb
    obtain ⟨x, hx, rfl⟩ := Option.map_eq_some_iff.1 hb
    rw [absO_wrt] at hw
    cases hw
  lt := fun b hb => hb
  sub := fun b hb => hb.elim
  kept := fun b o hb => by
    refine ⟨hb, ?_, fun a oa ha hw => ?_⟩
    · exact (Array.getElem?_eq_some_iff.1 hb).1
    · rw [absH_get] at ha
      obtain ⟨x, hx, rfl⟩ := Option.map_eq_some_iff.1 ha
      rw [absO_wrt] at hw
      cases hw
  keptW := fun b hb => hb.elim

theorem absH_cell {b o : Nat} {v : Value} (hc : w.cell? ⟨b, o, none⟩ = some v) (hf : Fine w.heap.size v) : ∃ c, (absH w)[b]? = some (.cells c false 0) ∧ c[o]? = some v := by
  unfold World.cell? at hc
  simp only at hc
  split at hc
  · rename_i c ty fr hx
    refine ⟨c.toList.map (clean w.heap.size), by rw [absH_get, hx]; rfl, ?_⟩
    have hc' : c[o]? = some v := by simpa using hc
    rw [List.getElem?_map, Array.getElem?_toList, hc']
    simp [clean_fine hf]
  · cases hc

theorem below_of {ρ' : Env} {h' : List AObj} {ft' : Foot} (H : HRel ρ' h' (startFC w) w' ft') (B : Base w w') : Below w.heap.size w w' :=
  ⟨B.os, B.tape, B.output, B.size, fun k hk => by
    have : (startFC w).ob k = some w.heap[k] := by simp [startFC, hk]
    rw [(H.kept k _ this).1, Array.getElem?_eq_getElem hk]⟩
end
end Go.Proofs.Ytindillghipjjaa

namespace Go.Proofs.Ytindillghipjjaa
open Go.Conc Go.ChangeShapes Go.WideShapes Go.ChangeAt Go.RowKit Go.Proofs.Try
set_option maxRecDepth 100000
theorem own : ownKnob prog.godebug = none := by kernel_rfl
theorem laidOut : laidOutB prog = true := by kernel_rfl

def ArgOk (W : World) (v : Value) : Prop := VOk W.heap.size v ∧ ren idEnv v = v

theorem law_run1 {g : FuncId} {fn : Func} {c : Code} (hf : prog.funcs[g]? = some fn) (hb : fn.body = some c) (hin : prog.inits.idxOf? g = none) (W₀ : World) (args : List Value) (ha : args.length ≤ fn.ntmps) (hok : ∀ v ∈ args, ArgOk W₀ v)
    (walk : ∀ Post, W prog (J1 prog W₀ Post) fn.ntmps (absH W₀).length g c ⟨regs args, []⟩ (absH W₀) (RetQ prog fn.results.toList (absH W₀).length fun v _ => v = .bool true)) :
    Ends prog (fun v w' => v = .bool true ∧ Below W₀.heap.size W₀ w') (solo (G (Frame.enter prog g ⟨args⟩ .normal) []) W₀) #[] := by
  refine run_of_J1 (W0 := W₀) (ft := startFt W₀) (top_of_W mixed hf hb hin ha rfl (fun i => ?_) (start_rel W₀) (walk _) ?_) (fun b hb => hb) (fun b hb => hb.elim) rfl
  · show VRel (absH W₀).length idEnv (args.getD i unk) (args.getD i undef)
    simp only [List.getD_eq_getElem?_getD]
    cases hi : args[i]? with
    | none => exact .inl rfl
    | some v =>
      obtain ⟨h1, h2⟩ := hok v (List.mem_of_getElem? hi)
      exact .inr ⟨by rw [absH_len]; exact h1, h2.symm⟩
  · intro v h' ρ' w' ft' cv hv H' _ _ hcv hB
    subst hv
    refine ⟨?_, below_of H' hB⟩
    rcases hcv with e | ⟨_, e⟩
    · cases e
    · rw [e]
      rfl

section
variable {H : Type} {enc : TypeId × Value → H}
theorem arg_ints {t e : TypeId} (ht : prog.underlying t = some (.slice e)) (he : prog.underlying e = some (.int .i64)) (hc : prog.cellsOf e = 1) {W : World} {base : Nat} {v : Value} {d : DataW H} {ps : List MemPlace}
    (hval : Value.okWide prog W .any base t v) (hd : DataW.Trod enc prog W 0 (fun _ => true) true t v d ps) :
    ∃ zs : List Int, Sli (absH W) v 1 zs.length (zs.map vint) ∧ ArgOk W v ∧ (zs = [] ∨ ∃ es sp, d = .slice es sp ∧ zs.length ≤ es.length + sp.length) := by
  obtain ⟨a0, len, cap, rfl⟩ := okWide_slice ht hval
  obtain ⟨fuel, hf⟩ := hd
  rcases open_ints ht he hc hf with ⟨hcs, hx⟩ | ⟨a, len', cap', zs, hcs, _, hl, hm, hz, hx, hcell, hwz⟩
  · simp [Value.cells] at hcs
    obtain ⟨rfl, rfl, rfl⟩ := hcs
    exact ⟨[], sli_nil, ⟨by simp [VOk], by simp [ren]⟩, .inl rfl⟩
  · simp [Value.cells] at hcs
    obtain ⟨rfl, rfl, rfl⟩ := hcs
    simp only [Prod.mk.injEq] at hx
    obtain ⟨rfl, rfl⟩ := hx
    simp only [if_true] at hz
    simp only [Value.okWide, ht, Cell.okWide, Cell.ok, World.has] at hval
    obtain ⟨_, _, _, hspot, row, cells, hshape, _⟩ := hval
    obtain ⟨b, o, spot⟩ := a
    simp only at hspot hshape
    subst hspot
    have hb : b < W.heap.size := by
      unfold World.shape? at hshape
      split at hshape
      · rename_i h
        exact (Array.getElem?_eq_some_iff.1 h).1
      · cases hshape
    have hlen : (zs.take len).length = len := by simp; omega
    have hcell' : ∀ i, i < zs.length → W.cell? ⟨b, o + i, none⟩ = some (vint (zs.getD i 0)) := by
      intro i hi
      have := hcell i hi
      unfold Addr.add at this
      by_cases h0 : i = 0
      · subst h0; simpa using this
      · simpa [h0] using this
    have hmax : cap < fz := by
      simp only [maxLen] at hm
      unfold fz
      omega
    refine ⟨zs.take len, ?_, ⟨by simp only [VOk, AddrOk]; exact ⟨hb, trivial⟩, ?_⟩, .inr ⟨_, _, rfl, ?_⟩⟩
    · refine ⟨some ⟨b, o, none⟩, cap, by rw [hlen], ⟨by simp, kn_ints _⟩, .inr ⟨b, o, rfl, ?_⟩⟩
      rw [hlen]
      by_cases h0 : len = 0
      · exact .inl h0
      · right
        have fine : ∀ n : Int, Fine W.heap.size (vint n) := fun n => ⟨by simp [VOk], rfl, by simp [ren]⟩
        obtain ⟨c, hc1, hc2⟩ := absH_cell (hcell' 0 (by omega)) (fine _)
        refine ⟨c, false, 0, hc1, ?_⟩
        apply List.ext_getElem?
        intro i
        rw [Nat.mul_one]
        by_cases hi : i < len
        · obtain ⟨c', hc1', hc2'⟩ := absH_cell (hcell' i (by omega)) (fine _)
          rw [hc1] at hc1'
          cases hc1'
          rw [List.getElem?_take, if_pos hi, List.getElem?_drop, hc2']
          have hzi : i < zs.length := by omega
          simp [hi, hzi]
        · rw [List.getElem?_take, if_neg hi, List.getElem?_eq_none (by simp; omega)]
    · have hnf : ¬ fz ≤ cap := by omega
      simp [ren, renAddr, renCap, idEnv, hnf]
    · simp only [lits, List.length_map, List.length_take, List.length_drop]
      omega
end
end Go.Proofs.Ytindillghipjjaa

namespace Go.Proofs.Ytindillghipjjaa
open Go.Conc Go.ChangeShapes Go.WideShapes Go.ChangeAt Go.RowKit Go.Proofs.Try
set_option maxRecDepth 100000
theorem lifted10 (os : Os) (started : os.Started) (H : Type) (enc : TypeId × Value → H) :
    ReturnsInLeavingWide {} checked os 10 .any (Rows.wellEverSpec.pre6 enc prog f10 Rows.wellEverRow.domain false) (Rows.wellEverSpec.post enc prog f10 false true false false) := by
  refine returnsInLeavingWide_of_change_sized (C := checked) own started at10
    (ChangeSpec.witness6 (enc := enc) (C := checked) false ⟨#[], #[.slice none 0 0], []⟩ 8 (by kernel_rfl) (by kernel_rfl) (by kernel_rfl) (by kernel_rfl)) ?_
  intro W base args ds gs before hval0 hW _ hsz0 _
  have hsz : (DataW.weightsEach prog (f10.params.toList ++ Rows.wellEverSpec.plain.varTypes prog) (ds ++ gs)).all (· ≤ reachBytes) = true := hsz0
  clear hsz0
  have hval : ∀ (j : Nat) t v, f10.params[j]? = some t → args[j]? = some v → Value.okWide prog W .any base t v := hval0
  have hW' := hW
  obtain ⟨p, q, hA0, hV, rfl, _, _⟩ := hW
  have hA : DataW.TrodAll enc prog W 0 (fun _ => true) true f10.params.toList args.toList ds p := hA0
  have hps : f10.params = #[27] := by kernel_rfl
  rw [hps] at hA hval hsz
  obtain ⟨v0, d0, rfl, rfl, h0⟩ := trodAll_one hA
  obtain ⟨rfl, rfl⟩ := trodVars_none hV
  have u3 : prog.underlying 3 = some (.int .i64) := by kernel_rfl
  have u27 : prog.underlying 27 = some (.slice 3) := by kernel_rfl
  have u4 : prog.underlying 4 = some .bool := by kernel_rfl
  have c3 : prog.cellsOf 3 = 1 := by kernel_rfl
  have b3 : prog.bytesOf 3 = 8 := by kernel_rfl
  have hlt : ∀ x ∈ p, x.block < W.heap.size := fun x hx => by simpa using hW'.lt x (by simpa using hx)
  have hargs : ∀ (W' : World), Below W.heap.size W W' → DataW.TrodAll enc prog W' 0 (fun b => decide (b < W.heap.size)) true [27] [v0] [d0] p := fun W' hn =>
    trodAll_mk1 (Below.trod laidOut (by kernel_rfl) (of_decide_eq_true (by kernel_rfl)) h0 hn hlt)
  obtain ⟨ns, sn, ok2, hbig⟩ := arg_ints u27 u3 c3 (hval 0 27 v0 rfl rfl) h0
  have hln : ns.length < 4611686018427387904 := by
    rcases hbig with rfl | ⟨es, sp, rfl, hle⟩
    · simp
    · have := sized_slice hsz (j := 0) (t := 27) (e := 3) rfl rfl u27
      rw [b3] at this
      simp only [reachBytes] at this
      omega
  obtain ⟨M, last, o, w', t', r1, r2, r3, r4⟩ := law_run1 (g := 10) (fn := f10) at10 body10 (by kernel_rfl) W [v0] (Nat.le_of_ble_eq_true (by kernel_rfl : Nat.ble 1 f10.ntmps = true))
    (by
      intro v hv
      simp only [List.mem_cons, List.not_mem_nil, or_false] at hv
      subst hv
      exact ok2)
    (fun Post => walk10 (K := fun v _ => v = .bool true) sn hln fun _ => rfl)
  refine ⟨M, last, o, w', t', r1, r2, r3, r4.mono fun v hF => ?_⟩
  obtain ⟨rfl, hbelow⟩ := hF
  refine ⟨_, _, _, [], _, [], hW', ?_, hargs _ hbelow, by rfl, hbelow.frame _, fun h => by cases h⟩
  exact trodAll_mk1 (shut_bool u4 true)

theorem wellEver_holds : Rows.WellEverSaid :=
  OpenClaim.holds_of_wide_leaving 10 f10 rfl rfl rfl rfl rfl rfl rfl ⟨rfl, rfl, rfl, rfl, rfl⟩ rfl rfl rfl rfl rfl (by kernel_rfl) at10 (by kernel_rfl)
    (of_decide_eq_true (by kernel_rfl)) (by unfold Func.isWrapper; first | (rw [if_pos (by decide +kernel)]; kernel_rfl) | (rw [if_neg (by decide +kernel)]; exact ⟨rfl, rfl⟩))
    (fun os started H enc _ => lifted10 os started H enc)

#print axioms wellEver_holds
end Go.Proofs.Ytindillghipjjaa
