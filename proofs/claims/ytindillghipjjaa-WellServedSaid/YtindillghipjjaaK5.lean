/- WellServed answers true at every input, and its argument reads behind the call as it read before. No conditions. -/
import Derived.Test.YtindillghipjjaaK4
import Derived.Test.YtindillghipjjaaK2
import Derived.Test.YtindillghipjjaaK3
import Derived.Below
import Derived.Test.YtindillghipjjaaRows
import Derived.Conc.LeavingOf
import Derived.ChangeSlices
import Derived.OpenShut
import Derived.Carry

namespace Go.Proofs.Ytindillghipjjaa
open Go.Conc Go.Proofs.Try
set_option maxRecDepth 100000
def exV (p : Nat) : Value := .agg ⟨troCells exTro (.slice (some ⟨p, 0, none⟩) 2 2)⟩
def exF : AObj := .cells [vint 4, vint 3, vint 5, vint 4] false 0
def exH1 : XH := ⟨1, .node exF .nil .nil⟩
def exH (l : List Int) : XH := ⟨2, .node exF (.node (.cells (l.map vint) false 0) .nil .nil) .nil⟩
theorem run37 : xcall prog 200 37 [exV 0, .slice (some ⟨1, 0, none⟩) 3 3, vint 4] (exH [0, 1, -1]) (isInts [5, 3, 6, 5] 0) = true := by kernel_rfl
theorem run38 : xcall prog 200 38 [exV 0, .slice (some ⟨1, 0, none⟩) 2 2] (exH [0, 1]) (isTwo 2 0) = true := by kernel_rfl
theorem run39 : xcall prog 200 39 [exV 0] exH1 (isInts [-1, 0, 1] 0) = true := by kernel_rfl
theorem run34 : xcall prog 200 34 [exTro.well.val, .agg ⟨[vint 12, vint 20, vint 1, vint 4, vint 3, vint 2]⟩, .agg ⟨[vint 3, vint 2, vint 2]⟩, vint 0, vint 3] ⟨0, .nil⟩ (isTwo 4 0) = true := by kernel_rfl

section
variable {main : Bool} {J : JT} {h : List AObj} {K : Value → List AObj → Prop} {p q : Nat}
theorem lies1 {wr : Bool} (hp : h[p]? = some (.cells (exTro.flocks.flatMap Dro.cells) wr 0)) : Lies (fun _ => p) (hOf exH1) h := by
  have e : hOf exH1 = [exF] := rfl
  rw [e]
  refine ⟨fun i o hi => ?_, fun i j hi hj _ => by simp at hi hj; omega⟩
  match i, hi with
  | 0, hi =>
    cases hi
    exact ⟨_, wr, rfl, by simp [LOk, VOk], hp⟩
theorem lies2 {l : List Int} {wr wr2 : Bool} (hp : h[p]? = some (.cells (exTro.flocks.flatMap Dro.cells) wr 0)) (hq : h[q]? = some (.cells (l.map vint) wr2 0)) (hne : p ≠ q) : Lies (fun i => if i = 0 then p else q) (hOf (exH l)) h := by
  have e : hOf (exH l) = [exF, .cells (l.map vint) false 0] := rfl
  have hs : ∀ v ∈ l.map vint, sub (fun i => if i = 0 then p else q) v = v := fun v hv => by
    obtain ⟨x, _, rfl⟩ := List.mem_map.1 hv
    simp [sub]
  rw [e]
  refine ⟨fun i o hi => ?_, fun i j hi hj he => ?_⟩
  · match i, hi with
    | 0, hi =>
      cases hi
      exact ⟨_, wr, rfl, by simp [LOk, VOk], hp⟩
    | 1, hi =>
      cases hi
      refine ⟨_, wr2, rfl, ints_ok _ _, ?_⟩
      rw [List.map_congr_left hs, List.map_id']
      exact hq
  · simp at hi hj
    have hi2 : i = 0 ∨ i = 1 := by omega
    have hj2 : j = 0 ∨ j = 1 := by omega
    rcases hi2 with rfl | rfl <;> rcases hj2 with rfl | rfl <;> simp at he ⊢ <;> omega

theorem ex37 (hJ : Closed prog main J) {wr wr2 : Bool} (hp : h[p]? = some (.cells (exTro.flocks.flatMap Dro.cells) wr 0)) (hq : h[q]? = some (.cells ([0, 1, -1].map vint) wr2 0)) (hne : p ≠ q)
    (hK : ∀ H lv, SameX [] h H → Sli H lv 1 4 [vint 5, vint 3, vint 6, vint 5] → K (.tuple ⟨[lv, vint 0]⟩) H) : Good prog J 37 [exV p, .slice (some ⟨q, 0, none⟩) 3 3, vint 4] h K := by
  have hg := (x_sound mixed 200 main J hJ).1 37 _ _ _ run37
  have := run_ints (K' := K) hg (blt_t (by kernel_rfl : Nat.blt 37 prog.funcs.size = true)) (lies2 hp hq hne) (by simp [exV, troCells, VOk, AOk, LOk, AddrOk, exH, hOf]) fun c sz => hK _ _ SameX.refl.app (sli_new (wr := true) (sz := sz) (by simp) rfl rfl)
  simpa [sub, subA, subL, exV, troCells] using this
theorem ex38 (hJ : Closed prog main J) {wr wr2 : Bool} (hp : h[p]? = some (.cells (exTro.flocks.flatMap Dro.cells) wr 0)) (hq : h[q]? = some (.cells ([0, 1].map vint) wr2 0)) (hne : p ≠ q)
    (hK : K (.tuple ⟨[vint 2, vint 0]⟩) h) : Good prog J 38 [exV p, .slice (some ⟨q, 0, none⟩) 2 2] h K := by
  have hg := (x_sound mixed 200 main J hJ).1 38 _ _ _ run38
  have := run_two (K' := K) hg (blt_t (by kernel_rfl : Nat.blt 38 prog.funcs.size = true)) (lies2 hp hq hne) (by simp [exV, troCells, VOk, AOk, LOk, AddrOk, exH, hOf]) hK
  simpa [sub, subA, subL, exV, troCells] using this
theorem ex39 (hJ : Closed prog main J) {wr : Bool} (hp : h[p]? = some (.cells (exTro.flocks.flatMap Dro.cells) wr 0))
    (hK : ∀ H lv, SameX [] h H → Sli H lv 1 3 [vint (-1), vint 0, vint 1] → K (.tuple ⟨[lv, vint 0]⟩) H) : Good prog J 39 [exV p] h K := by
  have hg := (x_sound mixed 200 main J hJ).1 39 _ _ _ run39
  have := run_ints (K' := K) hg (blt_t (by kernel_rfl : Nat.blt 39 prog.funcs.size = true)) (lies1 hp) (by simp [exV, troCells, VOk, AOk, LOk, AddrOk, exH1, hOf]) fun c sz => hK _ _ SameX.refl.app (sli_new (wr := true) (sz := sz) (by simp) rfl rfl)
  simpa [sub, subA, subL, exV, troCells] using this
theorem ex34 (hJ : Closed prog main J) (hK : K (.tuple ⟨[vint 4, vint 0]⟩) h) : Good prog J 34 [exTro.well.val, .agg ⟨[vint 12, vint 20, vint 1, vint 4, vint 3, vint 2]⟩, .agg ⟨[vint 3, vint 2, vint 2]⟩, vint 0, vint 3] h K := by
  have hg := (x_sound mixed 200 main J hJ).1 34 _ _ _ run34
  refine good_frame hg (blt_t (by kernel_rfl : Nat.blt 34 prog.funcs.size = true)) (by simp [exTro, Wel.val, Wel.cells, VOk, AOk, LOk]) fun v h' hx => ?_
  cases isTwo_t hx
  exact ⟨by simp [VOk, AOk, LOk], hK⟩
end
end Go.Proofs.Ytindillghipjjaa

namespace Go.Proofs.Ytindillghipjjaa
open Go.Conc Go.Proofs.Try
set_option maxRecDepth 100000
section
variable {W0 : World} {Post : Value → World → Prop} {h : List AObj} {K : Value → List AObj → Prop}
theorem fld_wel {fv : Value} {KV : Value → Prop} (hk : KV exTro.well.val) : aField true 3 0 (.agg ⟨troCells exTro fv⟩) KV :=
  ⟨(Nat.le_of_ble_eq_true rfl : 0 + 3 ≤ 4), hk⟩
theorem good19f (hK : ∀ H, SameX [] (unch h) H → K (.bool true) H) : Good prog (J1 prog W0 Post) 19 [] h K := by
  have hJ := J1.closed prog W0 Post
  refine g19 hJ fun ok => ?_
  rw [e19]
  refine good66 hJ fun H1 f1 S1 q1 T1 => ?_
  refine ⟨by decide, fill_one rfl rfl rfl (by decide) (fill_one rfl rfl rfl (by decide) (fill_one rfl rfl rfl (by decide) (fillI (qNew fun H2 p2 e2 S2 c2 l2 => ?_))))⟩
  have := lt_of_get q1
  refine ex37 hJ (S2.get q1 (by simp)) c2 (by omega) fun H3 lv S3 L3 => ?_
  refine vext0 (vext1 ?_)
  refine good66 hJ fun H4 f4 S4 q4 T4 => ?_
  refine ⟨by decide, fill_one rfl rfl rfl (by decide) (fill_one rfl rfl rfl (by decide) (fillI (qNew fun H5 p5 e5 S5 c5 l5 => ?_)))⟩
  have := lt_of_get q4
  refine ex38 hJ (S5.get q4 (by simp)) c5 (by omega) ?_
  refine vext0 (vext1 ?_)
  refine good66 hJ fun H7 f7 S7 q7 T7 => ?_
  refine ex39 hJ q7 fun H8 rv S8 R8 => ?_
  refine vext0 (vext1 ?_)
  refine good66 hJ fun H9 f9 S9 q9 T9 => ?_
  refine ⟨by decide, fill_one rfl rfl rfl (by decide) (fill_one rfl rfl rfl (by decide) (fillI (qNew fun H10 p10 e10 S10 c10 l10 => ?_)))⟩
  have s10 := ownX_sli (ownX_new (s := 1) (n := 2) (l := [vint 2, vint 0]) c10 rfl rfl)
  refine good26 (t := exTro) (cs := [2, 0]) ⟨T9.val, S10.sli T9.fl (by simp)⟩ s10 (by decide) (fun he => absurd ex_servE he) (fun _ hp => absurd hp (by rw [ex_pick]; decide)) fun _ i c os H hp hos S O => ?_
  have hi : i = 1 := by
    rw [ex_pick] at hp
    omega
  subst hi
  have ho : os = [1, 0] := by
    rw [ex_all] at hos
    exact (Option.some.inj hos).symm
  subst ho
  rw [ex_wait]
  -- what is kept till the end
  have A10 : SameX [] H3 H10 := (((S4.trans S5).trans S7).trans S8).trans (S9.trans S10)
  have B10 : SameX [] H8 H10 := S9.trans S10
  have L : Sli H lv 1 4 [vint 5, vint 3, vint 6, vint 5] := S.sli (unch_sli (A10.sli L3 (by simp))) (by simp)
  have R : Sli H rv 1 3 [vint (-1), vint 0, vint 1] := S.sli (unch_sli (B10.sli R8 (by simp))) (by simp)
  show aExt _ 0 _
  refine good66 hJ fun H11 f11 S11 q11 T11 => ?_
  rw [T11.val]
  refine fld_wel ?_
  refine good67 hJ (good68 hJ (ex34 hJ (vext0 (vext1 ?_))))
  have S11' : SameX [] H H11 := S11
  have ct : ∀ {a b : Int} {A B : Prop}, a = b → A → cnd (.bool (decide (a = b))) A B := fun e hA => by rw [decide_eq_true e]; exact cnd_true.2 hA
  refine eqlI (ct rfl (eqlI (ct rfl (eqlI (ct rfl (eqlI (ct rfl (eqlI (ct rfl (eqlI (ct rfl (eqlI (ct rfl (eqlI (ct rfl ?_)))))))))))))))
  refine ⟨by decide, fill_one rfl rfl rfl (by decide) (fill_one rfl rfl rfl (by decide) (fill_one rfl rfl rfl (by decide) (fill_one rfl rfl rfl (by decide) (fillI (qNew fun H13 p13 e13 S13 c13 l13 => ?_)))))⟩
  have s13 := ownX_sli (ownX_new (s := 1) (n := 4) (l := [vint 5, vint 3, vint 6, vint 5]) c13 rfl rfl)
  have S1113 : SameX [] H H13 := S11'.trans S13
  refine good28 (xs := [5, 3, 6, 5]) (ys := [5, 3, 6, 5]) hJ (S1113.sli L (by simp)) s13 (by decide) (cnd_true.2 ?_)
  refine ⟨by decide, fill_one rfl rfl rfl (by decide) (fill_one rfl rfl rfl (by decide) (fill_one rfl rfl rfl (by decide) (fillI (qNew fun H14 p14 e14 S14 c14 l14 => ?_))))⟩
  have s14 := ownX_sli (ownX_new (s := 1) (n := 3) (l := [vint (-1), vint 0, vint 1]) c14 rfl rfl)
  refine good28 (xs := [-1, 0, 1]) (ys := [-1, 0, 1]) hJ ((S1113.trans S14).sli R (by simp)) s14 (by decide) (cnd_true.2 ?_)
  refine ⟨by decide, fill_one rfl rfl rfl (by decide) (fill_one rfl rfl rfl (by decide) (fillI (qNew fun H15 p15 e15 S15 c15 l15 => ?_)))⟩
  have s15 := ownX_sli (ownX_new (s := 1) (n := 2) (l := [vint 1, vint 0]) c15 rfl rfl)
  refine good28 (xs := [1, 0]) (ys := [1, 0]) hJ (((S1113.trans S14).trans S15).sli O (by simp)) s15 (by decide) ?_
  have A0 : SameX [] h H10 := ((S1.trans S2).trans S3).trans A10
  have U : SameX [] (unch h) (unch H10) := by
    have := same_unch (g := []) A0
    rwa [List.append_nil] at this
  exact retL_same (by simp [unk]) (hK _ (((U.trans S).trans (S1113.trans S14)).trans S15))
theorem good19 (hK : ∀ H, K (.bool true) H) : Good prog (J1 prog W0 Post) 19 [] h K := good19f fun H _ => hK H
end
end Go.Proofs.Ytindillghipjjaa

namespace Go.Proofs.Ytindillghipjjaa
open Go.Conc Go.Proofs.Try
set_option maxRecDepth 100000
set_option maxHeartbeats 4000000
set_option linter.unusedVariables false
section
variable {main : Bool} {J : JT} {n0 : Nat} {h : List AObj} {K : Value → List AObj → Prop}
theorem at30 : prog.funcs[30]? = some f30 := by kernel_rfl
theorem body30 : f30.body = some (codeOf f30) := by kernel_rfl
def pl30 : Plans := [(2, false, .take 0 (.take 1 (.take 2 (.take 3 (.take 4 (.take 5 (.take 9 (.take 10 (.last 6 true (.last 7 true (.last 8 true (.take 14 (.last 11 true (.last 12 true (.last 13 true (.last 15 false (.take 16 (.last 17 false (.fin)))))))))))))))))))]
def ct30 : Cuts := .go
theorem pok30 : plansOk prog pl30 (codeOf f30) = true := by kernel_rfl
theorem e30 {a0 a1 : Value} : W prog J 29 h.length 30 (codeOf f30) (RG.mk (regs [a0, a1]) []) h (RetQ prog [.cell 4 23] h.length K) =
(aAlloc [(vint 0), (vint 0), (vint 0)] h fun v1 h2 =>
aMin a1 [(vint 40)] fun v3 =>
aMax (vint 2) [v3] fun v4 =>
Good prog J 33 [a0, (vint 2), v4] h2 fun v5 h6 =>
aFill [(vint 0), (vint 0), (vint 0)] [(1, 1, v5)] fun c7 =>
aAlloc [(vint 0), (vint 0), (vint 0)] h6 fun v8 h9 =>
aStore 3 v8 (Value.agg ⟨c7⟩) h9 fun h10 =>
(∃ B, aOff v8 1 fun v11 =>
aLoad false 1 v11 h10 fun v12 =>
RdOk (some B) (ptrBlk v11) ∧ (aOff v8 1 fun v13 =>
aLoad false 1 v13 h10 fun v14 =>
RdOk (some B) (ptrBlk v13) ∧ (Good prog J 23 [a0, v14] h10 fun v15 h16 =>
SameB (some B) h10 h16 ∧ ((((1 * 1 : Nat) ≤ 16777216 ∧ (1 : Nat) ≤ 16777216 ∧ List.length [(vint 0)] = 1) ∧ aFill (zrep [(vint 0)] 1) [(0, 1, v15)] fun c17 =>
aNewS 1 c17 h16 fun v18 h19 =>
SameB (some B) h10 h19 ∧ (Good prog J 22 [a0, v12, v18] h19 fun v20 h21 =>
SameB (some B) h10 h21 ∧ (aOff v8 0 fun v22 =>
Good prog J 23 [a0, (vint 6)] h21 fun v23 h24 =>
SameB (some B) h10 h24 ∧ ((((3 * 1 : Nat) ≤ 16777216 ∧ (3 : Nat) ≤ 16777216 ∧ List.length [(vint 0)] = 1) ∧ aFill (zrep [(vint 0)] 3) [(0, 1, (vint 2)), (1, 1, (vint 3)), (2, 1, v23)] fun c25 =>
aNewS 3 c25 h24 fun v26 h27 =>
SameB (some B) h10 h27 ∧ (Good prog J 22 [a0, (vint 1), v26] h27 fun v28 h29 =>
SameB (some B) h10 h29 ∧ (aStore 1 v22 v20 h29 fun h30 =>
aOff v8 2 fun v31 =>
aStore 1 v31 v28 h30 fun h32 =>
aLoad true 3 v8 h32 fun v33 =>
aStore 3 v1 v33 h32 fun h34 =>
RetQ prog [.cell 4 23] h.length K .ret (RG.put (RG.put (RG.put (RG.put (RG.put (RG.put (RG.put (RG.put (RG.put (RG.put (RG.put (RG.put (RG.put (RG.put (RG.put (RG.put (RG.put (RG.put (RG.put (RG.put (RG.put (RG.put (RG.put (RG.put (RG.put (RG.mk (regs [a0, a1]) []) 4 v1) 6 a0) 7 a1) 8 v3) 9 v4) 10 v5) 11 (Value.agg ⟨c7⟩)) 5 v8) 12 a0) 13 v11) 14 v12) 15 a0) 16 v13) 17 v14) 21 a0) 22 a0) 18 v15) 19 v18) 20 v20) 26 v22) 23 v23) 24 v26) 25 v28) 27 v31) 28 v33) h34)))))))))))) := top_eq pok30 ct30 (by kernel_rfl)
theorem g30 (hJ : Closed prog main J) {a0 a1 : Value} (hs : heapOk h → W prog J 29 h.length 30 (codeOf f30) (RG.mk (regs [a0, a1]) []) h (RetQ prog [.cell 4 23] h.length K)) : Good prog J 30 [a0, a1] h K :=
  good_of_W hJ mixed at30 body30 (by kernel_rfl) (Nat.le_of_ble_eq_true rfl) hs
theorem at21 : prog.funcs[21]? = some f21 := by kernel_rfl
theorem body21 : f21.body = some (codeOf f21) := by kernel_rfl
def pl21 : Plans := [(5, false, .take 0 (.take 1 (.take 2 (.take 3 (.take 4 (.take 5 (.take 6 (.take 7 (.take 8 (.take 10 (.take 11 (.take 12 (.take 13 (.take 17 (.last 9 true (.last 14 true (.last 15 true (.last 16 true (.last 18 true (.take 19 (.last 20 true (.last 21 true (.take 22 (.last 23 false (.fin)))))))))))))))))))))))))]
def ct21 : Cuts := .go
theorem pok21 : plansOk prog pl21 (codeOf f21) = true := by kernel_rfl
theorem e21 {a0 a1 a2 : Value} : W prog J 45 h.length 21 (codeOf f21) (RG.mk (regs [a0, a1, a2]) []) h (RetQ prog [.cell 6 26] h.length K) =
(aAlloc [(vint 0), (vint 0), (vint 0), (Value.slice none 0 0)] h fun v1 h2 =>
Good prog J 30 [a0, a2] h2 fun v3 h4 =>
aFill [(vint 0), (vint 0), (vint 0), (Value.slice none 0 0)] [(0, 3, v3)] fun c5 =>
aAlloc [(vint 0), (vint 0), (vint 0), (Value.slice none 0 0)] h4 fun v6 h7 =>
aStore 4 v6 (Value.agg ⟨c5⟩) h7 fun h8 =>
aMin a1 [(vint 3)] fun v9 =>
Good prog J 33 [a0, (vint 1), v9] h8 fun v10 h11 =>
Sem J 45 h.length 21 (subC [1, 1, 0, 1, 0] (codeOf f21)) (RG.put (RG.put (RG.put (RG.put (RG.put (RG.put (RG.put (RG.put (RG.put (RG.put (RG.put (RG.mk (regs [a0, a1, a2]) []) 6 v1) 9 a0) 10 a2) 11 v3) 12 (Value.agg ⟨c5⟩)) 7 v6) 13 a0) 14 a1) 15 v9) 16 v10) 8 v10) h11 (contX pl21 prog J 45 h.length 21 ct21 [1, 1, 0, 1, 0] (codeOf f21) [] (RetQ prog [.cell 6 26] h.length K))) := top_eq pok21 ct21 (by kernel_rfl)
theorem g21 (hJ : Closed prog main J) {a0 a1 a2 : Value} (hs : heapOk h → W prog J 45 h.length 21 (codeOf f21) (RG.mk (regs [a0, a1, a2]) []) h (RetQ prog [.cell 6 26] h.length K)) : Good prog J 21 [a0, a1, a2] h K :=
  good_of_W hJ mixed at21 body21 (by kernel_rfl) (Nat.le_of_ble_eq_true rfl) hs
theorem s21_1 {f : RG} {nx0 : RG → List AObj → Prop} : W prog J 45 n0 21 (subC [1, 1, 0, 1, 0, 0] (codeOf f21)) f h (thenK nx0 (contX pl21 prog J 45 n0 21 ct21 [1, 1, 0, 1, 0] (codeOf f21) [] (RetQ prog [.cell 6 26] n0 K))) =
(aBin prog .gtr 3 (f.r 8) (vint 0) fun v1 =>
cnd v1
((∃ B, aOff (f.r 7) 3 fun v2 =>
aLoad false 1 v2 h fun v3 =>
RdOk (some B) (ptrBlk v2) ∧ (aOff (f.r 7) 0 fun v4 =>
aOff v4 1 fun v5 =>
aLoad false 1 v5 h fun v6 =>
RdOk (some B) (ptrBlk v5) ∧ (aBin prog .quo 3 v6 (vint 2) fun v7 =>
aMax (vint 1) [v7] fun v8 =>
aOff (f.r 7) 0 fun v9 =>
aOff v9 1 fun v10 =>
aLoad false 1 v10 h fun v11 =>
RdOk (some B) (ptrBlk v10) ∧ (Good prog J 33 [(f.r 0), (vint 1), v8] h fun v12 h13 =>
SameB (some B) h h13 ∧ (Good prog J 33 [(f.r 0), (vint 1), v11] h13 fun v14 h15 =>
SameB (some B) h h15 ∧ ((((3 * 1 : Nat) ≤ 16777216 ∧ (3 : Nat) ≤ 16777216 ∧ List.length [(vint 0)] = 1) ∧ aFill (zrep [(vint 0)] 3) [(0, 1, (vint 2)), (1, 1, v12), (2, 1, v14)] fun c16 =>
aNewS 3 c16 h15 fun v17 h18 =>
SameB (some B) h h18 ∧ (Good prog J 22 [(f.r 0), (vint 1), v17] h18 fun v19 h20 =>
SameB (some B) h h20 ∧ (Good prog J 33 [(f.r 0), (vint 1), (vint 6)] h20 fun v21 h22 =>
SameB (some B) h h22 ∧ (aFill [(vint 0), (vint 0)] [(0, 1, v19), (1, 1, v21)] fun c23 =>
(((1 * 2 : Nat) ≤ 16777216 ∧ (1 : Nat) ≤ 16777216 ∧ List.length [(vint 0), (vint 0)] = 2) ∧ aFill (zrep [(vint 0), (vint 0)] 1) [(0, 2, (Value.agg ⟨c23⟩))] fun c24 =>
aNewS 1 c24 h22 fun v25 h26 =>
SameB (some B) h h26 ∧ (((List.length [(vint 0), (vint 0)] = 2 ∧ 0 < (2 : Nat) ∧ 0 < (16 : Nat) ∧ (16 : Nat) ≤ 1024) ∧ aApp 2 v3 v25 h26 fun v27 h28 =>
SameB (some B) h h28 ∧ (aOff (f.r 7) 3 fun v29 =>
aStore 1 v29 v27 h28 fun h30 =>
aBin prog .sub 3 (f.r 8) (vint 1) fun v31 =>
nx0 (RG.put (RG.put (RG.put (RG.put (RG.put (RG.put (RG.put (RG.put (RG.put (RG.put (RG.put (RG.put (RG.put (RG.put (RG.put (RG.put (RG.put (RG.put (RG.put (RG.put (RG.put (RG.put (RG.put (RG.put (RG.put (RG.put (RG.put (RG.put f 17 (f.r 8)) 18 v1) 21 v2) 22 v3) 23 (f.r 0)) 24 (f.r 0)) 25 v4) 26 v5) 27 v6) 28 v7) 29 v8) 31 (f.r 0)) 32 v9) 33 v10) 34 v11) 38 (f.r 0)) 30 v12) 35 v14) 36 v17) 37 v19) 39 v21) 40 (Value.agg ⟨c23⟩)) 41 v25) 42 v27) 43 v29) 19 (f.r 8)) 20 v31) 8 v31) h30)))))))))))))))
(aLoad true 4 (f.r 7) h fun v32 =>
aStore 4 (f.r 6) v32 h fun h33 =>
RetQ prog [.cell 6 26] n0 K .ret (RG.put (RG.put (RG.put f 17 (f.r 8)) 18 v1) 44 v32) h33)) := sub_eq pok21 ct21 (by kernel_rfl)
theorem l21_1 (hJ : Closed prog main J) {S : Type} (μ : S → Nat) (I : S → RG → List AObj → Prop) (hI : ∀ s f h, I s f h → heapOk h → n0 ≤ h.length → W prog J 45 n0 21 (subC [1, 1, 0, 1, 0, 0] (codeOf f21)) f h (thenK (Nx n0 μ I s) (contX pl21 prog J 45 n0 21 ct21 [1, 1, 0, 1, 0] (codeOf f21) [] (RetQ prog [.cell 6 26] n0 K))))
  {s : S} {f : RG} (hi : Gets n0 I s f h) : Sem J 45 n0 21 (subC [1, 1, 0, 1, 0] (codeOf f21)) f h (contX pl21 prog J 45 n0 21 ct21 [1, 1, 0, 1, 0] (codeOf f21) [] (RetQ prog [.cell 6 26] n0 K)) :=
  loop_rule hJ mixed (b := subC [1, 1, 0, 1, 0, 0] (codeOf f21)) (by kernel_rfl) μ I hI hi
end
end Go.Proofs.Ytindillghipjjaa

namespace Go.Proofs.Ytindillghipjjaa
open Go.Conc Go.Proofs.Try
def drinkOf (t : Tro) (who : Int) : Int := if 0 ≤ who then (droAt t who.toNat).drinks else 0
def nextL (t : Tro) (who now : Int) : Int := min t.well.holds (now - min now (drinkOf t who) + t.well.fill)
def turnOf (r : List Int) (h : Nat) : Int := r.getD (h % r.length) 0
def lvl (t : Tro) (r : List Int) : Nat → Int
  | 0 => t.well.now
  | h + 1 => nextL t (turnOf r h) (lvl t r h)
def dry (t : Tro) (r : List Int) (h : Nat) : Prop := lvl t r h < drinkOf t (turnOf r h)
instance (t : Tro) (r : List Int) (h : Nat) : Decidable (dry t r h) := by unfold dry; infer_instance

structure TroFine (t : Tro) : Prop where
  holds : 1 ≤ t.well.holds ∧ t.well.holds ≤ 40
  now : 0 ≤ t.well.now ∧ t.well.now ≤ t.well.holds
  fill : 0 ≤ t.well.fill ∧ t.well.fill ≤ 20
  len : 1 ≤ t.flocks.length ∧ t.flocks.length ≤ 3
  dro : ∀ d ∈ t.flocks, droOk d
theorem fine_troE {t : Tro} (f : TroFine t) : troE t = 0 := by
  have h1 : welE t.well = 0 := by unfold welE; rw [if_pos ⟨f.holds, f.now, f.fill⟩]
  have h2 : fewE t.flocks.length 1 3 = 0 := by
    have := f.len
    unfold fewE
    rw [if_neg (by omega), if_neg (by omega)]
  unfold troE
  rw [if_neg (by omega), if_neg (by omega), if_pos f.dro]

section
variable {t x : Tro} {r : List Int} {h k a b : Nat}
def occ (r : List Int) (f : Int) (i : Nat) : Prop := turnOf r i = f
instance (r : List Int) (f : Int) (i : Nat) : Decidable (occ r f i) := by unfold occ; infer_instance
end
end Go.Proofs.Ytindillghipjjaa

namespace Go.Proofs.Ytindillghipjjaa
open Go.Conc Go.Proofs.Try
set_option maxRecDepth 100000
section
variable {main : Bool} {J : JT} {h H : List AObj} {K : Value → List AObj → Prop} {KV : Value → Prop} {HL : List AObj → Prop} {n0 : Nat} {ns : List Int} {k : Nat}
theorem HX.lt (a : HX h H ns k) : h.length < H.length := by
  obtain ⟨nv, k1, s, rest, rfl, _⟩ := a
  rw [hf_len]
  omega
theorem sb1 {X : List Nat} {p : Nat} {H H' : List AObj} (S : SameX X H H') (hp : p < H.length) (hX : p ∉ X) : SameB (some [p]) H H' := fun b hb => by
  simp at hb
  subst hb
  exact S.2 _ hp hX
theorem quoI {t : TypeId} {a b : Int} (ha : 0 ≤ a ∧ a ≤ 1000000) (hb : 0 < b) (hk : KV (vint (a / b))) : aBin prog .quo t (vint a) (vint b) KV := by
  have h1 : Int.tdiv a b = a / b := Int.tdiv_eq_ediv_of_nonneg ha.1
  have h2 : 0 ≤ a / b := Int.ediv_nonneg ha.1 (by omega)
  have h3 : a / b ≤ a := Int.ediv_le_self _ ha.1
  simp only [aBin, aInt, true_and]
  rw [h1, wrap64 (by omega) (by omega)]
  exact ⟨by omega, hk⟩
theorem ofX (hJ : Closed prog main J) (a : HX h H ns k) (hk : k < 1000000) {x : Int} {others : List Int} {p n c : Nat} (hp : H[p]? = some (.cells (others.map vint) true 0)) (hne : p ≠ h.length) (hn : others.length = n) (hl : n < 1000)
    (hK : ∀ y H', (y = x ∨ y ∈ others) → SameX [h.length] H H' → H'.length = H.length → HX h H' ns (k + 1) → K (vint y) H') : Good prog J 22 [ptr h.length 0, vint x, .slice (some ⟨p, 0, none⟩) n c] H K := by
  subst hn
  obtain ⟨nv, k1, s, rest, rfl, b1, b2, b3⟩ := a
  refine good22 hJ (hf_hand b3.list b3.sane (by omega) b2.1 b2.2) (others := others) (fun h' hd => ?_) (by omega) fun y h1 hy hd => ?_
  · obtain ⟨k', s', c1, c2, c3, rfl⟩ := hf_dealt hd
    have S := hf_same (h := h) (nv := nv) (k1 := k1) (k2 := k') (s1 := s) (s2 := s') (rest := rest) (g := [])
    rw [List.append_nil] at S
    exact sli_new (wr := true) (sz := 0) (S.get hp (by simpa using hne)) (by simp) (kn_ints _)
  · obtain ⟨k', s', c1, c2, c3, rfl⟩ := hf_dealt hd
    have S := hf_same (h := h) (nv := nv) (k1 := k1) (k2 := k') (s1 := s) (s2 := s') (rest := rest) (g := [])
    rw [List.append_nil] at S
    exact hK y _ hy S (by simp [hf_len]) ⟨nv, k', s', rest, rfl, by omega, ⟨c2, c3⟩, b3⟩

structure WelOk (B : Int) (w : Wel) : Prop where
  holds : 2 ≤ w.holds ∧ w.holds ≤ B ∧ w.holds ≤ 40
  now : 0 ≤ w.now ∧ w.now ≤ w.holds
  fill : 0 ≤ w.fill ∧ w.fill ≤ 6

theorem good30 (hJ : Closed prog main J) (a : HX h H ns k) (hk : k < 500000) {B : Int} (hB : 2 ≤ B ∧ B ≤ 1000)
    (hK : ∀ w H', WelOk B w → SameX [h.length] H H' → HX h H' ns (k + 5) → K w.val H') : Good prog J 30 [ptr h.length 0, vint B] H K := by
  refine g30 hJ fun ok => ?_
  rw [e30]
  have hlt := a.lt
  refine qAl fun H1 p1 e1 S1 c1 l1 => minI (maxI ?_)
  have a1 := a.same S1 (by simp)
  refine amX hJ a1 (by omega) (by omega) (by omega) fun hd H2 b1 b2 S2 l2 a2 => ?_
  refine fill_one rfl rfl rfl (by decide) (fillI ?_)
  refine qAl fun H3 p3 e3 S3 c3 l3 => qStA (c := [vint 0, vint hd, vint 0]) c3 rfl rfl rfl fun H4 S4 c4 l4 => ?_
  have a4 := (a2.same S3 (by simp)).same S4 (by simp; omega)
  refine ⟨[p3], offI (ldI (v := vint hd) c4 rfl rfl ⟨by simp [RdOk, ptrBlk, ptr], offI (ldI (v := vint hd) c4 rfl rfl ⟨by simp [RdOk, ptrBlk, ptr], ?_⟩)⟩)⟩
  have hp4 : p3 < H4.length := lt_of_get c4
  refine upX hJ a4 (by omega) (by omega) fun now H5 d1 d2 S5 l5 a5 => ⟨sb1 S5 hp4 (by simp; omega), ⟨by decide, fill_one rfl rfl rfl (by decide) (fillI (qNew fun H6 p6 e6 S6 c6 l6 => ?_))⟩⟩
  have c6 : H6[p6]? = some (.cells ([now].map vint) true 0) := c6
  have T6 : SameX [h.length] H4 H6 := S5.trans S6.weak0
  refine ⟨sb1 T6 hp4 (by simp; omega), ?_⟩
  have a6 := a5.same S6 (by simp)
  refine ofX hJ a6 (by omega) c6 (by omega) rfl (by simp) fun nw H7 m7 S7 l7 a7 => ?_
  have T7 : SameX [h.length] H4 H7 := T6.trans S7
  refine ⟨sb1 T7 hp4 (by simp; omega), offI ?_⟩
  refine upX hJ a7 (by omega) (by omega) fun f0 H8 g1 g2 S8 l8 a8 => ?_
  have T8 : SameX [h.length] H4 H8 := T7.trans S8
  refine ⟨sb1 T8 hp4 (by simp; omega), ⟨by decide, fill_one rfl rfl rfl (by decide) (fill_one rfl rfl rfl (by decide) (fill_one rfl rfl rfl (by decide) (fillI (qNew fun H9 p9 e9 S9 c9 l9 => ?_))))⟩⟩
  have c9 : H9[p9]? = some (.cells ([2, 3, f0].map vint) true 0) := c9
  have T9 : SameX [h.length] H4 H9 := T8.trans S9.weak0
  refine ⟨sb1 T9 hp4 (by simp; omega), ?_⟩
  have hh := a8.lt
  have a9 := a8.same S9 (by simp)
  refine ofX hJ a9 (by omega) c9 (by omega) rfl (by simp) fun fl H10 m10 S10 l10 a10 => ?_
  have T10 : SameX [h.length] H4 H10 := T9.trans S10
  refine ⟨sb1 T10 hp4 (by simp; omega), ?_⟩
  refine qSt (T10.get c4 (by simp; omega)) (by simp) rfl rfl fun H11 S11 c11 l11 => offI (qSt c11 (by simp) rfl rfl fun H12 S12 c12 l12 => ?_)
  refine load_part (c := [vint nw, vint hd, vint fl]) c12 (by simp) rfl rfl ?_
  have T1 : SameX [h.length] H H1 := S1.weak0
  have T4 : SameX [h.length] H H4 := ((T1.trans S2).trans S3.weak0).thru S4 (by simp; omega)
  have T12 : SameX [h.length] H H12 := ((T4.trans T10).thru S11 (by simp; omega)).thru S12 (by simp; omega)
  have c1' : H12[p1]? = some (.cells [vint 0, vint 0, vint 0] true 0) := S12.get (S11.get (T10.get (S4.get (S3.get (S2.get c1 (by simp; omega)) (by simp)) (by simp; omega)) (by simp; omega)) (by simp; omega)) (by simp; omega)
  refine qStA (c := [vint nw, vint hd, vint fl]) c1' rfl rfl rfl fun H13 S13 c13 l13 => ?_
  refine retQ_same rfl (resW_cell (gg := true) (s := 3) (by kernel_rfl) (load_part (c := [vint nw, vint hd, vint fl]) c13 (by simp) rfl rfl (resW_nil ?_)))
  refine hK ⟨nw, hd, fl⟩ H13 ⟨?_, ?_, ?_⟩ (T12.thru S13 (by simp; omega)) (((a10.same S11 (by simp; omega)).same S12 (by simp; omega)).same S13 (by simp; omega))
  · show 2 ≤ hd ∧ hd ≤ B ∧ hd ≤ 40
    omega
  · show 0 ≤ nw ∧ nw ≤ hd
    rcases m7 with rfl | m7
    · omega
    · simp at m7
      omega
  · show 0 ≤ fl ∧ fl ≤ 6
    rcases m10 with rfl | m10
    · omega
    · simp at m10
      omega

structure TroOk (F B : Int) (t : Tro) : Prop where
  well : WelOk B t.well
  len : 1 ≤ t.flocks.length ∧ (t.flocks.length : Int) ≤ F
  dro : ∀ d ∈ t.flocks, (1 ≤ d.drinks ∧ d.drinks ≤ 40) ∧ (1 ≤ d.every ∧ d.every ≤ 6)
theorem TroOk.fine {F B : Int} {t : Tro} (o : TroOk F B t) (hF : F ≤ 3) : TroFine t := by
  obtain ⟨⟨h1, h2, h3⟩, h4, h5⟩ := o
  refine ⟨by omega, h2, by omega, by omega, fun d hd => ?_⟩
  have := h5 d hd
  exact ⟨this.1, by omega⟩

structure TroO (h H : List AObj) (t : Tro) (fv : Value) (o : Option Nat) : Prop where
  fl : OwnX H 2 (t.flocks.flatMap Dro.cells) t.flocks.length fv o
  b : ∀ i, o = some i → h.length < i
theorem TroO.at {t : Tro} {fv : Value} {o : Option Nat} (a : TroO h H t fv o) : TroAt H (.agg ⟨troCells t fv⟩) t fv := ⟨rfl, ownX_sli a.fl⟩
theorem TroO.same {H' : List AObj} {t : Tro} {fv : Value} {o : Option Nat} {X : List Nat} (a : TroO h H t fv o) (S : SameX X H H') (hX : ∀ i, o = some i → i ∉ X) : TroO h H' t fv o := ⟨ownX_keep a.fl S hX, a.b⟩

theorem good21 (hJ : Closed prog main J) (a : HX h H ns k) (hk : k < 400000) {F B : Int} (hF : 1 ≤ F ∧ F ≤ 3) (hB : 2 ≤ B ∧ B ≤ 40)
    (hK : ∀ t fv o H', TroOk F B t → SameX [h.length] H H' → HX h H' ns (k + 30) → TroO h H' t fv o → K (.agg ⟨troCells t fv⟩) H') : Good prog J 21 [ptr h.length 0, vint F, vint B] H K := by
  refine g21 hJ fun ok => ?_
  rw [e21]
  have hlt := a.lt
  refine qAl fun H1 p1 e1 S1 c1 l1 => ?_
  have a1 := a.same S1 (by simp)
  refine good30 hJ a1 (by omega) (by omega) fun w H2 ow S2 a2 => ?_
  refine fill_one rfl rfl rfl (by decide) (fillI ?_)
  have hl2 := S2.1
  refine qAl fun H3 p3 e3 S3 c3 l3 => qStA (c := troCells ⟨w, []⟩ (.slice none 0 0)) c3 rfl rfl rfl fun H4 S4 c4 l4 => minI ?_
  have a4 := (a2.same S3 (by simp)).same S4 (by simp; omega)
  refine amX hJ a4 (by omega) (by omega) (by omega) fun i0 H5 b1 b2 S5 l5 a5 => ?_
  have T4 : SameX [h.length] H H4 := ((S1.weak0.trans S2).trans S3.weak0).thru S4 (by simp; omega)
  have T5 : SameX [h.length] H H5 := T4.trans S5
  have c1' : H5[p1]? = some (.cells (troCells ⟨⟨0, 0, 0⟩, []⟩ (.slice none 0 0)) true 0) := S5.get (S4.get (S3.get (S2.get c1 (by simp; omega)) (by simp)) (by simp; omega)) (by simp; omega)
  have c3' : H5[p3]? = some (.cells (troCells ⟨w, []⟩ (.slice none 0 0)) true 0) := S5.get c4 (by simp; omega)
  obtain ⟨⟨w1, w2, w3⟩, w4, w5⟩ := id ow
  refine l21_1 hJ (fun i : Nat => i) (fun i f H' => ∃ ds fv o, SameX [h.length] H H' ∧ HX h H' ns (k + 30 - 5 * i) ∧ i ≤ 3 ∧ (i0 = i + List.length ds) ∧ (∀ d ∈ ds, (1 ≤ d.drinks ∧ d.drinks ≤ 40) ∧ (1 ≤ d.every ∧ d.every ≤ 6)) ∧
      TroO h H' ⟨w, ds⟩ fv o ∧ H'[p3]? = some (.cells (troCells ⟨w, ds⟩ fv) true 0) ∧ H'[p1]? = some (.cells (troCells ⟨⟨0, 0, 0⟩, []⟩ (.slice none 0 0)) true 0) ∧ (∀ j, o = some j → j ≠ p1 ∧ j ≠ p3 ∧ H.length ≤ j) ∧ f.ds = [] ∧ f.r 0 = ptr h.length 0 ∧ f.r 6 = ptr p1 0 ∧ f.r 7 = ptr p3 0 ∧ f.r 8 = vint (i : Nat)) ?_ (s := i0.toNat)
    (.inl ⟨[], .slice none 0 0, none, T5, a5.mono (by omega), by omega, by simp; omega, by simp, ⟨⟨rfl, rfl, .inl ⟨rfl, rfl, rfl⟩⟩, by simp⟩, c3', c1', by simp, rfl, rfl, rfl, rfl, by show vint i0 = vint _; congr 1; omega⟩)
  rintro i f Hc ⟨ds, fv, o, Sc, ac, hi, hsum, hds, TO, cp3, cp1, hoj, fds, r0, r6, r7, r8⟩ okc hnc
  rw [s21_1, r0, r6, r7, r8]
  have hp3 := lt_of_get cp3
  have hp1 := lt_of_get cp1
  refine gtrI (cndI (fun hpos => ?_) fun hz => ?_)
  · have kf := (ownX_val TO.fl).2.2
    refine ⟨[p3], offI (ldI (v := fv) cp3 rfl kf ⟨by simp [RdOk, ptrBlk, ptr], offI (offI (ldI (v := vint w.holds) cp3 rfl rfl ⟨by simp [RdOk, ptrBlk, ptr], quoI (by omega) (by omega) (maxI (offI (offI (ldI (v := vint w.holds) cp3 rfl rfl ⟨by simp [RdOk, ptrBlk, ptr], ?_⟩))))⟩))⟩)⟩
    have hq : 0 ≤ w.holds / 2 ∧ w.holds / 2 ≤ w.holds := ⟨Int.ediv_nonneg (by omega) (by omega), Int.ediv_le_self _ (by omega)⟩
    refine amX hJ ac (by omega) (by omega) (by omega) fun x1 Ha q1 q2 Sa la aa => ⟨sb1 Sa hp3 (by simp; omega), ?_⟩
    refine amX hJ aa (by omega) (by omega) (by omega) fun x2 Hb q3 q4 Sb lb ab => ⟨sb1 (Sa.trans Sb) hp3 (by simp; omega), ?_⟩
    refine ⟨by decide, fill_one rfl rfl rfl (by decide) (fill_one rfl rfl rfl (by decide) (fill_one rfl rfl rfl (Nat.le_of_ble_eq_true rfl) (fillI (qNew fun Hd pd ed Sd cd ld => ?_))))⟩
    have cd : Hd[pd]? = some (.cells ([2, x1, x2].map vint) true 0) := cd
    have Td : SameX [h.length] Hc Hd := (Sa.trans Sb).trans Sd.weak0
    have hlb := ab.lt
    have ad := ab.same Sd (by simp)
    refine ⟨sb1 Td hp3 (by simp; omega), ?_⟩
    refine ofX hJ ad (by omega) cd (by omega) rfl (by simp) fun dr He me Se le ae => ⟨sb1 (Td.trans Se) hp3 (by simp; omega), ?_⟩
    refine amX hJ ae (by omega) (by omega) (by omega) fun ev Hf q5 q6 Sf lf af => ?_
    have Tf : SameX [h.length] Hc Hf := (Td.trans Se).trans Sf
    refine ⟨sb1 Tf hp3 (by simp; omega), ?_⟩
    refine fill_one rfl rfl rfl (by decide) (fill_one rfl rfl rfl (Nat.le_of_ble_eq_true rfl) (fillI ?_))
    refine ⟨by decide, fill_one (l := [vint dr, vint ev]) rfl rfl rfl (Nat.le_of_ble_eq_true rfl) (fillI (qNew fun Hg pg eg Sg cg lg => ?_))⟩
    have cg : Hg[pg]? = some (.cells [vint dr, vint ev] true 0) := cg
    have Tg : SameX [h.length] Hc Hg := Tf.trans Sg.weak0
    refine ⟨sb1 Tg hp3 (by simp; omega), ⟨by decide, ?_⟩⟩
    have TOg := TO.same Tg (fun j hj => by have := TO.b j hj; simp; omega)
    have hdl : ds.length ≤ 3 := by omega
    refine ownX_more TOg.fl (by omega) (by show ds.length < 100000; omega) (ownX_sli (ownX_new (s := 2) (n := 1) (l := [vint dr, vint ev]) cg rfl rfl)) fun fv' Hh ph eh Oh Sh => ?_
    have hlc := Tg.1
    have Th : SameX (h.length :: o.toList) Hc Hh := (Tg.weak (by simp)).trans (Sh.weak fun x hx => List.mem_cons_of_mem _ hx)
    have hno : ∀ b, b = p1 ∨ b = p3 → b ∉ o.toList := fun b hb hm => by
      have := hoj b (by simpa using hm)
      omega
    refine ⟨sb1 Th hp3 (by simp only [List.mem_cons, not_or]; exact ⟨by omega, hno p3 (.inr rfl)⟩), offI ?_⟩
    refine qSt (Th.get cp3 (by simp only [List.mem_cons, not_or]; exact ⟨by omega, hno p3 (.inr rfl)⟩)) (by simp [troCells]) (ownX_val Oh).1 (ownX_val Oh).2.1 fun Hi Si ci li => subI (by omega) ?_
    refine ⟨i - 1, by dsimp only; omega, .inl ⟨ds ++ [⟨dr, ev⟩], fv', some ph, ?_, ?_, by omega, by simp; omega, fun d hd => ?_, ⟨ownX_keep ?_ Si (by intro j hj; cases hj; simp; omega), fun j hj => by cases hj; omega⟩, ci, ?_, fun j hj => by cases hj; omega, fds, r0, r6, r7, by show vint _ = vint _; congr 1; omega⟩⟩
    · refine ((Sc.trans Tg).thru Sh ?_).thru Si (by simp; omega)
      intro y hy
      have hy' : o = some y := by simpa using hy
      exact .inr (hoj y hy').2.2
    · refine HX.mono (k := k + 30 - 5 * i + 5) (HX.same (HX.same ((af.same Sg (by simp)).mono (by omega)) Sh ?_) Si (by simp; omega)) (by omega)
      intro y hy
      exact TO.b y (by simpa using hy)
    · rcases List.mem_append.1 hd with hd | hd
      · exact hds d hd
      · have : d = ⟨dr, ev⟩ := by simpa using hd
        subst this
        refine ⟨?_, by show 1 ≤ ev ∧ ev ≤ 6; omega⟩
        show 1 ≤ dr ∧ dr ≤ 40
        rcases me with rfl | me
        · omega
        · simp at me
          omega
    · simpa [List.flatMap_append, Dro.cells] using Oh
    · exact Si.get (Th.get cp1 (by simp only [List.mem_cons, not_or]; exact ⟨by omega, hno p1 (.inl rfl)⟩)) (by simp; omega)
  · have hi0 : i = 0 := by omega
    subst hi0
    have kf := (ownX_val TO.fl).2
    have k4 : (troCells ⟨w, ds⟩ fv).all one = true ∧ kn (troCells ⟨w, ds⟩ fv) = true := ⟨tro_one TO.at, tro_kn TO.at⟩
    refine load_part (c := troCells ⟨w, ds⟩ fv) cp3 (by simp [troCells]) rfl k4.2 ?_
    refine qStA (c := troCells ⟨w, ds⟩ fv) cp1 rfl rfl k4.1 fun Hz Sz cz lz => ?_
    refine retQ_same fds (resW_cell (gg := true) (s := 4) (by kernel_rfl) ?_)
    show aLoad true 4 (f.r 6) Hz _
    rw [r6]
    refine load_part (c := troCells ⟨w, ds⟩ fv) cz (by simp [troCells]) rfl k4.2 (resW_nil ?_)
    refine hK ⟨w, ds⟩ fv o Hz ⟨ow, ?_, hds⟩ (Sc.thru Sz (by simp; omega)) ((ac.same Sz (by simp; omega)).mono (by omega)) (TO.same Sz fun j hj => by have := hoj j hj; simp; omega)
    show 1 ≤ ds.length ∧ (ds.length : Int) ≤ F
    omega
structure RotO (h H : List AObj) (r : List Int) (v : Value) (o : Option Nat) : Prop where
  l : OwnX H 1 (r.map vint) r.length v o
  b : ∀ i, o = some i → h.length < i
theorem RotO.sli {r : List Int} {v : Value} {o : Option Nat} (a : RotO h H r v o) : Sli H v 1 r.length (r.map vint) := ownX_sli a.l
theorem RotO.same {H' : List AObj} {r : List Int} {v : Value} {o : Option Nat} {X : List Nat} (a : RotO h H r v o) (S : SameX X H H') (hX : ∀ i, o = some i → i ∉ X) : RotO h H' r v o := ⟨ownX_keep a.l S hX, a.b⟩

end
end Go.Proofs.Ytindillghipjjaa

namespace Go.Proofs.Ytindillghipjjaa
open Go.Conc Go.Proofs.Try
set_option maxRecDepth 100000
section
variable {main : Bool} {J : JT} {h H : List AObj} {K : Value → List AObj → Prop} {KV : Value → Prop} {n0 : Nat}
def GrowI (po : Nat) (L : Nat → List Int) (k : Nat) (O : List Nat) (H : List AObj) : Prop :=
  ∃ lv o, O = Option.toList o ∧ H[po]? = some (.cells [lv] true 0) ∧ OwnX H 1 ((L k).map vint) (L k).length lv o ∧ (∀ i, o = some i → i ≠ po) ∧ (L k).length ≤ k
theorem GrowI.lt {po k : Nat} {L : Nat → List Int} {O : List Nat} (a : GrowI po L k O H) : ∀ x ∈ O, x < H.length := by
  obtain ⟨lv, o, rfl, c, A, ho, hl⟩ := a
  intro x hx
  exact ownX_lt A x (by simpa using hx)
end
end Go.Proofs.Ytindillghipjjaa

namespace Go.Proofs.Ytindillghipjjaa
open Go.Conc Go.Proofs.Try
set_option maxRecDepth 100000
set_option maxHeartbeats 4000000
set_option linter.unusedVariables false
section
variable {main : Bool} {J : JT} {n0 : Nat} {h : List AObj} {K : Value → List AObj → Prop}
def pl7 : Plans := []
def ct7 : Cuts := .go
theorem pok7 : plansOk prog pl7 (codeOf f7) = true := by kernel_rfl
theorem e7 {a0 : Value} : W prog J 82 h.length 7 (codeOf f7) (RG.mk (regs [a0]) []) h (RetQ prog [.tmp 2] h.length K) =
(Good prog J 20 [a0] h fun v1 h2 =>
Good prog J 21 [v1, (vint 2), (vint 10)] h2 fun v3 h4 =>
aAlloc [(vint 0), (vint 0), (vint 0), (Value.slice none 0 0)] h4 fun v5 h6 =>
aStore 4 v5 v3 h6 fun h7 =>
aLoad true 4 v5 h7 fun v8 =>
Good prog J 39 [v8] h7 fun v9 h10 =>
aExt v9 0 fun v11 =>
aExt v9 1 fun v12 =>
Sem J 82 h.length 7 (subC [1, 1, 1, 0, 1, 0] (codeOf f7)) (RG.put (RG.put (RG.put (RG.put (RG.put (RG.put (RG.put (RG.put (RG.put (RG.put (RG.put (RG.put (RG.put (RG.mk (regs [a0]) []) 2 (Value.bool false)) 13 a0) 14 v1) 15 v3) 3 v5) 17 v8) 18 v9) 16 v9) 19 v11) 20 v12) 4 v11) 5 v12) 6 (vint 1)) h10 (contX pl7 prog J 82 h.length 7 ct7 [1, 1, 1, 0, 1, 0] (codeOf f7) [] (RetQ prog [.tmp 2] h.length K))) := top_eq pok7 ct7 (by kernel_rfl)
end
end Go.Proofs.Ytindillghipjjaa

namespace Go.Proofs.Ytindillghipjjaa
open Go.Conc Go.Proofs.Try
set_option maxRecDepth 100000
set_option maxHeartbeats 4000000
set_option linter.unusedVariables false
section
variable {main : Bool} {J : JT} {n0 : Nat} {h : List AObj} {K : Value → List AObj → Prop}
def pl14 : Plans := []
def ct14 : Cuts := .bin (.go) (.bin (.go) (.bin (.go) (.bin (.go) (.bin (.bin (.go) (.cut (.go))) (.bin (.bin (.go) (.un (.un (.bin (.go) (.bin (.un (.bin (.go) (.bin (.go) (.cut (.bin (.go) (.cut (.bin (.bin (.go) (.cut (.go))) (.bin (.go) (.un (.un (.bin (.go) (.bin (.un (.bin (.go) (.bin (.go) (.cut (.bin (.go) (.bin (.go) (.cut (.go)))))))) (.go))))))))))))) (.go)))))) (.go))))))
theorem pok14 : plansOk prog pl14 (codeOf f14) = true := by kernel_rfl
theorem e14 {a0 : Value} : W prog J 116 h.length 14 (codeOf f14) (RG.mk (regs [a0]) []) h (RetQ prog [.tmp 2] h.length K) =
(Good prog J 20 [a0] h fun v1 h2 =>
Good prog J 21 [v1, (vint 2), (vint 10)] h2 fun v3 h4 =>
aAlloc [(vint 0), (vint 0), (vint 0), (Value.slice none 0 0)] h4 fun v5 h6 =>
aStore 4 v5 v3 h6 fun h7 =>
aLoad true 4 v5 h7 fun v8 =>
Good prog J 55 [v8] h7 fun v9 h10 =>
aExt v9 0 fun v11 =>
aExt v9 1 fun v12 =>
aLoad true 4 v5 h10 fun v13 =>
Good prog J 57 [v13] h10 fun v14 h15 =>
aExt v14 0 fun v16 =>
aExt v14 1 fun v17 =>
aBin prog .neq 39 v12 (vint 0) fun v18 =>
cnd v18
(aBin prog .neq 39 v12 (vint 11) fun v19 =>
cnd v19
(Hold (W prog J 116 h.length 14 (subC [1, 1, 1, 1, 0, 1] (codeOf f14)) (RG.put (RG.put (RG.put (RG.put (RG.put (RG.put (RG.put (RG.put (RG.put (RG.put (RG.put (RG.put (RG.put (RG.put (RG.put (RG.put (RG.put (RG.put (RG.put (RG.put (RG.put (RG.put (RG.put (RG.put (RG.put (RG.put (RG.put (RG.put (RG.put (RG.put (RG.put (RG.put (RG.put (RG.put (RG.put (RG.mk (regs [a0]) []) 2 (Value.bool false)) 17 a0) 18 v1) 19 v3) 3 v5) 21 v8) 22 v9) 20 v9) 23 v11) 24 v12) 4 v11) 5 v12) 26 v13) 27 v14) 25 v14) 28 v16) 29 v17) 6 v16) 7 v17) 30 v12) 31 v18) 32 v18) 32 (Value.bool true)) 33 v12) 34 v19) 35 v19) 36 v19) 36 (Value.bool true)) 37 undef) 38 undef) 39 undef) 40 undef) 41 undef) 42 undef) 43 (Value.bool true)) h15 (contX pl14 prog J 116 h.length 14 ct14 [1, 1, 1, 1, 0, 1] (codeOf f14) [] (RetQ prog [.tmp 2] h.length K))))
(aBin prog .neq 39 v17 (vint 0) fun v20 =>
cnd v20
(aBin prog .neq 39 v17 (vint 11) fun v21 =>
Hold (W prog J 116 h.length 14 (subC [1, 1, 1, 1, 0, 1] (codeOf f14)) (RG.put (RG.put (RG.put (RG.put (RG.put (RG.put (RG.put (RG.put (RG.put (RG.put (RG.put (RG.put (RG.put (RG.put (RG.put (RG.put (RG.put (RG.put (RG.put (RG.put (RG.put (RG.put (RG.put (RG.put (RG.put (RG.put (RG.put (RG.put (RG.put (RG.put (RG.put (RG.put (RG.put (RG.put (RG.put (RG.put (RG.mk (regs [a0]) []) 2 (Value.bool false)) 17 a0) 18 v1) 19 v3) 3 v5) 21 v8) 22 v9) 20 v9) 23 v11) 24 v12) 4 v11) 5 v12) 26 v13) 27 v14) 25 v14) 28 v16) 29 v17) 6 v16) 7 v17) 30 v12) 31 v18) 32 v18) 32 (Value.bool true)) 33 v12) 34 v19) 35 v19) 36 v19) 36 (Value.bool false)) 37 v17) 38 v20) 39 v20) 39 (Value.bool true)) 40 v17) 41 v21) 42 v21) 43 v21) h15 (contX pl14 prog J 116 h.length 14 ct14 [1, 1, 1, 1, 0, 1] (codeOf f14) [] (RetQ prog [.tmp 2] h.length K))))
(Hold (W prog J 116 h.length 14 (subC [1, 1, 1, 1, 0, 1] (codeOf f14)) (RG.put (RG.put (RG.put (RG.put (RG.put (RG.put (RG.put (RG.put (RG.put (RG.put (RG.put (RG.put (RG.put (RG.put (RG.put (RG.put (RG.put (RG.put (RG.put (RG.put (RG.put (RG.put (RG.put (RG.put (RG.put (RG.put (RG.put (RG.put (RG.put (RG.put (RG.put (RG.put (RG.put (RG.put (RG.put (RG.put (RG.mk (regs [a0]) []) 2 (Value.bool false)) 17 a0) 18 v1) 19 v3) 3 v5) 21 v8) 22 v9) 20 v9) 23 v11) 24 v12) 4 v11) 5 v12) 26 v13) 27 v14) 25 v14) 28 v16) 29 v17) 6 v16) 7 v17) 30 v12) 31 v18) 32 v18) 32 (Value.bool true)) 33 v12) 34 v19) 35 v19) 36 v19) 36 (Value.bool false)) 37 v17) 38 v20) 39 v20) 39 (Value.bool false)) 40 undef) 41 undef) 42 (Value.bool false)) 43 (Value.bool false)) h15 (contX pl14 prog J 116 h.length 14 ct14 [1, 1, 1, 1, 0, 1] (codeOf f14) [] (RetQ prog [.tmp 2] h.length K))))))
(aBin prog .neq 39 v17 (vint 0) fun v22 =>
cnd v22
(aBin prog .neq 39 v17 (vint 11) fun v23 =>
Hold (W prog J 116 h.length 14 (subC [1, 1, 1, 1, 0, 1] (codeOf f14)) (RG.put (RG.put (RG.put (RG.put (RG.put (RG.put (RG.put (RG.put (RG.put (RG.put (RG.put (RG.put (RG.put (RG.put (RG.put (RG.put (RG.put (RG.put (RG.put (RG.put (RG.put (RG.put (RG.put (RG.put (RG.put (RG.put (RG.put (RG.put (RG.put (RG.put (RG.put (RG.put (RG.put (RG.put (RG.put (RG.put (RG.mk (regs [a0]) []) 2 (Value.bool false)) 17 a0) 18 v1) 19 v3) 3 v5) 21 v8) 22 v9) 20 v9) 23 v11) 24 v12) 4 v11) 5 v12) 26 v13) 27 v14) 25 v14) 28 v16) 29 v17) 6 v16) 7 v17) 30 v12) 31 v18) 32 v18) 32 (Value.bool false)) 33 undef) 34 undef) 35 (Value.bool false)) 36 (Value.bool false)) 36 (Value.bool false)) 37 v17) 38 v22) 39 v22) 39 (Value.bool true)) 40 v17) 41 v23) 42 v23) 43 v23) h15 (contX pl14 prog J 116 h.length 14 ct14 [1, 1, 1, 1, 0, 1] (codeOf f14) [] (RetQ prog [.tmp 2] h.length K))))
(Hold (W prog J 116 h.length 14 (subC [1, 1, 1, 1, 0, 1] (codeOf f14)) (RG.put (RG.put (RG.put (RG.put (RG.put (RG.put (RG.put (RG.put (RG.put (RG.put (RG.put (RG.put (RG.put (RG.put (RG.put (RG.put (RG.put (RG.put (RG.put (RG.put (RG.put (RG.put (RG.put (RG.put (RG.put (RG.put (RG.put (RG.put (RG.put (RG.put (RG.put (RG.put (RG.put (RG.put (RG.put (RG.put (RG.mk (regs [a0]) []) 2 (Value.bool false)) 17 a0) 18 v1) 19 v3) 3 v5) 21 v8) 22 v9) 20 v9) 23 v11) 24 v12) 4 v11) 5 v12) 26 v13) 27 v14) 25 v14) 28 v16) 29 v17) 6 v16) 7 v17) 30 v12) 31 v18) 32 v18) 32 (Value.bool false)) 33 undef) 34 undef) 35 (Value.bool false)) 36 (Value.bool false)) 36 (Value.bool false)) 37 v17) 38 v22) 39 v22) 39 (Value.bool false)) 40 undef) 41 undef) 42 (Value.bool false)) 43 (Value.bool false)) h15 (contX pl14 prog J 116 h.length 14 ct14 [1, 1, 1, 1, 0, 1] (codeOf f14) [] (RetQ prog [.tmp 2] h.length K)))))) := top_eq pok14 ct14 (by kernel_rfl)
end
end Go.Proofs.Ytindillghipjjaa

namespace Go.Proofs.Ytindillghipjjaa
open Go.Conc Go.Proofs.Try
set_option maxRecDepth 100000
set_option maxHeartbeats 4000000
set_option linter.unusedVariables false
section
variable {main : Bool} {J : JT} {n0 : Nat} {h : List AObj} {K : Value → List AObj → Prop}
theorem at5 : prog.funcs[5]? = some f5 := by kernel_rfl
theorem body5 : f5.body = some (codeOf f5) := by kernel_rfl
def pl5 : Plans := [(5, false, .take 0 (.take 1 (.take 2 (.take 3 (.take 4 (.take 5 (.take 6 (.take 8 (.take 9 (.take 10 (.take 11 (.last 7 true (.take 13 (.take 14 (.last 12 false (.last 15 false (.take 16 (.take 17 (.last 18 false (.fin)))))))))))))))))))),
  (14, true, .take 0 (.take 1 (.take 2 (.take 3 (.take 4 (.take 5 (.take 6 (.take 7 (.take 8 (.fin))))))))))]
def ct5 : Cuts := .bin (.go) (.bin (.go) (.bin (.go) (.bin (.go) (.bin (.go) (.bin (.go) (.bin (.go) (.bin (.go) (.bin (.go) (.bin (.bin (.go) (.cut (.go))) (.bin (.go) (.bin (.go) (.bin (.go) (.bin (.bin (.go) (.cut (.go))) (.go))))))))))))))
theorem pok5 : plansOk prog pl5 (codeOf f5) = true := by kernel_rfl
theorem e5 {a0 : Value} : W prog J 171 h.length 5 (codeOf f5) (RG.mk (regs [a0]) []) h (RetQ prog [.tmp 2] h.length K) =
(Good prog J 20 [a0] h fun v1 h2 =>
Good prog J 21 [v1, (vint 2), (vint 10)] h2 fun v3 h4 =>
aAlloc [(vint 0), (vint 0), (vint 0), (Value.slice none 0 0)] h4 fun v5 h6 =>
aStore 4 v5 v3 h6 fun h7 =>
aLoad true 4 v5 h7 fun v8 =>
Good prog J 24 [v8] h7 fun v9 h10 =>
aAlloc [(vint 0), (vint 0), (vint 0), (Value.slice none 0 0)] h10 fun v11 h12 =>
aStore 4 v11 v9 h12 fun h13 =>
aOff v5 0 fun v14 =>
aOff v14 1 fun v15 =>
aLoad false 1 v15 h13 fun v16 =>
Good prog J 33 [v1, v16, (vint 14)] h13 fun v17 h18 =>
aOff v11 0 fun v19 =>
aOff v19 1 fun v20 =>
aStore 1 v20 v17 h18 fun h21 =>
(∃ B, aOff v5 0 fun v22 =>
aOff v22 0 fun v23 =>
aLoad false 1 v23 h21 fun v24 =>
RdOk (some B) (ptrBlk v23) ∧ (aOff v11 0 fun v25 =>
aOff v25 1 fun v26 =>
aLoad false 1 v26 h21 fun v27 =>
RdOk (some B) (ptrBlk v26) ∧ (aOff v5 0 fun v28 =>
aOff v28 2 fun v29 =>
aLoad false 1 v29 h21 fun v30 =>
RdOk (some B) (ptrBlk v29) ∧ (Good prog J 33 [v1, v24, v27] h21 fun v31 h32 =>
SameB (some B) h21 h32 ∧ (aOff v11 0 fun v33 =>
aOff v33 0 fun v34 =>
Good prog J 33 [v1, v30, (vint 8)] h32 fun v35 h36 =>
aStore 1 v34 v31 h36 fun h37 =>
aOff v11 0 fun v38 =>
aOff v38 2 fun v39 =>
aStore 1 v39 v35 h37 fun h40 =>
aLoad true 4 v5 h40 fun v41 =>
Good prog J 36 [v1, v41, (vint 5)] h40 fun v42 h43 =>
aLoad true 4 v5 h43 fun v44 =>
Good prog J 37 [v44, v42, (vint 40)] h43 fun v45 h46 =>
aExt v45 0 fun v47 =>
aExt v45 1 fun v48 =>
aLoad true 4 v11 h46 fun v49 =>
Good prog J 37 [v49, v42, (vint 40)] h46 fun v50 h51 =>
aExt v50 0 fun v52 =>
aExt v50 1 fun v53 =>
aBin prog .neq 39 v48 (vint 0) fun v54 =>
cnd v54
(Hold (W prog J 171 h.length 5 (subC [1, 1, 1, 1, 1, 1, 1, 1, 1, 0, 1] (codeOf f5)) (RG.put (RG.put (RG.put (RG.put (RG.put (RG.put (RG.put (RG.put (RG.put (RG.put (RG.put (RG.put (RG.put (RG.put (RG.put (RG.put (RG.put (RG.put (RG.put (RG.put (RG.put (RG.put (RG.put (RG.put (RG.put (RG.put (RG.put (RG.put (RG.put (RG.put (RG.put (RG.put (RG.put (RG.put (RG.put (RG.put (RG.put (RG.put (RG.put (RG.put (RG.put (RG.put (RG.put (RG.put (RG.put (RG.put (RG.put (RG.put (RG.put (RG.put (RG.put (RG.put (RG.put (RG.put (RG.put (RG.put (RG.put (RG.put (RG.put (RG.put (RG.put (RG.put (RG.put (RG.put (RG.put (RG.put (RG.put (RG.put (RG.put (RG.put (RG.put (RG.put (RG.put (RG.mk (regs [a0]) []) 2 (Value.bool false)) 16 a0) 17 v1) 3 v1) 18 v1) 19 v3) 4 v5) 20 v8) 21 v9) 5 v11) 22 v1) 23 v14) 24 v15) 25 v16) 26 v17) 27 v19) 28 v20) 29 v1) 30 v22) 31 v23) 32 v24) 33 v25) 34 v26) 35 v27) 37 v1) 38 v28) 39 v29) 40 v30) 36 v31) 42 v33) 43 v34) 41 v35) 44 v38) 45 v39) 46 v1) 47 v41) 48 v42) 6 v42) 50 v44) 51 v42) 52 v45) 49 v45) 53 v47) 54 v48) 7 v47) 8 v48) 56 v49) 57 v42) 58 v50) 55 v50) 59 v52) 60 v53) 9 v52) 10 v53) 61 v48) 62 v54) 63 v54) 63 (Value.bool true)) 64 undef) 65 undef) 66 (Value.bool true)) 67 (Value.bool true)) 67 (Value.bool true)) 68 undef) 69 undef) 70 undef) 71 (Value.bool true)) 72 (Value.bool true)) 72 (Value.bool true)) 73 undef) 74 undef) 75 undef) 76 (Value.bool true)) h51 (contX pl5 prog J 171 h.length 5 ct5 [1, 1, 1, 1, 1, 1, 1, 1, 1, 0, 1] (codeOf f5) [] (RetQ prog [.tmp 2] h.length K))))
(aBin prog .neq 39 v53 (vint 0) fun v55 =>
cnd v55
(Hold (W prog J 171 h.length 5 (subC [1, 1, 1, 1, 1, 1, 1, 1, 1, 0, 1] (codeOf f5)) (RG.put (RG.put (RG.put (RG.put (RG.put (RG.put (RG.put (RG.put (RG.put (RG.put (RG.put (RG.put (RG.put (RG.put (RG.put (RG.put (RG.put (RG.put (RG.put (RG.put (RG.put (RG.put (RG.put (RG.put (RG.put (RG.put (RG.put (RG.put (RG.put (RG.put (RG.put (RG.put (RG.put (RG.put (RG.put (RG.put (RG.put (RG.put (RG.put (RG.put (RG.put (RG.put (RG.put (RG.put (RG.put (RG.put (RG.put (RG.put (RG.put (RG.put (RG.put (RG.put (RG.put (RG.put (RG.put (RG.put (RG.put (RG.put (RG.put (RG.put (RG.put (RG.put (RG.put (RG.put (RG.put (RG.put (RG.put (RG.put (RG.put (RG.put (RG.put (RG.put (RG.put (RG.mk (regs [a0]) []) 2 (Value.bool false)) 16 a0) 17 v1) 3 v1) 18 v1) 19 v3) 4 v5) 20 v8) 21 v9) 5 v11) 22 v1) 23 v14) 24 v15) 25 v16) 26 v17) 27 v19) 28 v20) 29 v1) 30 v22) 31 v23) 32 v24) 33 v25) 34 v26) 35 v27) 37 v1) 38 v28) 39 v29) 40 v30) 36 v31) 42 v33) 43 v34) 41 v35) 44 v38) 45 v39) 46 v1) 47 v41) 48 v42) 6 v42) 50 v44) 51 v42) 52 v45) 49 v45) 53 v47) 54 v48) 7 v47) 8 v48) 56 v49) 57 v42) 58 v50) 55 v50) 59 v52) 60 v53) 9 v52) 10 v53) 61 v48) 62 v54) 63 v54) 63 (Value.bool false)) 64 v53) 65 v55) 66 v55) 67 v55) 67 (Value.bool true)) 68 undef) 69 undef) 70 undef) 71 (Value.bool true)) 72 (Value.bool true)) 72 (Value.bool true)) 73 undef) 74 undef) 75 undef) 76 (Value.bool true)) h51 (contX pl5 prog J 171 h.length 5 ct5 [1, 1, 1, 1, 1, 1, 1, 1, 1, 0, 1] (codeOf f5) [] (RetQ prog [.tmp 2] h.length K))))
(aLenS v47 fun v56 =>
aBin prog .neq 3 v56 (vint 40) fun v57 =>
cnd v57
(Hold (W prog J 171 h.length 5 (subC [1, 1, 1, 1, 1, 1, 1, 1, 1, 0, 1] (codeOf f5)) (RG.put (RG.put (RG.put (RG.put (RG.put (RG.put (RG.put (RG.put (RG.put (RG.put (RG.put (RG.put (RG.put (RG.put (RG.put (RG.put (RG.put (RG.put (RG.put (RG.put (RG.put (RG.put (RG.put (RG.put (RG.put (RG.put (RG.put (RG.put (RG.put (RG.put (RG.put (RG.put (RG.put (RG.put (RG.put (RG.put (RG.put (RG.put (RG.put (RG.put (RG.put (RG.put (RG.put (RG.put (RG.put (RG.put (RG.put (RG.put (RG.put (RG.put (RG.put (RG.put (RG.put (RG.put (RG.put (RG.put (RG.put (RG.put (RG.put (RG.put (RG.put (RG.put (RG.put (RG.put (RG.put (RG.put (RG.put (RG.put (RG.put (RG.put (RG.put (RG.put (RG.put (RG.mk (regs [a0]) []) 2 (Value.bool false)) 16 a0) 17 v1) 3 v1) 18 v1) 19 v3) 4 v5) 20 v8) 21 v9) 5 v11) 22 v1) 23 v14) 24 v15) 25 v16) 26 v17) 27 v19) 28 v20) 29 v1) 30 v22) 31 v23) 32 v24) 33 v25) 34 v26) 35 v27) 37 v1) 38 v28) 39 v29) 40 v30) 36 v31) 42 v33) 43 v34) 41 v35) 44 v38) 45 v39) 46 v1) 47 v41) 48 v42) 6 v42) 50 v44) 51 v42) 52 v45) 49 v45) 53 v47) 54 v48) 7 v47) 8 v48) 56 v49) 57 v42) 58 v50) 55 v50) 59 v52) 60 v53) 9 v52) 10 v53) 61 v48) 62 v54) 63 v54) 63 (Value.bool false)) 64 v53) 65 v55) 66 v55) 67 v55) 67 (Value.bool false)) 68 v47) 69 v56) 70 v57) 71 v57) 72 v57) 72 (Value.bool true)) 73 undef) 74 undef) 75 undef) 76 (Value.bool true)) h51 (contX pl5 prog J 171 h.length 5 ct5 [1, 1, 1, 1, 1, 1, 1, 1, 1, 0, 1] (codeOf f5) [] (RetQ prog [.tmp 2] h.length K))))
(aLenS v52 fun v58 =>
aBin prog .neq 3 v58 (vint 40) fun v59 =>
Hold (W prog J 171 h.length 5 (subC [1, 1, 1, 1, 1, 1, 1, 1, 1, 0, 1] (codeOf f5)) (RG.put (RG.put (RG.put (RG.put (RG.put (RG.put (RG.put (RG.put (RG.put (RG.put (RG.put (RG.put (RG.put (RG.put (RG.put (RG.put (RG.put (RG.put (RG.put (RG.put (RG.put (RG.put (RG.put (RG.put (RG.put (RG.put (RG.put (RG.put (RG.put (RG.put (RG.put (RG.put (RG.put (RG.put (RG.put (RG.put (RG.put (RG.put (RG.put (RG.put (RG.put (RG.put (RG.put (RG.put (RG.put (RG.put (RG.put (RG.put (RG.put (RG.put (RG.put (RG.put (RG.put (RG.put (RG.put (RG.put (RG.put (RG.put (RG.put (RG.put (RG.put (RG.put (RG.put (RG.put (RG.put (RG.put (RG.put (RG.put (RG.put (RG.put (RG.put (RG.put (RG.put (RG.mk (regs [a0]) []) 2 (Value.bool false)) 16 a0) 17 v1) 3 v1) 18 v1) 19 v3) 4 v5) 20 v8) 21 v9) 5 v11) 22 v1) 23 v14) 24 v15) 25 v16) 26 v17) 27 v19) 28 v20) 29 v1) 30 v22) 31 v23) 32 v24) 33 v25) 34 v26) 35 v27) 37 v1) 38 v28) 39 v29) 40 v30) 36 v31) 42 v33) 43 v34) 41 v35) 44 v38) 45 v39) 46 v1) 47 v41) 48 v42) 6 v42) 50 v44) 51 v42) 52 v45) 49 v45) 53 v47) 54 v48) 7 v47) 8 v48) 56 v49) 57 v42) 58 v50) 55 v50) 59 v52) 60 v53) 9 v52) 10 v53) 61 v48) 62 v54) 63 v54) 63 (Value.bool false)) 64 v53) 65 v55) 66 v55) 67 v55) 67 (Value.bool false)) 68 v47) 69 v56) 70 v57) 71 v57) 72 v57) 72 (Value.bool false)) 73 v52) 74 v58) 75 v59) 76 v59) h51 (contX pl5 prog J 171 h.length 5 ct5 [1, 1, 1, 1, 1, 1, 1, 1, 1, 0, 1] (codeOf f5) [] (RetQ prog [.tmp 2] h.length K)))))))))))) := top_eq pok5 ct5 (by kernel_rfl)
theorem g5 (hJ : Closed prog main J) {a0 : Value} (hs : heapOk h → W prog J 171 h.length 5 (codeOf f5) (RG.mk (regs [a0]) []) h (RetQ prog [.tmp 2] h.length K)) : Good prog J 5 [a0] h K :=
  good_of_W hJ mixed at5 body5 (by kernel_rfl) (Nat.le_of_ble_eq_true rfl) hs
end
end Go.Proofs.Ytindillghipjjaa

namespace Go.Proofs.Ytindillghipjjaa
open Go.Conc Go.Proofs.Try
set_option maxRecDepth 100000
set_option maxHeartbeats 4000000
set_option linter.unusedVariables false
section
variable {main : Bool} {J : JT} {n0 : Nat} {h : List AObj} {K : Value → List AObj → Prop}
def pl12 : Plans := [(13, true, .take 0 (.take 1 (.take 4 (.take 5 (.alt 2 false (.alt 3 false (.last 6 false (.last 7 false (.take 8 (.fin)))) (.last 6 false (.last 3 false (.last 7 false (.take 8 (.fin)))))) (.last 6 false (.last 2 false (.last 3 false (.last 7 false (.take 8 (.fin)))))))))))]
def ct12 : Cuts := .bin (.go) (.bin (.go) (.bin (.go) (.bin (.go) (.bin (.go) (.bin (.go) (.bin (.go) (.bin (.go) (.bin (.bin (.go) (.cut (.go))) (.bin (.bin (.go) (.un (.un (.bin (.go) (.bin (.un (.bin (.go) (.cut (.bin (.go) (.bin (.go) (.bin (.go) (.bin (.go) (.cut (.go))))))))) (.go)))))) (.go))))))))))
theorem pok12 : plansOk prog pl12 (codeOf f12) = true := by kernel_rfl
theorem e12 {a0 : Value} : W prog J 120 h.length 12 (codeOf f12) (RG.mk (regs [a0]) []) h (RetQ prog [.tmp 2] h.length K) =
(Good prog J 20 [a0] h fun v1 h2 =>
Good prog J 21 [v1, (vint 3), (vint 12)] h2 fun v3 h4 =>
aAlloc [(vint 0), (vint 0), (vint 0), (Value.slice none 0 0)] h4 fun v5 h6 =>
aStore 4 v5 v3 h6 fun h7 =>
aOff v5 0 fun v8 =>
aOff v8 1 fun v9 =>
aLoad false 1 v9 h7 fun v10 =>
aOff v5 0 fun v11 =>
aOff v11 0 fun v12 =>
aStore 1 v12 v10 h7 fun h13 =>
aLoad true 4 v5 h13 fun v14 =>
Good prog J 36 [v1, v14, (vint 5)] h13 fun v15 h16 =>
aLoad true 4 v5 h16 fun v17 =>
Good prog J 53 [v17, v15] h16 fun v18 h19 =>
aExt v18 0 fun v20 =>
aExt v18 1 fun v21 =>
aLoad true 4 v5 h19 fun v22 =>
Good prog J 52 [v22, v15] h19 fun v23 h24 =>
aExt v23 0 fun v25 =>
aExt v23 1 fun v26 =>
aLoad true 4 v5 h24 fun v27 =>
Good prog J 38 [v27, v15] h24 fun v28 h29 =>
aExt v28 0 fun v30 =>
aExt v28 1 fun v31 =>
aBin prog .neq 39 v21 (vint 0) fun v32 =>
cnd v32
(Hold (W prog J 120 h.length 12 (subC [1, 1, 1, 1, 1, 1, 1, 1, 0, 1] (codeOf f12)) (RG.put (RG.put (RG.put (RG.put (RG.put (RG.put (RG.put (RG.put (RG.put (RG.put (RG.put (RG.put (RG.put (RG.put (RG.put (RG.put (RG.put (RG.put (RG.put (RG.put (RG.put (RG.put (RG.put (RG.put (RG.put (RG.put (RG.put (RG.put (RG.put (RG.put (RG.put (RG.put (RG.put (RG.put (RG.put (RG.put (RG.put (RG.put (RG.put (RG.put (RG.put (RG.put (RG.put (RG.put (RG.put (RG.put (RG.put (RG.put (RG.put (RG.put (RG.put (RG.put (RG.put (RG.put (RG.put (RG.put (RG.mk (regs [a0]) []) 2 (Value.bool false)) 20 a0) 21 v1) 3 v1) 22 v1) 23 v3) 4 v5) 24 v8) 25 v9) 26 v10) 27 v11) 28 v12) 29 v1) 30 v14) 31 v15) 5 v15) 33 v17) 34 v15) 35 v18) 32 v18) 36 v20) 37 v21) 6 v20) 7 v21) 39 v22) 40 v15) 41 v23) 38 v23) 42 v25) 43 v26) 8 v25) 9 v26) 45 v27) 46 v15) 47 v28) 44 v28) 48 v30) 49 v31) 10 v30) 11 v31) 50 v21) 51 v32) 52 v32) 52 (Value.bool true)) 53 undef) 54 undef) 55 (Value.bool true)) 56 (Value.bool true)) 56 (Value.bool true)) 57 undef) 58 undef) 59 undef) 60 undef) 61 undef) 62 undef) 63 (Value.bool true)) h29 (contX pl12 prog J 120 h.length 12 ct12 [1, 1, 1, 1, 1, 1, 1, 1, 0, 1] (codeOf f12) [] (RetQ prog [.tmp 2] h.length K))))
(aBin prog .neq 39 v26 (vint 0) fun v33 =>
cnd v33
(Hold (W prog J 120 h.length 12 (subC [1, 1, 1, 1, 1, 1, 1, 1, 0, 1] (codeOf f12)) (RG.put (RG.put (RG.put (RG.put (RG.put (RG.put (RG.put (RG.put (RG.put (RG.put (RG.put (RG.put (RG.put (RG.put (RG.put (RG.put (RG.put (RG.put (RG.put (RG.put (RG.put (RG.put (RG.put (RG.put (RG.put (RG.put (RG.put (RG.put (RG.put (RG.put (RG.put (RG.put (RG.put (RG.put (RG.put (RG.put (RG.put (RG.put (RG.put (RG.put (RG.put (RG.put (RG.put (RG.put (RG.put (RG.put (RG.put (RG.put (RG.put (RG.put (RG.put (RG.put (RG.put (RG.put (RG.put (RG.put (RG.mk (regs [a0]) []) 2 (Value.bool false)) 20 a0) 21 v1) 3 v1) 22 v1) 23 v3) 4 v5) 24 v8) 25 v9) 26 v10) 27 v11) 28 v12) 29 v1) 30 v14) 31 v15) 5 v15) 33 v17) 34 v15) 35 v18) 32 v18) 36 v20) 37 v21) 6 v20) 7 v21) 39 v22) 40 v15) 41 v23) 38 v23) 42 v25) 43 v26) 8 v25) 9 v26) 45 v27) 46 v15) 47 v28) 44 v28) 48 v30) 49 v31) 10 v30) 11 v31) 50 v21) 51 v32) 52 v32) 52 (Value.bool false)) 53 v26) 54 v33) 55 v33) 56 v33) 56 (Value.bool true)) 57 undef) 58 undef) 59 undef) 60 undef) 61 undef) 62 undef) 63 (Value.bool true)) h29 (contX pl12 prog J 120 h.length 12 ct12 [1, 1, 1, 1, 1, 1, 1, 1, 0, 1] (codeOf f12) [] (RetQ prog [.tmp 2] h.length K))))
(aBin prog .neq 39 v31 (vint 0) fun v34 =>
cnd v34
(aBin prog .neq 39 v31 (vint 11) fun v35 =>
Hold (W prog J 120 h.length 12 (subC [1, 1, 1, 1, 1, 1, 1, 1, 0, 1] (codeOf f12)) (RG.put (RG.put (RG.put (RG.put (RG.put (RG.put (RG.put (RG.put (RG.put (RG.put (RG.put (RG.put (RG.put (RG.put (RG.put (RG.put (RG.put (RG.put (RG.put (RG.put (RG.put (RG.put (RG.put (RG.put (RG.put (RG.put (RG.put (RG.put (RG.put (RG.put (RG.put (RG.put (RG.put (RG.put (RG.put (RG.put (RG.put (RG.put (RG.put (RG.put (RG.put (RG.put (RG.put (RG.put (RG.put (RG.put (RG.put (RG.put (RG.put (RG.put (RG.put (RG.put (RG.put (RG.put (RG.put (RG.put (RG.put (RG.mk (regs [a0]) []) 2 (Value.bool false)) 20 a0) 21 v1) 3 v1) 22 v1) 23 v3) 4 v5) 24 v8) 25 v9) 26 v10) 27 v11) 28 v12) 29 v1) 30 v14) 31 v15) 5 v15) 33 v17) 34 v15) 35 v18) 32 v18) 36 v20) 37 v21) 6 v20) 7 v21) 39 v22) 40 v15) 41 v23) 38 v23) 42 v25) 43 v26) 8 v25) 9 v26) 45 v27) 46 v15) 47 v28) 44 v28) 48 v30) 49 v31) 10 v30) 11 v31) 50 v21) 51 v32) 52 v32) 52 (Value.bool false)) 53 v26) 54 v33) 55 v33) 56 v33) 56 (Value.bool false)) 57 v31) 58 v34) 59 v34) 59 (Value.bool true)) 60 v31) 61 v35) 62 v35) 63 v35) h29 (contX pl12 prog J 120 h.length 12 ct12 [1, 1, 1, 1, 1, 1, 1, 1, 0, 1] (codeOf f12) [] (RetQ prog [.tmp 2] h.length K))))
(Hold (W prog J 120 h.length 12 (subC [1, 1, 1, 1, 1, 1, 1, 1, 0, 1] (codeOf f12)) (RG.put (RG.put (RG.put (RG.put (RG.put (RG.put (RG.put (RG.put (RG.put (RG.put (RG.put (RG.put (RG.put (RG.put (RG.put (RG.put (RG.put (RG.put (RG.put (RG.put (RG.put (RG.put (RG.put (RG.put (RG.put (RG.put (RG.put (RG.put (RG.put (RG.put (RG.put (RG.put (RG.put (RG.put (RG.put (RG.put (RG.put (RG.put (RG.put (RG.put (RG.put (RG.put (RG.put (RG.put (RG.put (RG.put (RG.put (RG.put (RG.put (RG.put (RG.put (RG.put (RG.put (RG.put (RG.put (RG.put (RG.put (RG.mk (regs [a0]) []) 2 (Value.bool false)) 20 a0) 21 v1) 3 v1) 22 v1) 23 v3) 4 v5) 24 v8) 25 v9) 26 v10) 27 v11) 28 v12) 29 v1) 30 v14) 31 v15) 5 v15) 33 v17) 34 v15) 35 v18) 32 v18) 36 v20) 37 v21) 6 v20) 7 v21) 39 v22) 40 v15) 41 v23) 38 v23) 42 v25) 43 v26) 8 v25) 9 v26) 45 v27) 46 v15) 47 v28) 44 v28) 48 v30) 49 v31) 10 v30) 11 v31) 50 v21) 51 v32) 52 v32) 52 (Value.bool false)) 53 v26) 54 v33) 55 v33) 56 v33) 56 (Value.bool false)) 57 v31) 58 v34) 59 v34) 59 (Value.bool false)) 60 undef) 61 undef) 62 (Value.bool false)) 63 (Value.bool false)) h29 (contX pl12 prog J 120 h.length 12 ct12 [1, 1, 1, 1, 1, 1, 1, 1, 0, 1] (codeOf f12) [] (RetQ prog [.tmp 2] h.length K))))))) := top_eq pok12 ct12 (by kernel_rfl)
end
end Go.Proofs.Ytindillghipjjaa

namespace Go.Proofs.Ytindillghipjjaa
open Go.Conc Go.Proofs.Try
set_option maxRecDepth 100000
set_option maxHeartbeats 4000000
set_option linter.unusedVariables false
section
variable {main : Bool} {J : JT} {n0 : Nat} {h : List AObj} {K : Value → List AObj → Prop}
def pl52 : Plans := []
def ct52 : Cuts := .go
theorem pok52 : plansOk prog pl52 (codeOf f52) = true := by kernel_rfl
theorem e52 {a0 a1 : Value} : W prog J 16 h.length 52 (codeOf f52) (RG.mk (regs [a0, a1]) []) h (RetQ prog [.tmp 4, .tmp 5] h.length K) =
(aBox a0 h fun v1 h2 =>
aLoad true 4 v1 h2 fun v3 =>
Good prog J 86 [v3, a1] h2 fun v4 h5 =>
aBin prog .neq 39 v4 (vint 0) fun v6 =>
cnd v6
(retL h.length K [] [(Value.slice none 0 0), v4] h5)
(aLoad true 4 v1 h5 fun v7 =>
Good prog J 94 [v7, a1] h5 fun v8 h9 =>
retL h.length K [] [v8, (vint 0)] h9)) := top_eq pok52 ct52 (by kernel_rfl)
def pl53 : Plans := []
def ct53 : Cuts := .go
theorem pok53 : plansOk prog pl53 (codeOf f53) = true := by kernel_rfl
theorem e53 {a0 a1 : Value} : W prog J 29 h.length 53 (codeOf f53) (RG.mk (regs [a0, a1]) []) h (RetQ prog [.tmp 4, .tmp 5] h.length K) =
(aBox a0 h fun v1 h2 =>
aLoad true 4 v1 h2 fun v3 =>
Good prog J 86 [v3, a1] h2 fun v4 h5 =>
aBin prog .neq 39 v4 (vint 0) fun v6 =>
cnd v6
(retL h.length K [] [(Value.slice none 0 0), v4] h5)
(aOff v1 3 fun v7 =>
aLoad false 1 v7 h5 fun v8 =>
aLenS v8 fun v9 =>
Sem J 29 h.length 53 (subC [1, 1, 1, 0, 1, 0] (codeOf f53)) (RG.put (RG.put (RG.put (RG.put (RG.put (RG.put (RG.put (RG.put (RG.put (RG.put (RG.put (RG.put (RG.put (RG.put (RG.mk (regs [a0, a1]) []) 2 v1) 4 (Value.slice none 0 0)) 5 (vint 0)) 9 v3) 10 a1) 11 v4) 6 v4) 12 v4) 13 v6) 7 (Value.slice none 0 0)) 15 v7) 16 v8) 17 v9) 18 (vint 0)) h5 (contX pl53 prog J 29 h.length 53 ct53 [1, 1, 1, 0, 1, 0] (codeOf f53) [] (RetQ prog [.tmp 4, .tmp 5] h.length K)))) := top_eq pok53 ct53 (by kernel_rfl)
end
end Go.Proofs.Ytindillghipjjaa

namespace Go.Proofs.Ytindillghipjjaa
open Go.Conc Go.Proofs.Try
set_option maxRecDepth 100000
section
variable {main : Bool} {J : JT} {h H : List AObj} {K : Value → List AObj → Prop} {KV : Value → Prop} {n0 : Nat}
theorem len0 {K' : Value → Prop} (hk : K' (vint 0)) : aLenS (.slice none 0 0) K' := hk
end
end Go.Proofs.Ytindillghipjjaa

namespace Go.Proofs.Ytindillghipjjaa
open Go.Conc Go.Proofs.Try
set_option maxRecDepth 100000
def Found (n : Nat) (H : List AObj) (v : Value) : Option (List Int) → Prop
  | none => v = .slice none 0 0
  | some r => ∃ o, OwnX H 1 (r.map vint) r.length v (some o) ∧ n ≤ o
theorem Found.val {n : Nat} {H : List AObj} {v : Value} {o : Option (List Int)} (a : Found n H v o) : ∃ b k c, v = .slice b k c ∧ b.isNone = o.isNone := by
  cases o with
  | none => exact ⟨none, 0, 0, a, rfl⟩
  | some r =>
    obtain ⟨o, O, _⟩ := a
    obtain ⟨h1, h2, ⟨_, _, h3⟩ | ⟨i, c, sz, hi, rfl, h5, h6⟩⟩ := O
    · cases h3
    · exact ⟨_, _, _, rfl, rfl⟩
theorem Found.unk {n : Nat} {H : List AObj} {v : Value} {o : Option (List Int)} (a : Found n H v o) : v ≠ unk := by
  obtain ⟨b, k, c, rfl, _⟩ := a.val
  intro e
  cases e
end Go.Proofs.Ytindillghipjjaa

namespace Go.Proofs.Ytindillghipjjaa
open Go.Conc Go.Proofs.Try
set_option maxRecDepth 100000
def OwnL (n : Nat) (H : List AObj) (v : Value) (ls : List (List Int)) (o : Option Nat) : Prop :=
  (∀ j, o = some j → n ≤ j) ∧ ∃ cs, OwnX H 1 cs ls.length v o ∧ ∀ (i : Nat) l, ls[i]? = some l → ∃ lv b, cs[i]? = some lv ∧ OwnX H 1 (l.map vint) l.length lv b ∧ ∀ j, b = some j → some j ≠ o ∧ n ≤ j
theorem OwnL.keep {n : Nat} {H H' : List AObj} {v : Value} {ls : List (List Int)} {o : Option Nat} (a : OwnL n H v ls o) (S : SameX [] H H') : OwnL n H' v ls o := by
  obtain ⟨h1, cs, O, he⟩ := a
  refine ⟨h1, cs, ownX_keep O S (by simp), fun i l hl => ?_⟩
  obtain ⟨lv, b, e1, e2, e3⟩ := he i l hl
  exact ⟨lv, b, e1, ownX_keep e2 S (by simp), e3⟩

section
variable {main : Bool} {J : JT} {h H : List AObj} {K : Value → List AObj → Prop} {KV : Value → Prop} {HL : List AObj → Prop} {n0 : Nat}
theorem OwnL.get {n i : Nat} {v : Value} {ls : List (List Int)} {o : Option Nat} (a : OwnL n H v ls o) {l : List Int} (hl : ls[i]? = some l) {K2 : Value → Value → Prop} (hK : ∀ p lv b, OwnX H 1 (l.map vint) l.length lv b → (∀ j, b = some j → n ≤ j) → K2 p lv) : aIdx 1 v (vint (i : Nat)) fun p => aLoad false 1 p H (K2 p) := by
  obtain ⟨h1, cs, O, he⟩ := a
  obtain ⟨lv, b, e1, e2, e3⟩ := he i l hl
  have hi := (List.getElem?_eq_some_iff.1 hl).1
  exact idx_load (ownX_sli O) ⟨by omega, by omega⟩ (by rw [Int.toNat_natCast]; exact e1) fun p => hK p lv b e2 fun j hj => (e3 j hj).2

theorem app_zero {x y : Value} {p : Nat} (hp : H[p]? = some (.cells [x] true 0)) (hk : kn1 x = true) (hy : Sli H y 1 0 []) (hK : K (.slice (some ⟨p, 0, none⟩) 1 1) H) : aApp 1 (.slice (some ⟨p, 0, none⟩) 1 1) y H K := by
  have hfz : (1000 : Nat) < fz := by decide
  have hrm : (2000 : Nat) < room := by decide
  obtain ⟨yb, yc, rfl, hyk, hh⟩ := id hy
  refine ⟨by omega, src_sli hy (by omega) ?_⟩
  simp only [hp]
  refine ⟨⟨by simp, by simp [kn]; exact hk⟩, fun _ => ⟨fun _ => ⟨trivial, by simp, ?_⟩, fun h => absurd h (by omega)⟩, fun h => absurd h (by omega)⟩
  have e : H.set p (.cells (wrAt [x] (0 + 1 * 1) []) true 0) = H := by
    apply List.ext_getElem?
    intro i
    rw [List.getElem?_set]
    split
    · rename_i e
      subst e
      rw [if_pos (lt_of_get hp)]
      simpa [wrAt] using hp.symm
    · rfl
  rw [e]
  exact hK

end
end Go.Proofs.Ytindillghipjjaa

namespace Go.Proofs.Ytindillghipjjaa
open Go.Conc Go.Proofs.Try
def gapS (out cs : List Int) (x : Nat) : Int := out.getD x 0 - cs.getD x 0
def sumS (out cs : List Int) : List Nat → Int
  | [] => 0
  | x :: l => gapS out cs x + sumS out cs l
section
variable {t : Tro} {cs out : List Int} {os l : List Nat} {s : Srv}
theorem perms3 {n : Nat} (h : 1 ≤ n ∧ n ≤ 3) {os : List Nat} (ho : os ∈ perms n n []) : os.Nodup ∧ os.length = n ∧ (∀ x ∈ os, x < n) ∧ ∀ out cs : List Int, sumS out cs os = sumS out cs (List.range n) := by
  have hn : n = 1 ∨ n = 2 ∨ n = 3 := by omega
  rcases hn with rfl | rfl | rfl
  · have e : perms 1 1 [] = [[0]] := by decide
    rw [e] at ho
    simp only [List.mem_singleton] at ho
    subst ho
    exact ⟨by decide, by decide, by decide, fun _ _ => rfl⟩
  · have e : perms 2 2 [] = [[0, 1], [1, 0]] := by decide
    rw [e] at ho
    simp only [List.mem_cons, List.not_mem_nil, or_false] at ho
    have e2 : List.range 2 = [0, 1] := by decide
    rw [e2]
    rcases ho with rfl | rfl
    all_goals exact ⟨by decide, by decide, by decide, fun out cs => by first | rfl | (simp only [sumS]; omega)⟩
  · have e : perms 3 3 [] = [[0, 1, 2], [0, 2, 1], [1, 0, 2], [1, 2, 0], [2, 0, 1], [2, 1, 0]] := by decide
    rw [e] at ho
    simp only [List.mem_cons, List.not_mem_nil, or_false] at ho
    have e2 : List.range 3 = [0, 1, 2] := by decide
    rw [e2]
    rcases ho with rfl | rfl | rfl | rfl | rfl | rfl
    all_goals exact ⟨by decide, by decide, by decide, fun out cs => by first | rfl | (simp only [sumS]; omega)⟩

theorem srvIn_of (ok : servE t cs = 0) (ho : os ∈ allOf26 cs) : SrvIn t cs os := by
  obtain ⟨a, b, c⟩ := servE_ok ok
  have wl := (troE_well a).2.1
  obtain ⟨p1, p2, p3, p4⟩ := perms3 (n := cs.length) (by omega) ho
  exact ⟨a, b, c, by omega, by omega, fun o hm => by have := p3 o hm; omega⟩

def srvH (os : List Nat) (s : Srv) : Nat := (48 - s.hour) + (os.length - 1 - s.next) * 41 + (40 - s.now).toNat

end
def restTo (l : List Int) (i : Nat) : Nat → List Int
  | 0 => []
  | k + 1 => if k = i then restTo l i k else restTo l i k ++ [l.getD k 0]
theorem restTo_len (l : List Int) (i : Nat) : ∀ k, (restTo l i k).length = if k ≤ i then k else k - 1
  | 0 => by simp [restTo]
  | k + 1 => by
    have := restTo_len l i k
    unfold restTo
    split
    · rw [this]
      split <;> split <;> omega
    · rw [List.length_append, this, List.length_singleton]
      split <;> split <;> omega
def ordersR : Nat → List Int → List (List Int)
  | 0, _ => [[]]
  | n + 1, l => (List.range (n + 1)).flatMap fun i => (ordersR n (restTo l i (n + 1))).map (l.getD i 0 :: ·)
theorem orders_is {n : Nat} (h : 1 ≤ n ∧ n ≤ 3) : ordersR n ((List.range n).map Int.ofNat) = (perms n n []).map (·.map Int.ofNat) := by
  have hn : n = 1 ∨ n = 2 ∨ n = 3 := by omega
  rcases hn with rfl | rfl | rfl <;> decide

theorem ordersR_len : ∀ {n : Nat} (l : List Int), n ≤ 3 → (ordersR n l).length ≤ 3 ^ n
  | 0, _, _ => by simp [ordersR]
  | n + 1, l, h => by
    have h1 := len_flat (fun i => (ordersR n (restTo l i (n + 1))).map (l.getD i 0 :: ·)) (3 ^ n) (List.range (n + 1)) fun i => by
      rw [List.length_map]
      exact ordersR_len _ (by omega)
    rw [List.length_range] at h1
    have h2 := Nat.mul_le_mul_right (3 ^ n) h
    rw [Nat.pow_succ]
    unfold ordersR
    omega
theorem ordersR_mem : ∀ {n : Nat} {l w : List Int}, w ∈ ordersR n l → w.length = n
  | 0, l, w, h => by
    have : w = [] := by simpa [ordersR] using h
    subst this
    rfl
  | n + 1, l, w, h => by
    unfold ordersR at h
    obtain ⟨i, _, h⟩ := List.mem_flatMap.1 h
    obtain ⟨u, hu, rfl⟩ := List.mem_map.1 h
    rw [List.length_cons, ordersR_mem hu]

def partG (hd : Nat → Int) (g : Nat → List (List Int)) (i k : Nat) : List (List Int) := ((List.range i).flatMap fun j => (g j).map (hd j :: ·)) ++ ((g i).take k).map (hd i :: ·)
section
variable {hd : Nat → Int} {g : Nat → List (List Int)} {i k : Nat}
theorem partG_zero : partG hd g i 0 = (List.range i).flatMap fun j => (g j).map (hd j :: ·) := by unfold partG; simp
theorem partG_all : partG hd g i (g i).length = partG hd g (i + 1) 0 := by
  rw [partG_zero]
  unfold partG
  rw [List.take_length, List.range_succ, List.flatMap_append]
  simp
theorem partG_succ {w : List Int} (hw : (g i)[k]? = some w) : partG hd g i (k + 1) = partG hd g i k ++ [hd i :: w] := by
  unfold partG
  rw [List.take_add_one, hw, List.map_append, List.append_assoc]
  rfl
theorem partG_le {B : Nat} (hB : ∀ j, (g j).length ≤ B) : (partG hd g i k).length ≤ (i + 1) * B := by
  have h : ∀ i, ((List.range i).flatMap fun j => (g j).map (hd j :: ·)).length ≤ i * B := by
    intro i
    induction i with
    | zero => simp
    | succ i ih =>
      rw [List.range_succ, List.flatMap_append, List.length_append, Nat.succ_mul]
      have := hB i
      simp only [List.flatMap_cons, List.flatMap_nil, List.append_nil, List.length_map]
      omega
  have h1 := h i
  have h2 := hB i
  unfold partG
  rw [List.length_append, List.length_map, List.length_take, Nat.succ_mul]
  have := Nat.min_le_right k (g i).length
  omega
end
end Go.Proofs.Ytindillghipjjaa

namespace Go.Proofs.Ytindillghipjjaa
open Go.Conc Go.Proofs.Try
set_option maxRecDepth 100000
section
variable {h H : List AObj} {K : Value → List AObj → Prop}
theorem app_cons {He : List AObj} {pe : Nat} {x : Int} {w : List Int} {lv : Value} (ce : He[pe]? = some (.cells [vint x] true 0)) (hw : Sli He lv 1 w.length (w.map vint)) (hwl : w.length < 900)
    (hK : ∀ H' wv b, SameX [pe] He H' → OwnX H' 1 ((x :: w).map vint) (x :: w).length wv (some b) → (b = pe ∨ He.length ≤ b) → K wv H') : aApp 1 (.slice (some ⟨pe, 0, none⟩) 1 1) lv He K := by
  have Op := ownX_new (s := 1) (n := 1) (l := [vint x]) ce rfl rfl
  by_cases h0 : w.length = 0
  · have : w = [] := List.length_eq_zero_iff.1 h0
    subst this
    exact app_zero ce rfl hw (hK He _ pe SameX.refl Op (.inl rfl))
  · refine ownX_app Op (by omega) (by omega) (by omega) hw fun v8 H9 p9 e9 O9 S9 l9 => hK H9 v8 p9 S9 ?_ (.inr (by omega))
    have e1 : (x :: w).length = 1 + w.length := by simp; omega
    rw [e1]
    exact O9

theorem OwnL.more {lo : Nat} {H : List AObj} {ls : List (List Int)} {o : Option Nat} {v y wv : Value} {l : List Int} {bf : Nat} {K : Value → List AObj → Prop}
    (L : OwnL lo H v ls o) (hlo : lo ≤ H.length) (hpl : ls.length < 90000) (Of : OwnX H 1 (l.map vint) l.length wv (some bf)) (hbf : lo ≤ bf) (hne : some bf ≠ o) (hyv : Sli H y 1 1 [wv])
    (hK : ∀ v' H' o', SameX o.toList H H' → OwnL lo H' v' (ls ++ [l]) (some o') → H.length ≤ o' → v' ≠ unk → K v' H') : aApp 1 v y H K := by
  obtain ⟨hl0, cs, Oc, he⟩ := L
  have bfl := ownX_lt Of bf rfl
  refine ownX_more Oc (by omega) (by omega) hyv fun v' Hh ph eh Oh Sh => ?_
  have hno : ∀ j, some j ≠ o → j ∉ o.toList := fun j hj hm => hj (by rw [Option.mem_toList.1 hm])
  refine hK v' Hh ph Sh ⟨fun j hj => by cases hj; omega, cs ++ [wv], by rw [List.length_append]; exact Oh, fun m l' hl => ?_⟩ (by omega) ?_
  · have hcl : cs.length = ls.length := by have := Oc.1; omega
    rcases Nat.lt_or_ge m ls.length with hm | hm
    · rw [List.getElem?_append_left hm] at hl
      obtain ⟨lv2, b2, e2, e3, e4⟩ := he m l' hl
      refine ⟨lv2, b2, by rw [List.getElem?_append_left (by omega)]; exact e2, ownX_keep e3 Sh fun j hj => hno j (e4 j hj).1, fun j hj => ⟨?_, (e4 j hj).2⟩⟩
      have := ownX_lt e3 j hj
      intro e
      injection e with e
      omega
    · rw [List.getElem?_append_right hm] at hl
      have hm0 : m - ls.length = 0 := by
        have := (List.getElem?_eq_some_iff.1 hl).1
        simp at this
        omega
      rw [hm0] at hl
      have : l' = l := by simpa using hl.symm
      subst this
      refine ⟨wv, some bf, by rw [List.getElem?_append_right (by omega), hcl, hm0]; rfl, ownX_keep Of Sh fun j hj => ?_, fun j hj => ?_⟩
      · cases hj
        exact hno _ hne
      · cases hj
        refine ⟨fun e => ?_, hbf⟩
        injection e with e
        omega
  · have := (ownX_val Oh).2.2
    intro e
    rw [e] at this
    cases this

theorem OwnL.getI {n : Nat} {j : Int} {v : Value} {ls : List (List Int)} {o : Option Nat} (a : OwnL n H v ls o) {l : List Int} (hj : 0 ≤ j) (hl : ls[j.toNat]? = some l) {K2 : Value → Value → Prop} (hK : ∀ p lv b, OwnX H 1 (l.map vint) l.length lv b → (∀ j, b = some j → n ≤ j) → K2 p lv) : aIdx 1 v (vint j) fun p => aLoad false 1 p H (K2 p) := by
  obtain ⟨m, rfl⟩ := Int.eq_ofNat_of_zero_le hj
  exact a.get hl hK

theorem OwnL.get' {n i : Nat} {v : Value} {ls : List (List Int)} {o : Option Nat} (a : OwnL n H v ls o) {l : List Int} (hl : ls[i]? = some l) {K2 : Value → Value → Prop}
    (hK : ∀ b0 off lv b, o = some b0 → b0 < H.length → OwnX H 1 (l.map vint) l.length lv b → (∀ j, b = some j → some j ≠ o ∧ n ≤ j) → K2 (ptr b0 off) lv) : aIdx 1 v (vint (i : Nat)) fun p => aLoad false 1 p H (K2 p) := by
  obtain ⟨h1, cs, O, he⟩ := a
  obtain ⟨lv, b, e1, e2, e3⟩ := he i l hl
  have hi := (List.getElem?_eq_some_iff.1 hl).1
  obtain ⟨_, _, ⟨h0, _⟩ | ⟨b0, c, sz, rfl, rfl, hb, _⟩⟩ := O
  · omega
  · refine idxI ⟨by omega, by omega⟩ (ldI (v := lv) hb (by simpa using e1) (ownX_val e2).2.2 (hK b0 _ lv b rfl (lt_of_get hb) e2 e3))

theorem one_nil {lo : Nat} {p : Nat} (c : H[p]? = some (.cells [.slice none 0 0] true 0)) (hp : lo ≤ p) : OwnL lo H (.slice (some ⟨p, 0, none⟩) 1 1) [[]] (some p) := by
  refine ⟨fun j hj => by cases hj; exact hp, _, ownX_new (s := 1) (n := 1) c rfl rfl, fun i l hl => ?_⟩
  cases i with
  | zero =>
    have : l = [] := by simpa using hl.symm
    subst this
    exact ⟨_, none, rfl, ⟨rfl, rfl, .inl ⟨rfl, rfl, rfl⟩⟩, by simp⟩
  | succ i => simp at hl
theorem OwnL.nil {lo : Nat} : OwnL lo H (.slice none 0 0) [] none := ⟨by simp, [], ⟨rfl, rfl, .inl ⟨rfl, rfl, rfl⟩⟩, by simp⟩
theorem OwnL.lo {n m : Nat} {v : Value} {ls : List (List Int)} {o : Option Nat} (a : OwnL n H v ls o) (h : m ≤ n) : OwnL m H v ls o := by
  obtain ⟨a1, cs, a2, a3⟩ := a
  exact ⟨fun j hj => by have := a1 j hj; omega, cs, a2, fun i l hl => by
    obtain ⟨lv, b, q1, q2, q3⟩ := a3 i l hl
    exact ⟨lv, b, q1, q2, fun j hj => ⟨(q3 j hj).1, by have := (q3 j hj).2; omega⟩⟩⟩
theorem OwnL.keepX {n : Nat} {H' : List AObj} {X : List Nat} {v : Value} {ls : List (List Int)} {o : Option Nat} (a : OwnL n H v ls o) (S : SameX X H H') (hX : ∀ x ∈ X, x < n) : OwnL n H' v ls o := by
  obtain ⟨h1, cs, O, he⟩ := a
  refine ⟨h1, cs, ownX_keep O S fun i hi hm => ?_, fun i l hl => ?_⟩
  · have := h1 i hi
    have := hX i hm
    omega
  · obtain ⟨lv, b, e1, e2, e3⟩ := he i l hl
    exact ⟨lv, b, e1, ownX_keep e2 S fun j hj hm => by have := (e3 j hj).2; have := hX j hm; omega, e3⟩
theorem OwnL.lt {n : Nat} {v : Value} {ls : List (List Int)} {o : Option Nat} (a : OwnL n H v ls o) : ∀ j, o = some j → n ≤ j ∧ j < H.length := fun j hj => ⟨a.1 j hj, ownX_lt a.2.choose_spec.1 j hj⟩
theorem OwnL.sli {n : Nat} {v : Value} {ls : List (List Int)} {o : Option Nat} (a : OwnL n H v ls o) : ∃ cs, Sli H v 1 ls.length cs := ⟨_, ownX_sli a.2.choose_spec.1⟩
theorem OwnL.nunk {n : Nat} {v : Value} {ls : List (List Int)} {o : Option Nat} (a : OwnL n H v ls o) : v ≠ unk := by
  have := (ownX_val a.2.choose_spec.1).2.2
  intro e
  rw [e] at this
  cases this
end
end Go.Proofs.Ytindillghipjjaa

namespace Go.Proofs.Ytindillghipjjaa
open Go.Conc Go.Proofs.Try
set_option maxRecDepth 100000
section
variable {main : Bool} {J : JT} {h H : List AObj} {K : Value → List AObj → Prop} {KV : Value → Prop} {HL : List AObj → Prop} {n0 : Nat}
theorem good41 (hJ : Closed prog main J) : ∀ (n : Nat) {H : List AObj} {K : Value → List AObj → Prop} {lv : Value} {l : List Int}, n ≤ 3 → l.length = n → Sli H lv 1 l.length (l.map vint) →
    (∀ H' v o, SameX [] H H' → OwnL H.length H' v (ordersR n l) o → v ≠ unk → K v H') → Good prog J 41 [lv] H K
  | 0, H, K, lv, l, _, hl, hs, hK => by
    refine g41 hJ fun ok => ?_
    rw [e41]
    refine lenI hs (eqlI (cndI (fun _ => ?_) fun hx => absurd (by rw [hl]; rfl) hx))
    refine ⟨by decide, fill_one (l := [.slice none 0 0]) rfl rfl rfl (by decide) (fillI (qNew fun H1 p1 e1 S1 c1 l1 => retL_same (by simp [unk]) ?_))⟩
    have L := one_nil (lo := H.length) (p := p1) c1 (by omega)
    exact hK H1 _ _ S1 L L.nunk
  | n + 1, H, K, lv, l, hn, hl, hs, hK => by
    refine g41 hJ fun ok => ?_
    rw [e41]
    refine lenI hs (eqlI (cndI (fun hx => absurd hx (by omega)) fun _ => ?_))
    let hd : Nat → Int := fun j => l.getD j 0
    let g : Nat → List (List Int) := fun j => ordersR n (restTo l j (n + 1))
    have gle : ∀ j, (g j).length ≤ 9 := fun j => by
      have h1 := ordersR_len (n := n) (restTo l j (n + 1)) (by omega)
      have h2 : 3 ^ n ≤ 3 ^ 2 := Nat.pow_le_pow_right (by decide) (by omega)
      have h3 : 3 ^ 2 = 9 := rfl
      show (ordersR n (restTo l j (n + 1))).length ≤ 9
      omega
    refine l41_1 hJ (fun i : Nat => n + 1 - i) (fun i Fr H' => ∃ v o, SameX [] H H' ∧ i ≤ n + 1 ∧ OwnL H.length H' v (partG hd g i 0) o ∧ Fr.ds = [] ∧ Fr.r 0 = lv ∧ Fr.r 3 = v ∧ Fr.r 4 = vint (i : Nat)) ?_ (s := 0)
      (.inl ⟨.slice none 0 0, none, SameX.refl, by omega, by rw [partG_zero]; exact OwnL.nil, rfl, rfl, rfl, rfl⟩)
    rintro i Fr Hc ⟨v, o, Sc, hi, Lc, ds, r0, r3, r4⟩ okc hnc
    rw [s41_1, r0, r3, r4, ds]
    refine lenI (Sc.sli hs (by simp)) (lssI (cndI (fun hlt => ?_) fun hge => ?_))
    rotate_left
    · have : i = n + 1 := by omega
      subst this
      refine retL_same (by simpa using Lc.nunk) (hK Hc v o Sc ?_ Lc.nunk)
      rw [partG_zero] at Lc
      exact Lc
    have hin : i < n + 1 := by omega
    have hSc := Sc.1
    -- the rest
    refine l41_2 hJ (fun k : Nat => n + 1 - k) (fun k Fr H' => ∃ rv ro, SameX [] Hc H' ∧ k ≤ n + 1 ∧ OwnX H' 1 ((restTo l i k).map vint) (restTo l i k).length rv ro ∧ (∀ j, ro = some j → Hc.length ≤ j) ∧ Fr.ds = [] ∧ Fr.r 0 = lv ∧ Fr.r 3 = v ∧ Fr.r 4 = vint (i : Nat) ∧ Fr.r 5 = rv ∧ Fr.r 6 = vint (k : Nat)) ?_ (s := 0)
      (.inl ⟨.slice none 0 0, none, SameX.refl, by omega, ⟨rfl, rfl, .inl ⟨rfl, rfl, rfl⟩⟩, by simp, ds, r0, r3, r4, rfl, rfl⟩)
    rintro k Fr Hk ⟨rv, ro, Sk, hk, Rk, hro, ds, r0, r3, r4, r5, r6⟩ okk hnk
    have hrl := restTo_len l i k
    have hSk := Sk.1
    rw [s41_2, r0, r4, r5, r6]
    refine lenI ((Sc.trans Sk).sli hs (by simp)) (lssI (cndI (fun hlt2 => ?_) fun hge2 => ?_))
    · have hkl : k < l.length := by omega
      have hx := List.getElem?_eq_getElem hkl
      have gx : l.getD k 0 = l[k] := by rw [List.getD_eq_getElem?_getD, hx]; rfl
      refine neqI (cndI (fun hne => ?_) fun heq => ?_)
      · refine sli_num' ((Sc.trans Sk).sli hs (by simp)) hx fun q => ⟨by decide, fill_one (l := [vint l[k]]) rfl rfl rfl (by decide) (fillI (qNew fun H1 p1 e1 S1 c1 l1 => ⟨by decide, ?_⟩))⟩
        have c1 : H1[p1]? = some (.cells [vint l[k]] true 0) := c1
        refine ownX_more (ownX_keep Rk S1 (by simp)) (by omega) (by split at hrl <;> omega) (ownX_sli (ownX_new (s := 1) (n := 1) (l := [vint l[k]]) c1 rfl rfl)) fun rv' H2 p2 e2 O2 S2 => addI (by omega) ?_
        have er : restTo l i (k + 1) = restTo l i k ++ [l[k]] := by
          conv => lhs; unfold restTo
          rw [if_neg (by omega), gx]
        refine ⟨k + 1, by dsimp only; omega, .inl ⟨rv', some p2, (Sk.trans S1).thru S2 (fun y hy => .inr (hro y (by simpa using hy))), by omega, ?_, fun j hj => by cases hj; have := S1.1; omega, ds, r0, r3, r4, rfl, by show vint _ = vint _; congr 1⟩⟩
        rw [er, List.map_append, List.length_append]
        exact O2
      · have hki : k = i := by omega
        have er : restTo l i (k + 1) = restTo l i k := by
          conv => lhs; unfold restTo
          rw [if_pos hki]
        refine addI (by omega) ⟨k + 1, by dsimp only; omega, .inl ⟨rv, ro, Sk, by omega, by rw [er]; exact Rk, hro, ds, r0, r3, r4, r5, by show vint _ = vint _; congr 1⟩⟩
    have hkn : k = n + 1 := by omega
    subst hkn
    have hrn : (restTo l i (n + 1)).length = n := by
      rw [hrl, if_neg (by omega)]
      omega
    refine good41 hJ n (by omega) hrn (ownX_sli Rk) fun H3 av ao S3 A3 _ => ?_
    have hS3 := S3.1
    have hlc := Lc.lt
    -- all with this one ahead
    refine l41_3 hJ (fun k : Nat => (g i).length - k) (fun k Fr H' => ∃ v o, SameX [] H H' ∧ k ≤ (g i).length ∧ OwnL H.length H' v (partG hd g i k) o ∧ SameX (List.range Hk.length) H3 H' ∧ (∀ j, o = some j → j < Hk.length ∨ H3.length ≤ j) ∧ Fr.ds = [] ∧ Fr.r 0 = lv ∧ Fr.r 3 = v ∧ Fr.r 4 = vint (i : Nat) ∧ Fr.r 7 = av ∧ Fr.r 8 = vint (k : Nat)) ?_ (s := 0)
      (.inl ⟨v, o, (Sc.trans Sk).trans S3, by omega, (Lc.keep Sk).keep S3, SameX.refl, fun j hj => by have := hlc j hj; omega, ds, r0, r3, r4, rfl, rfl⟩)
    rintro k Fr Hd ⟨v, o, Sd, hk, Ld, Xd, hod, ds, r0, r3, r4, r7, r8⟩ okd hnd
    have Ad := A3.keepX Xd (fun x hx => List.mem_range.1 hx)
    obtain ⟨ac, sA⟩ := Ad.sli
    have sl := Sd.sli hs (by simp)
    rw [s41_3, r0, r3, r4, r7, r8]
    refine lenI sA (lssI (cndI (fun hlt3 => ?_) fun hge3 => ?_))
    rotate_left
    · have hke : k = (g i).length := by
        have : (g i).length = (ordersR n (restTo l i (n + 1))).length := rfl
        omega
      subst hke
      refine addI (by omega) ⟨i + 1, by dsimp only; omega, .inl ⟨v, o, Sd, by omega, by rw [← partG_all]; exact Ld, ds, r0, r3, by show vint _ = vint _; congr 1⟩⟩
    have hkl : k < (ordersR n (restTo l i (n + 1))).length := by omega
    obtain ⟨w, hw⟩ : ∃ w, (ordersR n (restTo l i (n + 1)))[k]? = some w := ⟨_, List.getElem?_eq_getElem hkl⟩
    have hwl : w.length = n := ordersR_mem (List.mem_of_getElem? hw)
    have hil : i < l.length := by omega
    have hx := List.getElem?_eq_getElem hil
    have gx : hd i = l[i] := by show l.getD i 0 = _; rw [List.getD_eq_getElem?_getD, hx]; rfl
    obtain ⟨b, off, cs, wr, sz, c, hlv, hb, hg⟩ := sli_get sl (i := (i : Int)) ⟨by omega, by omega⟩
    have hgi := hg i (vint l[i]) (by rw [List.getElem?_map, hx]; rfl)
    have hbl : b < H.length := by
      obtain ⟨b', o', cs', wr', sz', c', hlv', hb', _⟩ := sli_get hs (i := (i : Int)) ⟨by omega, by omega⟩
      rw [hlv] at hlv'
      injection hlv' with h1
      injection h1 with h1
      injection h1 with h1
      rw [h1]
      exact lt_of_get hb'
    have hSd := Sd.1
    have hXd := Xd.1
    have hld := Ld.lt
    have hnA : ∀ j, ao = some j → o ≠ some j := fun j hj e => by
      have h1 := A3.lt j hj
      have h2 := hod j e
      omega
    have hAd := Ad.lt
    obtain ⟨b0, hb0⟩ : ∃ b0, ao = some b0 := by
      obtain ⟨_, cs0, ⟨_, _, ⟨h0, _⟩ | ⟨b0, c0, sz0, he, _⟩⟩, _⟩ := Ad
      · omega
      · exact ⟨b0, he⟩
    have sb : ∀ {H'}, SameX o.toList Hd H' → SameB (some [b, b0]) Hd H' := fun S' x hx => S'.2 x (by
      simp at hx
      have := hAd b0 hb0
      rcases hx with rfl | rfl <;> omega) (fun hm => by
      have hm : o = some x := Option.mem_toList.1 hm
      have h1 := hld x hm
      simp at hx
      rcases hx with rfl | rfl
      · omega
      · exact hnA _ hb0 hm)
    refine ⟨[b, b0], ?_⟩
    rw [hlv]
    refine idxI ⟨by omega, by omega⟩ ?_
    have ei : off + (i : Int).toNat * 1 = off + i := by omega
    rw [ei]
    refine ldI (v := vint l[i]) hb hgi rfl ⟨by simp [RdOk, ptr, ptrBlk], ?_⟩
    refine Ad.get' hw fun b1 off1 wv bw hb1 hb1l Ow hbw => ⟨?_, ?_⟩
    · rw [hb0] at hb1
      injection hb1 with hb1
      subst hb1
      simp [RdOk, ptr, ptrBlk]
    refine ⟨by decide, fill_one (l := [vint l[i]]) rfl rfl rfl (by decide) (fillI (qNew fun He pe ee Se ce le => ⟨sb (Se.weak0), ?_⟩))⟩
    have ce : He[pe]? = some (.cells [vint l[i]] true 0) := ce
    refine ⟨by decide, app_cons ce (Se.sli (ownX_sli Ow) (by simp)) (by omega) fun Hf wv2 bf Sf Of hbf => ?_⟩
    have hSe := Se.1
    have Tf : SameX [] Hd Hf := Se.thru Sf (by simp; omega)
    have hbfl := ownX_lt Of bf rfl
    have hbf2 : Hd.length ≤ bf := by omega
    refine ⟨sb Tf.weak0, ?_⟩
    obtain ⟨w1, w2, w3⟩ := ownX_val Of
    refine ⟨by decide, fill_one (l := [wv2]) (by rw [w1]) rfl (by simp [w2]) (by decide) (fillI (qNew fun Hg pg eg Sg cg lg => ⟨sb (Tf.trans Sg).weak0, by decide, ?_⟩))⟩
    have cg : Hg[pg]? = some (.cells [wv2] true 0) := cg
    have Tg := Tf.trans Sg
    have hpl := partG_le (hd := hd) (g := g) (i := i) (k := k) gle
    refine ((Ld.keep Tg).more (by have := Tg.1; omega) (by omega) (ownX_keep Of Sg (by simp)) (by omega) (fun e => by have := hld bf e.symm; omega) (ownX_sli (ownX_new (s := 1) (n := 1) (l := [wv2]) cg rfl (by simp [kn]; exact w3))) fun v' Hh o' Sh Lh ho' _ => ?_)
    have Th : SameX o.toList Hd Hh := Tg.weak0.trans Sh
    have hTg := Tg.1
    have hgl : (g i).length = (ordersR n (restTo l i (n + 1))).length := rfl
    have hgi9 := gle i
    have hH3 : H3.length ≤ o' := by omega
    refine ⟨sb Th, addI (by omega) ⟨k + 1, by dsimp only; omega, .inl ⟨v', some o', Sd.thru Th (fun y hy => .inr (hld y (Option.mem_toList.1 hy)).1), by omega, ?_, ?_, fun j hj => by cases hj; omega, ds, by rw [← hlv]; exact r0, rfl, r4, r7, by show vint _ = vint _; congr 1⟩⟩⟩
    · rw [partG_succ (w := w) hw, gx]
      exact Lh
    · refine ⟨by have := Th.1; omega, fun x hx1 hx2 => ?_⟩
      rw [Th.2 x (by omega) (fun hm => ?_), Xd.2 x hx1 hx2]
      have := hod x (Option.mem_toList.1 hm)
      have : ¬ x < Hk.length := fun y => hx2 (List.mem_range.2 y)
      omega
end
theorem srvH_next {t : Tro} {cs : List Int} {os : List Nat} {s s' : Srv} (I : SrvIn t cs os) (O : SrvOk t os s) (hs : srvStep t cs os s = .inl s') : s'.hour + srvH os s' ≤ s.hour + srvH os s := by
  obtain ⟨w1, w2, w3⟩ := (troE_well I.ok).1
  obtain ⟨o, ho, g1, hol, ⟨c, _, g2, c1, c2⟩, d, _, g3, d1, d2⟩ := I.at_ O
  have hlo := O.lo
  have hhi := O.hi
  have hne := O.next
  unfold srvStep at hs
  simp only [g1, g2, g3] at hs
  split at hs
  · rename_i hc
    split at hs
    · cases hs
    · rename_i hn
      cases hs
      unfold srvH
      dsimp only
      have : (os.length - 1 - s.next) * 41 = (os.length - 1 - (s.next + 1)) * 41 + 41 := by omega
      omega
  · rename_i hc
    split at hs
    · cases hs
    · rename_i hn
      cases hs
      unfold srvH
      dsimp only
      by_cases hh2 : (s.hour : Int) ≥ c
      · have : min t.well.holds (s.now + t.well.fill) ≠ s.now := fun e => hn ⟨e, hh2⟩
        omega
      · omega

structure Reg42 (cv ov : Value) (p : Nat) (s : Srv) (F : RG) : Prop where
  ds : F.ds = []
  r1 : F.r 1 = cv
  r2 : F.r 2 = ov
  r3 : F.r 3 = ptr p 0
  r7 : F.r 7 = vint s.now
  r8 : F.r 8 = vint (s.hour : Nat)
  r9 : F.r 9 = vint s.wait
  r10 : F.r 10 = vint (s.next : Nat)
structure On42 (t : Tro) (cs : List Int) (os : List Nat) (s : Srv) : Prop where
  ok : SrvOk t os s
  w : srvFrom t cs os s = serveW t cs os
  hb : s.hour + srvH os s ≤ 200
  wb : 0 ≤ s.wait ∧ s.wait ≤ 300 * s.next

section
variable {main : Bool} {J : JT} {h H : List AObj} {K : Value → List AObj → Prop} {KV : Value → Prop} {HL : List AObj → Prop} {n0 : Nat}
theorem good42 (hJ : Closed prog main J) {v fv cv ov : Value} {t : Tro} {cs : List Int} {os : List Nat} (ht : TroAt H v t fv) (hc : Sli H cv 1 cs.length (cs.map vint)) (ho : Sli H ov 1 os.length ((os.map Int.ofNat).map vint)) (I : SrvIn t cs os)
    (hK : ∀ H', SameX [] H H' → K (vint (serveW t cs os)) H') : Good prog J 42 [v, cv, ov] H K := by
  refine g42 hJ fun ok => ?_
  rw [e42, ht.val]
  have kf := (sli_val ht.fl).2.2
  obtain ⟨w1, w2, w3⟩ := (troE_well I.ok).1
  have hfew := I.few
  have hpos := I.pos
  have hlen := I.len
  have hol3 := (troE_well I.ok).2.1
  refine qBox (tro_one ht) fun H1 p1 e1 S1 c1' l1 => offI (offI (ldI (v := vint t.well.now) c1' rfl rfl ?_))
  have ht1 : SliE H1 fv 2 Dro.cells t.flocks := S1.sli ht.fl (by simp)
  have hc1 := S1.sli hc (by simp)
  have ho1 : Sli H1 ov 1 (os.map Int.ofNat).length ((os.map Int.ofNat).map vint) := by rw [List.length_map]; exact S1.sli ho (by simp)
  refine l42_1 hJ (fun s : Srv => os.length - s.next) (fun s F H' => H' = H1 ∧ Reg42 cv ov p1 s F ∧ (On42 t cs os s ∨ (s.next = os.length ∧ s.wait = serveW t cs os))) ?_ (s := ⟨t.well.now, 0, 0, 0⟩)
    (.inl ⟨rfl, ⟨rfl, rfl, rfl, rfl, rfl, rfl, rfl, rfl⟩, .inl ⟨⟨w2.1, w2.2, I.pos⟩, rfl, ?_, by simp⟩⟩)
  rotate_left
  · unfold srvH
    dsimp only
    omega
  rintro s F H1 ⟨rfl, G, hst⟩ okc hnc
  rw [s42_1, G.r2, G.r9, G.r10, G.ds]
  refine lenI (n := os.length) (by rw [List.length_map] at ho1; exact ho1) (lssI (cndI (fun hlt => ?_) fun hge => ?_))
  rotate_left
  · rcases hst with a | ⟨_, b⟩
    · have := a.ok.next
      omega
    · rw [b]
      exact retL_same (by simp [unk]) (hK _ S1)
  have A : On42 t cs os s := hst.resolve_right fun a => by omega
  obtain ⟨o, hoo, g1, hol, _⟩ := I.at_ A.ok
  refine sli_num' (xs := os.map Int.ofNat) (i := s.next) (x := (o : Int)) ho1 (by rw [List.getElem?_map, hoo]; rfl) fun q => ?_
  refine l42_2 hJ (fun s : Srv => srvM t os s) (fun s' F H' => H' = H' ∧ H' = _ ∧ Reg42 cv ov p1 s' F ∧ F.r 11 = vint (o : Int) ∧ On42 t cs os s' ∧ s'.next = s.next) ?_ (s := s)
    (.inl ⟨rfl, rfl, ⟨G.ds, G.r1, G.r2, G.r3, G.r7, G.r8, G.r9, G.r10⟩, rfl, A, rfl⟩)
  rintro u F2 H1 ⟨_, rfl, G2, r11, B, hnx⟩ oku hnu
  obtain ⟨o2, hoo2, g1', hol2, ⟨c, hcc, g2, c1, c2⟩, d, hdd, g3, d1, d2⟩ := I.at_ B.ok
  have : o2 = o := by
    rw [hnx, hoo] at hoo2
    injection hoo2 with e
    exact e.symm
  subst this
  have hlo := B.ok.lo
  have hhi := B.ok.hi
  have hnext := B.ok.next
  have hub := B.hb
  have hwb := B.wb
  have hhour : u.hour ≤ 200 := by omega
  have hdl : t.flocks[o2] = d := by
    have := List.getElem?_eq_getElem hol2
    rw [this] at hdd
    injection hdd
  have stepE : srvStep t cs os u = if (u.hour : Int) ≥ c ∧ u.now ≥ d.drinks then (if u.next + 1 = os.length then .inr (u.wait + (u.hour - c)) else .inl ⟨min t.well.holds (u.now - d.drinks + t.well.fill), u.next + 1, u.hour + 1, u.wait + (u.hour - c)⟩)
      else if min t.well.holds (u.now + t.well.fill) = u.now ∧ (u.hour : Int) ≥ c then .inr (-1) else .inl ⟨min t.well.holds (u.now + t.well.fill), u.next, u.hour + 1, u.wait⟩ := by
    unfold srvStep
    simp only [g1', g2, g3]
  have ldc : ∀ {K2 : Value → Value → Prop}, (∀ p, K2 p (vint c)) → aIdx 1 cv (vint (o2 : Int)) fun p => aLoad false 1 p H1 (K2 p) := fun hK2 => sli_num' hc1 (i := o2) hcc hK2
  obtain ⟨b, of, cells, wr, sz, hidx, hb, hol', hft, hkn⟩ := sliE_elem dro_len (by omega) ht1 hol2
  have hx : cells[of + 0]? = some (vint d.drinks) := part_get hft (by rw [hdl]; rfl)
  have ldd : ∀ {K2 : Value → Value → Value → Prop}, (∀ p q, K2 p q (vint d.drinks)) → aIdx 2 fv (vint (o2 : Int)) fun p => aOff p 0 fun q => aLoad false 1 q H1 (K2 p q) := fun hK2 => hidx _ (offI (ldI (v := vint d.drinks) hb hx rfl (hK2 _ _)))
  -- one hour more
  have go : ∀ {F' : RG} {x : Bool}, Reg42 cv ov p1 u F' → F'.r 11 = vint (o2 : Int) → F'.r 59 = .bool x → ¬ ((u.hour : Int) ≥ c ∧ u.now ≥ d.drinks) → x = decide (min t.well.holds (u.now + t.well.fill) = u.now ∧ (u.hour : Int) ≥ c) →
      W prog J 98 H.length 42 (subC [1, 1, 0, 1, 0, 0, 1, 0, 0, 1, 0, 0, 0, 1, 0, 0, 1] (codeOf f42)) F' H1 (contX pl42 prog J 98 H.length 42 ct42 [1, 1, 0, 1, 0, 0, 1, 0, 0, 1, 0, 0, 0, 1, 0, 0, 1] (codeOf f42) [Nx H.length (fun s : Srv => os.length - s.next) (fun s F H' => H' = H1 ∧ Reg42 cv ov p1 s F ∧ (On42 t cs os s ∨ (s.next = os.length ∧ s.wait = serveW t cs os))) s, Nx H.length (fun s : Srv => srvM t os s) (fun s' F H' => H' = H' ∧ H' = H1 ∧ Reg42 cv ov p1 s' F ∧ F.r 11 = vint (o2 : Int) ∧ On42 t cs os s' ∧ s'.next = s.next) u] (RetQ prog [.tmp 6] H.length K)) := by
    intro F' x G' q11 q59 hno hx
    rw [s42_4, q59, G'.r3, G'.r7, G'.r8, G'.ds]
    rw [if_neg hno] at stepE
    cases x with
    | true =>
      have hx := of_decide_eq_true hx.symm
      rw [if_pos hx] at stepE
      have hr := srvFrom_inr stepE
      rw [B.w] at hr
      refine cnd_true.2 (retL_same (by simp [unk]) ?_)
      have := hK H1 S1
      rw [hr] at this
      exact this
    | false =>
      have hx := of_decide_eq_false hx.symm
      rw [if_neg hx] at stepE
      obtain ⟨O', hl, hh⟩ := srv_next I B.ok stepE
      have hb' := srvH_next I B.ok stepE
      have hw' := srvFrom_inl I B.ok stepE
      refine cnd_false.2 ?_
      refine offI (offI (ldI (v := vint t.well.holds) c1' rfl rfl (offI (offI (ldI (v := vint t.well.fill) c1' rfl rfl (addI (by omega) (minI (addI (by omega) ?_))))))))
      refine ⟨_, hl, .inl ⟨rfl, rfl, ⟨G'.ds, G'.r1, G'.r2, G'.r3, rfl, by show vint _ = vint _; congr 1, G'.r9, G'.r10⟩, q11, ⟨O', by rw [← hw']; exact B.w, by omega, hwb⟩, hnx⟩⟩
  -- does this one drink now
  have ask : ∀ {F' : RG} {x : Bool}, Reg42 cv ov p1 u F' → F'.r 11 = vint (o2 : Int) → F'.r 40 = .bool x → x = decide (¬ ((u.hour : Int) ≥ c ∧ u.now ≥ d.drinks)) →
      W prog J 98 H.length 42 (subC [1, 1, 0, 1, 0, 0, 1, 0, 0, 1, 0, 0, 0, 0, 1] (codeOf f42)) F' H1 (contX pl42 prog J 98 H.length 42 ct42 [1, 1, 0, 1, 0, 0, 1, 0, 0, 1, 0, 0, 0, 0, 1] (codeOf f42) [Nx H.length (fun s : Srv => os.length - s.next) (fun s F H' => H' = H1 ∧ Reg42 cv ov p1 s F ∧ (On42 t cs os s ∨ (s.next = os.length ∧ s.wait = serveW t cs os))) s, Nx H.length (fun s : Srv => srvM t os s) (fun s' F H' => H' = H' ∧ H' = H1 ∧ Reg42 cv ov p1 s' F ∧ F.r 11 = vint (o2 : Int) ∧ On42 t cs os s' ∧ s'.next = s.next) u] (RetQ prog [.tmp 6] H.length K)) := by
    intro F' x G' q11 q40 hx
    rw [s42_3, q40, q11, G'.r1, G'.r3, G'.r7, G'.r8, G'.r9, G'.r10]
    cases x with
    | true =>
      have hno := of_decide_eq_true hx.symm
      refine cnd_true.2 (ldc fun q => geqI (cndI (fun h1 => ?_) fun h1 => hold.2 ?_))
      · refine offI (offI (ldI (v := vint t.well.holds) c1' rfl rfl (offI (offI (ldI (v := vint t.well.fill) c1' rfl rfl (addI (by omega) (minI (eqlI (hold.2 ?_)))))))))
        refine go ⟨G'.ds, G'.r1, G'.r2, G'.r3, G'.r7, G'.r8, G'.r9, G'.r10⟩ q11 rfl hno ?_
        exact decide_eq_decide.2 ⟨fun e => ⟨e, h1⟩, fun e => e.1⟩
      · refine go ⟨G'.ds, G'.r1, G'.r2, G'.r3, G'.r7, G'.r8, G'.r9, G'.r10⟩ q11 rfl hno ?_
        exact (decide_eq_false fun e => h1 e.2).symm
    | false =>
      have hyes : (u.hour : Int) ≥ c ∧ u.now ≥ d.drinks := Decidable.not_not.1 (of_decide_eq_false hx.symm)
      rw [if_pos hyes] at stepE
      refine cnd_false.2 (addI (by omega) (ldc fun q => subI (by omega) ?_))
      refine offI (offI (ldI (v := vint t.well.holds) c1' rfl rfl (offI (ldI (v := fv) c1' rfl kf (ldd fun q1 q2 => subI (by omega) ?_)))))
      refine offI (offI (ldI (v := vint t.well.fill) c1' rfl rfl (addI (by omega) (minI (addI (by omega) (addI (by omega) ?_))))))
      by_cases hl : u.next + 1 = os.length
      · rw [if_pos hl] at stepE
        have hr := srvFrom_inr stepE
        rw [B.w] at hr
        refine ⟨⟨min t.well.holds (u.now - d.drinks + t.well.fill), u.next + 1, u.hour + 1, u.wait + (u.hour - c)⟩, by dsimp only; omega, .inl ⟨rfl, ⟨G'.ds, G'.r1, G'.r2, G'.r3, rfl, by show vint _ = vint _; congr 1, by show vint (u.wait + (u.hour : Int) - c) = vint (u.wait + ((u.hour : Int) - c)); congr 1; omega, by show vint _ = vint _; congr 1⟩, .inr ⟨hl, hr.symm⟩⟩⟩
      · rw [if_neg hl] at stepE
        obtain ⟨O', hl', hh⟩ := srv_next I B.ok stepE
        have hb' := srvH_next I B.ok stepE
        have hw' := srvFrom_inl I B.ok stepE
        refine ⟨_, by show os.length - (u.next + 1) < os.length - s.next; omega, .inl ⟨rfl, ⟨G'.ds, G'.r1, G'.r2, G'.r3, rfl, by show vint _ = vint _; congr 1, by show vint (u.wait + (u.hour : Int) - c) = vint (u.wait + ((u.hour : Int) - c)); congr 1; omega, by show vint _ = vint _; congr 1⟩, .inl ⟨O', by rw [← hw']; exact B.w, by omega, by dsimp only; omega⟩⟩⟩
  rw [s42_2, r11, G2.r1, G2.r3, G2.r7, G2.r8]
  refine ldc fun q => lssI (cndI (fun h1 => hold.2 ?_) fun h1 => ?_)
  · refine ask ⟨G2.ds, G2.r1, G2.r2, G2.r3, G2.r7, G2.r8, G2.r9, G2.r10⟩ r11 rfl ?_
    have hn : ¬ ((u.hour : Int) ≥ c ∧ u.now ≥ d.drinks) := by omega
    exact (decide_eq_true hn).symm
  · refine offI (ldI (v := fv) c1' rfl kf (ldd fun q1 q2 => lssI (hold.2 ?_)))
    refine ask ⟨G2.ds, G2.r1, G2.r2, G2.r3, G2.r7, G2.r8, G2.r9, G2.r10⟩ r11 rfl ?_
    exact decide_eq_decide.2 ⟨fun e f => by omega, fun e => by omega⟩
end
end Go.Proofs.Ytindillghipjjaa

namespace Go.Proofs.Ytindillghipjjaa
open Go.Conc Go.Proofs.Try
set_option maxRecDepth 100000
def idsI (i : Nat) : List Int := (List.range i).map Int.ofNat
theorem idsI_len (i : Nat) : (idsI i).length = i := by simp [idsI]
theorem idsI_succ (i : Nat) : idsI (i + 1) = idsI i ++ [(i : Int)] := by simp [idsI, List.range_succ]
theorem waits_get {t : Tro} {cs : List Int} {i : Nat} {os : List Nat} (h : (allOf26 cs)[i]? = some os) : (waits26 t cs).getD i 0 = serveW t cs os := by
  unfold waits26
  rw [List.getD_eq_getElem?_getD, List.getElem?_map, h]
  rfl

structure Reg6 (cv av : Value) (p : Nat) (a b c : Value) (best i : Int) (F : RG) : Prop where
  ds : F.ds = []
  r4 : F.r 4 = ptr p 0
  r5 : F.r 5 = cv
  r8 : F.r 8 = a
  r9 : F.r 9 = b
  r10 : F.r 10 = c
  r11 : F.r 11 = av
  r12 : F.r 12 = vint best
  r13 : F.r 13 = vint i

section
variable {W0 : World} {Post : Value → World → Prop} {h H : List AObj} {K : Value → List AObj → Prop} {n0 : Nat}
theorem loop6 {t : Tro} {cs : List Int} {fv cv av a b c : Value} {p : Nat} {o : Option Nat} {F : RG} (ok : servE t cs = 0) (cp : H[p]? = some (.cells (troCells t fv) true 0)) (ht : SliE H fv 2 Dro.cells t.flocks) (hc : Sli H cv 1 cs.length (cs.map vint))
    (L : OwnL 0 H av ((allOf26 cs).map (·.map Int.ofNat)) o) (G : Reg6 cv av p a b c (-1) 0 F)
    (res : (pick26 t cs < 0 ∧ a = .slice none 0 0 ∧ b = vint 0 ∧ c = vint 11) ∨ ∃ (i : Nat) (os : List Nat), pick26 t cs = i ∧ (allOf26 cs)[i]? = some os ∧ Sli H a 1 os.length (nvs os) ∧ b = vint ((waits26 t cs).getD i 0) ∧ c = vint 0) (hK : ∀ h', K (.bool true) h') :
    Sem (J1 prog W0 Post) 120 n0 6 (subC [1, 1, 1, 1, 1, 1, 1, 1, 0, 1, 0] (codeOf f6)) F H (contX pl6 prog (J1 prog W0 Post) 120 n0 6 ct6 [1, 1, 1, 1, 1, 1, 1, 1, 0, 1, 0] (codeOf f6) [] (RetQ prog [.tmp 2] n0 K)) := by
  have hJ := J1.closed prog W0 Post
  have wl : (waits26 t cs).length = (allOf26 cs).length := by simp [waits26]
  obtain ⟨e1, e2, e3⟩ := servE_ok ok
  have few : (allOf26 cs).length ≤ 27 := by
    have h0 := (troE_well e1).2.1
    have h1 := perms_few (n := cs.length) (by omega) cs.length []
    have h2 := Nat.pow_le_pow_right (n := 3) (by omega) (show cs.length ≤ 3 by omega)
    unfold allOf26
    omega
  refine l6_2 hJ (fun i : Nat => (allOf26 cs).length - i) (fun i F H' => SameX [] H H' ∧ i ≤ (allOf26 cs).length ∧ Reg6 cv av p a b c (pickTo (waits26 t cs) i) i F) ?_ (s := 0) (.inl ⟨SameX.refl, by omega, G⟩)
  rintro i F H' ⟨S, hi, G⟩ okc hnc
  have pl := pickTo_lt (waits26 t cs) i
  have L' := L.keep S
  obtain ⟨lc, sL⟩ := L'.sli
  rw [List.length_map] at sL
  have t' : TroAt H' (.agg ⟨troCells t fv⟩) t fv := ⟨rfl, S.sli ht (by simp)⟩
  have c' := S.get cp (by simp)
  have hc' := S.sli hc (by simp)
  have kt := tro_kn t'
  have at_ : ∀ {j : Nat}, j < (allOf26 cs).length → ∃ os, (allOf26 cs)[j]? = some os ∧ SrvIn t cs os ∧ ((allOf26 cs).map (·.map Int.ofNat))[j]? = some (os.map Int.ofNat) := fun {j} hj => by
    have hx := List.getElem?_eq_getElem hj
    exact ⟨_, hx, srvIn_of ok (List.getElem_mem hj), by rw [List.getElem?_map, hx]; rfl⟩
  rw [s6_2, G.r4, G.r5, G.r8, G.r9, G.r10, G.r11, G.r12, G.r13, G.ds]
  refine lenI sL (lssI (cndI (fun hlt => ?_) fun hge => ?_))
  · have hil : i < (allOf26 cs).length := by omega
    obtain ⟨os, hos, I, hls⟩ := at_ hil
    have hw := waits_get (t := t) hos
    -- the next round
    have next : ∀ {F2 : RG} {H2 : List AObj} {x : Bool}, SameX [] H' H2 → Reg6 cv av p a b c (pickTo (waits26 t cs) i) i F2 → F2.r 78 = .bool x → x = decide (serveW t cs os ≥ 0 ∧ (pickTo (waits26 t cs) i < 0 ∨ serveW t cs os < (waits26 t cs).getD (pickTo (waits26 t cs) i).toNat 0)) →
        W prog (J1 prog W0 Post) 120 n0 6 (subC [1, 1, 1, 1, 1, 1, 1, 1, 0, 1, 0, 0, 1, 0, 0, 1, 1] (codeOf f6)) F2 H2 (contX pl6 prog (J1 prog W0 Post) 120 n0 6 ct6 [1, 1, 1, 1, 1, 1, 1, 1, 0, 1, 0, 0, 1, 0, 0, 1, 1] (codeOf f6) [Nx n0 (fun i : Nat => (allOf26 cs).length - i) (fun i F H' => SameX [] H H' ∧ i ≤ (allOf26 cs).length ∧ Reg6 cv av p a b c (pickTo (waits26 t cs) i) i F) i] (RetQ prog [.tmp 2] n0 K)) := by
      intro F2 H2 x S2 G2 q78 hx
      rw [s6_3, q78, G2.r13]
      have e : pickTo (waits26 t cs) (i + 1) = if x = true then (i : Int) else pickTo (waits26 t cs) i := by
        conv => lhs; unfold pickTo
        rw [hw, hx]
        simp only [decide_eq_true_eq]
      cases x with
      | true =>
        refine cnd_true.2 (addI (by omega) ⟨i + 1, by dsimp only; omega, .inl ⟨S.trans S2, by omega, ⟨G2.ds, G2.r4, G2.r5, G2.r8, G2.r9, G2.r10, G2.r11, ?_, by show vint _ = vint _; congr 1⟩⟩⟩)
        rw [e]
        rfl
      | false =>
        refine cnd_false.2 (addI (by omega) ⟨i + 1, by dsimp only; omega, .inl ⟨S.trans S2, by omega, ⟨G2.ds, G2.r4, G2.r5, G2.r8, G2.r9, G2.r10, G2.r11, ?_, by show vint _ = vint _; congr 1⟩⟩⟩)
        rw [e]
        exact G2.r12
    refine load_part (c := troCells t fv) c' (by simp [troCells]) rfl kt (L'.get hls fun q lv b1 Ob _ => ?_)
    have sOb := ownX_sli Ob
    rw [List.length_map] at sOb
    refine good42 hJ t' hc' sOb I fun H2 S2 => geqI (cndI (fun h0 => lssI (cndI (fun hb => hold.2 ?_) fun hb => ?_)) fun h0 => hold.2 ?_)
    · refine next S2 ⟨G.ds, G.r4, G.r5, G.r8, G.r9, G.r10, G.r11, G.r12, G.r13⟩ rfl (decide_eq_true ?_).symm
      exact ⟨h0, .inl hb⟩
    · have hjl : (pickTo (waits26 t cs) i).toNat < (allOf26 cs).length := by omega
      obtain ⟨os2, hos2, I2, hls2⟩ := at_ hjl
      have hw2 := waits_get (t := t) hos2
      have t2 : TroAt H2 (.agg ⟨troCells t fv⟩) t fv := ⟨rfl, S2.sli t'.fl (by simp)⟩
      refine load_part (c := troCells t fv) (S2.get c' (by simp)) (by simp [troCells]) rfl kt ?_
      refine (L'.keep S2).getI (by omega) hls2 fun q2 lv2 b2 Ob2 _ => ?_
      have sOb2 := ownX_sli Ob2
      rw [List.length_map] at sOb2
      refine good42 hJ t2 (S2.sli hc' (by simp)) sOb2 I2 fun H3 S3 => lssI (hold.2 ?_)
      refine next (S2.trans S3) ⟨G.ds, G.r4, G.r5, G.r8, G.r9, G.r10, G.r11, G.r12, G.r13⟩ rfl ?_
      rw [hw2]
      exact decide_eq_decide.2 ⟨fun e => ⟨h0, .inr e⟩, fun e => e.2.resolve_left hb⟩
    · refine next S2 ⟨G.ds, G.r4, G.r5, G.r8, G.r9, G.r10, G.r11, G.r12, G.r13⟩ rfl (decide_eq_false ?_).symm
      exact fun e => h0 e.1
  · have hie : i = (allOf26 cs).length := by omega
    have hpk : pickTo (waits26 t cs) i = pick26 t cs := by
      unfold pick26
      rw [wl, hie]
    rw [hpk]
    rcases res with ⟨h1, rfl, rfl, rfl⟩ | ⟨j, os, h1, hos, sa, rfl, rfl⟩
    · exact lssI (cndI (fun _ => eqlI (cndI (fun _ => len0 (eqlI (cndI (fun _ => eqlI (cndI (fun _ => good19 fun H3 => retL_same (by simp [unk]) (hK _)) fun hx => absurd rfl hx)) fun hx => absurd rfl hx))) fun hx => absurd rfl hx)) fun hx => absurd h1 hx)
    · rw [h1]
      have hjl := (List.getElem?_eq_some_iff.1 hos).1
      obtain ⟨os2, hos2, I2, hls2⟩ := at_ hjl
      obtain rfl : os = os2 := by rw [hos] at hos2; exact Option.some.inj hos2
      have hw2 := waits_get (t := t) hos
      have hlp := lt_of_get c'
      have sa' := S.sli sa (by simp)
      have hll := L'.lt
      obtain ⟨b0, hb0⟩ : ∃ b0, o = some b0 := by
        obtain ⟨_, cs0, ⟨_, _, ⟨h0, _⟩ | ⟨b0, c0, sz0, he, _⟩⟩, _⟩ := L'
        · rw [List.length_map] at h0
          omega
        · exact ⟨b0, he⟩
      obtain ⟨_, lo0⟩ := hll b0 hb0
      have bcell : ∃ cs0 wr0 sz0, H'[b0]? = some (.cells cs0 wr0 sz0) := by
        obtain ⟨_, cs0, ⟨_, _, ⟨h0, _⟩ | ⟨b1, c0, sz0, he, _, hbc, _⟩⟩, _⟩ := L'
        · rw [List.length_map] at h0
          omega
        · rw [hb0] at he
          cases he
          exact ⟨_, _, _, hbc⟩
      obtain ⟨bc, bw, bs, hbc⟩ := bcell
      refine lssI (cndI (fun hx => absurd hx (by omega)) fun _ => ⟨[b0, p], eqlI (cndI (fun _ => ?_) fun hx => absurd rfl hx)⟩)
      have rd : ∀ {b1 off : Nat}, o = some b1 → RdOk (some [b0, p]) (ptrBlk (ptr b1 off)) := fun e => by
        rw [hb0] at e
        cases e
        simp [RdOk, ptr, ptrBlk]
      refine L'.get' hls2 fun b1 off lv b2 hb1 hb1l Ob _ => ⟨rd hb1, ?_⟩
      have sOb := ownX_sli Ob
      have hosl : os.length ≤ 3 := I2.few
      have sa2 : Sli H' a 1 (os.map Int.ofNat).length ((os.map Int.ofNat).map vint) := by rw [List.length_map]; exact sa'
      refine good28 hJ sa2 sOb (by rw [List.length_map]; omega) ⟨fun _ _ => rfl, cndI (fun _ => ?_) fun hx => absurd rfl hx⟩
      refine load_part (c := troCells t fv) c' (by simp [troCells]) rfl kt ⟨by simp [RdOk, ptr, ptrBlk], ?_⟩
      refine L'.get' hls2 fun b1 off lv b2 hb1 hb1l Ob _ => ⟨rd hb1, ?_⟩
      have sOb := ownX_sli Ob
      rw [List.length_map] at sOb
      refine good42 hJ t' hc' sOb I2 fun H2 S2 => ⟨fun x hx => S2.2 x (by simp at hx; rcases hx with rfl | rfl <;> omega) (by simp), ?_⟩
      rw [hw2]
      refine eqlI (cndI (fun _ => good19f fun H3 S3 => ⟨fun x hx => ?_, retL_same (by simp [unk]) (hK _)⟩) fun hx => absurd rfl hx)
      simp at hx
      rcases hx with rfl | rfl
      · rw [hbc]
        exact S3.get (unch_at (S2.get hbc (by simp))) (by simp)
      · rw [c']
        exact S3.get (unch_at (S2.get c' (by simp))) (by simp)

theorem walk6 {nv : Value} {ns : List Int} (sn : Sli h nv 1 ns.length (ns.map vint)) (hln : ns.length < 4611686018427387904) (hK : ∀ h', K (.bool true) h') :
    W prog (J1 prog W0 Post) 120 h.length 6 (codeOf f6) (RG.mk (regs [nv]) []) h (RetQ prog [.tmp 2] h.length K) := by
  have hJ := J1.closed prog W0 Post
  rw [e6]
  refine newX hJ sn hln fun H0 a0 => ?_
  refine good21 hJ a0 (by omega) (by omega) (by omega) fun t fv o H1 ot S1 a1 TO => ?_
  have f := ot.fine (by omega)
  have fl := f.len
  have ta := TO.at
  refine qAl fun H2 p2 e2 S2 c2 l2 => qStA (c := troCells t fv) c2 rfl rfl (tro_one ta) fun H3 S3 c3 l3 => ?_
  have S13 : SameX [] H1 H3 := S2.thru S3 (by simp; omega)
  have t3 := TO.same S13 (by simp)
  have a3 := a1.same S13 (by simp)
  have kf := (sli_val t3.at.fl).2.2
  refine l6_1 hJ (fun i : Nat => t.flocks.length - i) (fun i F H' => ∃ k cs v1 v2 o1 o2, HX h H' ns k ∧ k ≤ 100 + 5 * i ∧ SameX [h.length] H3 H' ∧ i ≤ t.flocks.length ∧ OwnX H' 1 (cs.map vint) cs.length v1 o1 ∧ OwnX H' 1 ((idsI i).map vint) i v2 o2 ∧ (∀ j, o1 = some j → H3.length ≤ j ∧ o2 ≠ some j) ∧ (∀ j, o2 = some j → H3.length ≤ j) ∧ cs.length = i ∧ (∀ c ∈ cs, 0 ≤ c ∧ c ≤ 48) ∧
      F.ds = [] ∧ F.r 3 = ptr h.length 0 ∧ F.r 4 = ptr p2 0 ∧ F.r 5 = v1 ∧ F.r 6 = v2 ∧ F.r 7 = vint (i : Nat)) ?_ (s := 0)
    (.inl ⟨_, [], .slice none 0 0, .slice none 0 0, none, none, a3, by omega, SameX.refl, by omega, ⟨rfl, rfl, .inl ⟨rfl, rfl, rfl⟩⟩, ⟨rfl, rfl, .inl ⟨rfl, rfl, rfl⟩⟩, by simp, by simp, rfl, by simp, rfl, rfl, rfl, rfl, rfl, rfl⟩)
  rintro i F H' ⟨k, cs, v1, v2, o1, o2, a', hk, S, hi, O1, O2, b1, b2, hcl, hcb, ds, r3, r4, r5, r6, r7⟩ okc hnc
  have hp2 : p2 ≠ h.length := by
    have := a1.lt
    omega
  have c' := S.get c3 (by simpa using hp2)
  have t' := t3.same S (fun j hj => by have := t3.b j hj; simp; omega)
  rw [s6_1, r3, r4, r5, r6, r7]
  refine offI (ldI (v := fv) c' rfl kf (lenI t'.at.fl (lssI (cndI (fun hlt => ?_) fun hge => ?_))))
  · refine upX hJ a' (by omega) (by omega) fun y1 H4 y11 y12 S4 l4 a4 => upX hJ a4 (by omega) (by omega) fun y2 H5 y21 y22 S5 l5 a5 => ?_
    refine ⟨by decide, fill_one (l := [vint y1]) rfl rfl rfl (by decide) (fill_one (l := [vint y2]) rfl rfl rfl (Nat.le_of_ble_eq_true rfl) (fillI (qNew fun H6 p6 e6 S6 c6 l6 => ?_)))⟩
    have c6 : H6[p6]? = some (.cells ([y1, y2].map vint) true 0) := c6
    have a6 := a5.same S6 (by simp)
    have hl6 := a5.lt
    refine ofX hJ a6 (by omega) (others := [y1, y2]) c6 (by omega) rfl (by decide) fun y H7 hy S7 l7 a7 => ?_
    have hyb : 0 ≤ y ∧ y ≤ 48 := by
      rcases hy with rfl | hy
      · omega
      · simp at hy
        omega
    have S47 : SameX [h.length] H' H7 := ((S4.trans S5).trans S6.weak0).trans S7
    have hlS := S.1
    have hl3 := a3.lt
    have O17 := ownX_keep O1 S47 (fun j hj => by have := b1 j hj; simp; omega)
    have O27 := ownX_keep O2 S47 (fun j hj => by have := b2 j hj; simp; omega)
    refine ⟨by decide, fill_one (l := [vint y]) rfl rfl rfl (by decide) (fillI (qNew fun H8 p8 e8 S8 c8 l8 => ⟨by decide, ?_⟩))⟩
    have c8 : H8[p8]? = some (.cells [vint y] true 0) := c8
    have O18 := ownX_keep O17 S8 (by simp)
    have O28 := ownX_keep O27 S8 (by simp)
    have o2lt := ownX_lt O28
    refine ownX_more O18 (by omega) (by omega) (ownX_sli (ownX_new (s := 1) (n := 1) (l := [vint y]) c8 rfl rfl)) fun v1' H9 p9 e9 O9 S9 => ?_
    have O29 := ownX_keep O28 S9 (fun j hj hm => by have := (b1 j (Option.mem_toList.1 hm)).2; exact this hj)
    refine ⟨by decide, fill_one (l := [vint (i : Nat)]) rfl rfl rfl (by decide) (fillI (qNew fun Ha pa ea Sa ca la => ⟨by decide, ?_⟩))⟩
    have ca : Ha[pa]? = some (.cells [vint (i : Nat)] true 0) := ca
    have O1a := ownX_keep O9 Sa (by simp)
    have O2a := ownX_keep O29 Sa (by simp)
    have p9lt := ownX_lt O1a p9 rfl
    refine ownX_more O2a (by omega) (by omega) (ownX_sli (ownX_new (s := 1) (n := 1) (l := [vint (i : Nat)]) ca rfl rfl)) fun v2' Hb pb eb Ob Sb => addI (by omega) ?_
    have a8 := a7.same S8 (by simp)
    have hb1 : ∀ x ∈ o1.toList, h.length < x := fun x hx => by have := (b1 x (Option.mem_toList.1 hx)).1; omega
    have hb2 : ∀ x ∈ o2.toList, h.length < x := fun x hx => by have := b2 x (Option.mem_toList.1 hx); omega
    have a9 := a8.same S9 hb1
    have aa := a9.same Sa (by simp)
    have ab := aa.same Sb hb2
    have O1b := ownX_keep O1a Sb (fun j hj hm => by cases hj; have := o2lt p9 (Option.mem_toList.1 hm); omega)
    have hS7 := S47.1
    have hS8 := S8.1
    have hSa := Sa.1
    have S39 : SameX [h.length] H3 H9 := ((S.trans S47).trans S8.weak0).thru S9 (fun y hy => .inr (b1 y (Option.mem_toList.1 hy)).1)
    have S3b : SameX [h.length] H3 Hb := (S39.trans Sa.weak0).thru Sb (fun y hy => .inr (b2 y (Option.mem_toList.1 hy)))
    refine ⟨i + 1, by dsimp only; omega, .inl ⟨_, cs ++ [y], v1', v2', some p9, some pb, ab, by omega, S3b, by omega, ?_, ?_, fun j hj => ?_, fun j hj => ?_, by simp [hcl], fun c hc => ?_, ds, r3, r4, rfl, rfl, by show vint _ = vint _; congr 1⟩⟩
    · rw [List.map_append, List.length_append]
      exact O1b
    · rw [idsI_succ, List.map_append]
      exact Ob
    · cases hj
      exact ⟨by omega, fun e => by injection e with e; omega⟩
    · cases hj
      omega
    · rcases List.mem_append.1 hc with hc | hc
      · exact hcb c hc
      · rw [List.mem_singleton.1 hc]
        exact hyb
  · have hie : i = t.flocks.length := by omega
    have ok : servE t cs = 0 := by
      have e0 := fine_troE f
      have e1 : fewE cs.length t.flocks.length t.flocks.length = 0 := by
        unfold fewE
        rw [if_neg (by omega), if_neg (by omega)]
      unfold servE
      rw [if_neg (by omega), if_neg (by omega), if_pos hcb]
    have s2 : Sli H' v2 1 (idsI i).length ((idsI i).map vint) := by rw [idsI_len]; exact ownX_sli O2
    have cu := unch_at c'
    have tu : SliE (unch H') fv 2 Dro.cells t.flocks := unch_sli t'.at.fl
    have hcu := unch_sli (ownX_sli O1)
    have s2u := unch_sli s2
    have tA : TroAt H' (.agg ⟨troCells t fv⟩) t fv := ⟨rfl, t'.at.fl⟩
    have back : ∀ {H4 : List AObj} {a b c : Value}, SameX [] (unch H') H4 → ((pick26 t cs < 0 ∧ a = .slice none 0 0 ∧ b = vint 0 ∧ c = vint 11) ∨ ∃ (i : Nat) (os : List Nat), pick26 t cs = i ∧ (allOf26 cs)[i]? = some os ∧ Sli H4 a 1 os.length (nvs os) ∧ b = vint ((waits26 t cs).getD i 0) ∧ c = vint 0) → ∀ {F' : Value → RG}, (∀ x, Reg6 v1 x p2 a b c (-1) 0 (F' x)) →
        Good prog (J1 prog W0 Post) 41 [v2] H4 fun v31 h32 => Sem (J1 prog W0 Post) 120 h.length 6 (subC [1, 1, 1, 1, 1, 1, 1, 1, 0, 1, 0] (codeOf f6)) (F' v31) h32 (contX pl6 prog (J1 prog W0 Post) 120 h.length 6 ct6 [1, 1, 1, 1, 1, 1, 1, 1, 0, 1, 0] (codeOf f6) [] (RetQ prog [.tmp 2] h.length K)) := by
      intro H4 a b c S4 res F' hF'
      refine good41 hJ i (by omega) (idsI_len i) (S4.sli s2u (by simp)) fun H5 av o5 S5 L5 _ => ?_
      have T5 := S4.trans S5
      have eL : ordersR i (idsI i) = (allOf26 cs).map (·.map Int.ofNat) := by
        unfold idsI allOf26
        rw [hcl]
        exact orders_is (by omega)
      rw [eL] at L5
      refine loop6 ok (T5.get cu (by simp)) (T5.sli tu (by simp)) (T5.sli hcu (by simp)) (L5.lo (Nat.zero_le _)) (hF' av) ?_ hK
      exact res.imp id fun ⟨i, os, q1, q2, q3, q4, q5⟩ => ⟨i, os, q1, q2, S5.sli q3 (by simp), q4, q5⟩
    refine load_part (c := troCells t fv) c' (by simp [troCells]) rfl (tro_kn tA) (good26 tA (ownX_sli O1) (by omega) (fun he => absurd ok he) (fun _ hlt H4 S4 => ?_) fun _ j c os H4 hj hos S4 hc => ?_)
    · show Good prog (J1 prog W0 Post) 41 [v2] H4 _
      exact back S4 (.inl ⟨hlt, rfl, rfl, rfl⟩) fun x => ⟨ds, r4, r5, rfl, rfl, rfl, rfl, rfl, rfl⟩
    · show Good prog (J1 prog W0 Post) 41 [v2] H4 _
      exact back S4 (.inr ⟨j, os, hj, hos, hc, rfl, rfl⟩) fun x => ⟨ds, r4, r5, rfl, rfl, rfl, rfl, rfl, rfl⟩
end
end Go.Proofs.Ytindillghipjjaa

namespace Go.Proofs.Ytindillghipjjaa
open Go.Conc
section
variable {P : Program} {W0 : World} {Post : Value → World → Prop} {ρ : Env} {h : List AObj} {FC : Frm} {w : World} {ft : Foot} {f : RG} {a : Act} {b : FB} {K : Value → List AObj → Prop} {n0 : Nat}
theorem leave_top {fn : Func} (hk : b.kind = .normal) (hf : P.funcs[b.fn]? = some fn) (hin : P.inits.idxOf? b.fn = none)
    (hc : ∀ v h' ρ' w' ft' cv, K v h' → HRel ρ' h' FC w' ft' → Env.upto n0 ρ ρ' → n0 ≤ h'.length → VRel h'.length ρ' v cv → Base W0 w' → Post cv w') :
    ∀ (ds : List Nat) (h : List AObj) (w : World) (ft : Foot) (a : Act) (fr : Frame), fr.fn = b.fn → fr.kind = .normal → fr.mode = .returning → fr.tmps = a.tmps → fr.defers = ds.map (fun d => { target := .collected (ρ.blk d), args := #[] }) → RegRel h.length ρ f.r a.tmps → HRel ρ h FC w ft → n0 ≤ h.length →
      takeW ds h (fun h => resW P fn.results.toList f.r h fun vs => K (pack vs) h ∨ ∃ σ h' v, GC n0 σ h h' ∧ pack vs = sub σ v ∧ VOk h'.length v ∧ K v h') → J1 P W0 Post (G fr []) w ft
  | [], h, w, ft, a, fr, e1, e2, e3, e4, e5, hr, H, hn, hq => by
    obtain ⟨fn', tmps, todo, defers, mode, kind, ro⟩ := fr
    simp only at e1 e2 e3 e4 e5
    subst e1 e2 e3 e4 e5
    refine J1.both rfl fun w₁ h₁ hbase => .inr ?_
    have H₁ := H.rely h₁
    have hrun : RunsTo P (EvOk ft) (results fn a.tmps) w₁ fun cv w' => w' = w₁ ∧ ∃ vs, cv = ren ρ (pack vs) ∧ (∀ v ∈ vs, VOk h.length v) ∧ (K (pack vs) h ∨ ∃ σ h' v, GC n0 σ h h' ∧ pack vs = sub σ v ∧ VOk h'.length v ∧ K v h') := by
      unfold results
      have : (fn.results.mapM (resF a.tmps)) = List.toArray <$> fn.results.toList.mapM (resF a.tmps) := by
        rw [Array.mapM_eq_mapM_toList]
      show RunsTo P (EvOk ft) (do
        let vs ← fn.results.mapM (resF a.tmps)
        pure (if h : vs.size = 1 then vs[0] else .tuple vs)) w₁ _
      rw [this]
      refine RunsTo.bind (RunsTo.map (res_run (n := 0) H₁ hr fn.results.toList hq fun vs hvs hok => RunsTo.pure ⟨rfl, vs, ?_, hok, hvs⟩))
      exact pack_ren vs
    obtain ⟨cv, w', es, hr', he, rfl, vs, rfl, hvok, hvs⟩ := hrun #[] (by simp)
    have hes : ∀ e ∈ seen P b.fn es, EvOk ft e := fun e hm => he e (mem_seen hm)
    refine ⟨ren ρ (pack vs), seen P b.fn es, ?_, hes, ?_⟩
    · simp only [G, stepG, unwind, List.map_nil, hf, hr']
      simp [doReturn, GStep.after, hin]
    · rcases hvs with hK | ⟨σ, h', v, g, hp, hok, hK⟩
      · exact hc _ h _ w' ft _ hK H₁ (Env.upto_refl _ _) hn (.inr ⟨pack_ok hvok, rfl⟩) hbase
      · rw [hp, ren_sub]
        exact hc v h' _ w' ft _ hK (g.rel H₁) g.upto g.le (.inr ⟨hok, rfl⟩) hbase
  | d :: ds, h, w, ft, a, fr, e1, e2, e3, e4, e5, hr, H, hn, hq => by
    obtain ⟨fn', tmps, todo, defers, mode, kind, ro⟩ := fr
    simp only at e1 e2 e3 e4 e5
    subst e1 e2 e3 e4 e5
    obtain ⟨hd, hq⟩ := hq
    refine (J1.closed P W0 Post).step rfl fun w₁ h₁ => ?_
    have H₁ := H.rely h₁
    obtain ⟨cv, w', es, hr', he, rfl, H', hst, hsz⟩ := take_run (P := P) H₁ hd (Q := fun l w' => l = [] ∧ HRel ρ (h.set d .dead) FC w' ft ∧ Stays ft w₁ w' ∧ w'.heap.size = w₁.heap.size) (fun w' a1 a2 a3 => ⟨rfl, a1, a2, a3⟩) #[] (by simp)
    have hes : ∀ e ∈ seen P b.fn es, EvOk ft e := fun e hm => he e (mem_seen hm)
    refine ⟨G { fn := b.fn, tmps := a.tmps, todo := todo, defers := ds.map (fun d => { target := .collected (ρ.blk d), args := #[] }), mode := .returning, kind := .normal, roundOf := ro } [], w', seen P b.fn es, ?_, rfl, hst.guar hes, ?_⟩
    · simp only [G, stepG, unwind, List.map_cons, hr']
      simp [GStep.after]
    · rw [hsz, Foot.ext_self]
      exact leave_top hk hf hin hc ds _ w' ft a _ rfl rfl rfl rfl rfl (by rw [List.length_set]; exact hr) H' (by rw [List.length_set]; exact hn) hq

theorem top_of_W (hm : P.follows .mixedOrders = true) {g : FuncId} {fn : Func} (hf : P.funcs[g]? = some fn) {c : Code} (hb : fn.body = some c) (hin : P.inits.idxOf? g = none) {args : List Value} {cargs : Array Value} (ha : args.length ≤ fn.ntmps) (hl : cargs.size = args.length)
    (hr : ∀ i : Nat, VRel h.length ρ (args.getD i unk) (cargs.toList.getD i undef)) (H : HRel ρ h FC w ft)
    (hs : W P (J1 P W0 Post) fn.ntmps h.length g c ⟨regs args, []⟩ h (RetQ P fn.results.toList h.length K))
    (hc : ∀ v h' ρ' w' ft' cv, K v h' → HRel ρ' h' FC w' ft' → Env.upto h.length ρ ρ' → h.length ≤ h'.length → VRel h'.length ρ' v cv → Base W0 w' → Post cv w') : J1 P W0 Post (G (Frame.enter P g cargs .normal) []) w ft := by
  have hJ := J1.closed P W0 Post
  obtain ⟨cargs⟩ := cargs
  simp only at hl hr
  have he : Frame.enter P g ⟨cargs⟩ .normal = FB.at ⟨g, .normal, none⟩ ⟨⟨cargs⟩ ++ Array.replicate (fn.ntmps - cargs.length) undef, []⟩ [.code c] := by
    simp [Frame.enter, FB.at, hf, hb]
  rw [he]
  have A : ActRel h.length ρ fn.ntmps ⟨regs args, []⟩ ⟨⟨cargs⟩ ++ Array.replicate (fn.ntmps - cargs.length) undef, []⟩ := by
    refine ⟨fun t => ?_, by simp at hl ⊢; omega, rfl, by simp⟩
    have := hr t
    have ht : ((⟨cargs⟩ : Array Value) ++ Array.replicate (fn.ntmps - cargs.length) undef).getD t undef = cargs.getD t undef := by
      rw [Array.getD_eq_getD_getElem?, List.getD_eq_getElem?_getD]
      by_cases hx : t < cargs.length
      · rw [Array.getElem?_append_left (by simpa using hx)]
        simp
      · rw [Array.getElem?_append_right (by simp; omega), List.getElem?_eq_none (by omega)]
        simp only [Array.getElem?_replicate]
        split <;> rfl
    rw [ht]
    exact this
  have last : ∀ f' h' ρ' w' ft' a' todo, RetQ P fn.results.toList h.length K .ret f' h' → ActRel h'.length ρ' fn.ntmps f' a' → HRel ρ' h' FC w' ft' → Env.upto h.length ρ ρ' → h.length ≤ h'.length →
      J1 P W0 Post (G { (FB.at ⟨g, .normal, none⟩ a' todo) with mode := .returning } []) w' ft' := by
    intro f' h' ρ' w' ft' a' todo q A' H' hu hl
    exact leave_top (b := ⟨g, .normal, none⟩) (f := f') (n0 := h.length) (ρ := ρ') rfl hf hin (fun v h2 ρ2 w2 ft2 cv k H2 u2 l2 v2 => hc v h2 ρ2 w2 ft2 cv k H2 (Env.upto_trans hu u2) l2 v2) f'.ds h' w' ft' a' _ rfl rfl rfl rfl A'.defers A'.regs H' hl q
  refine W_sound hJ hm c hs ⟨g, .normal, none⟩ _ [] [] (fun jump a w ft => jump = some .ret ∧ ∀ todo, J1 P W0 Post (G { (FB.at ⟨g, .normal, none⟩ a todo) with mode := .returning } []) w ft) ρ FC w ft rfl (by simp) ?_ A H (Nat.le_refl _) ?_
  · rintro jump a w ft todo ⟨rfl, hj⟩ hh
    rcases hh with ⟨_, k, rfl⟩ | ⟨id, k, e, _⟩ | ⟨e, _⟩
    · exact hJ.ctrl rfl rfl (fun w => by simp [G, stepG, stepG.exec, FB.at]) (hj (.code .ret :: k))
    · cases e
    · cases e
  · intro e f' h' ρ' w' ft' a' q A' H' hu hl
    cases e with
    | normal => exact hJ.ctrl rfl rfl (fun w => by simp [G, stepG, stepG.exec, FB.at]) (last f' h' ρ' w' ft' a' [] q A' H' hu hl)
    | ret => exact ⟨rfl, fun todo => last f' h' ρ' w' ft' a' todo q A' H' hu hl⟩
    | exit id => exact q.elim
    | goto l => exact q.elim
    | panic l => exact q.elim
    | outgrown => exact q.elim

theorem run_of_J1 {g : Goroutine} {w : World} {ft : Foot} (h : J1 P W0 Post g w ft) (hb : ∀ b, ft.rd b → b < w.heap.size) (hs : ∀ b, ft.wr b → ft.rd b) (hw : W0 = w) : Ends P Post (solo g w) #[] := by
  rw [solo_eq_crowd]
  exact h #[g] w none #[] (fun _ => 0) hb hs (RelyW.refl _ _) (by subst hw; exact ⟨rfl, rfl, rfl, Nat.le_refl _⟩) rfl (leavers_one P g) (past_nil.mono (Nat.zero_le _))
end
end Go.Proofs.Ytindillghipjjaa

namespace Go.Proofs.Ytindillghipjjaa
open Go.Conc Go.RowKit
def idEnv : Env := ⟨fun b => b, fun _ => 0⟩
def startFt (w : World) : Foot := ⟨fun b => b < w.heap.size, fun _ => False⟩
def startFC (w : World) : Frm := ⟨fun b => w.heap[b]?, fun _ => False⟩

def Fine (n : Nat) (v : Value) : Prop := VOk n v ∧ one v = true ∧ ren idEnv v = v

open Classical in
noncomputable def clean (n : Nat) (v : Value) : Value := if Fine n v then v else unk

noncomputable def absO (n : Nat) : Obj → AObj
  | .cells c _ _ => .cells (c.toList.map (clean n)) false 0
  | _ => .dead

noncomputable def absH (w : World) : List AObj := w.heap.toList.map (absO w.heap.size)

section
variable {w w' : World} {n : Nat}
theorem clean_fine {v : Value} (h : Fine n v) : clean n v = v := by simp [clean, h]
theorem absH_len : (absH w).length = w.heap.size := by simp [absH]
theorem absH_get {b : Nat} : (absH w)[b]? = (w.heap[b]?).map (absO w.heap.size) := by simp [absH]

theorem absO_wrt (x : Obj) : (absO n x).wrt = false := by cases x <;> rfl

theorem start_rel (w : World) : HRel idEnv (absH w) (startFC w) w (startFt w) where
  obj := fun b o hb => by
    rw [absH_get] at hb
    obtain ⟨x, hx, rfl⟩ := Option.map_eq_some_iff.1 hb
    show ORel (absH w).length idEnv b (absO w.heap.size x) w.heap[b]?
    rw [absH_len, hx]
    cases x with
    | cells c ty fr =>
      refine ⟨fun i v hv => ?_, fun _ => by simp, fun hz => absurd rfl hz, fun e => by cases e⟩
      rw [List.getElem?_map] at hv
      obtain ⟨u, hu, rfl⟩ := Option.map_eq_some_iff.1 hv
      by_cases hf : Fine w.heap.size u
      · rw [clean_fine hf]
        exact .inr ⟨hf.1, hf.2.1, by rw [hf.2.2]; simpa using hu⟩
      · exact .inl ⟨by simp [clean, hf], rfl⟩
    | _ => trivial
  inj := fun b b' o o' _ _ _ _ e => e
  rd := fun b o hb _ => by
    have : b < (absH w).length := (List.getElem?_eq_some_iff.1 hb).1
    rw [absH_len] at this
    exact this
  wr := fun b o hb hw => by
    rw [absH_get] at hb
    obtain ⟨x, hx, rfl⟩ := Option.map_eq_some_iff.1 hb
    rw [absO_wrt] at hw
    cases hw
  lt := fun b hb => hb
  sub := fun b hb => hb.elim
  kept := fun b o hb => by
    refine ⟨hb, ?_, fun a oa ha hw => ?_⟩
    · exact (Array.getElem?_eq_some_iff.1 hb).1
    · rw [absH_get] at ha
      obtain ⟨x, hx, rfl⟩ := Option.map_eq_some_iff.1 ha
      rw [absO_wrt] at hw
      cases hw
  keptW := fun b hb => hb.elim

theorem absH_cell {b o : Nat} {v : Value} (hc : w.cell? ⟨b, o, none⟩ = some v) (hf : Fine w.heap.size v) : ∃ c, (absH w)[b]? = some (.cells c false 0) ∧ c[o]? = some v := by
  unfold World.cell? at hc
  simp only at hc
  split at hc
  · rename_i c ty fr hx
    refine ⟨c.toList.map (clean w.heap.size), by rw [absH_get, hx]; rfl, ?_⟩
    have hc' : c[o]? = some v := by simpa using hc
    rw [List.getElem?_map, Array.getElem?_toList, hc']
    simp [clean_fine hf]
  · cases hc

theorem below_of {ρ' : Env} {h' : List AObj} {ft' : Foot} (H : HRel ρ' h' (startFC w) w' ft') (B : Base w w') : Below w.heap.size w w' :=
  ⟨B.os, B.tape, B.output, B.size, fun k hk => by
    have : (startFC w).ob k = some w.heap[k] := by simp [startFC, hk]
    rw [(H.kept k _ this).1, Array.getElem?_eq_getElem hk]⟩
end
end Go.Proofs.Ytindillghipjjaa

namespace Go.Proofs.Ytindillghipjjaa
open Go.Conc Go.ChangeShapes Go.WideShapes Go.ChangeAt Go.RowKit Go.Proofs.Try
set_option maxRecDepth 100000
theorem own : ownKnob prog.godebug = none := by kernel_rfl
theorem laidOut : laidOutB prog = true := by kernel_rfl

def ArgOk (W : World) (v : Value) : Prop := VOk W.heap.size v ∧ ren idEnv v = v

theorem law_run1 {g : FuncId} {fn : Func} {c : Code} (hf : prog.funcs[g]? = some fn) (hb : fn.body = some c) (hin : prog.inits.idxOf? g = none) (W₀ : World) (args : List Value) (ha : args.length ≤ fn.ntmps) (hok : ∀ v ∈ args, ArgOk W₀ v)
    (walk : ∀ Post, W prog (J1 prog W₀ Post) fn.ntmps (absH W₀).length g c ⟨regs args, []⟩ (absH W₀) (RetQ prog fn.results.toList (absH W₀).length fun v _ => v = .bool true)) :
    Ends prog (fun v w' => v = .bool true ∧ Below W₀.heap.size W₀ w') (solo (G (Frame.enter prog g ⟨args⟩ .normal) []) W₀) #[] := by
  refine run_of_J1 (W0 := W₀) (ft := startFt W₀) (top_of_W mixed hf hb hin ha rfl (fun i => ?_) (start_rel W₀) (walk _) ?_) (fun b hb => hb) (fun b hb => hb.elim) rfl
  · show VRel (absH W₀).length idEnv (args.getD i unk) (args.getD i undef)
    simp only [List.getD_eq_getElem?_getD]
    cases hi : args[i]? with
    | none => exact .inl rfl
    | some v =>
      obtain ⟨h1, h2⟩ := hok v (List.mem_of_getElem? hi)
      exact .inr ⟨by rw [absH_len]; exact h1, h2.symm⟩
  · intro v h' ρ' w' ft' cv hv H' _ _ hcv hB
    subst hv
    refine ⟨?_, below_of H' hB⟩
    rcases hcv with e | ⟨_, e⟩
    · cases e
    · rw [e]
      rfl

section
variable {H : Type} {enc : TypeId × Value → H}
theorem arg_ints {t e : TypeId} (ht : prog.underlying t = some (.slice e)) (he : prog.underlying e = some (.int .i64)) (hc : prog.cellsOf e = 1) {W : World} {base : Nat} {v : Value} {d : DataW H} {ps : List MemPlace}
    (hval : Value.okWide prog W .any base t v) (hd : DataW.Trod enc prog W 0 (fun _ => true) true t v d ps) :
    ∃ zs : List Int, Sli (absH W) v 1 zs.length (zs.map vint) ∧ ArgOk W v ∧ (zs = [] ∨ ∃ es sp, d = .slice es sp ∧ zs.length ≤ es.length + sp.length) := by
  obtain ⟨a0, len, cap, rfl⟩ := okWide_slice ht hval
  obtain ⟨fuel, hf⟩ := hd
  rcases open_ints ht he hc hf with ⟨hcs, hx⟩ | ⟨a, len', cap', zs, hcs, _, hl, hm, hz, hx, hcell, hwz⟩
  · simp [Value.cells] at hcs
    obtain ⟨rfl, rfl, rfl⟩ := hcs
    exact ⟨[], sli_nil, ⟨by simp [VOk], by simp [ren]⟩, .inl rfl⟩
  · simp [Value.cells] at hcs
    obtain ⟨rfl, rfl, rfl⟩ := hcs
    simp only [Prod.mk.injEq] at hx
    obtain ⟨rfl, rfl⟩ := hx
    simp only [if_true] at hz
    simp only [Value.okWide, ht, Cell.okWide, Cell.ok, World.has] at hval
    obtain ⟨_, _, _, hspot, row, cells, hshape, _⟩ := hval
    obtain ⟨b, o, spot⟩ := a
    simp only at hspot hshape
    subst hspot
    have hb : b < W.heap.size := by
      unfold World.shape? at hshape
      split at hshape
      · rename_i h
        exact (Array.getElem?_eq_some_iff.1 h).1
      · cases hshape
    have hlen : (zs.take len).length = len := by simp; omega
    have hcell' : ∀ i, i < zs.length → W.cell? ⟨b, o + i, none⟩ = some (vint (zs.getD i 0)) := by
      intro i hi
      have := hcell i hi
      unfold Addr.add at this
      by_cases h0 : i = 0
      · subst h0; simpa using this
      · simpa [h0] using this
    have hmax : cap < fz := by
      simp only [maxLen] at hm
      unfold fz
      omega
    refine ⟨zs.take len, ?_, ⟨by simp only [VOk, AddrOk]; exact ⟨hb, trivial⟩, ?_⟩, .inr ⟨_, _, rfl, ?_⟩⟩
    · refine ⟨some ⟨b, o, none⟩, cap, by rw [hlen], ⟨by simp, kn_ints _⟩, .inr ⟨b, o, rfl, ?_⟩⟩
      rw [hlen]
      by_cases h0 : len = 0
      · exact .inl h0
      · right
        have fine : ∀ n : Int, Fine W.heap.size (vint n) := fun n => ⟨by simp [VOk], rfl, by simp [ren]⟩
        obtain ⟨c, hc1, hc2⟩ := absH_cell (hcell' 0 (by omega)) (fine _)
        refine ⟨c, false, 0, hc1, ?_⟩
        apply List.ext_getElem?
        intro i
        rw [Nat.mul_one]
        by_cases hi : i < len
        · obtain ⟨c', hc1', hc2'⟩ := absH_cell (hcell' i (by omega)) (fine _)
          rw [hc1] at hc1'
          cases hc1'
          rw [List.getElem?_take, if_pos hi, List.getElem?_drop, hc2']
          have hzi : i < zs.length := by omega
          simp [hi, hzi]
        · rw [List.getElem?_take, if_neg hi, List.getElem?_eq_none (by simp; omega)]
    · have hnf : ¬ fz ≤ cap := by omega
      simp [ren, renAddr, renCap, idEnv, hnf]
    · simp only [lits, List.length_map, List.length_take, List.length_drop]
      omega
end
end Go.Proofs.Ytindillghipjjaa

namespace Go.Proofs.Ytindillghipjjaa
open Go.Conc Go.ChangeShapes Go.WideShapes Go.ChangeAt Go.RowKit Go.Proofs.Try
set_option maxRecDepth 100000
theorem lifted6 (os : Os) (started : os.Started) (H : Type) (enc : TypeId × Value → H) :
    ReturnsInLeavingWide {} checked os 6 .any (Rows.wellServedSpec.pre6 enc prog f6 Rows.wellServedRow.domain false) (Rows.wellServedSpec.post enc prog f6 false true false false) := by
  refine returnsInLeavingWide_of_change_sized (C := checked) own started at6
    (ChangeSpec.witness6 (enc := enc) (C := checked) false ⟨#[], #[.slice none 0 0], []⟩ 8 (by kernel_rfl) (by kernel_rfl) (by kernel_rfl) (by kernel_rfl)) ?_
  intro W base args ds gs before hval0 hW _ hsz0 _
  have hsz : (DataW.weightsEach prog (f6.params.toList ++ Rows.wellServedSpec.plain.varTypes prog) (ds ++ gs)).all (· ≤ reachBytes) = true := hsz0
  clear hsz0
  have hval : ∀ (j : Nat) t v, f6.params[j]? = some t → args[j]? = some v → Value.okWide prog W .any base t v := hval0
  have hW' := hW
  obtain ⟨p, q, hA0, hV, rfl, _, _⟩ := hW
  have hA : DataW.TrodAll enc prog W 0 (fun _ => true) true f6.params.toList args.toList ds p := hA0
  have hps : f6.params = #[27] := by kernel_rfl
  rw [hps] at hA hval hsz
  obtain ⟨v0, d0, rfl, rfl, h0⟩ := trodAll_one hA
  obtain ⟨rfl, rfl⟩ := trodVars_none hV
  have u3 : prog.underlying 3 = some (.int .i64) := by kernel_rfl
  have u27 : prog.underlying 27 = some (.slice 3) := by kernel_rfl
  have u4 : prog.underlying 4 = some .bool := by kernel_rfl
  have c3 : prog.cellsOf 3 = 1 := by kernel_rfl
  have b3 : prog.bytesOf 3 = 8 := by kernel_rfl
  have hlt : ∀ x ∈ p, x.block < W.heap.size := fun x hx => by simpa using hW'.lt x (by simpa using hx)
  have hargs : ∀ (W' : World), Below W.heap.size W W' → DataW.TrodAll enc prog W' 0 (fun b => decide (b < W.heap.size)) true [27] [v0] [d0] p := fun W' hn =>
    trodAll_mk1 (Below.trod laidOut (by kernel_rfl) (of_decide_eq_true (by kernel_rfl)) h0 hn hlt)
  obtain ⟨ns, sn, ok2, hbig⟩ := arg_ints u27 u3 c3 (hval 0 27 v0 rfl rfl) h0
  have hln : ns.length < 4611686018427387904 := by
    rcases hbig with rfl | ⟨es, sp, rfl, hle⟩
    · simp
    · have := sized_slice hsz (j := 0) (t := 27) (e := 3) rfl rfl u27
      rw [b3] at this
      simp only [reachBytes] at this
      omega
  obtain ⟨M, last, o, w', t', r1, r2, r3, r4⟩ := law_run1 (g := 6) (fn := f6) at6 body6 (by kernel_rfl) W [v0] (Nat.le_of_ble_eq_true (by kernel_rfl : Nat.ble 1 f6.ntmps = true))
    (by
      intro v hv
      simp only [List.mem_cons, List.not_mem_nil, or_false] at hv
      subst hv
      exact ok2)
    (fun Post => walk6 (K := fun v _ => v = .bool true) sn hln fun _ => rfl)
  refine ⟨M, last, o, w', t', r1, r2, r3, r4.mono fun v hF => ?_⟩
  obtain ⟨rfl, hbelow⟩ := hF
  refine ⟨_, _, _, [], _, [], hW', ?_, hargs _ hbelow, by rfl, hbelow.frame _, fun h => by cases h⟩
  exact trodAll_mk1 (shut_bool u4 true)

theorem wellServed_holds : Rows.WellServedSaid :=
  OpenClaim.holds_of_wide_leaving 6 f6 rfl rfl rfl rfl rfl rfl rfl ⟨rfl, rfl, rfl, rfl, rfl⟩ rfl rfl rfl rfl rfl (by kernel_rfl) at6 (by kernel_rfl)
    (of_decide_eq_true (by kernel_rfl)) (by unfold Func.isWrapper; first | (rw [if_pos (by decide +kernel)]; kernel_rfl) | (rw [if_neg (by decide +kernel)]; exact ⟨rfl, rfl⟩))
    (fun os started H enc _ => lifted6 os started H enc)

#print axioms wellServed_holds
end Go.Proofs.Ytindillghipjjaa
