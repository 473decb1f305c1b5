/- Parts of the proof, 5. No conditions. -/
import Derived.Test.YtdgpacdknpahnaaK3
import Derived.Test.YtdgpacdknpahnaaK4
import Derived.Test.YtdgpacdknpahnaaK2
import Derived.Conc.Holds
import Derived.Conc.Beside
import Derived.Conc.CrowdComm

namespace Go.Proofs.Ytdgpacdknpahnaa
open Go.Conc Go.Proofs.Try
set_option maxRecDepth 100000
def limA (t : Tal) (u : Int) : Nat → Rng := limN u t.counts t.counts.length
def bkN (t : Tal) (L : Nat → Rng) : Nat → Rng
  | 0 => fwd t L (t.gates.toNat - 1)
  | n + 1 => (fwd t L (t.gates.toNat - 2 - n)).meet ((bkN t L n).plus (stretchR t (t.gates.toNat - 2 - n)).turn)
def bkR (t : Tal) (L : Nat → Rng) (g : Nat) : Rng := bkN t L (t.gates.toNat - 1 - g)
def trulyL (t : Tal) : List Rng := (List.range t.gates.toNat).map (bkR t (limA t 0))

theorem bkR_last {t : Tal} {L : Nat → Rng} {g : Nat} (hg : t.gates.toNat = g + 1) : bkR t L g = fwd t L g := by
  unfold bkR
  rw [hg, show g + 1 - 1 - g = 0 from by omega]
  show fwd t L _ = _
  rw [hg]
  rfl
theorem bkR_step {t : Tal} {L : Nat → Rng} {g : Nat} (hg : g + 1 < t.gates.toNat) : bkR t L g = (fwd t L g).meet ((bkR t L (g + 1)).plus (stretchR t g).turn) := by
  unfold bkR
  obtain ⟨n, hn⟩ : ∃ n, t.gates.toNat - 1 - g = n + 1 := ⟨t.gates.toNat - 2 - g, by omega⟩
  rw [hn, show t.gates.toNat - 1 - (g + 1) = n from by omega]
  show (fwd t L (t.gates.toNat - 2 - n)).meet ((bkN t L n).plus (stretchR t (t.gates.toNat - 2 - n)).turn) = _
  rw [show t.gates.toNat - 2 - n = g from by omega]
theorem bkR_sm {t : Tal} (h : TalFine t) {L : Nat → Rng} (hL : ∀ g, (L g).sm 1000) (g : Nat) : (bkR t L g).sm 100000 := by
  have hg := h.gates
  have key : ∀ n : Nat, n < 5 → (bkN t L n).sm (6000 + 1000 * n) := by
    intro n
    induction n with
    | zero =>
      intro _
      exact Rng.sm_le (fwd_sm h hL _) (by omega)
    | succ n ih =>
      intro hn
      refine Rng.sm_meet (Rng.sm_le (fwd_sm h hL _) (by omega)) ?_
      exact Rng.sm_le (Rng.sm_plus (ih (by omega)) (Rng.sm_turn (stretch_sm h _))) (by omega)
  exact Rng.sm_le (key (t.gates.toNat - 1 - g) (by omega)) (by omega)
theorem limA_sm {t : Tal} (h : TalFine t) (u : Int) : ∀ g, (limA t u g).sm 1000 := limN_sm (fun c hc => (h.cosm.2 c hc).2) _

section
variable {main : Bool} {J : JT} {h h0 : List AObj} {K : Value → List AObj → Prop} {KV : Value → Prop} {HL : List AObj → Prop} {n0 : Nat}
theorem good95 (hJ : Closed prog main J) {v cv nv : Value} {t : Tal} (ht : TalAt h v t cv nv) (hs : SliE h0 cv 2 Rng.cells t.changes) (hs2 : SliE h0 nv 4 Cnt.cells t.counts) (hp : ∃ g, h = h0 ++ g)
    (hK : ∀ H bw bm, SameX [] h H → h.length ≤ bw → h.length ≤ bm → bw ≠ bm → WorkIn h0 H bw t cv nv 0 (.map (some bm)) → H[bm]? = some (.map [] true) → K (ptr bw 0) H) : Good prog J 95 [v] h K := by
  refine g95 hJ fun ok => ?_
  rw [e95, ht.val]
  have k1 : kn1 cv = true ∧ kn1 nv = true := ⟨(sli_one ht.ch).2.2, (sli_one ht.co).2.2⟩
  refine qBox (tal_one ht) fun H1 p1 e1 S1 b1 l1 => load_part (c := talCells t cv nv) b1 (by rw [cs_val]; omega) rfl (tal_kn k1.1 k1.2) ?_
  refine qNewM fun H2 p2 e2 S2 b2 l2 => ?_
  refine fill_agg (l := talCells t cv nv) rfl (tal_one ht) (by simp) (fill1 rfl rfl (by simp [wrAt, talCells]) (fillI ?_))
  have hone : (talCells t cv nv ++ [Value.int .u64 0, .map (some p2)]).all one = true := by
    rw [List.all_append, tal_one ht]
    rfl
  refine qBox (l := talCells t cv nv ++ [Value.int .u64 0, .map (some p2)]) hone fun H3 p3 e3 S3 b3 l3 => ?_
  have S13 : SameX [] h H3 := (S1.trans S2).trans S3
  refine retL_same (by simp [ptr, unk]) (hK H3 p3 p2 S13 (by omega) (by omega) (by omega) ⟨b3, ?_, hs, hs2⟩ (S3.get b2 (by simp)))
  obtain ⟨g, rfl⟩ := hp
  obtain ⟨g', e⟩ := S13.app0 (by simp)
  exact ⟨g ++ g', by rw [e, List.append_assoc]⟩

theorem good71 (hJ : Closed prog main J) {v cv nv : Value} {t : Tal} (ht : TalAt h v t cv nv)
    (hK : ∀ H bw bm, SameX [] h H → h.length ≤ bw → h.length ≤ bm → bw ≠ bm → WorkIn h H bw t cv nv 0 (.map (some bm)) → H[bm]? = some (.map [] true) → K (.tuple ⟨[ptr bw 0, vint (talErr t)]⟩) H) : Good prog J 71 [v] h K := by
  refine g71 hJ fun ok => ?_
  rw [e71, ht.val]
  have k1 : kn1 cv = true ∧ kn1 nv = true := ⟨(sli_one ht.ch).2.2, (sli_one ht.co).2.2⟩
  refine qBox (tal_one ht) fun H1 p1 e1 S1 b1 l1 => ⟨[p1], ?_⟩
  refine load_part (c := talCells t cv nv) b1 (by rw [cs_val]; omega) rfl (tal_kn k1.1 k1.2) ⟨by simp [RdOk, ptrBlk, ptr], ?_⟩
  refine load_part (c := talCells t cv nv) b1 (by rw [cs_val]; omega) rfl (tal_kn k1.1 k1.2) ⟨by simp [RdOk, ptrBlk, ptr], ?_⟩
  have t1 : TalAt H1 (.agg ⟨talCells t cv nv⟩) t cv nv := ⟨rfl, S1.sli ht.ch (by simp), S1.sli ht.co (by simp)⟩
  obtain ⟨g, hg⟩ := S1.app0 (by simp)
  refine good95 hJ t1 ht.ch ht.co ⟨g, hg⟩ fun H2 bw bm S2 a1 a2 a3 w hm => ⟨fun b hb => ?_, ?_⟩
  · simp at hb
    subst hb
    exact S2.2 _ (lt_of_get b1) (by simp)
  have t2 : TalAt H2 (.agg ⟨talCells t cv nv⟩) t cv nv := ⟨rfl, S2.sli t1.ch (by simp), S2.sli t1.co (by simp)⟩
  refine good51 hJ t2 ⟨fun b hb => ?_, ?_⟩
  · simp at hb
    subst hb
    exact S2.2 _ (lt_of_get b1) (by simp)
  exact retL_same (by simp [ptr, unk]) (hK H2 bw bm (S1.trans S2) (by omega) (by omega) a3 w hm)

noncomputable abbrev lp72 (st : LoopState) (pend : Option Code) (r : Nat → Value) (d : Nat) : AObj := .loop st pend 72 r 60 #[23, 24] (subC [1, 1, 1, 0, 1, 0, 0] (codeOf f72)) (subC [1, 1, 1, 0, 1, 0, 1] (codeOf f72)) d

def outF (t : Tal) (L : Nat → Rng) (g : Nat) : Nat → Rng := fun j => if j < g then fwd t L j else ⟨0, 0⟩
def outB (t : Tal) (L : Nat → Rng) (g : Nat) : Nat → Rng := fun j => if j < g then fwd t L j else bkR t L j

theorem round72 (hJ : Closed prog main J) {H : List AObj} {l p4 po d g G : Nat} {r : Nat → Value} {s : Rng} {f : Nat → Rng} {Q : Value → List AObj → Prop} (hl : H[l]? = some (lp72 .ready none r d))
    (r4 : r 4 = ptr p4 0) (h4 : H[p4]? = some (.cells [.slice (some ⟨po, 0, none⟩) G G] true 0)) (ho : H[po]? = some (.cells (rngsC f G) true 0)) (hg : g < G) (n1 : p4 ≠ l) (n2 : po ≠ l) (n3 : p4 ≠ po)
    (h1 : ∀ H', SameX [l, po] H H' → H'[l]? = some (lp72 .ready none r d) → H'[po]? = some (.cells (rngsC (fun j => if j = g then s else f j) G) true 0) → Q (.bool true) H') :
    callV prog (Good prog J) (.func (.yield l) ⟨[]⟩ ⟨[]⟩) [vint g, s.val] H Q := by
  show Good prog J (yid prog l) [vint g, s.val] H Q
  have hll := lt_of_get hl
  refine good_round hJ hl rfl (by decide) fun ok => W_sound hJ mixed _ ?_
  rw [a72_1]
  refine qAl fun H1 p e1 S1 b1 l1 => ?_
  refine qStA (c := s.cells) b1 rfl rfl rfl fun H2 S2 b2 l2 => ?_
  refine ⟨rfl, none, _, _, _, _, _, _, _, S2.get (S1.get hl (by simp)) (by simp; omega), W_sound hJ mixed _ ?_⟩
  rw [b72_1]
  have hpo := lt_of_get ho
  have hp4 := lt_of_get h4
  have S3 : SameX [l] H2 (H2.set l (lp72 .busy none r d)) := SameX.refl.set (.inl (by simp))
  have z4 := S3.get (S2.get (S1.get h4 (by simp)) (by simp; omega)) (by simp; omega)
  show aLoad false 1 (r 4) _ _
  rw [r4]
  refine ldI z4 rfl rfl ?_
  refine load_part (c := s.cells) (S3.get b2 (by simp; omega)) (by simp [Rng.cells]) rfl rfl ?_
  refine idxI ⟨by omega, by omega⟩ ?_
  rw [Int.toNat_natCast, Nat.zero_add]
  have zo := S3.get (S2.get (S1.get ho (by simp)) (by simp; omega)) (by simp; omega)
  refine qSt2 zo (by rw [rngsC_len]; omega) rfl rfl fun H4 S4 b4 l4 => ?_
  rw [rngsC_set f s hg] at b4
  have hl2 : l < H2.length := by omega
  refine ⟨.busy, none, _, _, _, _, _, _, _, S4.get (List.getElem?_set_self hl2) (by simp; omega), .inl (h1 _ ?_ (List.getElem?_set_self (by rw [l4]; simpa using hl2)) (get_set b4 n2))⟩
  have S12 : SameX [l, po] H H2 := (S1.weak0).thru S2 (by simp; omega)
  refine SameX.set ?_ (.inl (by simp))
  exact (S12.thru S3 (by simp)).thru S4 (by simp)

theorem back72 (hJ : Closed prog main J) {H : List AObj} {f : RG} {bw bm p4 po d : Nat} {t : Tal} {cv nv : Value} {u : Int} {L : Nat → Rng} {s : Nat} {nx0 : RG → List AObj → Prop} (w : WorkIn h0 H bw t cv nv u (.map (some bm))) (fine : TalFine t) (hL : ∀ g, (L g).sm 1000)
    (hs : s < t.gates.toNat) (z4 : H[p4]? = some (.cells [.slice (some ⟨po, 0, none⟩) t.gates.toNat t.gates.toNat] true 0)) (zo : H[po]? = some (.cells (rngsC (outB t L s) t.gates.toNat) true 0)) (hn : p4 ≠ po) (hd : H[d]? = some .deferred) (hdp : d ≠ po)
    (ds : f.ds = [d]) (r0 : f.r 0 = ptr bw 0) (r4 : f.r 4 = ptr p4 0) (r7 : f.r 7 = .func (.func 98) ⟨[]⟩ ⟨[]⟩) (r8 : f.r 8 = .func (.func 99) ⟨[]⟩ ⟨[]⟩) (r9 : f.r 9 = vint ((s : Int) - 1))
    (hx : 0 < s → ∀ H' f', SameX [po] H H' → H'[po]? = some (.cells (rngsC (outB t L (s - 1)) t.gates.toNat) true 0) → f'.ds = [d] → f'.r 0 = ptr bw 0 → f'.r 4 = ptr p4 0 → f'.r 7 = .func (.func 98) ⟨[]⟩ ⟨[]⟩ → f'.r 8 = .func (.func 99) ⟨[]⟩ ⟨[]⟩ → f'.r 9 = vint ((s : Int) - 1 - 1) → nx0 f' H')
    (hK : s = 0 → K (.tuple ⟨[.slice (some ⟨po, 0, none⟩) t.gates.toNat t.gates.toNat, .bool true]⟩) (H.set d .dead)) :
    W prog J 60 n0 72 (subC [1, 1, 1, 1, 1, 0, 1, 0, 0] (codeOf f72)) f H (thenK nx0 (contQ prog J 60 n0 72 [1, 1, 1, 1, 1, 0, 1, 0] (codeOf f72) [] (RetQ prog [.tmp 2, .tmp 3] n0 K))) := by
  have hg := fine.gates
  have hch := fine.chl
  rw [s72_2]
  simp only [r0, r4, r7, r8, r9, ds]
  refine geqI (cndI (fun hge => ?_) fun hlt => ?_)
  · refine ⟨[p4, po], ldI z4 rfl rfl ⟨by simp [RdOk, ptrBlk, ptr], ldI z4 rfl rfl ⟨by simp [RdOk, ptrBlk, ptr], ?_⟩⟩⟩
    have e1 : (s : Int) - 1 = ((s - 1 : Nat) : Int) := by omega
    have e2 : ((s - 1 : Nat) : Int) + 1 = (s : Nat) := by omega
    rw [e1]
    refine idxI ⟨by omega, by omega⟩ ?_
    rw [Int.toNat_natCast, Nat.zero_add]
    refine load_part (c := (outB t L s (s - 1)).cells) zo (by rw [rngsC_len]; omega) (rngsC_get _ (by omega)) rfl ⟨by simp [RdOk, ptrBlk, ptr], ldI z4 rfl rfl ⟨by simp [RdOk, ptrBlk, ptr], addI (by omega) ?_⟩⟩
    rw [e2]
    refine idxI ⟨by omega, by omega⟩ ?_
    rw [Int.toNat_natCast, Nat.zero_add]
    refine load_part (c := (outB t L s s).cells) zo (by rw [rngsC_len]; omega) (rngsC_get _ (by omega)) rfl ⟨by simp [RdOk, ptrBlk, ptr], ?_⟩
    have hj : s - 1 < t.changes.length := by omega
    refine good101 hJ w.work hj ?_ (by have := fine.most; omega) ⟨fun _ _ => rfl, ?_⟩
    · have := fine.ch _ (List.getElem_mem hj)
      unfold Rng.sm
      omega
    have b1 : outB t L s (s - 1) = fwd t L (s - 1) := by
      unfold outB
      rw [if_pos (by omega)]
    have b2 : outB t L s s = bkR t L s := by
      unfold outB
      rw [if_neg (by omega)]
    rw [b1, b2]
    show Good prog J 98 [(stretchR t (s - 1)).val] _ _
    refine good98 hJ (Rng.sm_le (stretch_sm fine _) (by omega)) ⟨fun _ _ => rfl, ?_⟩
    refine good100 hJ (r := bkR t L s) (q := (stretchR t (s - 1)).turn) (Rng.sm_le (bkR_sm fine hL s) (by omega)) (Rng.sm_le (Rng.sm_turn (stretch_sm fine _)) (by omega)) ⟨fun _ _ => rfl, ?_⟩
    show Good prog J 99 [(fwd t L (s - 1)).val, _] _ _
    refine good99 hJ (r := fwd t L (s - 1)) (q := (bkR t L s).plus (stretchR t (s - 1)).turn) ⟨fun _ _ => rfl, ?_⟩
    have b3 : (fwd t L (s - 1)).meet ((bkR t L s).plus (stretchR t (s - 1)).turn) = bkR t L (s - 1) := by
      rw [bkR_step (t := t) (L := L) (g := s - 1) (by omega), show s - 1 + 1 = s from by omega]
    rw [b3]
    refine idxI ⟨by omega, by omega⟩ ?_
    rw [Int.toNat_natCast, Nat.zero_add]
    refine qSt2 zo (by rw [rngsC_len]; omega) rfl rfl fun H1 S1 c1 l1 => subI (by omega) ?_
    rw [rngsC_set _ _ (by omega)] at c1
    have b4 : rngsC (fun j => if j = s - 1 then bkR t L (s - 1) else outB t L s j) t.gates.toNat = rngsC (outB t L (s - 1)) t.gates.toNat := rngsC_congr fun j _ => by
      unfold outB
      by_cases h1 : j = s - 1
      · subst h1
        rw [if_pos rfl, if_neg (by omega)]
      · rw [if_neg h1]
        by_cases h2 : j < s - 1
        · rw [if_pos (by omega), if_pos h2]
        · rw [if_neg (by omega), if_neg h2]
    rw [b4] at c1
    refine hx (by omega) H1 _ S1 c1 ds r0 r4 r7 r8 ?_
    show vint _ = vint _
    congr 1
    omega
  · refine ldI z4 rfl rfl (retL_def hd (by simp [unk]) (hK (by omega)))

theorem outF_all {t : Tal} {L : Nat → Rng} : rngsC (outF t L t.gates.toNat) t.gates.toNat = rngsC (outB t L (t.gates.toNat - 1)) t.gates.toNat := by
  refine rngsC_congr fun j hj => ?_
  unfold outF outB
  rw [if_pos hj]
  split
  · rfl
  · exact (bkR_last (by omega)).symm

theorem range72 (hJ : Closed prog main J) {n0 p4 po b1 b2 bw bm : Nat} {t : Tal} {L : Nat → Rng} {cv nv : Value} {u : Int} {f : RG} (w : WorkIn h0 h bw t cv nv u (.map (some bm))) (fine : TalFine t) (hL : ∀ g, (L g).sm 1000) (hT : TruthIs t L)
    (q1 : h[p4]? = some (.cells [.slice (some ⟨po, 0, none⟩) t.gates.toNat t.gates.toNat] true 0)) (q2 : h[po]? = some (.cells (rngsC (outF t L 0) t.gates.toNat) true 0)) (q3 : h[b1]? = some (.cells [ptr bw 0] true 0)) (q4 : h[b2]? = some (.cells (limCells L) true 0))
    (d1 : p4 ≠ po) (d2 : po ≠ b1) (d3 : po ≠ b2) (d4 : po ≠ bw) (hpo : h0.length ≤ po)
    (ds : f.ds = []) (r0 : f.r 0 = ptr bw 0) (r4 : f.r 4 = ptr p4 0) (r22 : f.r 22 = .func (.func 111) ⟨[]⟩ ⟨[ptr b1 0, ptr b2 0]⟩)
    (hK : ∀ H, SameX [po] h H → H[po]? = some (.cells (rngsC (bkR t L) t.gates.toNat) true 0) → K (.tuple ⟨[.slice (some ⟨po, 0, none⟩) t.gates.toNat t.gates.toNat, .bool true]⟩) H) :
    Sem J 60 n0 72 (subC [1, 1, 1, 0, 1, 0] (codeOf f72)) f h (contQ prog J 60 n0 72 [1, 1, 1, 0, 1, 0] (codeOf f72) [] (RetQ prog [.tmp 2, .tmp 3] n0 K)) := by
  have hg := fine.gates
  have l1 := lt_of_get q1
  have l2 := lt_of_get q2
  have l3 := lt_of_get q3
  have l4 := lt_of_get q4
  have lw := lt_of_get w.at_
  refine l72_1 hJ (first := []) (cap := [ptr b1 0, ptr b2 0]) r22 (by decide) ?_
  have hpre : h0.length ≤ h.length := by
    obtain ⟨g, rfl⟩ := w.pre
    simp
  have S0 : SameX [] h (h ++ [AObj.deferred] ++ [lp72 .ready none f.r h.length]) := SameX.refl.app.app
  have hIl : (h ++ [AObj.deferred] ++ [lp72 .ready none f.r h.length])[h.length + 1]? = some (lp72 .ready none f.r h.length) := by
    rw [List.append_assoc]
    exact app2_get1
  have hId : (h ++ [AObj.deferred] ++ [lp72 .ready none f.r h.length])[h.length]? = some .deferred := by simp
  have hsl : (h ++ [AObj.deferred] ++ [lp72 .ready none f.r h.length]).length = h.length + 2 := by simp
  generalize h ++ [AObj.deferred] ++ [lp72 .ready none f.r h.length] = h1 at *
  have hX : ∀ x ∈ [h.length + 1, po], h0.length ≤ x ∧ x < h1.length := by
    rw [hsl]
    simp
    omega
  refine good111 hJ (h0 := h0) (X := [h.length + 1, po]) (L := L) (t := t) (I := fun g H => H[h.length + 1]? = some (lp72 .ready none f.r h.length) ∧ H[po]? = some (.cells (rngsC (outF t L g) t.gates.toNat) true 0)) (Stop := fun _ _ => False)
    (w.same S0 (by simp) (by simp)) fine hL hX (S0.get q3 (by simp)) (S0.get q4 (by simp)) (by simp; omega) (by simp; omega) (by simp; omega) (fun g H H' hx hI => ?_) ⟨hIl, S0.get q2 (by simp)⟩ (fun g H Q hg' S hI k1 k2 => ?_) (fun H S hI => ?_) (fun g H hg' S hI => hI.elim)
  · rw [hx _ (by simp), hx _ (by simp)]
    exact hI
  · refine round72 hJ hI.1 r4 (S.get (S0.get q1 (by simp)) (by simp; omega)) hI.2 (by omega) (by omega) (by omega) d1 fun H' S' a b => k1 H' S' ⟨a, ?_⟩
    rw [b]
    congr 2
    refine rngsC_congr fun j _ => ?_
    unfold outF
    by_cases e1 : j = g
    · subst e1
      rw [if_pos rfl, if_pos (by omega)]
    · rw [if_neg e1]
      by_cases e2 : j < g
      · rw [if_pos e2, if_pos (by omega)]
      · rw [if_neg e2, if_neg (by omega)]
  · refine endQ_normal hI.1 (by simp) ?_
    rw [c72_1]
    have hlen := S.1
    have S2 : SameX [po] h (H.set (h.length + 1) .dead) := by
      have := (S0.weak0 (Y := [h.length + 1, po])).trans S
      refine SameX.thru (Y := [h.length + 1, po]) SameX.refl (this.set (.inl (by simp))) (by simp)
    have w2 := w.same S2 (by simp; omega) (by simp; omega)
    show aNil (f.r 0) _
    rw [r0]
    refine nilI (offI (offI (ldI (v := vint t.gates) w2.at_ rfl rfl (subI (by omega) ?_))))
    have z4 := S2.get q1 (by simp; omega)
    have zo : (H.set (h.length + 1) AObj.dead)[po]? = some (.cells (rngsC (outB t L (t.gates.toNat - 1)) t.gates.toNat) true 0) := by
      rw [← outF_all]
      exact get_set hI.2 (by omega)
    have zd : (H.set (h.length + 1) AObj.dead)[h.length]? = some .deferred := get_set (S.get hId (by simp; omega)) (by omega)
    generalize H.set (h.length + 1) AObj.dead = H1 at *
    refine l72_2 hJ (fun s : Nat => s) (fun s f' H' => SameX [po] h H' ∧ s < t.gates.toNat ∧ H'[po]? = some (.cells (rngsC (outB t L s) t.gates.toNat) true 0) ∧ H'[h.length]? = some .deferred ∧ f'.ds = [h.length] ∧ f'.r 0 = ptr bw 0 ∧ f'.r 4 = ptr p4 0 ∧ f'.r 7 = .func (.func 98) ⟨[]⟩ ⟨[]⟩ ∧ f'.r 8 = .func (.func 99) ⟨[]⟩ ⟨[]⟩ ∧ f'.r 9 = vint ((s : Int) - 1)) ?_ (s := t.gates.toNat - 1)
      (.inl ⟨S2, by omega, zo, zd, by show h.length :: f.ds = _; rw [ds], r0, r4, rfl, rfl, by show vint _ = vint _; congr 1; omega⟩)
    rintro s f' H' ⟨S3, hs, zo', zd', ds', r0', r4', r7', r8', r9'⟩ ok' hn'
    refine back72 hJ (w.same S3 (by simp; omega) (by simp; omega)) fine hL hs (S3.get q1 (by simp; omega)) zo' d1 zd' (by omega) ds' r0' r4' r7' r8' r9' (fun hpos H2 f2 S4 zo2 a1 a2 a3 a4 a5 a6 => ⟨s - 1, by dsimp only; omega, .inl ⟨S3.trans S4, by omega, zo2, S4.get zd' (by simp; omega), a1, a2, a3, a4, a5, by rw [a6]; congr 1; omega⟩⟩) fun hs0 => ?_
    subst hs0
    refine hK _ (S3.set (.inr (Nat.le_refl _))) ?_
    have : rngsC (outB t L 0) t.gates.toNat = rngsC (bkR t L) t.gates.toNat := rngsC_congr fun j _ => by
      unfold outB
      rw [if_neg (by omega)]
    rw [← this]
    exact get_set zo' (by omega)

theorem good72 (hJ : Closed prog main J) {bw bm : Nat} {t : Tal} {cv nv : Value} {u : Int} (w : WorkIn h0 h bw t cv nv u (.map (some bm))) (hbw : h0.length ≤ bw) (hbm : h0.length ≤ bm) (hne : bw ≠ bm) (fine : TalFine t) {es : List (Value × Value)} (hm : h[bm]? = some (.map es true)) (met : MetOk t es)
    (k1 : ¬ TruthIs t (limA t 0) → ∀ H, SameX [bw, bm] h H → K (.tuple ⟨[.slice none 0 0, .bool false]⟩) H)
    (k2 : TruthIs t (limA t 0) → ∀ H po es', SameX [bw, bm] h H → h.length ≤ po → WorkIn h0 H bw t cv nv 0 (.map (some bm)) → H[bm]? = some (.map es' true) → MetOk t es' → H[po]? = some (.cells (rngsC (bkR t (limA t 0)) t.gates.toNat) true 0) → K (.tuple ⟨[.slice (some ⟨po, 0, none⟩) t.gates.toNat t.gates.toNat, .bool true]⟩) H) :
    Good prog J 72 [ptr bw 0] h K := by
  refine g72 hJ fun ok => ?_
  rw [e72]
  have hg := fine.gates
  have lw := lt_of_get w.at_
  have lm := lt_of_get hm
  have hpre : h0.length ≤ h.length := by
    obtain ⟨g, rfl⟩ := w.pre
    simp
  refine good74 hJ (u' := 0) w hbw hbm hne fine hm met fun H1 es1 S1 w1 hm1 met1 => ?_
  refine notI (cndN (fun hf => retL_same (by simp [unk]) (k1 hf H1 S1)) fun hT => ?_)
  refine nilI (offI (offI (ldI (v := vint t.gates) w1.at_ rfl rfl ⟨by decide, ?_⟩)))
  have eg : t.gates = (t.gates.toNat : Int) := by omega
  rw [eg]
  refine qMk (by omega) fun H2 po e2 S2 c2 l2 => qAl fun H3 p4 e3 S3 c3 l3 => qSt (c := [.slice none 0 0]) c3 (by simp) rfl rfl fun H4 S4 c4 l4 => ?_
  have w4 : WorkIn h0 H4 bw t cv nv 0 (.map (some bm)) := ((w1.same S2 (by simp) (by simp)).same S3 (by simp) (by simp)).same S4 (by have := S1.1; simp; omega) (by have := S1.1; simp; omega)
  refine good97 hJ w4.work fine.cosm ?_
  show Good prog J 96 [ptr bw 0, .agg ⟨limCells (limA t 0)⟩] H4 _
  refine good96 hJ ?_
  have S5 : SameX [] H4 (H4 ++ [.cells [ptr bw 0] true 0, .cells (limCells (limA t 0)) true 0]) := SameX.refl.app
  have g1 : (H4 ++ [AObj.cells [ptr bw 0] true 0, .cells (limCells (limA t 0)) true 0])[H4.length]? = some (.cells [ptr bw 0] true 0) := by simp
  have g2 : (H4 ++ [AObj.cells [ptr bw 0] true 0, .cells (limCells (limA t 0)) true 0])[H4.length + 1]? = some (.cells (limCells (limA t 0)) true 0) := by simp
  generalize H4 ++ [AObj.cells [ptr bw 0] true 0, .cells (limCells (limA t 0)) true 0] = H5 at *
  have h1l := S1.1
  have SA : SameX [bw, bm] h H4 := ((S1.thru S2 (by simp)).thru S3 (by simp)).thru S4 (by simp; omega)
  have zpo : H5[po]? = some (.cells (rngsC (outF t (limA t 0) 0) t.gates.toNat) true 0) := by
    have := S5.get (S4.get (S3.get c2 (by simp)) (by simp; omega)) (by simp)
    rw [rngsC_zero] at this
    rw [this]
    congr 2
  refine range72 hJ (p4 := p4) (po := po) (b1 := H4.length) (b2 := H4.length + 1) (w4.same S5 (by simp) (by simp)) fine (limA_sm fine 0) hT (S5.get c4 (by simp)) zpo g1 g2 (by omega) (by omega) (by omega) (by omega) (by omega) rfl rfl rfl rfl fun H6 S6 c6 => ?_
  have S46 : SameX [po] H4 H6 := S5.weak0.trans S6
  refine k2 hT H6 po es1 (SA.thru S46 (by simp; omega)) (by omega) (w4.same S46 (by simp; omega) (by simp; omega)) ?_ met1 c6
  exact S46.get (S4.get (S3.get (S2.get hm1 (by simp)) (by simp)) (by simp; omega)) (by simp; omega)

theorem trulyL_len (t : Tal) : (trulyL t).length = t.gates.toNat := by simp [trulyL]
theorem trulyL_get (t : Tal) (i : Nat) (hi : i < (trulyL t).length) : (trulyL t)[i] = bkR t (limA t 0) i := by simp [trulyL]
theorem trulyL_take (t : Tal) {i : Nat} (hi : i < t.gates.toNat) : (trulyL t).take (i + 1) = (trulyL t).take i ++ [bkR t (limA t 0) i] := by
  have hl := trulyL_len t
  rw [List.take_add_one, List.getElem?_eq_getElem (by omega), trulyL_get]
  rfl

theorem good30 (hJ : Closed prog main J) {v cv nv : Value} {t : Tal} (ht : TalAt h v t cv nv)
    (k1 : talErr t ≠ 0 → K (.tuple ⟨[.slice none 0 0, vint (talErr t)]⟩) h) (k2 : talErr t = 0 → ¬ TruthIs t (limA t 0) → K (.tuple ⟨[.slice none 0 0, vint 11]⟩) h)
    (k3 : talErr t = 0 → TruthIs t (limA t 0) → ∀ c sz, K (.tuple ⟨[.slice (some ⟨h.length, 0, none⟩) t.gates.toNat c, vint 0]⟩) (h ++ [.cells ((trulyL t).flatMap Rng.cells) true sz])) : Good prog J 30 [v] h K := by
  refine g30 hJ fun ok => ?_
  rw [e30, ht.val]
  have kc : kn1 cv = true ∧ kn1 nv = true := ⟨(sli_one ht.ch).2.2, (sli_one ht.co).2.2⟩
  refine qBox (tal_one ht) fun H1 p1 e1 S1 b1 l1 => ?_
  refine load_part (c := talCells t cv nv) b1 (by rw [cs_val]; omega) rfl (tal_kn kc.1 kc.2) ?_
  have t1 : TalAt H1 (.agg ⟨talCells t cv nv⟩) t cv nv := ⟨rfl, S1.sli ht.ch (by simp), S1.sli ht.co (by simp)⟩
  refine good71 hJ t1 fun H2 bw bm S2 a1 a2 a3 w hm => ext0 (ext1 (neqI (cndI (fun hne => ?_) fun heq => ?_)))
  · exact retX ok (Nat.le_refl _) (S1.trans S2) (by simp) (by simp [unk]) (by simp [pack, VOk, AOk, LOk]) (k1 hne)
  have h0 : talErr t = 0 := by omega
  have fine := talErr_fine h0
  have hg := fine.gates
  have S2' : SameX [] h H2 := S1.trans S2
  refine good72 hJ w a1 a2 a3 fine hm metOk_nil (fun hf H3 S3 => ext0 (ext1 (notI (cnd_true.2 ?_)))) (fun hT H3 po es' S3 h1 w3 hm3 met3 c3 => ext0 (ext1 (notI (cnd_false.2 ?_))))
  · exact retX ok (Nat.le_refl _) (S2'.thru S3 (by simp; omega)) (by simp) (by simp [unk]) (by simp [pack, VOk, AOk, LOk]) (k2 h0 hf)
  have SA : SameX [] h H3 := S2'.thru S3 (by simp; omega)
  have hl2 := S2'.1
  show aLenS (.slice (some ⟨po, 0, none⟩) t.gates.toNat t.gates.toNat) _
  rw [lenS]
  refine l30_1 hJ (fun i : Nat => t.gates.toNat - i) (fun i f H => ∃ lv o, SameX [] h H ∧ H[po]? = some (.cells (rngsC (bkR t (limA t 0)) t.gates.toNat) true 0) ∧ i ≤ t.gates.toNat ∧ OwnX H 2 (((trulyL t).take i).flatMap Rng.cells) i lv o ∧ (∀ b, o = some b → h.length ≤ b ∧ b ≠ po) ∧
      f.ds = [] ∧ f.r 8 = lv ∧ f.r 26 = .slice (some ⟨po, 0, none⟩) t.gates.toNat t.gates.toNat ∧ f.r 27 = vint t.gates.toNat ∧ f.r 28 = vint (i : Nat)) ?_ (s := 0)
    (.inl ⟨_, none, SA, c3, by omega, ownX_nil, by simp, rfl, rfl, rfl, rfl, rfl⟩)
  rintro i f H ⟨lv, o, SH, zo, hi, own, hob, hds, r8, r26, r27, r28⟩ ok' hn'
  rw [s30_1]
  simp only [r8, r26, r27, r28, hds]
  refine lssI (cndI (fun hlt => ?_) fun hge => ?_)
  · refine idxI ⟨by omega, by omega⟩ ?_
    rw [Int.toNat_natCast, Nat.zero_add]
    refine load_part (c := (bkR t (limA t 0) i).cells) zo (by rw [rngsC_len]; omega) (rngsC_get _ (by omega)) rfl ?_
    refine qAl fun H4 p4 e4 S4 c4 l4 => qStA (c := (bkR t (limA t 0) i).cells) c4 rfl rfl rfl fun H5 S5 c5 l5 => ?_
    refine load_part (c := (bkR t (limA t 0) i).cells) c5 (by simp [Rng.cells]) rfl rfl ⟨by decide, fill_agg (l := (bkR t (limA t 0) i).cells) rfl rfl (by simp [zrep]) (fillI ?_)⟩
    refine qNew fun H6 p6 e6 S6 c6 l6 => ⟨by decide, ?_⟩
    have hol := ownX_lt own
    have own6 : OwnX H6 2 (((trulyL t).take i).flatMap Rng.cells) i lv o := ownX_keep (ownX_keep (ownX_keep own S4 (by simp)) S5 (by intro b hb; have := hol b hb; simp; omega)) S6 (by simp)
    have S36 : SameX [p4] H H6 := (S4.weak0.trans S5).thru S6 (by simp)
    have hSl := SH.1
    refine ownX_more own6 (by omega) (by omega) (e := (bkR t (limA t 0) i).cells) (ownX_sli (ownX_new (n := 1) c6 rfl rfl)) fun v' H7 p7 e7 own7 S7 => addI (by omega) ?_
    have S37 : SameX (p4 :: o.toList) H H7 := (S36.weak (by simp)).thru (S7.weak (Y := p4 :: o.toList) (by simp +contextual)) (by simp +contextual)
    have hpo := lt_of_get zo
    refine ⟨i + 1, by dsimp only; omega, .inl ⟨v', some p7, ?_, ?_, by omega, ?_, ?_, hds, rfl, r26, r27, rfl⟩⟩
    · refine SH.thru S37 fun y hy => .inr ?_
      simp at hy
      rcases hy with rfl | hy
      · omega
      · exact (hob y hy).1
    · refine S37.get zo ?_
      simp
      exact ⟨by omega, fun e => (hob po e).2 rfl⟩
    · rw [trulyL_take t (by omega), List.flatMap_append]
      simpa using own7
    · intro b hb
      cases hb
      have := S37.1
      have := S6.1
      omega
  · have hi2 : i = t.gates.toNat := by omega
    have htk : (trulyL t).take i = trulyL t := List.take_of_length_le (by rw [trulyL_len]; omega)
    rw [htk] at own
    obtain ⟨h1, h2, ⟨h3, _, _⟩ | ⟨b, c, sz, rfl, rfl, h5, h6⟩⟩ := own
    · omega
    · obtain ⟨g, rfl⟩ := SH.app0 (by simp)
      subst hi2
      refine retX_tail ok (Nat.le_refl _) h5 (hob b rfl).1 ?_ (by simp [unk]) (by simp [sub, VOk]) (by simp) (k3 h0 hT c sz)
      show LOk _ _
      rw [LOk_iff]
      intro x hx
      obtain ⟨r, _, hr⟩ := List.mem_flatMap.1 hx
      simp [Rng.cells] at hr
      rcases hr with rfl | rfl <;> simp [VOk]

end
end Go.Proofs.Ytdgpacdknpahnaa

namespace Go.Proofs.Ytdgpacdknpahnaa
open Go.Conc Go.Proofs.Try
set_option maxRecDepth 100000
def HX (h H : List AObj) (ns : List Int) (k : Nat) : Prop := ∃ nv k' s rest, H = HF h nv k' s rest ∧ k' ≤ k ∧ (0 ≤ s ∧ s < 18446744073709551616) ∧ Hnd h nv ns

section
variable {main : Bool} {J : JT} {h H : List AObj} {K : Value → List AObj → Prop} {ns : List Int} {k : Nat}
theorem HX.mono {k' : Nat} (a : HX h H ns k) (hk : k ≤ k') : HX h H ns k' := by
  obtain ⟨nv, k1, s, rest, e, h1, h2, h3⟩ := a
  exact ⟨nv, k1, s, rest, e, by omega, h2, h3⟩
theorem HX.pre (a : HX h H ns k) : SameX [] h H := by
  obtain ⟨nv, k1, s, rest, rfl, _⟩ := a
  exact SameX.refl.app
theorem HX.lt (a : HX h H ns k) : h.length < H.length := by
  obtain ⟨nv, k1, s, rest, rfl, _⟩ := a
  rw [hf_len]
  omega
theorem HX.same {X : List Nat} {H' : List AObj} (a : HX h H ns k) (S : SameX X H H') (hX : ∀ x ∈ X, h.length < x) : HX h H' ns k := by
  obtain ⟨nv, k1, s, rest, rfl, h1, h2, h3⟩ := a
  have e : HF h nv k1 s rest = (h ++ [.cells [nv, vint k1, .int .u64 s] true 0]) ++ rest := by simp [HF]
  rw [e] at S
  obtain ⟨g, hg⟩ := S.pre (fun x hx => by have := hX x hx; simp; omega)
  exact ⟨nv, k1, s, g, by rw [hg]; simp [HF], h1, h2, h3⟩
theorem hf_same {nv : Value} {k1 k2 : Nat} {s1 s2 : Int} {rest g : List AObj} : SameX [h.length] (HF h nv k1 s1 rest) (HF h nv k2 s2 rest ++ g) := by
  refine ⟨by rw [hf_app, hf_len, hf_len]; simp, fun i hi hx => ?_⟩
  simp at hx
  rw [List.getElem?_append_left (by rw [hf_len] at hi ⊢; omega)]
  unfold HF
  rcases Nat.lt_or_ge i h.length with x | x
  · rw [List.getElem?_append_left x, List.getElem?_append_left x]
  · rw [List.getElem?_append_right x, List.getElem?_append_right x]
    obtain ⟨j, hj⟩ : ∃ j, i - h.length = j + 1 := ⟨i - h.length - 1, by omega⟩
    rw [hj]
    rfl

theorem newX (hJ : Closed prog main J) {nv : Value} (sn : Sli h nv 1 ns.length (ns.map vint)) (hln : ns.length < 4611686018427387904)
    (hK : ∀ H, HX h H ns 0 → K (ptr h.length 0) H) : Good prog J 19 [nv] h K := by
  obtain ⟨nb, nc, hnv, _⟩ := id sn
  subst hnv
  exact good19 hJ (hK _ ⟨_, 0, 88172645463325252, [], rfl, Nat.le_refl _, by omega, ⟨sn, hln⟩⟩)
theorem upX (hJ : Closed prog main J) (a : HX h H ns k) (hk : k < 1000000) {m : Int} (hm : m < 1000000)
    (hK : ∀ y H', 0 ≤ y → (y ≤ m ∨ y = 0) → SameX [h.length] H H' → H'.length = H.length → HX h H' ns (k + 1) → K (vint y) H') : Good prog J 22 [ptr h.length 0, vint m] H K := by
  obtain ⟨nv, k1, s, rest, rfl, h1, h2, h3⟩ := a
  have := up (k := k1) (g := []) (rest := rest) (K := K) hJ h3 h2 (by omega) hm fun y k' s' a1 a2 a3 a4 => hK y _ a1 a2 hf_same (by simp [hf_len]) ⟨nv, k', s', rest, by simp, by omega, a4, h3⟩
  simpa using this
theorem truX (hJ : Closed prog main J) (a : HX h H ns k) (hk : k < 50000) {G C : Int} (hG : 1 ≤ G ∧ G ≤ 5) (hC : 0 ≤ C ∧ C ≤ 7)
    (hK : ∀ t nums losses cv co nuv lov H', TruthOk G C t nums losses → SameX [h.length] H H' → HX h H' ns (k + 120) → TalAt H' (.agg ⟨talCells t cv co⟩) t cv co → Sli H' nuv 1 nums.length (nums.map vint) → Sli H' lov 1 losses.length (losses.map vint) → K (.tuple ⟨[.agg ⟨talCells t cv co⟩, nuv, lov]⟩) H') : Good prog J 61 [ptr h.length 0, vint G, vint C] H K := by
  obtain ⟨nv, k1, s, rest, rfl, b1, b2, b3⟩ := a
  refine good61 hJ b3 b2 (by omega) hG hC fun t nums losses cv co nuv lov o1 o2 o3 o4 g k' s' T O1 O2 O3 O4 _ hk' hs' => hK t nums losses cv co nuv lov _ T hf_same ⟨nv, k', s', rest ++ g, by rw [hf_app], by omega, hs', b3⟩ ⟨rfl, nsli O1, nsli O2⟩ (nsli O3) (nsli O4)
end
section
variable {h H : List AObj} {KV : Value → Prop}
theorem talAt_same {X : List Nat} {H' : List AObj} {v cv nv : Value} {t : Tal} (ht : TalAt H v t cv nv) (S : SameX X H H') (hX : ∀ x ∈ X, H.length ≤ x) : TalAt H' v t cv nv := ⟨ht.val, S.sli ht.ch hX, S.sli ht.co hX⟩
theorem talAt_kc {v cv nv : Value} {t : Tal} (ht : TalAt H v t cv nv) : kn (talCells t cv nv) = true := tal_kn (sli_one ht.ch).2.2 (sli_one ht.co).2.2

theorem TalOk.fine {G C : Int} {t : Tal} (h : TalOk G C t) (hG : G ≤ 5) (hC : C ≤ 7) : TalFine t := talErr_fine (h.err hG hC)
end
end Go.Proofs.Ytdgpacdknpahnaa

namespace Go.Proofs.Ytdgpacdknpahnaa
open Go.Conc Go.Proofs.Try
set_option maxRecDepth 100000
instance : DecidableEq Rng := fun a b =>
  if h : a.lo = b.lo ∧ a.hi = b.hi then isTrue (by cases a; cases b; simp_all) else isFalse (fun e => h (by rw [e]; exact ⟨rfl, rfl⟩))
instance : DecidableEq Cnt := fun a b =>
  if h : a.gate = b.gate ∧ a.man = b.man ∧ a.num = b.num ∧ a.err = b.err then isTrue (by cases a; cases b; simp_all) else isFalse (fun e => h (by rw [e]; exact ⟨rfl, rfl, rfl, rfl⟩))

end Go.Proofs.Ytdgpacdknpahnaa

namespace Go.Proofs.Ytdgpacdknpahnaa
open Go.Conc Go.Proofs.Try
set_option maxRecDepth 100000
def Rng.sub (a b : Rng) : Prop := b.lo ≤ a.lo ∧ a.hi ≤ b.hi
theorem Rng.sub_refl (a : Rng) : a.sub a := ⟨Int.le_refl _, Int.le_refl _⟩
theorem Rng.sub_meet {a b c d : Rng} (h1 : a.sub c) (h2 : b.sub d) : (a.meet b).sub (c.meet d) := by
  obtain ⟨_, _⟩ := h1
  obtain ⟨_, _⟩ := h2
  unfold Rng.meet Rng.sub
  dsimp only
  omega
theorem Rng.meet_left {a b c : Rng} (h1 : a.sub c) : (a.meet b).sub c := by
  obtain ⟨_, _⟩ := h1
  unfold Rng.meet Rng.sub
  dsimp only
  omega
theorem Rng.sub_plus {a b c d : Rng} (h1 : a.sub c) (h2 : b.sub d) : (a.plus b).sub (c.plus d) := by
  obtain ⟨_, _⟩ := h1
  obtain ⟨_, _⟩ := h2
  unfold Rng.plus Rng.sub
  dsimp only
  omega
theorem Rng.sub_turn {a b : Rng} (h1 : a.sub b) : a.turn.sub b.turn := by
  obtain ⟨_, _⟩ := h1
  unfold Rng.turn Rng.sub
  dsimp only
  omega

structure Tighter (t x : Tal) (L L' : Nat → Rng) : Prop where
  gates : t.gates = x.gates
  chl : t.changes.length = x.changes.length
  first : t.first.sub x.first
  ch : ∀ i (h1 : i < t.changes.length) (h2 : i < x.changes.length), t.changes[i].sub x.changes[i]
  most : t.most ≤ x.most
  lim : ∀ g, (L g).sub (L' g)

section
variable {t x : Tal} {L L' : Nat → Rng}
theorem Tighter.stretch (h : Tighter t x L L') (g : Nat) : (stretchR t g).sub (stretchR x g) := by
  have hm := h.most
  unfold stretchR
  refine Rng.sub_plus ?_ ⟨by dsimp only; omega, Int.le_refl _⟩
  rcases Nat.lt_or_ge g t.changes.length with h1 | h1
  · have h2 : g < x.changes.length := by rw [← h.chl]; exact h1
    rw [List.getElem?_eq_getElem h1, List.getElem?_eq_getElem h2]
    exact h.ch g h1 h2
  · rw [List.getElem?_eq_none h1, List.getElem?_eq_none (by rw [← h.chl]; exact h1)]
    exact Rng.sub_refl _
theorem Tighter.fwd (h : Tighter t x L L') : ∀ g, (fwd t L g).sub (fwd x L' g)
  | 0 => Rng.sub_meet h.first (h.lim 0)
  | g + 1 => Rng.sub_meet (Rng.sub_plus (h.fwd g) (h.stretch g)) (h.lim (g + 1))
theorem Tighter.truth (h : Tighter t x L L') (hT : TruthIs t L) : TruthIs x L' := fun g hg => by
  have h1 := hT g (by rw [h.gates]; exact hg)
  obtain ⟨a, b⟩ := h.fwd g
  omega
theorem Tighter.bk (h : Tighter t x L L') (g : Nat) : (bkR t L g).sub (bkR x L' g) := by
  have key : ∀ n, (bkN t L n).sub (bkN x L' n) := by
    intro n
    induction n with
    | zero =>
      show (Go.Proofs.Ytdgpacdknpahnaa.fwd t L _).sub (Go.Proofs.Ytdgpacdknpahnaa.fwd x L' _)
      rw [h.gates]
      exact h.fwd _
    | succ n ih =>
      show ((Go.Proofs.Ytdgpacdknpahnaa.fwd t L _).meet _).sub ((Go.Proofs.Ytdgpacdknpahnaa.fwd x L' _).meet _)
      rw [h.gates]
      exact Rng.sub_meet (h.fwd _) (Rng.sub_plus ih (Rng.sub_turn (h.stretch _)))
  unfold bkR
  rw [h.gates]
  exact key _

end
theorem flatR : ∀ l : List Rng, (l.flatMap Rng.cells).length = l.length * 2 ∧ kn (l.flatMap Rng.cells) = true
  | [] => ⟨rfl, rfl⟩
  | c :: l => by
    obtain ⟨h1, h2⟩ := flatR l
    rw [List.flatMap_cons, List.length_append, h1, rng_len, List.length_cons]
    refine ⟨by omega, ?_⟩
    unfold kn at *
    rw [List.all_append, h2]
    rfl
structure TalO (h H : List AObj) (t : Tal) (cv co : Value) (o1 o2 : Option Nat) : Prop where
  ch : OwnX H 2 (t.changes.flatMap Rng.cells) t.changes.length cv o1
  co : OwnX H 4 (t.counts.flatMap Cnt.cells) t.counts.length co o2
  b1 : ∀ i, o1 = some i → h.length < i
  b2 : ∀ i, o2 = some i → h.length < i
theorem TalO.at {h H : List AObj} {t : Tal} {cv co : Value} {o1 o2 : Option Nat} (a : TalO h H t cv co o1 o2) : TalAt H (.agg ⟨talCells t cv co⟩) t cv co := ⟨rfl, ownX_sli a.ch, ownX_sli a.co⟩
theorem TalO.same {h H H' : List AObj} {t : Tal} {cv co : Value} {o1 o2 : Option Nat} {X : List Nat} (a : TalO h H t cv co o1 o2) (S : SameX X H H') (h1 : ∀ i, o1 = some i → i ∉ X) (h2 : ∀ i, o2 = some i → i ∉ X) : TalO h H' t cv co o1 o2 :=
  ⟨ownX_keep a.ch S h1, ownX_keep a.co S h2, a.b1, a.b2⟩
end Go.Proofs.Ytdgpacdknpahnaa

namespace Go.Proofs.Ytdgpacdknpahnaa
open Go.Conc Go.Proofs.Try
set_option maxRecDepth 100000
def ownL (t : Tal) (g : Nat) (n m : Int) : Rng := ⟨max 0 (n + ((t.changes[g]?).getD ⟨0, 0⟩).lo - m), min t.most (n + ((t.changes[g]?).getD ⟨0, 0⟩).hi - m)⟩
def mixL (acc s o : Rng) : Rng := if s.lo ≤ s.hi ∧ o.lo ≤ o.hi then ⟨min acc.lo (s.plus o).lo, max acc.hi (s.plus o).hi⟩ else acc
def accL (t : Tal) (g : Nat) (lo : Int) (prev : Nat → Rng) (m : Int) : Nat → Rng
  | 0 => ⟨1048576, -1⟩
  | i + 1 => mixL (accL t g lo prev m i) (prev i) (ownL t g (lo + i) m)
def wid (r : Rng) : Nat := (r.hi - r.lo + 1).toNat
def lossL (t : Tal) (R : Nat → Rng) (a : Nat) : Nat → Nat → Rng
  | 0, _ => ⟨0, 0⟩
  | d + 1, k => accL t (a + d) (R (a + d)).lo (lossL t R a d) ((R (a + d + 1)).lo + k) (wid (R (a + d)))
def hullL (f : Nat → Rng) : Nat → Rng
  | 0 => f 0
  | n + 1 => ⟨min (hullL f n).lo (f n).lo, max (hullL f n).hi (f n).hi⟩
def lostR (t : Tal) (R : Nat → Rng) (a b : Nat) : Rng := hullL (lossL t R a (b - a)) (wid (R b))

def RSm (R : Nat → Rng) (G : Nat) : Prop := ∀ g, g < G → 0 ≤ (R g).lo ∧ (R g).lo ≤ (R g).hi ∧ (R g).hi ≤ 600

def Rng.lm (r : Rng) (B : Int) : Prop := 0 ≤ r.lo ∧ r.lo ≤ 1048576 ∧ -1 ≤ r.hi ∧ r.hi ≤ B
theorem mixL_lm {acc s o : Rng} {B : Int} (h1 : acc.lm (B + 60)) (h2 : s.lm B) (h3 : 0 ≤ o.lo ∧ o.hi ≤ 60) (hB : 0 ≤ B ∧ B ≤ 10000) : (mixL acc s o).lm (B + 60) := by
  obtain ⟨_, _, _, _⟩ := h1
  obtain ⟨_, _, _, _⟩ := h2
  unfold mixL
  split
  · unfold Rng.plus Rng.lm
    dsimp only
    omega
  · unfold Rng.lm
    omega
theorem ownL_sm {t : Tal} (h : TalFine t) (g : Nat) {n m : Int} (hn : 0 ≤ n ∧ n ≤ 600) (hm : 0 ≤ m ∧ m ≤ 600) : (ownL t g n m).sm 2000 := by
  have h1 := h.most
  unfold ownL
  cases e : t.changes[g]? with
  | none =>
    unfold Rng.sm
    dsimp only [Option.getD]
    omega
  | some r =>
    have := h.ch r (List.mem_of_getElem? e)
    unfold Rng.sm
    dsimp only [Option.getD]
    omega
theorem accL_lm {t : Tal} (h : TalFine t) (g : Nat) {lo m B : Int} {prev : Nat → Rng} {w : Nat} (hB : 0 ≤ B ∧ B ≤ 10000) (hp : ∀ i, i < w → (prev i).lm B) : ∀ i, i ≤ w → (accL t g lo prev m i).lm (B + 60)
  | 0, _ => by
    show Rng.lm ⟨1048576, -1⟩ _
    unfold Rng.lm
    dsimp only
    omega
  | i + 1, hi => by
    have ih := accL_lm h g (lo := lo) (m := m) hB hp i (by omega)
    have hm := h.most
    refine mixL_lm ih (hp i (by omega)) ?_ hB
    unfold ownL
    dsimp only
    omega
theorem lossL_lm {t : Tal} (h : TalFine t) {R : Nat → Rng} {a : Nat} : ∀ d, d ≤ 10 → ∀ k, (lossL t R a d k).lm (60 * d)
  | 0, _, k => by
    show Rng.lm ⟨0, 0⟩ _
    unfold Rng.lm
    dsimp only
    omega
  | d + 1, hd, k => by
    have ih := lossL_lm (a := a) (R := R) h d (by omega)
    have h1 := accL_lm h (a + d) (lo := (R (a + d)).lo) (m := (R (a + d + 1)).lo + k) (B := 60 * d) (prev := lossL t R a d) (w := wid (R (a + d))) (by omega) (fun i _ => ih i) _ (Nat.le_refl _)
    have e : (60 : Int) * ((d + 1 : Nat) : Int) = 60 * d + 60 := by omega
    rw [e]
    exact h1

structure St73 (h0 H : List AObj) (bw p5 po : Nat) (t : Tal) (cv nv : Value) (u : Int) (m : Value) (R : Nat → Rng) : Prop where
  w : WorkIn h0 H bw t cv nv u m
  l5 : H[p5]? = some (.cells [.slice (some ⟨po, 0, none⟩) t.gates.toNat t.gates.toNat] true 0)
  lo : H[po]? = some (.cells (rngsC R t.gates.toNat) true 0)
  b0 : h0.length ≤ p5
  b1 : bw < p5
  b2 : po < p5
theorem St73.same {h0 H H' : List AObj} {bw p5 po : Nat} {t : Tal} {cv nv : Value} {u : Int} {m : Value} {R : Nat → Rng} {X : List Nat} (s : St73 h0 H bw p5 po t cv nv u m R) (S : SameX X H H') (hX : ∀ x ∈ X, p5 < x) : St73 h0 H' bw p5 po t cv nv u m R := by
  have b0 := s.b0
  have b1 := s.b1
  have b2 := s.b2
  exact ⟨s.w.same S (fun x hx => by have := hX x hx; omega) (fun hx => by have := hX _ hx; omega), S.get s.l5 (fun hx => by have := hX _ hx; omega), S.get s.lo (fun hx => by have := hX _ hx; omega), b0, b1, b2⟩

def keep73 : List Nat := [0, 3, 5, 8, 9, 10, 11, 12, 13, 14, 39, 40, 55, 56]

section
variable {main : Bool} {J : JT} {h h0 H : List AObj} {K : Value → List AObj → Prop} {KV : Value → Prop} {n0 : Nat}
theorem good102 (hJ : Closed prog main J) {p5 po G i : Nat} {R : Nat → Rng} (l5 : h[p5]? = some (.cells [.slice (some ⟨po, 0, none⟩) G G] true 0)) (lo : h[po]? = some (.cells (rngsC R G) true 0)) (hi : i < G) (hR : RSm R G) (hK : K (vint (wid (R i) : Nat)) h) : Good prog J 102 [vint i, ptr p5 0] h K := by
  refine g102 hJ fun ok => ?_
  rw [e102]
  have hr := hR i hi
  have hg := rngsC_get R hi
  refine ldI l5 rfl rfl (idxI ⟨by omega, by omega⟩ (offI ?_))
  rw [Int.toNat_natCast, Nat.zero_add]
  refine ldI lo (part_get (j := 1) hg rfl) rfl (ldI l5 rfl rfl (idxI ⟨by omega, by omega⟩ (offI ?_)))
  rw [Int.toNat_natCast, Nat.zero_add]
  refine ldI lo (part_get (j := 0) hg rfl) rfl (subI (by omega) (addI (by omega) (retL_same (by simp [unk]) ?_)))
  have e : (R i).hi - (R i).lo + 1 = (wid (R i) : Nat) := by unfold wid; omega
  rw [e]
  exact hK

theorem good103 (hJ : Closed prog main J) {a b : Int} {p c : Nat} (hp : h[p]? = some (.cells [vint b] true 0)) (hK : K (vint (min a b)) h) : Good prog J 103 [vint a, .slice (some ⟨p, 0, none⟩) 1 c] h K := by
  refine g103 hJ fun ok => ?_
  rw [e103, lenS]
  refine l103_1 hJ (fun i : Nat => 1 - i) (fun i f H => H = h ∧ i ≤ 1 ∧ f.ds = [] ∧ f.r 0 = vint (if i = 0 then a else min a b) ∧ f.r 7 = .slice (some ⟨p, 0, none⟩) 1 c ∧ f.r 8 = vint (1 : Nat) ∧ f.r 9 = vint (i : Nat)) ?_ (s := 0) (.inl ⟨rfl, by omega, rfl, rfl, rfl, rfl, rfl⟩)
  rintro i f H ⟨rfl, hi, hds, r0, r7, r8, r9⟩ ok' hn'
  rw [s103_1]
  simp only [r0, r7, r8, r9, hds]
  refine lssI (cndI (fun hlt => ?_) fun hge => ?_)
  · have : i = 0 := by omega
    subst this
    refine idxI ⟨by omega, by omega⟩ (ldI (v := vint b) hp rfl rfl (minI (addI (by omega) ?_)))
    exact ⟨1, by dsimp only; omega, .inl ⟨rfl, by omega, hds, rfl, r7, r8, rfl⟩⟩
  · have : i = 1 := by omega
    subst this
    exact retL_same (by simp [unk]) hK

theorem in73 (hJ : Closed prog main J) {bw p5 po pn pk g k i w w' : Nat} {t : Tal} {cv nv : Value} {u mm : Int} {m : Value} {R P Nx' : Nat → Rng} {f : RG} {nx0 nx1 nx2 : RG → List AObj → Prop} (s : St73 h0 H bw p5 po t cv nv u m R) (fine : TalFine t) (hR : RSm R t.gates.toNat)
    (hg : g + 1 < t.gates.toNat) (hi : i < w) (hw : w = wid (R g)) (hk : k < w') (hm : 0 ≤ mm ∧ mm ≤ 600) (hPs : (P i).lm 1000)
    (zn : H[pn]? = some (.cells (rngsC P w) true 0)) (zk : H[pk]? = some (.cells (rngsC Nx' w') true 0)) (hnk : pn ≠ pk) (bn : p5 < pn) (bk : p5 < pk)
    (r0 : f.r 0 = ptr bw 0) (r5 : f.r 5 = ptr p5 0) (r11 : f.r 11 = vint g) (r12 : f.r 12 = .slice (some ⟨pk, 0, none⟩) w' w') (r13 : f.r 13 = vint k) (r14 : f.r 14 = vint mm) (r55 : f.r 55 = .slice (some ⟨pn, 0, none⟩) w w) (r56 : f.r 56 = vint w) (r57 : f.r 57 = vint i)
    (hx : ∀ H' f', SameX [pk] H H' → H'[pk]? = some (.cells (rngsC (fun j => if j = k then mixL (Nx' k) (P i) (ownL t g ((R g).lo + i) mm) else Nx' j) w') true 0) → (∀ j ∈ keep73, f'.r j = f.r j) → f'.ds = f.ds → f'.r 57 = vint ((i : Int) + 1) → nx2 f' H') :
    W prog J 162 n0 73 (subC [1, 1, 1, 0, 1, 0, 0, 1, 0, 0, 1, 0, 1, 0, 0, 1, 1, 0, 0, 1, 1, 1, 1, 0, 0] (codeOf f73)) f H (thenK nx2 (contQ prog J 162 n0 73 [1, 1, 1, 0, 1, 0, 0, 1, 0, 0, 1, 0, 1, 0, 0, 1, 1, 0, 0, 1, 1, 1, 1, 0] (codeOf f73) [nx0, nx1] (RetQ prog [.cell 8 98] n0 K))) := by
  have hgt := fine.gates
  have hch := fine.chl
  have hmo := fine.most
  have hb1 := s.b1
  have hb2 := s.b2
  have hrg := hR g (by omega)
  have hww : (wid (R g) : Int) = (R g).hi - (R g).lo + 1 := by unfold wid; omega
  rw [s73_4]
  simp only [r0, r5, r11, r12, r13, r14, r55, r56, r57]
  refine lssI (cndI (fun hlt => ?_) fun hge => absurd (by omega) hge)
  refine idxI ⟨by omega, by omega⟩ ?_
  rw [Int.toNat_natCast, Nat.zero_add]
  refine load_part (c := (P i).cells) zn (by rw [rngsC_len]; omega) (rngsC_get _ hi) rfl ?_
  refine qAl fun H1 p16 e1 S1 c1 l1 => qStA (c := (P i).cells) c1 rfl rfl rfl fun H2 S2 c2 l2 => ?_
  have S12 : SameX [p16] H H2 := S1.weak0.trans S2
  have hlen := lt_of_get zk
  have hlen5 := lt_of_get s.l5
  have s2 := s.same S12 (by simp; omega)
  refine ldI s2.l5 rfl rfl (idxI ⟨by omega, by omega⟩ (offI ?_))
  rw [Int.toNat_natCast, Nat.zero_add]
  refine ldI s2.lo (part_get (j := 0) (rngsC_get R (by omega)) rfl) rfl (addI (by omega) ?_)
  have hj : g < t.changes.length := by omega
  have hcb := fine.ch _ (List.getElem_mem hj)
  have hcg : (t.changes[g]?).getD ⟨0, 0⟩ = t.changes[g] := by rw [List.getElem?_eq_getElem hj]; rfl
  have kc := s2.w.work.kc
  obtain ⟨b2, o2, cs2, wr2, sz2, hidx, hb, hle, hpart, hkn⟩ := sliE_elem rng_len (by omega) s2.w.work.ch hj
  have hb2l := lt_of_get hb
  -- the common rest: what may be lost here is reckoned
  have post : ∀ (H5 : List AObj) (p18 : Nat) (F : RG), SameX [p16] H H5 → H5[p16]? = some (.cells (P i).cells true 0) → H5[p18]? = some (.cells (ownL t g ((R g).lo + i) mm).cells true 0) → H.length ≤ p18 → p18 ≠ p16 → F.r 16 = ptr p16 0 → F.r 18 = ptr p18 0 → (∀ j ∈ keep73, F.r j = f.r j) → F.ds = f.ds → F.r 57 = vint i →
      W prog J 162 n0 73 (subC [1, 1, 1, 0, 1, 0, 0, 1, 0, 0, 1, 0, 1, 0, 0, 1, 1, 0, 0, 1, 1, 1, 1, 0, 0, 1, 1, 0, 0, 1, 1, 1] (codeOf f73)) F H5 (contQ prog J 162 n0 73 [1, 1, 1, 0, 1, 0, 0, 1, 0, 0, 1, 0, 1, 0, 0, 1, 1, 0, 0, 1, 1, 1, 1, 0, 0, 1, 1, 0, 0, 1, 1, 1] (codeOf f73) [nx0, nx1, nx2] (RetQ prog [.cell 8 98] n0 K)) := by
    intro H5 p18 F S5 z16 z18 b18 n18 q16 q18 hkeep hds q57
    have hown := ownL_sm fine g (n := (R g).lo + i) (m := mm) (by omega) hm
    have q12 := (hkeep 12 (by simp [keep73])).trans r12
    have q13 := (hkeep 13 (by simp [keep73])).trans r13
    generalize ownL t g ((R g).lo + i) mm = o at *
    have zk5 := S5.get zk (by simp; omega)
    -- nothing to be mixed
    have skip : ∀ F' : RG, mixL (Nx' k) (P i) o = Nx' k → F'.r 111 = .bool false → (∀ j ∈ keep73, F'.r j = f.r j) → F'.ds = f.ds → F'.r 57 = vint i →
        W prog J 162 n0 73 (subC [1, 1, 1, 0, 1, 0, 0, 1, 0, 0, 1, 0, 1, 0, 0, 1, 1, 0, 0, 1, 1, 1, 1, 0, 0, 1, 1, 0, 0, 1, 1, 1, 1] (codeOf f73)) F' H5 (contQ prog J 162 n0 73 [1, 1, 1, 0, 1, 0, 0, 1, 0, 0, 1, 0, 1, 0, 0, 1, 1, 0, 0, 1, 1, 1, 1, 0, 0, 1, 1, 0, 0, 1, 1, 1, 1] (codeOf f73) [nx0, nx1, nx2] (RetQ prog [.cell 8 98] n0 K)) := by
      intro F' hmx t111 tk tds t57
      rw [s73_6, t111, t57]
      refine cnd_false.2 (addI (by omega) (hx H5 _ (SameX.refl.thru S5 (by simp; omega) |>.weak0) ?_ ?_ tds rfl))
      · rw [zk5]
        congr 2
        refine rngsC_congr fun j _ => ?_
        split
        · rename_i e
          rw [e, hmx]
        · rfl
      · exact (fun j hj => by have hh := tk j hj; simp only [keep73, List.mem_cons, List.not_mem_nil, or_false] at hj; rcases hj with rfl | rfl | rfl | rfl | rfl | rfl | rfl | rfl | rfl | rfl | rfl | rfl | rfl | rfl <;> exact hh)
    -- mixed
    have mixd : ∀ F' : RG, mixL (Nx' k) (P i) o = ⟨min (Nx' k).lo ((P i).plus o).lo, max (Nx' k).hi ((P i).plus o).hi⟩ → (P i).lo ≤ (P i).hi → o.lo ≤ o.hi → F'.r 111 = .bool true → F'.r 16 = ptr p16 0 → F'.r 18 = ptr p18 0 → (∀ j ∈ keep73, F'.r j = f.r j) → F'.ds = f.ds → F'.r 57 = vint i →
        W prog J 162 n0 73 (subC [1, 1, 1, 0, 1, 0, 0, 1, 0, 0, 1, 0, 1, 0, 0, 1, 1, 0, 0, 1, 1, 1, 1, 0, 0, 1, 1, 0, 0, 1, 1, 1, 1] (codeOf f73)) F' H5 (contQ prog J 162 n0 73 [1, 1, 1, 0, 1, 0, 0, 1, 0, 0, 1, 0, 1, 0, 0, 1, 1, 0, 0, 1, 1, 1, 1, 0, 0, 1, 1, 0, 0, 1, 1, 1, 1] (codeOf f73) [nx0, nx1, nx2] (RetQ prog [.cell 8 98] n0 K)) := by
      intro F' hm1 hle1 hle2 t111 t16 t18 tk tds t57
      have t12 := (tk 12 (by simp [keep73])).trans r12
      have t13 := (tk 13 (by simp [keep73])).trans r13
      rw [s73_6]
      simp only [t111, t16, t18, t12, t13, t57]
      refine cnd_true.2 ?_
      refine load_part (c := (P i).cells) z16 (by simp [Rng.cells]) rfl rfl ?_
      refine load_part (c := o.cells) z18 (by simp [Rng.cells]) rfl rfl ?_
      refine good100 hJ (r := P i) (q := o) (by obtain ⟨_, _, _, _⟩ := hPs; unfold Rng.sm; omega) (Rng.sm_le hown (by omega)) ?_
      refine qStA (c := ((P i).plus o).cells) z16 rfl rfl rfl fun H6 S6 z6 l6 => ?_
      have zk6 := S6.get zk5 (by simp; omega)
      have hgk := rngsC_get Nx' hk
      refine ⟨[pk, p16], idxI ⟨by omega, by omega⟩ (offI ?_)⟩
      rw [Int.toNat_natCast, Nat.zero_add]
      refine ldI zk6 (part_get (j := 0) hgk rfl) rfl ⟨by simp [RdOk, ptrBlk, ptr], offI (ldI (v := vint ((P i).plus o).lo) z6 rfl rfl ⟨by simp [RdOk, ptrBlk, ptr], idxI ⟨by omega, by omega⟩ (offI ?_)⟩)⟩
      rw [Int.toNat_natCast, Nat.zero_add]
      refine ldI zk6 (part_get (j := 1) hgk rfl) rfl ⟨by simp [RdOk, ptrBlk, ptr], offI (ldI (v := vint ((P i).plus o).hi) z6 rfl rfl ⟨by simp [RdOk, ptrBlk, ptr], maxI ?_⟩)⟩
      have h6l := S6.1
      have h5l := S5.1
      have hzl := lt_of_get z16
      have sb6 : ∀ {Hx : List AObj}, SameX [] H6 Hx → SameB (some [pk, p16]) H6 Hx := fun S b hb => by
        simp at hb
        rcases hb with rfl | rfl
        · exact S.2 _ (by omega) (by simp)
        · exact S.2 _ (by omega) (by simp)
      refine ⟨by decide, fill1 rfl rfl (by decide) (fillI (qNew fun H7 p7 e7 S7 c7 l7 => ⟨sb6 S7, good103 hJ c7 ⟨sb6 S7, fill1 rfl rfl (by decide) (fill1 rfl rfl (by simp) (fillI (idxI ⟨by omega, by omega⟩ ?_)))⟩⟩))⟩
      rw [Int.toNat_natCast, Nat.zero_add]
      refine qSt2 (S7.get zk6 (by simp)) (by rw [rngsC_len]; omega) rfl rfl fun H8 S8 c8 l8 => ?_
      have e8 := rngsC_set Nx' ⟨min (Nx' k).lo ((P i).plus o).lo, max (Nx' k).hi ((P i).plus o).hi⟩ hk
      rw [e8] at c8
      refine addI (by omega) (hx H8 _ ?_ ?_ (fun j hj => by have hh := tk j hj; simp only [keep73, List.mem_cons, List.not_mem_nil, or_false] at hj; rcases hj with rfl | rfl | rfl | rfl | rfl | rfl | rfl | rfl | rfl | rfl | rfl | rfl | rfl | rfl <;> exact hh) tds rfl)
      · have S58 : SameX [pk, p16] H5 H8 := ((S6.weak (Y := [pk, p16]) (by simp)).thru S7 (by simp)).trans (S8.weak (by simp))
        exact (SameX.thru (X := [pk]) SameX.refl ((S5.weak (Y := [pk, p16]) (by simp)).trans S58) (by simp; omega))
      · rw [c8, hm1]
    rw [s73_5, q16, q18]
    refine load_part (c := (P i).cells) z16 (by simp [Rng.cells]) rfl rfl (good104 hJ ?_)
    rw [u_not, cnd_ndec]
    refine ⟨fun hle1 => ?_, fun hgt1 => ?_⟩
    · refine load_part (c := o.cells) z18 (by simp [Rng.cells]) rfl rfl (good104 hJ ?_)
      rw [u_not]
      by_cases hle2 : o.lo ≤ o.hi
      · -- mixed
        have hm1 : mixL (Nx' k) (P i) o = ⟨min (Nx' k).lo ((P i).plus o).lo, max (Nx' k).hi ((P i).plus o).hi⟩ := by
          unfold mixL
          rw [if_pos ⟨by omega, hle2⟩]
        have hd : (decide (o.lo > o.hi)) = false := decide_eq_false (by omega)
        refine mixd _ hm1 (by omega) hle2 ?_ q16 q18 (fun j hj => by have hh := hkeep j hj; simp only [keep73, List.mem_cons, List.not_mem_nil, or_false] at hj; rcases hj with rfl | rfl | rfl | rfl | rfl | rfl | rfl | rfl | rfl | rfl | rfl | rfl | rfl | rfl <;> exact hh) hds q57
        show Value.bool (!decide (o.lo > o.hi)) = .bool true
        rw [hd]
        rfl
      · have hm1 : mixL (Nx' k) (P i) o = Nx' k := by
          unfold mixL
          rw [if_neg (by omega)]
        have hd : (decide (o.lo > o.hi)) = true := decide_eq_true (by omega)
        refine skip _ hm1 ?_ (fun j hj => by have hh := hkeep j hj; simp only [keep73, List.mem_cons, List.not_mem_nil, or_false] at hj; rcases hj with rfl | rfl | rfl | rfl | rfl | rfl | rfl | rfl | rfl | rfl | rfl | rfl | rfl | rfl <;> exact hh) hds q57
        show Value.bool (!decide (o.lo > o.hi)) = .bool false
        rw [hd]
        rfl
    · have hm1 : mixL (Nx' k) (P i) o = Nx' k := by
        unfold mixL
        rw [if_neg (by omega)]
      exact skip _ hm1 rfl (fun j hj => by have hh := hkeep j hj; simp only [keep73, List.mem_cons, List.not_mem_nil, or_false] at hj; rcases hj with rfl | rfl | rfl | rfl | rfl | rfl | rfl | rfl | rfl | rfl | rfl | rfl | rfl | rfl <;> exact hh) hds q57
  have eo : ownL t g ((R g).lo + i) mm = ⟨max 0 ((R g).lo + i + t.changes[g].lo - mm), min t.most ((R g).lo + i + t.changes[g].hi - mm)⟩ := by
    unfold ownL
    rw [hcg]
  rw [eo] at post
  have sb : ∀ {H' : List AObj}, SameX [] H2 H' → SameB (some [bw, b2]) H2 H' := fun S b hb => by
    simp at hb
    have hbw := lt_of_get s2.w.at_
    rcases hb with rfl | rfl
    · exact S.2 _ hbw (by simp)
    · exact S.2 _ hb2l (by simp)
  refine ⟨[bw, b2], nilI (offI (offI (ldI (v := cv) s2.w.at_ rfl kc.1 ⟨by simp [RdOk, ptrBlk, ptr], ?_⟩)))⟩
  refine hidx _ (offI (ldI hb (part_get (j := 0) hpart rfl) rfl ⟨by simp [RdOk, ptrBlk, ptr], addI (by omega) (subI (by omega) (maxI ?_))⟩))
  refine nilI (offI (offI (ldI (v := vint t.most) s2.w.at_ rfl rfl ⟨by simp [RdOk, ptrBlk, ptr], nilI (offI (offI (ldI (v := cv) s2.w.at_ rfl kc.1 ⟨by simp [RdOk, ptrBlk, ptr], ?_⟩)))⟩)))
  refine hidx _ (offI (ldI hb (part_get (j := 1) hpart rfl) rfl ⟨by simp [RdOk, ptrBlk, ptr], addI (by omega) (subI (by omega) ?_)⟩))
  have lH : H.length + 1 = H2.length := by omega
  refine ⟨⟨by decide, fill1 rfl rfl (by decide) (fillI (qNew fun H3 p3 e3 S3 c3 l3 => ⟨sb S3, ⟨good103 hJ c3 ⟨sb S3, fill1 rfl rfl (by decide) (fill1 rfl rfl (by simp) (fillI (qAl fun H4 p4 e4 S4 c4 l4 => ⟨sb (S3.trans S4), ?_⟩)))⟩, qAl fun H4 p4 e4 S4 c4 l4 => ⟨sb (S3.trans S4), ?_⟩⟩⟩))⟩, qAl fun H3 p3 e3 S3 c3 l3 => ⟨sb S3, ⟨by decide, fill1 rfl rfl (by decide) (fillI (qNew fun H4 p4 e4 S4 c4 l4 => ⟨sb (S3.trans S4), ?_⟩))⟩⟩⟩
  · refine qStA c4 rfl rfl rfl fun H5 S5 c5 l5 => ?_
    have S25 : SameX [p4] H2 H5 := ((S3.weak0 (Y := [p4])).trans S4.weak0).trans S5
    refine post H5 p4 _ ?_ (S25.get c2 (by simp; omega)) c5 (by omega) (by omega) rfl rfl (fun j hj => by simp only [keep73, List.mem_cons, List.not_mem_nil, or_false] at hj; rcases hj with rfl | rfl | rfl | rfl | rfl | rfl | rfl | rfl | rfl | rfl | rfl | rfl | rfl | rfl <;> rfl) rfl r57
    exact S12.thru S25 (by simp; omega)
  · refine good103 hJ (S4.get c3 (by simp)) ⟨sb (S3.trans S4), fill1 rfl rfl (by decide) (fill1 rfl rfl (by simp) (fillI ?_))⟩
    refine qStA c4 rfl rfl rfl fun H5 S5 c5 l5 => ?_
    have S25 : SameX [p4] H2 H5 := ((S3.weak0 (Y := [p4])).trans S4.weak0).trans S5
    refine post H5 p4 _ ?_ (S25.get c2 (by simp; omega)) c5 (by omega) (by omega) rfl rfl (fun j hj => by simp only [keep73, List.mem_cons, List.not_mem_nil, or_false] at hj; rcases hj with rfl | rfl | rfl | rfl | rfl | rfl | rfl | rfl | rfl | rfl | rfl | rfl | rfl | rfl <;> rfl) rfl r57
    exact S12.thru S25 (by simp; omega)
  · refine good103 hJ c4 ⟨sb (S3.trans S4), fill1 rfl rfl (by decide) (fill1 rfl rfl (by simp) (fillI ?_))⟩
    refine qStA (S4.get c3 (by simp)) rfl rfl rfl fun H5 S5 c5 l5 => ?_
    have S25 : SameX [p3] H2 H5 := ((S3.weak0 (Y := [p3])).trans S4.weak0).trans S5
    refine post H5 p3 _ ?_ (S25.get c2 (by simp; omega)) c5 (by omega) (by omega) rfl rfl (fun j hj => by simp only [keep73, List.mem_cons, List.not_mem_nil, or_false] at hj; rcases hj with rfl | rfl | rfl | rfl | rfl | rfl | rfl | rfl | rfl | rfl | rfl | rfl | rfl | rfl <;> rfl) rfl r57
    exact S12.thru S25 (by simp; omega)

theorem loop73 (hJ : Closed prog main J) {bw p5 po pn pk g k w w' : Nat} {t : Tal} {cv nv : Value} {u mm : Int} {m : Value} {R P N : Nat → Rng} {F : RG} {nx0 nx1 : RG → List AObj → Prop} (s : St73 h0 H bw p5 po t cv nv u m R) (fine : TalFine t) (hR : RSm R t.gates.toNat)
    (hg : g + 1 < t.gates.toNat) (hw : w = wid (R g)) (hk : k < w') (hw' : w' < 1000) (hm : 0 ≤ mm ∧ mm ≤ 600) (hP : ∀ i, i < w → (P i).lm 1000)
    (zn : H[pn]? = some (.cells (rngsC P w) true 0)) (zk : H[pk]? = some (.cells (rngsC (fun j => if j = k then ⟨1048576, -1⟩ else N j) w') true 0)) (hnk : pn ≠ pk) (bn : p5 < pn) (bk : p5 < pk)
    (r0 : F.r 0 = ptr bw 0) (r5 : F.r 5 = ptr p5 0) (r11 : F.r 11 = vint g) (r12 : F.r 12 = .slice (some ⟨pk, 0, none⟩) w' w') (r13 : F.r 13 = vint k) (r14 : F.r 14 = vint mm) (r40 : F.r 40 = vint k) (r55 : F.r 55 = .slice (some ⟨pn, 0, none⟩) w w) (r56 : F.r 56 = vint w) (r57 : F.r 57 = vint (0 : Nat))
    (hx : ∀ H' f', SameX [pk] H H' → H'[pk]? = some (.cells (rngsC (fun j => if j = k then accL t g (R g).lo P mm w else N j) w') true 0) → (∀ j ∈ [0, 3, 5, 8, 9, 10, 11, 12, 39], f'.r j = F.r j) → f'.ds = F.ds → f'.r 40 = vint ((k : Int) + 1) → nx1 f' H') :
    Sem J 162 n0 73 (subC [1, 1, 1, 0, 1, 0, 0, 1, 0, 0, 1, 0, 1, 0, 0, 1, 1, 0, 0, 1, 1, 1, 1, 0] (codeOf f73)) F H (contQ prog J 162 n0 73 [1, 1, 1, 0, 1, 0, 0, 1, 0, 0, 1, 0, 1, 0, 0, 1, 1, 0, 0, 1, 1, 1, 1, 0] (codeOf f73) [nx0, nx1] (RetQ prog [.cell 8 98] n0 K)) := by
  subst hw
  refine l73_4 hJ (fun i : Nat => wid (R g) - i) (fun i f' H' => SameX [pk] H H' ∧ i ≤ wid (R g) ∧ H'[pk]? = some (.cells (rngsC (fun j => if j = k then accL t g (R g).lo P mm i else N j) w') true 0) ∧ (∀ j ∈ keep73, f'.r j = F.r j) ∧ f'.ds = F.ds ∧ f'.r 57 = vint (i : Nat)) ?_ (s := 0)
    (.inl ⟨SameX.refl, by omega, zk, fun _ _ => rfl, rfl, r57⟩)
  rintro i f' H' ⟨S, hi, zk', hkeep, hds, q57⟩ ok' hn'
  have kk : ∀ j, j ∈ keep73 → f'.r j = F.r j := hkeep
  have q0 := (kk 0 (by simp [keep73])).trans r0
  have q5 := (kk 5 (by simp [keep73])).trans r5
  have q11 := (kk 11 (by simp [keep73])).trans r11
  have q12 := (kk 12 (by simp [keep73])).trans r12
  have q13 := (kk 13 (by simp [keep73])).trans r13
  have q14 := (kk 14 (by simp [keep73])).trans r14
  have q40 := (kk 40 (by simp [keep73])).trans r40
  have q55 := (kk 55 (by simp [keep73])).trans r55
  have q56 := (kk 56 (by simp [keep73])).trans r56
  by_cases hlt : i < wid (R g)
  · refine in73 hJ (s.same S (by simp; omega)) fine hR hg hlt rfl hk hm (hP i hlt) (S.get zn (by simp; omega)) zk' hnk bn bk q0 q5 q11 q12 q13 q14 q55 q56 q57 fun H2 f2 S2 z2 hkeep2 hds2 t57 => ?_
    · refine ⟨i + 1, by dsimp only; omega, .inl ⟨S.trans S2, by omega, ?_, fun j hj => (hkeep2 j hj).trans (hkeep j hj), hds2.trans hds, t57⟩⟩
      rw [z2]
      congr 2
      refine rngsC_congr fun j _ => ?_
      by_cases e : j = k
      · subst e
        simp only [if_true]
        rfl
      · simp only [if_neg e]
  · have hiw : i = wid (R g) := by omega
    subst hiw
    rw [s73_4, q57, q56, q40]
    refine lssI (cndI (fun hlt => absurd hlt (by omega)) fun _ => addI (by omega) (hx H' _ S zk' (fun j hj => ?_) hds rfl))
    have hh : f'.r j = F.r j := hkeep j (by simp [keep73] at hj ⊢; omega)
    simp only [List.mem_cons, List.not_mem_nil, or_false] at hj
    rcases hj with rfl | rfl | rfl | rfl | rfl | rfl | rfl | rfl | rfl <;> exact hh

theorem row73 (hJ : Closed prog main J) {bw p5 po pn pk g w w' a d : Nat} {t : Tal} {cv nv : Value} {u : Int} {m : Value} {R : Nat → Rng} {F : RG} {nx0 : RG → List AObj → Prop} (s : St73 h0 H bw p5 po t cv nv u m R) (fine : TalFine t) (hR : RSm R t.gates.toNat)
    (hgd : g = a + d) (hg : g + 1 < t.gates.toNat) (hw : w = wid (R g)) (hw' : w' = wid (R (g + 1))) (hP : ∀ i, i < w → (lossL t R a d i).lm 1000)
    (zn : H[pn]? = some (.cells (rngsC (lossL t R a d) w) true 0)) (zk : H[pk]? = some (.cells (rngsC (fun _ => ⟨0, 0⟩) w') true 0)) (hnk : pn ≠ pk) (bn : p5 < pn) (bk : p5 < pk)
    (r0 : F.r 0 = ptr bw 0) (r5 : F.r 5 = ptr p5 0) (r10 : F.r 10 = .slice (some ⟨pn, 0, none⟩) w w) (r11 : F.r 11 = vint g) (r12 : F.r 12 = .slice (some ⟨pk, 0, none⟩) w' w') (r39 : F.r 39 = vint w') (r40 : F.r 40 = vint (0 : Nat))
    (hx : ∀ H' f', SameX [pk] H H' → H'[pk]? = some (.cells (rngsC (lossL t R a (d + 1)) w') true 0) → (∀ j ∈ [0, 3, 5, 8, 9], f'.r j = F.r j) → f'.ds = F.ds → f'.r 10 = .slice (some ⟨pk, 0, none⟩) w' w' → f'.r 11 = vint ((g : Int) + 1) → nx0 f' H') :
    Sem J 162 n0 73 (subC [1, 1, 1, 0, 1, 0, 0, 1, 0, 0, 1, 0, 1, 0] (codeOf f73)) F H (contQ prog J 162 n0 73 [1, 1, 1, 0, 1, 0, 0, 1, 0, 0, 1, 0, 1, 0] (codeOf f73) [nx0] (RetQ prog [.cell 8 98] n0 K)) := by
  have hgt := fine.gates
  have h2 := hR (g + 1) hg
  have hww : (wid (R (g + 1)) : Int) = (R (g + 1)).hi - (R (g + 1)).lo + 1 := by unfold wid; omega
  refine l73_2 hJ (fun k : Nat => w' - k) (fun k f' H' => SameX [pk] H H' ∧ k ≤ w' ∧ H'[pk]? = some (.cells (rngsC (fun j => if j < k then lossL t R a (d + 1) j else ⟨0, 0⟩) w') true 0) ∧ (∀ j ∈ [0, 3, 5, 8, 9, 10, 11, 12, 39], f'.r j = F.r j) ∧ f'.ds = F.ds ∧ f'.r 40 = vint (k : Nat)) ?_ (s := 0)
    (.inl ⟨SameX.refl, by omega, zk, fun _ _ => rfl, rfl, r40⟩)
  rintro k f' H' ⟨S, hk, zk', hkeep, hds, q40⟩ ok' hn'
  have q0 := (hkeep 0 (by simp)).trans r0
  have q5 := (hkeep 5 (by simp)).trans r5
  have q10 := (hkeep 10 (by simp)).trans r10
  have q11 := (hkeep 11 (by simp)).trans r11
  have q12 := (hkeep 12 (by simp)).trans r12
  have q39 := (hkeep 39 (by simp)).trans r39
  have s' := s.same S (by simp; omega)
  rw [s73_2]
  simp only [q5, q10, q11, q12, q39, q40]
  refine lssI (cndI (fun hlt => ?_) fun hge => ?_)
  · have hkw : k < w' := by omega
    refine fill1 rfl rfl (by decide) (fill1 rfl rfl (by simp) (fillI (idxI ⟨by omega, by omega⟩ ?_)))
    rw [Int.toNat_natCast, Nat.zero_add]
    refine qSt2 zk' (by rw [rngsC_len]; omega) rfl rfl fun H1 S1 c1 l1 => ?_
    have e1 := rngsC_set (fun j => if j < k then lossL t R a (d + 1) j else ⟨0, 0⟩) ⟨1048576, -1⟩ hkw
    rw [e1] at c1
    have s1 := s'.same S1 (by simp; omega)
    refine ldI s1.l5 rfl rfl (addI (by omega) ?_)
    rw [show (g : Int) + 1 = ((g + 1 : Nat) : Int) from by omega]
    refine idxI ⟨by omega, by omega⟩ (offI ?_)
    rw [Int.toNat_natCast, Nat.zero_add]
    refine ldI s1.lo (part_get (j := 0) (rngsC_get R hg) rfl) rfl (addI (by omega) ?_)
    rw [lenS]
    refine loop73 hJ (pn := pn) (pk := pk) (g := g) (k := k) (w := w) (w' := w') (mm := (R (g + 1)).lo + k) (P := lossL t R a d) (N := fun j => if j < k then lossL t R a (d + 1) j else ⟨0, 0⟩) s1 fine hR hg hw hkw (by omega) (by omega) hP ((S.trans S1).get zn (by simp; omega)) c1 hnk bn bk q0 q5 q11 q12 rfl rfl q40 rfl rfl rfl fun H2 f2 S2 z2 hkeep2 hds2 t40 => ?_
    refine ⟨k + 1, by dsimp only; omega, .inl ⟨(S.trans S1).trans S2, by omega, ?_, fun j hj => (hkeep2 j hj).trans ?_, hds2.trans hds, t40⟩⟩
    · rw [z2]
      congr 2
      refine rngsC_congr fun j _ => ?_
      by_cases e : j = k
      · subst e
        rw [if_pos rfl, if_pos (by omega)]
        subst hgd
        rw [hw]
        rfl
      · rw [if_neg e]
        by_cases e2 : j < k
        · rw [if_pos e2, if_pos (by omega)]
        · rw [if_neg e2, if_neg (by omega)]
    · have hh := hkeep j hj
      simp only [List.mem_cons, List.not_mem_nil, or_false] at hj
      rcases hj with rfl | rfl | rfl | rfl | rfl | rfl | rfl | rfl | rfl <;> exact hh
  · have hkw : k = w' := by omega
    subst hkw
    refine addI (by omega) (hx H' _ S ?_ (fun j hj => ?_) hds rfl rfl)
    · rw [zk']
      congr 2
      refine rngsC_congr fun j hj => ?_
      rw [if_pos hj]
    · have hh := hkeep j (by simp at hj ⊢; omega)
      simp only [List.mem_cons, List.not_mem_nil, or_false] at hj
      rcases hj with rfl | rfl | rfl | rfl | rfl <;> exact hh

theorem good73 (hJ : Closed prog main J) {bw po a b : Nat} {t : Tal} {cv nv : Value} {u : Int} {m : Value} {R : Nat → Rng} (w : WorkIn h0 h bw t cv nv u m) (lo : h[po]? = some (.cells (rngsC R t.gates.toNat) true 0)) (fine : TalFine t) (hR : RSm R t.gates.toNat) (hab : a ≤ b) (hb : b < t.gates.toNat)
    (hK : K (lostR t R a b).val h) : Good prog J 73 [ptr bw 0, .slice (some ⟨po, 0, none⟩) t.gates.toNat t.gates.toNat, vint a, vint b] h K := by
  refine g73 hJ fun ok => ?_
  rw [e73]
  have hgt := fine.gates
  have hbw := lt_of_get w.at_
  have hpo := lt_of_get lo
  have hpre : h0.length ≤ h.length := by
    obtain ⟨g, rfl⟩ := w.pre
    simp
  refine qBox1 rfl rfl fun H1 p5 e1 S1 c1 l1 => qAl fun H2 p8 e2 S2 c2 l2 => ⟨rfl, ?_⟩
  have S12 := S1.trans S2
  have s2 : St73 h0 H2 bw p5 po t cv nv u m R := ⟨w.same S12 (by simp) (by simp), S2.get c1 (by simp), S12.get lo (by simp), by omega, by omega, by omega⟩
  show Good prog J 102 [vint a, ptr p5 0] H2 _
  refine good102 hJ s2.l5 s2.lo (by omega) hR ⟨by decide, ?_⟩
  have hwa := hR a (by omega)
  have hwab : (wid (R a) : Int) = (R a).hi - (R a).lo + 1 := by unfold wid; omega
  refine qMk (by omega) fun H3 pn e3 S3 c3 l3 => ?_
  rw [rngsC_zero] at c3
  have z8 := S3.get c2 (by simp)
  have s3 := s2.same S3 (by simp)
  have SH3 : SameX [] h H3 := S12.trans S3
  refine l73_1 hJ (fun d : Nat => b - a - d) (fun d f' H' => ∃ pn, SameX [] h H' ∧ St73 h0 H' bw p5 po t cv nv u m R ∧ H'[p8]? = some (.cells [vint 0, vint 0] true 0) ∧ a + d ≤ b ∧ H'[pn]? = some (.cells (rngsC (lossL t R a d) (wid (R (a + d)))) true 0) ∧ p8 < pn ∧
      f'.ds = [] ∧ f'.r 0 = ptr bw 0 ∧ f'.r 3 = vint b ∧ f'.r 5 = ptr p5 0 ∧ f'.r 8 = ptr p8 0 ∧ f'.r 9 = .func (.func 102) ⟨[]⟩ ⟨[ptr p5 0]⟩ ∧ f'.r 10 = .slice (some ⟨pn, 0, none⟩) (wid (R (a + d))) (wid (R (a + d))) ∧ f'.r 11 = vint ((a + d : Nat) : Int)) ?_ (s := 0)
    (.inl ⟨pn, SH3, s3, z8, by omega, c3, by omega, rfl, rfl, rfl, rfl, rfl, rfl, rfl, rfl⟩)
  clear s3 c3 e3 l3 S3 z8 SH3 H3 pn
  rintro d f' H' ⟨pn, SH, s, z8, hd, zn, hpn, hds, r0, r3, r5, r8, r9, r10, r11⟩ ok' hn'
  rw [s73_1]
  simp only [r3, r8, r9, r10, r11]
  refine lssI (cndI (fun hlt => ?_) fun hge => ?_)
  · refine addI (by omega) ?_
    rw [show ((a + d : Nat) : Int) + 1 = ((a + d + 1 : Nat) : Int) from by omega]
    show Good prog J 102 [vint ((a + d + 1 : Nat) : Int), ptr p5 0] H' _
    refine good102 hJ s.l5 s.lo (by omega) hR ⟨by decide, ?_⟩
    have hw1 := hR (a + d + 1) (by omega)
    have hww1 : (wid (R (a + d + 1)) : Int) = (R (a + d + 1)).hi - (R (a + d + 1)).lo + 1 := by unfold wid; omega
    refine qMk (by omega) fun H4 pk e4 S4 c4 l4 => ?_
    rw [rngsC_zero] at c4
    rw [lenS]
    have hpnl := lt_of_get zn
    have hp8l := lt_of_get z8
    refine row73 hJ (pn := pn) (pk := pk) (a := a) (d := d) (s.same S4 (by simp)) fine hR rfl (by omega) rfl rfl (fun i _ => by have := lossL_lm (a := a) (R := R) fine d (by omega) i; unfold Rng.lm at *; omega) (S4.get zn (by simp)) c4 (by omega) (by omega) (by omega) r0 r5 r10 r11 rfl rfl rfl fun H5 f5 S5 z5 hkeep5 hds5 t10 t11 => ?_
    have hSH := SH.1
    refine ⟨d + 1, by dsimp only; omega, .inl ⟨pk, (SH.trans S4).thru S5 (by simp; omega), (s.same S4 (by simp)).same S5 (by simp; omega), S5.get (S4.get z8 (by simp)) (by simp; omega), by omega, z5, by omega, hds5.trans hds, (hkeep5 0 (by simp)).trans r0, (hkeep5 3 (by simp)).trans r3, (hkeep5 5 (by simp)).trans r5, (hkeep5 8 (by simp)).trans r8, (hkeep5 9 (by simp)).trans r9, t10, ?_⟩⟩
    rw [t11]
    congr 1
  · have hdb : a + d = b := by omega
    have e0 : b - a = d := by omega
    have hL : lostR t R a b = hullL (lossL t R a d) (wid (R (a + d))) := by
      unfold lostR
      rw [e0, hdb]
    rw [hL] at hK
    have hwd := hR (a + d) (by omega)
    have hwdd : (wid (R (a + d)) : Int) = (R (a + d)).hi - (R (a + d)).lo + 1 := by unfold wid; omega
    generalize hW : wid (R (a + d)) = w at *
    generalize hLL : lossL t R a d = L at *
    refine idxI ⟨by omega, by omega⟩ (load_part (c := (L 0).cells) zn (by rw [rngsC_len]; omega) (rngsC_get L (i := 0) (by omega)) rfl ?_)
    refine qAl fun H4 p19 e4 S4 c4 l4 => qStA (c := (L 0).cells) c4 rfl rfl rfl fun H5 S5 c5 l5 => ?_
    rw [lenS]
    have hpnl := lt_of_get zn
    have hp8l := lt_of_get z8
    have S45 : SameX [p19] H' H5 := S4.weak0.trans S5
    have hSH := SH.1
    refine l73_3 hJ (fun i : Nat => w - i) (fun i f'' H'' => SameX [p19] H' H'' ∧ i ≤ w ∧ H''[p19]? = some (.cells (hullL L i).cells true 0) ∧ f''.ds = [] ∧ f''.r 8 = ptr p8 0 ∧ f''.r 19 = ptr p19 0 ∧ f''.r 142 = .slice (some ⟨pn, 0, none⟩) w w ∧ f''.r 143 = vint w ∧ f''.r 144 = vint (i : Nat)) ?_ (s := 0)
      (.inl ⟨S45, by omega, c5, hds, r8, rfl, rfl, rfl, rfl⟩)
    rintro i f'' H'' ⟨S, hi, z19, hds2, q8, q19, q142, q143, q144⟩ ok'' hn''
    rw [s73_3]
    simp only [q8, q19, q142, q143, q144]
    refine lssI (cndI (fun hlt => ?_) fun hge => ?_)
    · have hiw : i < w := by omega
      refine idxI ⟨by omega, by omega⟩ ?_
      rw [Int.toNat_natCast, Nat.zero_add]
      refine load_part (c := (L i).cells) (S.get zn (by simp; omega)) (by rw [rngsC_len]; omega) (rngsC_get L hiw) rfl ?_
      have h19 := lt_of_get z19
      refine qAl fun H6 p21 e6 S6 c6 l6 => qStA (c := (L i).cells) c6 rfl rfl rfl fun H7 S7 c7 l7 => ?_
      have z19' := S7.get (S6.get z19 (by simp)) (by simp; omega)
      refine ⟨[p19, p21], offI (ldI (v := vint (hullL L i).lo) z19' rfl rfl ⟨by simp [RdOk, ptrBlk, ptr], offI (ldI (v := vint (L i).lo) c7 rfl rfl ⟨by simp [RdOk, ptrBlk, ptr], ?_⟩)⟩)⟩
      refine offI (ldI (v := vint (hullL L i).hi) z19' rfl rfl ⟨by simp [RdOk, ptrBlk, ptr], offI (ldI (v := vint (L i).hi) c7 rfl rfl ⟨by simp [RdOk, ptrBlk, ptr], maxI ?_⟩)⟩)
      have sb : ∀ {Hx : List AObj}, SameX [] H7 Hx → SameB (some [p19, p21]) H7 Hx := fun Sx b hb => by
        simp at hb
        have := lt_of_get c7
        rcases hb with e | e
        · rw [e]
          exact Sx.2 _ (by omega) (by simp)
        · rw [e]
          exact Sx.2 _ this (by simp)
      refine ⟨by decide, fill1 rfl rfl (by decide) (fillI (qNew fun H8 p8' e8 S8 c8 l8 => ⟨sb S8, good103 hJ c8 ⟨sb S8, fill1 rfl rfl (by decide) (fill1 rfl rfl (by simp) (fillI ?_))⟩⟩))⟩
      refine qStA (c := (hullL L (i + 1)).cells) (S8.get z19' (by simp)) rfl rfl rfl fun H9 S9 c9 l9 => addI (by omega) ?_
      have S69 : SameX [p19, p21] H'' H9 := ((S6.weak0 (Y := [p19, p21])).trans (S7.weak (by simp))).trans ((S8.weak0 (Y := [p19, p21])).trans (S9.weak (by simp)))
      exact ⟨i + 1, by dsimp only; omega, .inl ⟨S.thru S69 (by simp; have := S.1; omega), by omega, c9, hds2, q8, q19, q142, q143, rfl⟩⟩
    · have hiw : i = w := by omega
      subst hiw
      refine load_part (c := (hullL L i).cells) z19 (by simp [Rng.cells]) rfl rfl ?_
      refine qStA (c := (hullL L i).cells) (S.get z8 (by simp; omega)) rfl rfl rfl fun H6 S6 c6 l6 => ?_
      have SF : SameX [] h H6 := (SH.thru S (by simp; omega)).thru S6 (by simp; omega)
      obtain ⟨g, rfl⟩ := SF.app0 (by simp)
      obtain ⟨j, hj⟩ : ∃ j, p8 = h.length + j := ⟨p8 - h.length, by omega⟩
      subst hj
      refine ret_agg (i := j) hds2 ok (Nat.le_refl _) rfl (by kernel_rfl) q8 (by rw [back_get] at c6; exact c6) rfl rfl (by simp [VOk, AOk, LOk, Rng.cells]) hK
end
end Go.Proofs.Ytdgpacdknpahnaa

namespace Go.Proofs.Ytdgpacdknpahnaa
open Go.Conc Go.Proofs.Try
set_option maxRecDepth 100000
def Rng.has (r : Rng) (n : Int) : Prop := r.lo ≤ n ∧ n ≤ r.hi

structure Tru (t : Tal) (L : Nat → Rng) (ns : Nat → Int) : Prop where
  first : t.first.has (ns 0)
  lim : ∀ g, g < t.gates.toNat → (L g).has (ns g)
  step : ∀ g, g + 1 < t.gates.toNat → (stretchR t g).has (ns (g + 1) - ns g)

section
variable {t : Tal} {L : Nat → Rng} {ns : Nat → Int}
theorem Tru.fwd (h : Tru t L ns) : ∀ g, g < t.gates.toNat → (Go.Proofs.Ytdgpacdknpahnaa.fwd t L g).has (ns g)
  | 0, hg => by
    have h1 := h.first
    have h2 := h.lim 0 hg
    unfold Go.Proofs.Ytdgpacdknpahnaa.fwd Rng.meet Rng.has at *
    dsimp only
    omega
  | g + 1, hg => by
    have h1 := h.fwd g (by omega)
    have h2 := h.lim (g + 1) hg
    have h3 := h.step g hg
    show (((Go.Proofs.Ytdgpacdknpahnaa.fwd t L g).plus (stretchR t g)).meet (L (g + 1))).has _
    unfold Rng.meet Rng.plus Rng.has at *
    dsimp only
    omega
theorem Tru.truth (h : Tru t L ns) : TruthIs t L := fun g hg => by
  have := h.fwd g (by omega)
  unfold Rng.has at this
  omega
theorem Tru.bk (h : Tru t L ns) : ∀ d g, g + d + 1 = t.gates.toNat → (bkR t L g).has (ns g)
  | 0, g, hg => by
    rw [bkR_last (by omega)]
    exact h.fwd g (by omega)
  | d + 1, g, hg => by
    rw [bkR_step (by omega)]
    have h1 := h.bk d (g + 1) (by omega)
    have h2 := h.fwd g (by omega)
    have h3 := h.step g (by omega)
    unfold Rng.meet Rng.plus Rng.turn Rng.has at *
    dsimp only
    omega

theorem stretch_ok (f : TalFine t) (g : Nat) : (stretchR t g).lo ≤ (stretchR t g).hi := by
  have h1 := f.most
  unfold stretchR
  cases e : t.changes[g]? with
  | none =>
    unfold Rng.plus
    dsimp only [Option.getD]
    omega
  | some r =>
    have := f.ch r (List.mem_of_getElem? e)
    unfold Rng.plus
    dsimp only [Option.getD]
    omega

theorem fwd_prev (f : TalFine t) (hT : TruthIs t L) {g : Nat} (hg : g + 1 < t.gates.toNat) {n : Int} (hn : (fwd t L (g + 1)).has n) : ∃ n', (fwd t L g).has n' ∧ (stretchR t g).has (n - n') := by
  have h1 := hT g (by omega)
  have h2 := stretch_ok f g
  refine ⟨max (fwd t L g).lo (n - (stretchR t g).hi), ?_⟩
  change (((fwd t L g).plus (stretchR t g)).meet (L (g + 1))).has n at hn
  unfold Rng.meet Rng.plus Rng.has at *
  dsimp only at *
  omega
theorem fwd_lim {g : Nat} {n : Int} (hn : (fwd t L g).has n) : (L g).has n := by
  cases g with
  | zero =>
    unfold fwd Rng.meet Rng.has at *
    dsimp only at *
    omega
  | succ g =>
    change (((fwd t L g).plus (stretchR t g)).meet (L (g + 1))).has n at hn
    unfold Rng.meet Rng.plus Rng.has at *
    dsimp only at *
    omega
theorem bk_fwd {g : Nat} (hg : g < t.gates.toNat) {n : Int} (hn : (bkR t L g).has n) : (fwd t L g).has n := by
  by_cases h : t.gates.toNat = g + 1
  · rw [bkR_last h] at hn
    exact hn
  · rw [bkR_step (by omega)] at hn
    unfold Rng.meet Rng.has at *
    dsimp only at *
    omega
theorem bk_prev (f : TalFine t) (hT : TruthIs t L) {g : Nat} (hg : g + 1 < t.gates.toNat) {n : Int} (hn : (bkR t L (g + 1)).has n) : ∃ n', (bkR t L g).has n' ∧ (stretchR t g).has (n - n') := by
  obtain ⟨n', h1, h2⟩ := fwd_prev f hT hg (bk_fwd hg hn)
  refine ⟨n', ?_, h2⟩
  rw [bkR_step hg]
  unfold Rng.meet Rng.plus Rng.turn Rng.has at *
  dsimp only
  omega
theorem bk_ok (f : TalFine t) (hT : TruthIs t L) : ∀ d g, g + d + 1 = t.gates.toNat → (bkR t L g).lo ≤ (bkR t L g).hi
  | 0, g, hg => by
    rw [bkR_last (by omega)]
    exact hT g (by omega)
  | d + 1, g, hg => by
    have h1 := bk_ok f hT d (g + 1) (by omega)
    obtain ⟨n', h2, _⟩ := bk_prev f hT (g := g) (n := (bkR t L (g + 1)).lo) (by omega) ⟨Int.le_refl _, h1⟩
    unfold Rng.has at h2
    omega
theorem bk_next (f : TalFine t) (hT : TruthIs t L) {g : Nat} (hg : g + 1 < t.gates.toNat) {n : Int} (hn : (bkR t L g).has n) : ∃ n', (bkR t L (g + 1)).has n' ∧ (stretchR t g).has (n' - n) := by
  have h1 := bk_ok f hT (t.gates.toNat - 2 - g) (g + 1) (by omega)
  have h2 := stretch_ok f g
  rw [bkR_step hg] at hn
  refine ⟨max (bkR t L (g + 1)).lo (n + (stretchR t g).lo), ?_⟩
  unfold Rng.meet Rng.plus Rng.turn Rng.has at *
  dsimp only at *
  omega

theorem limN_base {u : Int} {cs : List Cnt} : ∀ i g, (limN u cs i g).sub ⟨0, 600⟩
  | 0, g => Rng.sub_refl _
  | i + 1, g => by
    have ih := limN_base (u := u) (cs := cs) i
    show Rng.sub ((match cs[i]? with
      | some c => bif keepB u i then updL (limN u cs i) c.gate.toNat ((limN u cs i c.gate.toNat).meet (rd c)) else limN u cs i
      | none => limN u cs i) g) _
    cases e : cs[i]? with
    | none => exact ih g
    | some c =>
      cases keepB u i with
      | false => exact ih g
      | true =>
        show Rng.sub (updL _ _ _ g) _
        unfold updL
        split
        · exact Rng.meet_left (ih _)
        · exact ih g

theorem bk_rsm (f : TalFine t) {u : Int} (hT : TruthIs t (limA t u)) : RSm (bkR t (limA t u)) t.gates.toNat := fun g hg => by
  have h1 := bk_ok f hT (t.gates.toNat - 1 - g) g (by omega)
  have h2 := fwd_lim (bk_fwd hg (n := (bkR t (limA t u) g).lo) ⟨Int.le_refl _, h1⟩)
  have h3 := fwd_lim (bk_fwd hg (n := (bkR t (limA t u) g).hi) ⟨h1, Int.le_refl _⟩)
  obtain ⟨h4, h5⟩ := limN_base (u := u) (cs := t.counts) t.counts.length g
  unfold limA Rng.has at *
  dsimp only at *
  omega
end
inductive Sum (t : Tal) (R : Nat → Rng) (a : Nat) : Nat → Int → Int → Prop
  | base {m : Int} : (R a).has m → Sum t R a 0 m 0
  | step {d : Nat} {n m s l : Int} : Sum t R a d n s → (R (a + d + 1)).has m → (ownL t (a + d) n m).has l → Sum t R a (d + 1) m (s + l)

section
variable {t : Tal} {R : Nat → Rng} {a : Nat}
theorem Sum.at {d : Nat} {m s : Int} (h : Sum t R a d m s) : (R (a + d)).has m := by
  cases h with
  | base h => exact h
  | step _ h _ => exact h
theorem own_bd {g : Nat} {n m l : Int} (h : (ownL t g n m).has l) : 0 ≤ l ∧ l ≤ t.most := by
  unfold ownL Rng.has at h
  dsimp only at h
  omega
theorem Sum.bd {d : Nat} {m s : Int} (h : Sum t R a d m s) : 0 ≤ s ∧ s ≤ t.most * d := by
  induction h with
  | base _ => simp
  | @step d n m s l _ _ h3 ih =>
    have := own_bd h3
    have e : t.most * ((d + 1 : Nat) : Int) = t.most * d + t.most := by
      rw [Int.natCast_add, Int.mul_add]
      simp
    omega
theorem Sum.zero {m s : Int} (h : Sum t R a 0 m s) : s = 0 := by
  cases h
  rfl

theorem acc_sem {d : Nat} (f : TalFine t) (hd : d ≤ 5) {m : Int} (hm : (R (a + d + 1)).has m) {prev : Nat → Rng} {w : Nat} (hw : w = wid (R (a + d)))
    (hp : ∀ i, i < w → (∀ s, Sum t R a d ((R (a + d)).lo + i) s → (prev i).has s) ∧ ((prev i).lo ≤ (prev i).hi → Sum t R a d ((R (a + d)).lo + i) (prev i).lo ∧ Sum t R a d ((R (a + d)).lo + i) (prev i).hi)) :
    ∀ i, i ≤ w → (∀ j s l, j < i → Sum t R a d ((R (a + d)).lo + j) s → (ownL t (a + d) ((R (a + d)).lo + j) m).has l → (accL t (a + d) (R (a + d)).lo prev m i).has (s + l)) ∧
      (accL t (a + d) (R (a + d)).lo prev m i = ⟨1048576, -1⟩ ∨ ((accL t (a + d) (R (a + d)).lo prev m i).lo ≤ (accL t (a + d) (R (a + d)).lo prev m i).hi ∧ Sum t R a (d + 1) m (accL t (a + d) (R (a + d)).lo prev m i).lo ∧ Sum t R a (d + 1) m (accL t (a + d) (R (a + d)).lo prev m i).hi))
  | 0, _ => ⟨fun j _ _ hj => absurd hj (by omega), .inl rfl⟩
  | i + 1, hi => by
    obtain ⟨h1, h2⟩ := acc_sem f hd hm hw hp i (by omega)
    obtain ⟨p1, p2⟩ := hp i (by omega)
    have hmo := f.most
    show (∀ j s l, j < i + 1 → _ → _ → (mixL (accL t (a + d) (R (a + d)).lo prev m i) (prev i) (ownL t (a + d) ((R (a + d)).lo + i) m)).has (s + l)) ∧ (mixL (accL t (a + d) (R (a + d)).lo prev m i) (prev i) (ownL t (a + d) ((R (a + d)).lo + i) m) = _ ∨ ((mixL (accL t (a + d) (R (a + d)).lo prev m i) (prev i) (ownL t (a + d) ((R (a + d)).lo + i) m)).lo ≤ (mixL (accL t (a + d) (R (a + d)).lo prev m i) (prev i) (ownL t (a + d) ((R (a + d)).lo + i) m)).hi ∧
      Sum t R a (d + 1) m (mixL (accL t (a + d) (R (a + d)).lo prev m i) (prev i) (ownL t (a + d) ((R (a + d)).lo + i) m)).lo ∧ Sum t R a (d + 1) m (mixL (accL t (a + d) (R (a + d)).lo prev m i) (prev i) (ownL t (a + d) ((R (a + d)).lo + i) m)).hi))
    generalize accL t (a + d) (R (a + d)).lo prev m i = A at *
    by_cases hne : (prev i).lo ≤ (prev i).hi ∧ (ownL t (a + d) ((R (a + d)).lo + i) m).lo ≤ (ownL t (a + d) ((R (a + d)).lo + i) m).hi
    · have hmx : mixL A (prev i) (ownL t (a + d) ((R (a + d)).lo + i) m) = ⟨min A.lo ((prev i).plus (ownL t (a + d) ((R (a + d)).lo + i) m)).lo, max A.hi ((prev i).plus (ownL t (a + d) ((R (a + d)).lo + i) m)).hi⟩ := by
        unfold mixL
        rw [if_pos hne]
      obtain ⟨q1, q2⟩ := p2 hne.1
      have s1 : Sum t R a (d + 1) m ((prev i).lo + (ownL t (a + d) ((R (a + d)).lo + i) m).lo) := .step q1 hm ⟨Int.le_refl _, hne.2⟩
      have s2 : Sum t R a (d + 1) m ((prev i).hi + (ownL t (a + d) ((R (a + d)).lo + i) m).hi) := .step q2 hm ⟨hne.2, Int.le_refl _⟩
      have b1 := s1.bd
      have b2 := s2.bd
      have b3 : t.most * ((d + 1 : Nat) : Int) ≤ 60 * 6 := Int.mul_le_mul hmo.2 (by omega) (by omega) (by omega)
      rw [hmx]
      have e1 : ((prev i).plus (ownL t (a + d) ((R (a + d)).lo + i) m)).lo = (prev i).lo + (ownL t (a + d) ((R (a + d)).lo + i) m).lo := rfl
      have e2 : ((prev i).plus (ownL t (a + d) ((R (a + d)).lo + i) m)).hi = (prev i).hi + (ownL t (a + d) ((R (a + d)).lo + i) m).hi := rfl
      rw [e1, e2]
      refine ⟨fun j s l hj hs hl => ?_, .inr ⟨?_, ?_, ?_⟩⟩
      · by_cases e : j = i
        · subst e
          have := p1 s hs
          unfold Rng.has at *
          dsimp only
          omega
        · have := h1 j s l (by omega) hs hl
          unfold Rng.has at *
          dsimp only
          omega
      · dsimp only
        omega
      · dsimp only
        rcases h2 with rfl | ⟨_, h3, _⟩
        · rw [Int.min_eq_right (by dsimp only; omega)]
          exact s1
        · rcases Int.le_total A.lo ((prev i).lo + (ownL t (a + d) ((R (a + d)).lo + i) m).lo) with x | x
          · rw [Int.min_eq_left x]; exact h3
          · rw [Int.min_eq_right x]; exact s1
      · dsimp only
        rcases h2 with rfl | ⟨_, _, h3⟩
        · rw [Int.max_eq_right (by dsimp only; omega)]
          exact s2
        · rcases Int.le_total A.hi ((prev i).hi + (ownL t (a + d) ((R (a + d)).lo + i) m).hi) with x | x
          · rw [Int.max_eq_right x]; exact s2
          · rw [Int.max_eq_left x]; exact h3
    · have hmx : mixL A (prev i) (ownL t (a + d) ((R (a + d)).lo + i) m) = A := by
        unfold mixL
        rw [if_neg hne]
      rw [hmx]
      refine ⟨fun j s l hj hs hl => ?_, h2⟩
      by_cases e : j = i
      · subst e
        have := p1 s hs
        exact absurd ⟨by unfold Rng.has at this; omega, by unfold Rng.has at hl; omega⟩ hne
      · exact h1 j s l (by omega) hs hl

theorem loss_sem (f : TalFine t) {G : Nat} (hG : G ≤ 5) (hR : RSm R G) : ∀ d, a + d < G → ∀ k, k < wid (R (a + d)) →
    (∀ s, Sum t R a d ((R (a + d)).lo + k) s → (lossL t R a d k).has s) ∧ ((lossL t R a d k).lo ≤ (lossL t R a d k).hi → Sum t R a d ((R (a + d)).lo + k) (lossL t R a d k).lo ∧ Sum t R a d ((R (a + d)).lo + k) (lossL t R a d k).hi)
  | 0, hd, k, hk => by
    have h1 := hR a (by omega)
    refine ⟨fun s hs => ?_, fun _ => ?_⟩
    · rw [hs.zero]
      exact ⟨Int.le_refl _, Int.le_refl _⟩
    · have : (R a).has ((R a).lo + k) := by
        have hk' : k < wid (R a) := hk
        unfold wid at hk'
        unfold Rng.has
        omega
      exact ⟨.base this, .base this⟩
  | d + 1, hd, k, hk => by
    have ih := loss_sem f hG hR d (by omega)
    have h1 := hR (a + d + 1) (by omega)
    have h0 := hR (a + d) (by omega)
    have hm : (R (a + d + 1)).has ((R (a + d + 1)).lo + k) := by
      have hk' : k < wid (R (a + d + 1)) := hk
      unfold wid at hk'
      unfold Rng.has
      omega
    obtain ⟨c1, c2⟩ := acc_sem (m := (R (a + d + 1)).lo + k) f (by omega) hm rfl ih _ (Nat.le_refl _)
    refine ⟨fun s hs => ?_, fun hne => ?_⟩
    · cases hs with
      | @step _ n _ s l hs1 _ hl =>
        have hn := hs1.at
        have e : (R (a + d)).lo + ((n - (R (a + d)).lo).toNat : Nat) = n := by
          unfold Rng.has at hn
          omega
        refine c1 (n - (R (a + d)).lo).toNat s l ?_ ?_ ?_
        · unfold wid
          unfold Rng.has at hn
          omega
        · rw [e]
          exact hs1
        · rw [e]
          exact hl
    · rcases c2 with c2 | ⟨_, c3, c4⟩
      · exfalso
        have e : lossL t R a (d + 1) k = ⟨1048576, -1⟩ := c2
        rw [e] at hne
        simp at hne
      · exact ⟨c3, c4⟩

theorem hull_has {f : Nat → Rng} : ∀ n i, i < n → (hullL f n).lo ≤ (f i).lo ∧ (f i).hi ≤ (hullL f n).hi
  | n + 1, i, hi => by
    show min (hullL f n).lo (f n).lo ≤ _ ∧ _ ≤ max (hullL f n).hi (f n).hi
    by_cases e : i = n
    · subst e
      omega
    · have := hull_has (f := f) n i (by omega)
      omega
theorem hull_ex {f : Nat → Rng} : ∀ n, 0 < n → (∃ i, i < n ∧ (hullL f n).lo = (f i).lo) ∧ (∃ i, i < n ∧ (hullL f n).hi = (f i).hi)
  | 1, _ => by
    show (∃ i, i < 1 ∧ min (f 0).lo (f 0).lo = (f i).lo) ∧ (∃ i, i < 1 ∧ max (f 0).hi (f 0).hi = (f i).hi)
    exact ⟨⟨0, by omega, by omega⟩, ⟨0, by omega, by omega⟩⟩
  | n + 2, _ => by
    obtain ⟨⟨i, hi, e1⟩, ⟨j, hj, e2⟩⟩ := hull_ex (f := f) (n + 1) (by omega)
    show (∃ i, i < n + 2 ∧ min (hullL f (n + 1)).lo (f (n + 1)).lo = (f i).lo) ∧ (∃ i, i < n + 2 ∧ max (hullL f (n + 1)).hi (f (n + 1)).hi = (f i).hi)
    refine ⟨?_, ?_⟩
    · rcases Int.le_total (hullL f (n + 1)).lo (f (n + 1)).lo with x | x
      · exact ⟨i, by omega, by rw [Int.min_eq_left x, e1]⟩
      · exact ⟨n + 1, by omega, by rw [Int.min_eq_right x]⟩
    · rcases Int.le_total (hullL f (n + 1)).hi (f (n + 1)).hi with x | x
      · exact ⟨n + 1, by omega, by rw [Int.max_eq_right x]⟩
      · exact ⟨j, by omega, by rw [Int.max_eq_left x, e2]⟩

theorem lost_sem (f : TalFine t) {G b : Nat} (hG : G ≤ 5) (hR : RSm R G) (hab : a ≤ b) (hb : b < G) (hall : ∀ m, (R b).has m → ∃ s, Sum t R a (b - a) m s) :
    (∀ m s, Sum t R a (b - a) m s → (lostR t R a b).has s) ∧ (∃ m, Sum t R a (b - a) m (lostR t R a b).lo) ∧ (∃ m, Sum t R a (b - a) m (lostR t R a b).hi) := by
  have hd : a + (b - a) = b := by omega
  have ls := loss_sem f hG hR (b - a) (a := a) (by omega)
  rw [hd] at ls
  have hwb := hR b hb
  have hw : 0 < wid (R b) := by unfold wid; omega
  have ne : ∀ k, k < wid (R b) → (lossL t R a (b - a) k).lo ≤ (lossL t R a (b - a) k).hi := fun k hk => by
    obtain ⟨s, hs⟩ := hall ((R b).lo + k) (by unfold Rng.has; unfold wid at hk; omega)
    have := (ls k hk).1 s hs
    unfold Rng.has at this
    omega
  refine ⟨fun m s hs => ?_, ?_, ?_⟩
  · have hm := hs.at
    rw [hd] at hm
    have e : (R b).lo + ((m - (R b).lo).toNat : Nat) = m := by
      unfold Rng.has at hm
      omega
    have hk : (m - (R b).lo).toNat < wid (R b) := by
      unfold wid
      unfold Rng.has at hm
      omega
    have h1 := (ls _ hk).1 s (by rw [e]; exact hs)
    have h2 := hull_has (f := lossL t R a (b - a)) _ _ hk
    unfold lostR
    unfold Rng.has at *
    omega
  · obtain ⟨⟨i, hi, e⟩, _⟩ := hull_ex (f := lossL t R a (b - a)) _ hw
    refine ⟨(R b).lo + i, ?_⟩
    unfold lostR
    rw [e]
    exact ((ls i hi).2 (ne i hi)).1
  · obtain ⟨_, ⟨i, hi, e⟩⟩ := hull_ex (f := lossL t R a (b - a)) _ hw
    refine ⟨(R b).lo + i, ?_⟩
    unfold lostR
    rw [e]
    exact ((ls i hi).2 (ne i hi)).2
end
end Go.Proofs.Ytdgpacdknpahnaa

namespace Go.Proofs.Ytdgpacdknpahnaa
open Go.Conc Go.Proofs.Try
set_option maxRecDepth 100000
section
variable {main : Bool} {J : JT} {h h0 H : List AObj} {K : Value → List AObj → Prop} {KV : Value → Prop} {n0 : Nat}
theorem ret_agg2 {rs : List ResultVar} {f : RG} {n t p x y : Nat} {c : List Value} {wr : Bool} {sz : Nat} {v : Value} (ds : f.ds = []) (ok : heapOk h) (hn : n0 ≤ h.length) (hrs : rs = [.cell x t, .tmp y]) (ht : tk prog t = some (true, n)) (S : SameX [] h H) (hr : f.r x = ptr p 0) (hb : H[p]? = some (.cells c wr sz)) (hl : c.length = n) (hkn : kn c = true)
    (hy : f.r y = v) (hu : v ≠ unk) (h1 : VOk h.length (.agg ⟨c⟩)) (h2 : VOk h.length v) (hk : K (.tuple ⟨[.agg ⟨c⟩, v]⟩) h) : RetQ prog rs n0 K .ret f H := by
  subst hrs
  obtain ⟨g, rfl⟩ := S.app0 (by simp)
  refine retQ_drop ds ok hn (resW_cell (gg := true) (s := n) ht ?_)
  rw [hr]
  refine load_part (c := c) hb (by omega) (by rw [List.drop_zero, List.take_of_length_le (by omega)]) hkn (resW_tmp (by rw [hy]; exact hu) (resW_nil ?_))
  rw [hy]
  refine ⟨?_, hk⟩
  simp only [pack, VOk, AOk, LOk] at h1 ⊢
  exact ⟨h1, h2, trivial⟩

theorem good31 (hJ : Closed prog main J) {v cv nv : Value} {t : Tal} {a b : Int} (ht : TalAt h v t cv nv)
    (k1 : talErr t ≠ 0 → K (.tuple ⟨[.agg ⟨[vint 0, vint 0]⟩, vint (talErr t)]⟩) h) (k2 : talErr t = 0 → ¬ ((0 ≤ a ∧ a ≤ t.gates - 1) ∧ (0 ≤ b ∧ b ≤ t.gates - 1)) → K (.tuple ⟨[.agg ⟨[vint 0, vint 0]⟩, vint 3]⟩) h)
    (k3 : talErr t = 0 → (0 ≤ a ∧ a ≤ t.gates - 1) → (0 ≤ b ∧ b ≤ t.gates - 1) → a ≥ b → K (.tuple ⟨[.agg ⟨[vint 0, vint 0]⟩, vint 5]⟩) h)
    (k4 : talErr t = 0 → (0 ≤ a ∧ a ≤ t.gates - 1) → (0 ≤ b ∧ b ≤ t.gates - 1) → a < b → ¬ TruthIs t (limA t 0) → K (.tuple ⟨[.agg ⟨[vint 0, vint 0]⟩, vint 11]⟩) h)
    (k5 : talErr t = 0 → (0 ≤ a ∧ a ≤ t.gates - 1) → (0 ≤ b ∧ b ≤ t.gates - 1) → a < b → TruthIs t (limA t 0) → K (.tuple ⟨[(lostR t (bkR t (limA t 0)) a.toNat b.toNat).val, vint 0]⟩) h) : Good prog J 31 [v, vint a, vint b] h K := by
  refine g31 hJ fun ok => ?_
  rw [e31, ht.val]
  have kc : kn1 cv = true ∧ kn1 nv = true := ⟨(sli_one ht.ch).2.2, (sli_one ht.co).2.2⟩
  refine qBox (tal_one ht) fun H1 p1 e1 S1 b1 l1 => qAl fun H2 p2 e2 S2 b2 l2 => ?_
  have b1' := S2.get b1 (by simp)
  have S12 := S1.trans S2
  refine load_part (c := talCells t cv nv) b1' (by rw [cs_val]; omega) rfl (tal_kn kc.1 kc.2) ?_
  have t2 : TalAt H2 (.agg ⟨talCells t cv nv⟩) t cv nv := ⟨rfl, S12.sli ht.ch (by simp), S12.sli ht.co (by simp)⟩
  refine good71 hJ t2 fun H3 bw bm S3 a1 a2 a3 w hm => ext0 (ext1 ?_)
  have S13 : SameX [] h H3 := S12.trans S3
  have b3 := S3.get b2 (by simp)
  have b13 := S3.get b1' (by simp)
  -- an error
  have err : ∀ (e : Int) (H : List AObj) (F : RG), SameX [] H3 H → F.ds = [] → F.r 6 = ptr p2 0 → F.r 7 = vint e → K (.tuple ⟨[.agg ⟨[vint 0, vint 0]⟩, vint e]⟩) h →
      ∀ F' : Value → RG, (∀ c, (F' c).ds = [] ∧ (F' c).r 6 = ptr p2 0 ∧ (F' c).r 7 = vint e) → aFill [vint 0, vint 0] [] fun c11 => aStore 2 (ptr p2 0) (.agg ⟨c11⟩) H fun h12 => RetQ prog [.cell 6 38, .tmp 7] h.length K .ret (F' (.agg ⟨c11⟩)) h12 := by
    intro e H F S _ _ _ hk F' hF
    refine fillI (qStA (S.get b3 (by simp)) rfl rfl rfl fun H4 S4 c4 l4 => ?_)
    exact ret_agg2 (hF _).1 ok (Nat.le_refl _) rfl (by kernel_rfl) ((S13.trans S).thru S4 (by simp; have := S12.1; omega)) (hF _).2.1 c4 rfl rfl (hF _).2.2 (by simp [unk]) (by simp [VOk, AOk, LOk]) (by simp [VOk]) hk
  have z : RG := ⟨fun _ => unk, []⟩
  refine neqI (cndI (fun hne => ?_) fun heq => ?_)
  · exact err (talErr t) H3 ⟨fun i => if i = 6 then ptr p2 0 else vint (talErr t), []⟩ SameX.refl rfl rfl rfl (k1 hne) (fun x => _) fun x => ⟨rfl, rfl, rfl⟩
  have h0 : talErr t = 0 := by omega
  have fine := talErr_fine h0
  have hg := fine.gates
  -- the rest
  have rest : (0 ≤ a ∧ a ≤ t.gates - 1) → (0 ≤ b ∧ b ≤ t.gates - 1) → a < b → ∀ F1 F2 : Value → Value → Value → Value → Value → RG, (∀ x1 x2 x3 x4 x5, (F1 x1 x2 x3 x4 x5).ds = [] ∧ (F1 x1 x2 x3 x4 x5).r 6 = ptr p2 0 ∧ (F1 x1 x2 x3 x4 x5).r 7 = vint 11) → (∀ x1 x2 x3 x4 x5, (F2 x1 x2 x3 x4 x5).ds = [] ∧ (F2 x1 x2 x3 x4 x5).r 6 = ptr p2 0 ∧ (F2 x1 x2 x3 x4 x5).r 7 = vint 0) →
      Good prog J 72 [ptr bw 0] H3 fun v24 h25 => aExt v24 0 fun v26 => aExt v24 1 fun v27 => aUn .not v27 fun v28 => cnd v28 (aFill [vint 0, vint 0] [] fun c29 => aStore 2 (ptr p2 0) (.agg ⟨c29⟩) h25 fun h30 => RetQ prog [.cell 6 38, .tmp 7] h.length K .ret (F1 v24 v26 v27 v28 (.agg ⟨c29⟩)) h30)
        (Good prog J 73 [ptr bw 0, v26, vint a, vint b] h25 fun v31 h32 => aStore 2 (ptr p2 0) v31 h32 fun h33 => RetQ prog [.cell 6 38, .tmp 7] h.length K .ret (F2 v24 v26 v27 v28 v31) h33) := by
    intro ha hb hab F1 F2 hF1 hF2
    refine good72 hJ w a1 a2 a3 fine hm metOk_nil (fun hf H4 S4 => ext0 (ext1 (notI (cnd_true.2 ?_)))) (fun hT H4 po es' S4 h1 w4 hm4 met4 c4 => ext0 (ext1 (notI (cnd_false.2 ?_))))
    · have S24 : SameX [] h H4 := S13.thru S4 (by simp; have := S12.1; omega)
      refine fillI (qStA (S4.get b3 (by simp; omega)) rfl rfl rfl fun H5 S5 c5 l5 => ?_)
      exact ret_agg2 (hF1 _ _ _ _ _).1 ok (Nat.le_refl _) rfl (by kernel_rfl) (S24.thru S5 (by simp; have := S12.1; omega)) (hF1 _ _ _ _ _).2.1 c5 rfl rfl (hF1 _ _ _ _ _).2.2 (by simp [unk]) (by simp [VOk, AOk, LOk]) (by simp [VOk]) (k4 h0 ha hb hab hf)
    · have S24 : SameX [] h H4 := S13.thru S4 (by simp; have := S12.1; omega)
      obtain ⟨a', rfl⟩ : ∃ a' : Nat, a = a' := ⟨a.toNat, by omega⟩
      obtain ⟨b', rfl⟩ : ∃ b' : Nat, b = b' := ⟨b.toNat, by omega⟩
      refine good73 hJ w4 c4 fine (bk_rsm fine hT) (by omega) (by omega) ?_
      refine qStA (c := (lostR t (bkR t (limA t 0)) a' b').cells) (S4.get b3 (by simp; omega)) rfl rfl rfl fun H5 S5 c5 l5 => ?_
      have := k5 h0 ha hb hab hT
      rw [Int.toNat_natCast, Int.toNat_natCast] at this
      exact ret_agg2 (hF2 _ _ _ _ _).1 ok (Nat.le_refl _) rfl (by kernel_rfl) (S24.thru S5 (by simp; have := S12.1; omega)) (hF2 _ _ _ _ _).2.1 c5 rfl rfl (hF2 _ _ _ _ _).2.2 (by simp [unk]) (by simp [VOk, AOk, LOk, Rng.cells]) (by simp [VOk]) this
  refine offI (ldI (v := vint t.gates) b13 rfl rfl (subI (by omega) (good67 hJ (notI (cndN (fun hn => ?_) fun hin => ?_)))))
  · refine cnd_true.2 ?_
    exact err 3 H3 ⟨fun i => if i = 6 then ptr p2 0 else vint 3, []⟩ SameX.refl rfl rfl rfl (k2 h0 (fun x => hn x.1)) (fun x => _) fun x => ⟨rfl, rfl, rfl⟩
  · refine offI (ldI (v := vint t.gates) b13 rfl rfl (subI (by omega) (good67 hJ (notI (cndN (fun hn => ?_) fun hin2 => ?_)))))
    · exact err 3 H3 ⟨fun i => if i = 6 then ptr p2 0 else vint 3, []⟩ SameX.refl rfl rfl rfl (k2 h0 (fun x => hn x.2)) (fun x => _) fun x => ⟨rfl, rfl, rfl⟩
    · refine geqI (cndI (fun hge => ?_) fun hlt => ?_)
      · exact err 5 H3 ⟨fun i => if i = 6 then ptr p2 0 else vint 5, []⟩ SameX.refl rfl rfl rfl (k3 h0 hin hin2 hge) (fun x => _) fun x => ⟨rfl, rfl, rfl⟩
      · exact rest hin hin2 (by omega) (fun v24 v26 v27 v28 c => _) (fun v24 v26 v27 v28 v31 => _) (fun _ _ _ _ _ => ⟨rfl, rfl, rfl⟩) fun _ _ _ _ _ => ⟨rfl, rfl, rfl⟩

end
end Go.Proofs.Ytdgpacdknpahnaa

namespace Go.Proofs.Ytdgpacdknpahnaa
open Go.Conc Go.Proofs.Try
set_option maxRecDepth 100000
instance (r : Rng) (n : Int) : Decidable (r.has n) := inferInstanceAs (Decidable (_ ∧ _))

def AllP (t : Tal) (g : Int) (n : Int) : Prop := ∀ c ∈ t.counts, c.gate = g → (rd c).has n

theorem poss_iff {c : Cnt} (h1 : 0 ≤ c.num ∧ c.num ≤ 300) (h2 : 0 ≤ c.err ∧ c.err ≤ 20) {n : Int} : (rd c).has n ↔ 0 ≤ n ∧ 100 * (c.num - n) ≤ c.err * n ∧ 100 * -(c.num - n) ≤ c.err * n := by
  obtain ⟨a, b, d, e⟩ := rd_facts h1 h2
  show rdLo c ≤ n ∧ n ≤ rdHi c ↔ _
  rw [lo_le h2, le_hi h2]
  refine ⟨fun ⟨x, y⟩ => ⟨?_, by omega, by omega⟩, fun ⟨x, y, z⟩ => ⟨by omega, by omega⟩⟩
  have := (lo_le h2 (n := n)).2 x
  omega

theorem lim_iff {t : Tal} (f : TalFine t) {g : Nat} {n : Int} : (limA t 0 g).has n ↔ (0 ≤ n ∧ n ≤ 600) ∧ AllP t g n := by
  have key : ∀ i, i ≤ t.counts.length → ((limN 0 t.counts i g).has n ↔ (0 ≤ n ∧ n ≤ 600) ∧ ∀ j (hj : j < t.counts.length), j < i → t.counts[j].gate = g → (rd t.counts[j]).has n) := by
    intro i
    induction i with
    | zero =>
      intro _
      show (⟨0, 600⟩ : Rng).has n ↔ _
      unfold Rng.has
      simp
    | succ i ih =>
      intro hi
      have ih := ih (by omega)
      rw [limN_step (by omega), keep_zero]
      show (updL _ _ _ g).has n ↔ _
      have hc := f.co _ (List.getElem_mem (show i < t.counts.length by omega))
      unfold updL
      by_cases e : g = t.counts[i].gate.toNat
      · have e' : t.counts[i].gate = g := by omega
        rw [if_pos e, ← e]
        have hm : ((limN 0 t.counts i g).meet (rd t.counts[i])).has n ↔ (limN 0 t.counts i g).has n ∧ (rd t.counts[i]).has n := by
          unfold Rng.meet Rng.has
          dsimp only
          omega
        rw [hm, ih]
        refine ⟨fun ⟨⟨x, y⟩, z⟩ => ⟨x, fun j hj hji hg => ?_⟩, fun ⟨x, y⟩ => ⟨⟨x, fun j hj hji hg => y j hj (by omega) hg⟩, y i (by omega) (by omega) e'⟩⟩
        by_cases ej : j = i
        · subst ej
          exact z
        · exact y j hj (by omega) hg
      · rw [if_neg e, ih]
        refine ⟨fun ⟨x, y⟩ => ⟨x, fun j hj hji hg => ?_⟩, fun ⟨x, y⟩ => ⟨x, fun j hj hji hg => y j hj (by omega) hg⟩⟩
        by_cases ej : j = i
        · subst ej
          exact absurd (by omega) e
        · exact y j hj (by omega) hg
  unfold limA
  rw [key _ (Nat.le_refl _)]
  refine and_congr_right fun _ => ⟨fun h c hc => ?_, fun h j hj _ hg => h _ (List.getElem_mem hj) hg⟩
  obtain ⟨j, hj, rfl⟩ := List.mem_iff_getElem.1 hc
  exact h j hj hj

def befLo (t : Tal) (g : Nat) (n : Int) : Int := max 0 (n - ((t.changes[g]?).getD ⟨0, 0⟩).hi)
def befHi (t : Tal) (g : Nat) (n : Int) : Int := min 540 (n - ((t.changes[g]?).getD ⟨0, 0⟩).lo + t.most)
def Ch (t : Tal) : Nat → Int → Prop
  | 0, n => t.first.has n ∧ AllP t (0 : Nat) n
  | g + 1, n => (0 ≤ n ∧ n ≤ 540) ∧ (∃ m, befLo t g n ≤ m ∧ m ≤ befHi t g n ∧ Ch t g m) ∧ AllP t (g + 1 : Nat) n

def rowD (f : Nat → Bool) : List Value := (List.range 541).map fun j => .bool (f j)
theorem rowD_len (f : Nat → Bool) : (rowD f).length = 541 := by simp [rowD]
theorem rowD_get (f : Nat → Bool) {n : Nat} (hn : n < 541) : (rowD f)[n]? = some (.bool (f n)) := by simp [rowD, hn]
theorem rowD_set (f : Nat → Bool) {n : Nat} (x : Bool) : (rowD f).set n (.bool x) = rowD (fun j => if j = n then x else f j) := by
  apply List.ext_getElem?
  intro i
  rw [List.getElem?_set]
  by_cases hi : i < 541
  · rw [rowD_get _ hi, rowD_get _ hi]
    by_cases e : n = i
    · subst e
      simp [rowD_len, hi]
    · rw [if_neg e, if_neg (fun x => e x.symm)]
  · have h1 : (rowD f)[i]? = none := List.getElem?_eq_none (by rw [rowD_len]; omega)
    have h2 : (rowD fun j => if j = n then x else f j)[i]? = none := List.getElem?_eq_none (by rw [rowD_len]; omega)
    rw [h1, h2]
    split
    · rw [if_neg (by rw [rowD_len]; omega)]
    · rfl
theorem rowD_congr {f f' : Nat → Bool} (h : ∀ j, j < 541 → f j = f' j) : rowD f = rowD f' := List.map_congr_left fun j hj => by rw [h j (by simpa using hj)]
section
variable {main : Bool} {J : JT} {h h0 H : List AObj} {K : Value → List AObj → Prop} {KV : Value → Prop} {n0 : Nat}
noncomputable instance (t : Tal) (g n : Int) : Decidable (AllP t g n) := Classical.propDecidable _
noncomputable instance (t : Tal) (g : Nat) (n : Int) : Decidable (Ch t g n) := Classical.propDecidable _

def rowV (b : Nat) : Value := .slice (some ⟨b, 0, none⟩) 541 541

structure Grid (h H : List AObj) (v : Value) (bs : List Nat) (o : Option Nat) (P : Nat → Nat → Bool) : Prop where
  own : OwnX H 1 (bs.map rowV) bs.length v o
  rows : ∀ j (hj : j < bs.length), H[bs[j]]? = some (.cells (rowD (P j)) true 0)
  inc : ∀ i j (hi : i < bs.length) (hj : j < bs.length), i < j → bs[i] < bs[j]
  new : ∀ b ∈ bs, h.length ≤ b
  onew : ∀ i, o = some i → h.length ≤ i ∧ i ∉ bs

theorem Grid.same {v : Value} {bs : List Nat} {o : Option Nat} {P : Nat → Nat → Bool} {X : List Nat} {H' : List AObj} (G : Grid h H v bs o P) (S : SameX X H H') (h1 : ∀ b ∈ bs, b ∉ X) (h2 : ∀ i, o = some i → i ∉ X) : Grid h H' v bs o P :=
  ⟨ownX_keep G.own S h2, fun j hj => S.get (G.rows j hj) (h1 _ (List.getElem_mem hj)), G.inc, G.new, G.onew⟩
theorem Grid.lt {v : Value} {bs : List Nat} {o : Option Nat} {P : Nat → Nat → Bool} (G : Grid h H v bs o P) : ∀ b ∈ bs, b < H.length := fun b hb => by
  obtain ⟨j, hj, rfl⟩ := List.mem_iff_getElem.1 hb
  exact lt_of_get (G.rows j hj)
theorem Grid.read {v : Value} {bs : List Nat} {o : Option Nat} {P : Nat → Nat → Bool} (G : Grid h H v bs o P) {j n : Nat} (hj : j < bs.length) (hn : n < 541) {K2 : Value → Value → Value → Value → Prop} (hk : ∀ p q, K2 p (rowV bs[j]) q (.bool (P j n))) :
    aIdx 1 v (vint j) fun v4 => aLoad false 1 v4 H fun v5 => aIdx 1 v5 (vint n) fun v6 => aLoad false 1 v6 H (K2 v4 v5 v6) := by
  obtain ⟨h1, h2, ⟨h3, _, _⟩ | ⟨i, c, sz, _, rfl, h5, _⟩⟩ := G.own
  · omega
  · refine idxI ⟨by omega, by omega⟩ ?_
    rw [Int.toNat_natCast, Nat.zero_add]
    refine ldI (v := rowV bs[j]) h5 (by simp [hj]) rfl (idxI ⟨by omega, by omega⟩ ?_)
    rw [Int.toNat_natCast, Nat.zero_add]
    exact ldI (G.rows j hj) (by rw [Nat.mul_one]; exact rowD_get _ hn) rfl (hk _ _)
end
end Go.Proofs.Ytdgpacdknpahnaa

namespace Go.Proofs.Ytdgpacdknpahnaa
open Go.Conc Go.Proofs.Try
set_option maxRecDepth 100000
section
variable {main : Bool} {J : JT} {h h0 H : List AObj} {K : Value → List AObj → Prop} {KV : Value → Prop} {n0 : Nat}
theorem Grid.more {v y : Value} {bs : List Nat} {o : Option Nat} {P : Nat → Nat → Bool} {pr : Nat} (G : Grid h H v bs o P) (hpr : H[pr]? = some (.cells (rowD (P bs.length)) true 0)) (hlt : ∀ b ∈ bs, b < pr) (hn : h.length ≤ pr) (ho : ∀ i, o = some i → i ≠ pr) (hl : bs.length < 1000) (hy : Sli H y 1 1 [rowV pr])
    (hk : ∀ v' H' p, SameX o.toList H H' → Grid h H' v' (bs ++ [pr]) (some p) P → K v' H') : aApp 1 v y H K := by
  refine ownX_more G.own (by omega) hl hy fun v' H' p e O S => ?_
  have hp := lt_of_get hpr
  have hno : ∀ b ∈ bs, b ∉ o.toList := fun b hb hm => by
    simp at hm
    exact (G.onew b hm).2 hb
  have hnp : pr ∉ o.toList := fun hm => by
    simp at hm
    exact ho pr hm rfl
  refine hk v' H' p S ⟨by simpa using O, fun j hj => ?_, fun i j hi hj hij => ?_, fun b hb => ?_, fun i hi => ?_⟩
  · rcases Nat.lt_or_ge j bs.length with x | x
    · rw [List.getElem_append_left x]
      exact S.get (G.rows j x) (hno _ (List.getElem_mem x))
    · have : j = bs.length := by
        simp at hj
        omega
      subst this
      simp only [List.getElem_concat_length]
      exact S.get hpr hnp
  · rcases Nat.lt_or_ge j bs.length with x | x
    · rw [List.getElem_append_left x, List.getElem_append_left (by omega)]
      exact G.inc i j _ _ hij
    · have : j = bs.length := by
        simp at hj
        omega
      subst this
      rw [List.getElem_append_left hij]
      simp only [List.getElem_concat_length]
      exact hlt _ (List.getElem_mem hij)
  · rcases List.mem_append.1 hb with hb | hb
    · exact G.new b hb
    · simp at hb
      omega
  · cases hi
    have := S.1
    refine ⟨by omega, fun hm => ?_⟩
    rcases List.mem_append.1 hm with hm | hm
    · have := G.lt p hm
      omega
    · simp at hm
      omega

end
end Go.Proofs.Ytdgpacdknpahnaa

namespace Go.Proofs.Ytdgpacdknpahnaa
open Go.Conc Go.Proofs.Try
set_option maxRecDepth 100000
section
variable {main : Bool} {J : JT} {h h0 H : List AObj} {K : Value → List AObj → Prop} {KV : Value → Prop} {HL : List AObj → Prop} {n0 : Nat}
theorem Grid.congr {v : Value} {bs : List Nat} {o : Option Nat} {P P' : Nat → Nat → Bool} (G : Grid h H v bs o P) (hp : ∀ j n, j < bs.length → n < 541 → P j n = P' j n) : Grid h H v bs o P' :=
  ⟨G.own, fun j hj => by rw [G.rows j hj, rowD_congr fun n hn => hp j n hj hn], G.inc, G.new, G.onew⟩

theorem Grid.write {v : Value} {bs : List Nat} {o : Option Nat} {P : Nat → Nat → Bool} (G : Grid h H v bs o P) {j n : Nat} {x : Bool} (hj : j < bs.length) (hn : n < 541) {K2 : Value → Value → Value → List AObj → Prop}
    (hk : ∀ p q H', SameX [bs[j]] H H' → Grid h H' v bs o (fun a b => if a = j ∧ b = n then x else P a b) → K2 p (rowV bs[j]) q H') :
    aIdx 1 v (vint j) fun v4 => aLoad false 1 v4 H fun v5 => aIdx 1 v5 (vint n) fun v6 => aStore 1 v6 (.bool x) H fun h' => K2 v4 v5 v6 h' := by
  obtain ⟨h1, h2, ⟨h3, _, _⟩ | ⟨i, c, sz, rfl, rfl, h5, h6⟩⟩ := id G.own
  · omega
  · refine idxI ⟨by omega, by omega⟩ ?_
    rw [Int.toNat_natCast, Nat.zero_add]
    refine ldI (v := rowV bs[j]) h5 (by simp [hj]) rfl (idxI ⟨by omega, by omega⟩ ?_)
    rw [Int.toNat_natCast, Nat.zero_add, Nat.mul_one]
    refine qSt (G.rows j hj) (by rw [rowD_len]; omega) rfl rfl fun H' S c' l' => hk _ _ H' S ⟨ownX_keep G.own S ?_, fun a ha => ?_, G.inc, G.new, G.onew⟩
    · intro b hb hm
      simp at hm
      subst hm
      exact (G.onew _ hb).2 (List.getElem_mem hj)
    · by_cases e : a = j
      · subst e
        rw [c', rowD_set]
        congr 2
        refine rowD_congr fun q _ => ?_
        simp
      · have hne : bs[a] ≠ bs[j] := by
          rcases Nat.lt_or_ge a j with x | x
          · have := G.inc a j ha hj x
            omega
          · have := G.inc j a hj ha (by omega)
            omega
        rw [S.get (G.rows a ha) (by simpa using hne)]
        congr 2
        refine rowD_congr fun q _ => ?_
        rw [if_neg (fun x => e x.1)]

end
end Go.Proofs.Ytdgpacdknpahnaa

namespace Go.Proofs.Ytdgpacdknpahnaa
open Go.Conc Go.Proofs.Try
set_option maxRecDepth 100000
structure Kn (h Hs H : List AObj) (ns : List Int) (k : Nat) (l : List (Nat × AObj)) : Prop where
  a : HX h H ns k
  S : SameX [h.length] Hs H
  g : ∀ x ∈ l, x.1 ≠ h.length ∧ H[x.1]? = some x.2

section
variable {main : Bool} {J : JT} {h Hs H : List AObj} {K : Value → List AObj → Prop} {ns : List Int} {k : Nat} {l : List (Nat × AObj)}
theorem Kn.to {H' : List AObj} {k' : Nat} (a : Kn h Hs H ns k l) (S : SameX [h.length] H H') (a' : HX h H' ns k') : Kn h Hs H' ns k' l :=
  ⟨a', a.S.trans S, fun x hx => ⟨(a.g x hx).1, S.get (a.g x hx).2 (by simpa using (a.g x hx).1)⟩⟩
theorem Kn.up (hJ : Closed prog main J) (a : Kn h Hs H ns k l) (hk : k < 1000000) {m : Int} (hm : m < 1000000)
    (hK : ∀ y H', 0 ≤ y → (y ≤ m ∨ y = 0) → Kn h Hs H' ns (k + 1) l → K (vint y) H') : Good prog J 22 [ptr h.length 0, vint m] H K :=
  upX hJ a.a hk hm fun y H' h1 h2 S _ a' => hK y H' h1 h2 (a.to S a')
theorem Kn.new (a : Kn h Hs H ns k l) {n : Nat} {c : List Value} (hK : ∀ H' p, Kn h Hs H' ns k ((p, .cells c true 0) :: l) → K (.slice (some ⟨p, 0, none⟩) n n) H') : aNewS n c H K := by
  refine qNew fun H' p e S c' _ => hK H' p ?_
  have a' : HX h H' ns k := (a.a).same S (by simp)
  have := a.to (S.weak0) a'
  refine ⟨a', this.S, fun x hx => ?_⟩
  rcases List.mem_cons.1 hx with rfl | hx
  · have := a.a.lt
    exact ⟨by show p ≠ _; omega, c'⟩
  · exact this.g x hx
theorem Kn.get (a : Kn h Hs H ns k l) {p : Nat} {o : AObj} (hm : (p, o) ∈ l) : H[p]? = some o := (a.g _ hm).2
theorem Kn.sb (a : Kn h Hs H ns k l) {B : List Nat} (hB : ∀ b ∈ B, b < Hs.length ∧ b ≠ h.length) : SameB (some B) Hs H := fun b hb => a.S.2 b (hB b hb).1 (by simpa using (hB b hb).2)
end
noncomputable def trulyE (t : Tal) : Int :=
  open Classical in
  if talErr t ≠ 0 then talErr t else if ¬ TruthIs t (limA t 0) then 11 else 0
noncomputable def trulyO (t : Tal) : List Rng :=
  open Classical in
  if talErr t ≠ 0 then [] else if ¬ TruthIs t (limA t 0) then [] else trulyL t

section
variable {main : Bool} {J : JT} {h H : List AObj} {K : Value → List AObj → Prop} {n0 : Nat} {v cv nv : Value} {t : Tal} {gate number : Int}
theorem sliE_nil {α : Type} {s : Nat} {enc : α → List Value} : SliE h (.slice none 0 0) s enc ([] : List α) := ⟨none, 0, rfl, ⟨by simp, rfl⟩, .inl ⟨rfl, rfl⟩⟩

theorem truly_all (hK : ∀ v H, SameX [] h H → SliE H v 2 Rng.cells (trulyO t) → K (.tuple ⟨[v, vint (trulyE t)]⟩) H) :
    (talErr t ≠ 0 → K (.tuple ⟨[.slice none 0 0, vint (talErr t)]⟩) h) ∧ (talErr t = 0 → ¬ TruthIs t (limA t 0) → K (.tuple ⟨[.slice none 0 0, vint 11]⟩) h) ∧
    (talErr t = 0 → TruthIs t (limA t 0) → ∀ v H, SameX [] h H → SliE H v 2 Rng.cells (trulyL t) → K (.tuple ⟨[v, vint 0]⟩) H) := by
  have go : ∀ x y v H, trulyE t = x → trulyO t = y → SameX [] h H → SliE H v 2 Rng.cells y → K (.tuple ⟨[v, vint x]⟩) H := fun x y v H hx hy S hs => by
    subst hx hy
    exact hK v H S hs
  refine ⟨fun h0 => go _ [] _ _ ?_ ?_ SameX.refl sliE_nil, fun h0 hT => go _ [] _ _ ?_ ?_ SameX.refl sliE_nil, fun h0 hT v H S hs => go _ _ v H ?_ ?_ S hs⟩
  · unfold trulyE
    rw [if_pos h0]
  · unfold trulyO
    rw [if_pos h0]
  · unfold trulyE
    rw [if_neg (not_not_intro h0), if_pos hT]
  · unfold trulyO
    rw [if_neg (not_not_intro h0), if_pos hT]
  · unfold trulyE
    rw [if_neg (not_not_intro h0), if_neg (not_not_intro hT)]
  · unfold trulyO
    rw [if_neg (not_not_intro h0), if_neg (not_not_intro hT)]

theorem good30' (hJ : Closed prog main J) (ht : TalAt h v t cv nv) (hK : ∀ v H, SameX [] h H → SliE H v 2 Rng.cells (trulyO t) → K (.tuple ⟨[v, vint (trulyE t)]⟩) H) : Good prog J 30 [v] h K := by
  obtain ⟨k1, k2, k3⟩ := truly_all hK
  refine good30 hJ ht k1 k2 fun h0 hT c sz => ?_
  have hg := (talErr_fine h0).gates
  refine k3 h0 hT _ _ SameX.refl.app ?_
  rw [← trulyL_len]
  have hf := flatR (trulyL t)
  exact ⟨_, _, rfl, hf, .inr ⟨_, _, rfl, .inr ⟨(trulyL t).flatMap Rng.cells, true, sz, by simp, by rw [List.drop_zero, List.take_of_length_le (by rw [hf.1]; exact Nat.le_refl _)]⟩⟩⟩
end
end Go.Proofs.Ytdgpacdknpahnaa

namespace Go.Proofs.Ytdgpacdknpahnaa
open Go.Conc Go.Proofs.Try
set_option maxRecDepth 100000
def OwnL (n : Nat) (H : List AObj) (v : Value) (ls : List (List Int)) (o : Option Nat) : Prop :=
  (∀ j, o = some j → n ≤ j) ∧ ∃ cs, OwnX H 1 cs ls.length v o ∧ ∀ (i : Nat) l, ls[i]? = some l → ∃ lv b, cs[i]? = some lv ∧ OwnX H 1 (l.map vint) l.length lv b ∧ ∀ j, b = some j → some j ≠ o ∧ n ≤ j
theorem OwnL.keep {n : Nat} {H H' : List AObj} {v : Value} {ls : List (List Int)} {o : Option Nat} (a : OwnL n H v ls o) (S : SameX [] H H') : OwnL n H' v ls o := by
  obtain ⟨h1, cs, O, he⟩ := a
  refine ⟨h1, cs, ownX_keep O S (by simp), fun i l hl => ?_⟩
  obtain ⟨lv, b, e1, e2, e3⟩ := he i l hl
  exact ⟨lv, b, e1, ownX_keep e2 S (by simp), e3⟩

section
variable {h H : List AObj} {K : Value → List AObj → Prop} {KV : Value → Prop} {HL : List AObj → Prop} {n0 : Nat}
theorem fill_one {m : List Value} {o s : Nat} {v : Value} {l : List Value} {ps : List (Nat × Nat × Value)} {KL : List Value → Prop} (hv : v.cells.toList = l) (hs : l.length = s) (ho : l.all one = true) (hl : o + s ≤ m.length) (hk : aFill (wrAt m o l) ps KL) : aFill m ((o, s, v) :: ps) KL := by
  subst hv
  exact ⟨hs, ho, hl, hk⟩
theorem OwnL.get {n i : Nat} {v : Value} {ls : List (List Int)} {o : Option Nat} (a : OwnL n H v ls o) {l : List Int} (hl : ls[i]? = some l) {K2 : Value → Value → Prop} (hK : ∀ p lv b, OwnX H 1 (l.map vint) l.length lv b → (∀ j, b = some j → n ≤ j) → K2 p lv) : aIdx 1 v (vint (i : Nat)) fun p => aLoad false 1 p H (K2 p) := by
  obtain ⟨h1, cs, O, he⟩ := a
  obtain ⟨lv, b, e1, e2, e3⟩ := he i l hl
  have hi := (List.getElem?_eq_some_iff.1 hl).1
  exact idx_load (ownX_sli O) ⟨by omega, by omega⟩ (by rw [Int.toNat_natCast]; exact e1) fun p => hK p lv b e2 fun j hj => (e3 j hj).2

theorem OwnL.more {lo : Nat} {H : List AObj} {ls : List (List Int)} {o : Option Nat} {v y wv : Value} {l : List Int} {bf : Nat} {K : Value → List AObj → Prop}
    (L : OwnL lo H v ls o) (hlo : lo ≤ H.length) (hpl : ls.length < 900) (Of : OwnX H 1 (l.map vint) l.length wv (some bf)) (hbf : lo ≤ bf) (hne : some bf ≠ o) (hyv : Sli H y 1 1 [wv])
    (hK : ∀ v' H' o', SameX o.toList H H' → OwnL lo H' v' (ls ++ [l]) (some o') → H.length ≤ o' → v' ≠ unk → K v' H') : aApp 1 v y H K := by
  obtain ⟨hl0, cs, Oc, he⟩ := L
  have bfl := ownX_lt Of bf rfl
  refine ownX_more Oc (by omega) (by omega) hyv fun v' Hh ph eh Oh Sh => ?_
  have hno : ∀ j, some j ≠ o → j ∉ o.toList := fun j hj hm => hj (by rw [Option.mem_toList.1 hm])
  refine hK v' Hh ph Sh ⟨fun j hj => by cases hj; omega, cs ++ [wv], by rw [List.length_append]; exact Oh, fun m l' hl => ?_⟩ (by omega) ?_
  · have hcl : cs.length = ls.length := by have := Oc.1; omega
    rcases Nat.lt_or_ge m ls.length with hm | hm
    · rw [List.getElem?_append_left hm] at hl
      obtain ⟨lv2, b2, e2, e3, e4⟩ := he m l' hl
      refine ⟨lv2, b2, by rw [List.getElem?_append_left (by omega)]; exact e2, ownX_keep e3 Sh fun j hj => hno j (e4 j hj).1, fun j hj => ⟨?_, (e4 j hj).2⟩⟩
      have := ownX_lt e3 j hj
      intro e
      injection e with e
      omega
    · rw [List.getElem?_append_right hm] at hl
      have hm0 : m - ls.length = 0 := by
        have := (List.getElem?_eq_some_iff.1 hl).1
        simp at this
        omega
      rw [hm0] at hl
      have : l' = l := by simpa using hl.symm
      subst this
      refine ⟨wv, some bf, by rw [List.getElem?_append_right (by omega), hcl, hm0]; rfl, ownX_keep Of Sh fun j hj => ?_, fun j hj => ?_⟩
      · cases hj
        exact hno _ hne
      · cases hj
        refine ⟨fun e => ?_, hbf⟩
        injection e with e
        omega
  · have := (ownX_val Oh).2.2
    intro e
    rw [e] at this
    cases this

theorem OwnL.nil {lo : Nat} : OwnL lo H (.slice none 0 0) [] none := ⟨by simp, [], ⟨rfl, rfl, .inl ⟨rfl, rfl, rfl⟩⟩, by simp⟩
theorem OwnL.lo {n m : Nat} {v : Value} {ls : List (List Int)} {o : Option Nat} (a : OwnL n H v ls o) (h : m ≤ n) : OwnL m H v ls o := by
  obtain ⟨a1, cs, a2, a3⟩ := a
  exact ⟨fun j hj => by have := a1 j hj; omega, cs, a2, fun i l hl => by
    obtain ⟨lv, b, q1, q2, q3⟩ := a3 i l hl
    exact ⟨lv, b, q1, q2, fun j hj => ⟨(q3 j hj).1, by have := (q3 j hj).2; omega⟩⟩⟩
theorem OwnL.keepX {n : Nat} {H' : List AObj} {X : List Nat} {v : Value} {ls : List (List Int)} {o : Option Nat} (a : OwnL n H v ls o) (S : SameX X H H') (hX : ∀ x ∈ X, x < n) : OwnL n H' v ls o := by
  obtain ⟨h1, cs, O, he⟩ := a
  refine ⟨h1, cs, ownX_keep O S fun i hi hm => ?_, fun i l hl => ?_⟩
  · have := h1 i hi
    have := hX i hm
    omega
  · obtain ⟨lv, b, e1, e2, e3⟩ := he i l hl
    exact ⟨lv, b, e1, ownX_keep e2 S fun j hj hm => by have := (e3 j hj).2; have := hX j hm; omega, e3⟩
theorem OwnL.lt {n : Nat} {v : Value} {ls : List (List Int)} {o : Option Nat} (a : OwnL n H v ls o) : ∀ j, o = some j → n ≤ j ∧ j < H.length := fun j hj => ⟨a.1 j hj, ownX_lt a.2.choose_spec.1 j hj⟩
theorem OwnL.sli {n : Nat} {v : Value} {ls : List (List Int)} {o : Option Nat} (a : OwnL n H v ls o) : ∃ cs, Sli H v 1 ls.length cs := ⟨_, ownX_sli a.2.choose_spec.1⟩
end
end Go.Proofs.Ytdgpacdknpahnaa

namespace Go.Proofs.Ytdgpacdknpahnaa
open Go.Conc Go.Proofs.Try
set_option maxRecDepth 100000
def firstN {α : Type} (f : Nat → Option α) : Nat → Option α
  | 0 => none
  | n + 1 => (firstN f n).or (f n)
theorem firstN_none {α : Type} {f : Nat → Option α} : ∀ {n : Nat}, (∀ i, i < n → f i = none) → firstN f n = none
  | 0, _ => rfl
  | n + 1, h => by
    unfold firstN
    rw [firstN_none fun i hi => h i (by omega), h n (by omega)]
    rfl
theorem firstN_some {α : Type} {f : Nat → Option α} {k : Nat} {r : α} : ∀ {n : Nat}, k < n → (∀ i, i < k → f i = none) → f k = some r → firstN f n = some r
  | 0, h, _, _ => absurd h (Nat.not_lt_zero _)
  | n + 1, h, h0, hr => by
    unfold firstN
    by_cases e : k = n
    · subst e
      rw [firstN_none h0, hr]
      rfl
    · rw [firstN_some (by omega) h0 hr]
      rfl
theorem firstN_range {α : Type} {f : Nat → Option α} : ∀ n, firstN f n = (List.range n).findSome? f
  | 0 => rfl
  | n + 1 => by
    rw [List.range_succ, List.findSome?_append, ← firstN_range n]
    show (firstN f n).or (f n) = _
    cases h : f n <;> simp [List.findSome?, h]
theorem firstN_more {α : Type} {f : Nat → Option α} {n : Nat} : ∀ {m : Nat}, n ≤ m → (∀ i, n ≤ i → i < m → f i = none) → firstN f m = firstN f n
  | 0, h, _ => by rw [show n = 0 from by omega]
  | m + 1, h, h0 => by
    rcases Nat.lt_or_ge m n with x | x
    · rw [show n = m + 1 from by omega]
    · show (firstN f m).or (f m) = firstN f n
      rw [firstN_more x fun i h1 h2 => h0 i h1 (by omega), h0 m x (by omega)]
      cases firstN f n <;> rfl

def andU (a b : Int) : Int := IntKind.u64.wrap (BitVec.ofInt 64 a &&& ~~~ BitVec.ofInt 64 b).toNat
def orU (a b : Int) : Int := IntKind.u64.wrap (BitVec.ofInt 64 a ||| BitVec.ofInt 64 b).toNat
def shU (i : Int) : Int := IntKind.u64.wrap (1 * 2 ^ min i.toNat 64)
def setF (s : Int) (l : List Int) : Int := l.foldl (fun s i => orU s (shU i)) s

def picksR (n : Nat) : Nat → Nat → List (List Int)
  | 0, _ => [[]]
  | m + 1, a => (List.range (n - a)).flatMap fun k => (picksR n m (a + k + 1)).map (((a + k : Nat) : Int) :: ·)
theorem picksR_few {n : Nat} : ∀ {m a : Nat}, n - a < m → picksR n m a = []
  | 0, a, h => by omega
  | m + 1, a, h => by
    unfold picksR
    rw [List.flatMap_eq_nil_iff]
    intro k hk
    have hk := List.mem_range.1 hk
    rw [picksR_few (by omega)]
    rfl
theorem picksR_mem {n : Nat} : ∀ {m a : Nat} {l : List Int}, l ∈ picksR n m a → l.length = m ∧ ∀ x ∈ l, (a : Int) ≤ x ∧ x < n
  | 0, a, l, h => by
    have : l = [] := by simpa [picksR] using h
    subst this
    simp
  | m + 1, a, l, h => by
    unfold picksR at h
    obtain ⟨k, hk, h⟩ := List.mem_flatMap.1 h
    obtain ⟨u, hu, rfl⟩ := List.mem_map.1 h
    have hk := List.mem_range.1 hk
    obtain ⟨h1, h2⟩ := picksR_mem hu
    refine ⟨by simp [h1], fun x hx => ?_⟩
    rcases List.mem_cons.1 hx with rfl | hx
    · omega
    · have := h2 x hx
      omega
def fromL (l : List Int) : Nat := match l.getLast? with
  | some x => x.toNat + 1
  | none => 0
theorem fromL_snoc {l : List Int} {k : Nat} : fromL (l ++ [(k : Int)]) = k + 1 := by
  unfold fromL
  rw [List.getLast?_concat]
  show (k : Int).toNat + 1 = _
  omega
def growP (Pu : Int → Bool) (n : Nat) : Nat → List Int → Int → Option (List Int)
  | 0, l, s => bif Pu s then some l else none
  | m + 1, l, s => firstN (fun k => growP Pu n m (l ++ [((fromL l + k : Nat) : Int)]) (orU s (shU ((fromL l + k : Nat) : Int)))) (n - m - fromL l)
def pickP (Pu : Int → Bool) (n : Nat) : Option (List Int) := firstN (fun m => growP Pu n m [] 0) (n + 1)
theorem growP_find {Pu : Int → Bool} {n : Nat} : ∀ (m : Nat) (l : List Int) (s : Int), growP Pu n m l s = ((picksR n m (fromL l)).find? fun r => Pu (setF s r)).map (l ++ ·)
  | 0, l, s => by
    unfold growP picksR
    show _ = Option.map _ (List.find? _ [[]])
    cases h : Pu s <;> simp [List.find?, setF, h]
  | m + 1, l, s => by
    unfold growP picksR
    rw [← firstN_more (m := n - fromL l) (by omega) fun k h1 h2 => ?_, firstN_range, List.find?_flatMap, List.map_findSome?]
    · congr 1
      funext k
      rw [growP_find m, fromL_snoc]
      show _ = Option.map _ (List.find? _ (List.map _ _))
      rw [List.find?_map, Option.map_map]
      have : (fun r => Pu (setF s r)) ∘ (fun x => ((fromL l + k : Nat) : Int) :: x) = fun r => Pu (setF (orU s (shU ((fromL l + k : Nat) : Int))) r) := rfl
      rw [this]
      congr 1
      funext r
      simp
    · rw [growP_find m, fromL_snoc, picksR_few (by omega)]
      rfl
theorem pickP_find {Pu : Int → Bool} {n : Nat} : pickP Pu n = firstN (fun m => (picksR n m 0).find? fun r => Pu (setF 0 r)) (n + 1) := by
  unfold pickP
  congr 1
  funext m
  rw [growP_find]
  show Option.map _ ((picksR n m 0).find? _) = _
  cases (picksR n m 0).find? fun r => Pu (setF 0 r) <;> rfl
noncomputable def truthS (t : Tal) (u : Int) : Bool := decide (TruthIs t (limN u t.counts t.counts.length))
theorem limU_sub {u u' : Int} {cs : List Cnt} (hk : ∀ i, i < cs.length → keepB u' i = true → keepB u i = true) : ∀ k, k ≤ cs.length → ∀ g, (limN u cs k g).sub (limN u' cs k g)
  | 0, _, g => Rng.sub_refl _
  | k + 1, h, g => by
    have ih := limU_sub hk k (by omega)
    rw [limN_step (by omega), limN_step (by omega)]
    have hs : ∀ (L L' : Nat → Rng) (r : Rng), (∀ g, (L g).sub (L' g)) → (updL L cs[k].gate.toNat ((L cs[k].gate.toNat).meet r) g).sub (updL L' cs[k].gate.toNat ((L' cs[k].gate.toNat).meet r) g) := by
      intro L L' r hL
      unfold updL
      split
      · exact Rng.sub_meet (hL _) (Rng.sub_refl _)
      · exact hL g
    have hs2 : ∀ (L L' : Nat → Rng) (r : Rng), (∀ g, (L g).sub (L' g)) → (updL L cs[k].gate.toNat ((L cs[k].gate.toNat).meet r) g).sub (L' g) := by
      intro L L' r hL
      unfold updL
      split
      · rename_i e
        rw [e]
        obtain ⟨a, b⟩ := hL cs[k].gate.toNat
        unfold Rng.meet Rng.sub
        dsimp only
        omega
      · exact hL g
    cases h1 : keepB u k <;> cases h2 : keepB u' k
    · exact ih g
    · rw [hk k (by omega) h2] at h1
      cases h1
    · exact hs2 _ _ _ ih
    · exact hs _ _ _ ih
theorem truthS_more {t : Tal} {u u' : Int} (hk : ∀ i, i < t.counts.length → keepB u' i = true → keepB u i = true) (h : truthS t u = true) : truthS t u' = true := by
  unfold truthS at *
  refine decide_eq_true ?_
  have h := of_decide_eq_true h
  have tg : Tighter t t (limN u t.counts t.counts.length) (limN u' t.counts t.counts.length) := ⟨rfl, rfl, Rng.sub_refl _, fun _ _ _ => Rng.sub_refl _, Int.le_refl _, limU_sub hk _ (Nat.le_refl _)⟩
  exact tg.truth h
theorem truthS_zero {t : Tal} {u : Int} (h : truthS t 0 = true) : truthS t u = true := truthS_more (fun i _ _ => keep_zero i) h

noncomputable def clashO (t : Tal) : Option (List Int) := pickP (fun s => !truthS t (andU 127 s)) t.counts.length
noncomputable def wrongO (t : Tal) : Option (List Int) := pickP (truthS t) t.counts.length

end Go.Proofs.Ytdgpacdknpahnaa

namespace Go.Proofs.Ytdgpacdknpahnaa
open Go.Conc Go.Proofs.Try
set_option maxRecDepth 100000
def ClipAt (H : List AObj) (v : Value) (l : List Int) : Prop := (l = [] ∧ v = .slice none 0 0) ∨ ∃ i sz, v = .slice (some ⟨i, 0, none⟩) l.length l.length ∧ H[i]? = some (.cells (l.map vint) true sz)
theorem ClipAt.keep {H H' : List AObj} {v : Value} {l : List Int} (a : ClipAt H v l) (S : SameX [] H H') : ClipAt H' v l := by
  rcases a with a | ⟨i, sz, h1, h2⟩
  · exact .inl a
  · exact .inr ⟨i, sz, h1, S.get h2 (by simp)⟩
theorem kn_vint (l : List Int) : kn (l.map vint) = true := by simp [kn]; exact fun _ _ => rfl

def growV (pp pn pg : Nat) : Value := .func (.func 105) ⟨[]⟩ ⟨[ptr pp 0, ptr pn 0, ptr pg 0]⟩

structure Pass (J : JT) (X : List Nat) (I : List AObj → Prop) (Pu : Int → Bool) (fv : Value) : Prop where
  call : ∀ {H : List AObj} {s : Int} {Kf : Value → List AObj → Prop}, I H → (∀ H', SameX X H H' → I H' → Kf (.bool (Pu s)) H') → callV prog (Good prog J) fv [.int .u64 s] H Kf
  keep : ∀ {H H' : List AObj}, I H → SameX [] H H' → I H'
  kn : kn1 fv = true
  val : fv.cells = #[fv] ∧ one fv = true

section
variable {main : Bool} {J : JT} {h H : List AObj} {K : Value → List AObj → Prop} {KV : Value → Prop} {HL : List AObj → Prop} {n0 : Nat}
theorem u_shlI {i : Int} {t : TypeId} (h0 : 0 ≤ i) (hk : KV (.int .u64 (shU i))) : aBin prog .shl t (.int .u64 1) (.int .u64 i) KV := ⟨h0, hk⟩
theorem u_orI {a b : Int} {t : TypeId} (hk : KV (.int .u64 (orU a b))) : aBin prog .or t (.int .u64 a) (.int .u64 b) KV := ⟨rfl, hk⟩
theorem u_andNotI {a b : Int} {t : TypeId} (hk : KV (.int .u64 (andU a b))) : aBin prog .andNot t (.int .u64 a) (.int .u64 b) KV := ⟨rfl, hk⟩

theorem good106 (hJ : Closed prog main J) {v : Value} {l : List Int} {o : Option Nat} (O : OwnX H 1 (l.map vint) l.length v o) (hl : l.length ≤ 100) (hK : ∀ v', ClipAt H v' l → K v' H) : Good prog J 106 [v] H K := by
  have hfz : (1000 : Nat) < fz := by decide
  have hrm : (2000 : Nat) < room := by decide
  refine g106 hJ fun ok => ?_
  rw [e106]
  refine lenI (ownX_sli O) (lenI (ownX_sli O) ?_)
  obtain ⟨_, _, ⟨h0, rfl, _⟩ | ⟨i, c, sz, _, rfl, hb, hc⟩⟩ := id O
  · have : l = [] := List.length_eq_zero_iff.1 h0
    subst this
    refine ⟨Int.le_refl _, ⟨Int.le_refl _, by decide⟩, ⟨fun _ => Int.le_refl _, fun hx => absurd hx (by decide)⟩, retL_same (by simp [unk]) (hK _ (.inl ⟨rfl, rfl⟩))⟩
  · refine ⟨by omega, ⟨Int.le_refl _, by omega⟩, ⟨fun hx => ?_, fun hx => ?_⟩, ?_⟩
    · rcases hc with ⟨rfl, _⟩ | rfl
      · exact absurd hx (by omega)
      · exact Int.le_refl _
    · rcases hc with ⟨rfl, rfl⟩ | rfl
      · show (match H[i]? with
          | some (.cells cs _ sz) => fz = fz ∧ sz ≠ 0 ∧ 0 = 0 ∧ ((l.length : Nat) : Int).toNat * sz ≤ cs.length
          | _ => False)
        rw [hb]
        exact ⟨rfl, by decide, rfl, by simp⟩
      · omega
    · refine retL_same (by simp [unk]) (hK _ (.inr ⟨i, sz, ?_, hb⟩))
      show Value.slice _ ((l.length : Nat) : Int).toNat ((l.length : Nat) : Int).toNat = _
      rw [Int.toNat_natCast]

theorem clip_app {v y : Value} {l : List Int} {x : Int} (a : ClipAt H v l) (hl : l.length ≤ 100) (hy : Sli H y 1 1 [vint x])
    (hK : ∀ v' H', SameX [] H H' → OwnX H' 1 ((l ++ [x]).map vint) (l ++ [x]).length v' (some H.length) → K v' H') : aApp 1 v y H K := by
  have hr : room = 1073741824 := rfl
  rcases a with ⟨rfl, rfl⟩ | ⟨i, sz, rfl, hb⟩
  · refine app_nil (by decide) hy (by omega) (fun e => absurd e (by decide)) fun _ => hK _ _ SameX.refl.app ?_
    exact ⟨rfl, rfl, .inr ⟨H.length, fz, 1, rfl, rfl, by simp, .inl ⟨rfl, rfl⟩⟩⟩
  · refine app_copy (cs := l.map vint) hb (by simp) (by rw [List.drop_zero, List.take_of_length_le (by simp)]; exact kn_vint l) (by omega) (by decide) hy (by omega) ?_
    refine hK _ _ SameX.refl.app ⟨by simp, kn_vint _, .inr ⟨H.length, fz, 1, rfl, by simp, ?_, .inl ⟨rfl, rfl⟩⟩⟩
    rw [List.getElem?_append_right (by omega)]
    simp
    exact List.take_of_length_le (by simp)

theorem callC {g : FuncId} {args cap : List Value} (hg : Nat.blt g prog.funcs.size = true) (hk : Good prog J g (args ++ cap) H K) : callV prog (Good prog J) (.func (.func g) ⟨[]⟩ ⟨cap⟩) args H K := by
  show (bif Nat.blt g prog.funcs.size then Good prog J g ([] ++ args ++ cap) H K else False)
  rw [hg, cond_true, List.nil_append]
  exact hk
theorem nu2 {a b : Value} (ha : a ≠ unk) (hb : b ≠ unk) : ∀ v ∈ [a, b], v ≠ unk := by
  intro v hv
  rcases List.mem_cons.1 hv with rfl | hv
  · exact ha
  · rw [List.mem_singleton.1 hv]
    exact hb

theorem good105 (hJ : Closed prog main J) {X : List Nat} {I : List AObj → Prop} {Pu : Int → Bool} {fv : Value} {n lo pp pn pg : Nat} (P : Pass J X I Pu fv) (hn : n ≤ 60) (hX : ∀ x ∈ X, x < lo) (hpp : lo ≤ pp) (hpn : lo ≤ pn) (hpg : lo ≤ pg) :
    ∀ (m : Nat) (l : List Int) (s : Int) {H : List AObj} {K : Value → List AObj → Prop} {lv : Value} {o : Option Nat}, H[pp]? = some (.cells [fv] true 0) → H[pn]? = some (.cells [vint (n : Nat)] true 0) → H[pg]? = some (.cells [growV pp pn pg] true 0) → I H →
      OwnX H 1 (l.map vint) l.length lv o → (∀ j, o = some j → lo ≤ j) → l.length + m ≤ 100 → (∀ x ∈ l, 0 ≤ x ∧ x < n) →
      (∀ H' v, SameX X H H' → I H' → v ≠ unk → (∀ r, growP Pu n m l s = some r → ∃ b, OwnX H' 1 (r.map vint) r.length v b ∧ ∀ j, b = some j → lo ≤ j) → K (.tuple ⟨[v, .bool (growP Pu n m l s).isSome]⟩) H') →
      Good prog J 105 [lv, .int .u64 s, vint (m : Nat), ptr pp 0, ptr pn 0, ptr pg 0] H K
  | 0, l, s, H, K, lv, o, cp, cn, cg, hI, O, ho, hlm, hlb, hK => by
    refine g105 hJ fun ok => ?_
    rw [e105]
    refine eqlI (cndI (fun _ => ldI (v := fv) cp rfl P.kn (P.call hI fun H' S I' => ?_)) fun hx => absurd rfl hx)
    have nu : lv ≠ unk := by
      have := (ownX_val O).2.2
      intro e
      rw [e] at this
      cases this
    have O' := ownX_keep O S (fun i hi hm => by have := ho i hi; have := hX i hm; omega)
    have fin := hK H' lv S I' nu fun r hr => ?_
    · refine retL_same (nu2 nu (by simp [unk])) ?_
      have e : (growP Pu n 0 l s).isSome = Pu s := by
        unfold growP
        cases Pu s <;> rfl
      rw [e] at fin
      exact fin
    · unfold growP at hr
      cases hp : Pu s with
      | false => rw [hp] at hr; cases hr
      | true =>
        rw [hp] at hr
        have hr : some l = some r := hr
        injection hr with hr
        subst hr
        exact ⟨o, O', ho⟩
  | m + 1, l, s, H, K, lv, o, cp, cn, cg, hI, O, ho, hlm, hlb, hK => by
    refine g105 hJ fun ok => ?_
    rw [e105]
    -- the loop
    have loop : ∀ {F : RG}, F.ds = [] → F.r 0 = lv → F.r 1 = .int .u64 s → F.r 2 = vint ((m + 1 : Nat) : Int) → F.r 3 = ptr pp 0 → F.r 4 = ptr pn 0 → F.r 5 = ptr pg 0 → F.r 11 = vint (fromL l : Nat) →
        W prog J 58 H.length 105 (subC [1, 1, 1, 1] (codeOf f105)) F H (contX pl105 prog J 58 H.length 105 ct105 [1, 1, 1, 1] (codeOf f105) [] (RetQ prog [.tmp 9, .tmp 10] H.length K)) := by
      intro F ds r0 r1 r2 r3 r4 r5 r11
      rw [s105_1, r11]
      refine l105_2 hJ (fun k : Nat => n - m - fromL l - k) (fun k F H' => SameX X H H' ∧ I H' ∧ k ≤ n - m - fromL l ∧ (∀ i, i < k → growP Pu n m (l ++ [((fromL l + i : Nat) : Int)]) (orU s (shU ((fromL l + i : Nat) : Int))) = none) ∧ F.ds = [] ∧ F.r 0 = lv ∧ F.r 1 = .int .u64 s ∧ F.r 2 = vint ((m + 1 : Nat) : Int) ∧ F.r 3 = ptr pp 0 ∧ F.r 4 = ptr pn 0 ∧ F.r 5 = ptr pg 0 ∧ F.r 12 = vint ((fromL l + k : Nat) : Int)) ?_ (s := 0)
        (.inl ⟨SameX.refl, hI, by omega, fun i hi => absurd hi (Nat.not_lt_zero _), ds, r0, r1, r2, r3, r4, r5, rfl⟩)
      rintro k F H' ⟨S, I', hk, hno, ds, r0, r1, r2, r3, r4, r5, r12⟩ okc hnc
      have hfl : fromL l ≤ n := by
        unfold fromL
        cases hl : l.getLast? with
        | none => exact Nat.zero_le _
        | some x =>
          have := hlb x (List.mem_of_getLast? hl)
          show x.toNat + 1 ≤ n
          omega
      have nX : ∀ {p}, lo ≤ p → p ∉ X := fun h hm => by have := hX _ hm; omega
      have cp' := S.get cp (nX hpp)
      have cn' := S.get cn (nX hpn)
      have cg' := S.get cg (nX hpg)
      have O' := ownX_keep O S (fun i hi => nX (ho i hi))
      have lg := lt_of_get cg'
      rw [s105_2, r0, r1, r2, r4, r5, r12, ds]
      refine ldI (v := vint (n : Nat)) cn' rfl rfl (subI (by omega) (leqI (cndI (fun hle => ?_) fun hgt => ?_)))
      rotate_left
      · have hke : k = n - m - fromL l := by omega
        refine retL_same (by simp [unk]) ?_
        have e : growP Pu n (m + 1) l s = none := by
          unfold growP
          exact firstN_none fun i hi => hno i (by omega)
        have := hK H' (.slice none 0 0) S I' (by simp [unk]) fun r hr => by rw [e] at hr; cases hr
        rw [e] at this
        exact this
      have hkl : k < n - m - fromL l := by omega
      have hsb : ∀ {H2}, SameX [] H' H2 → SameB (some [pg]) H' H2 := fun S2 x hx => S2.2 x (by simp at hx; omega) (by simp)
      have e8 : ((m + 1 : Nat) : Int) - 1 = (m : Nat) := by omega
      -- behind the call
      have post : ∀ {H2 : List AObj} {wv : Value} {q : Nat} {F2 : Value → Value → Value → RG}, SameX [] H' H2 → OwnX H2 1 ((l ++ [((fromL l + k : Nat) : Int)]).map vint) (l ++ [((fromL l + k : Nat) : Int)]).length wv (some q) → H'.length ≤ q →
          (∀ a b c, (F2 a b c).ds = [] ∧ (F2 a b c).r 0 = lv ∧ (F2 a b c).r 1 = .int .u64 s ∧ (F2 a b c).r 2 = vint ((m + 1 : Nat) : Int) ∧ (F2 a b c).r 3 = ptr pp 0 ∧ (F2 a b c).r 4 = ptr pn 0 ∧ (F2 a b c).r 5 = ptr pg 0 ∧ (F2 a b c).r 12 = vint ((fromL l + k : Nat) : Int) ∧ (F2 a b c).r 13 = b ∧ (F2 a b c).r 14 = c) →
          callV prog (Good prog J) (growV pp pn pg) [wv, .int .u64 (orU s (shU ((fromL l + k : Nat) : Int))), vint (m : Nat)] H2 fun v16 h17 => aExt v16 0 fun v18 => aExt v16 1 fun v19 => Hold (W prog J 58 H.length 105 (subC [1, 1, 1, 1, 0, 1, 0, 0, 1, 0, 0, 1] (codeOf f105)) (F2 v16 v18 v19) h17 (contX pl105 prog J 58 H.length 105 ct105 [1, 1, 1, 1, 0, 1, 0, 0, 1, 0, 0, 1] (codeOf f105) [Nx H.length (fun k : Nat => n - m - fromL l - k) (fun k F H' => SameX X H H' ∧ I H' ∧ k ≤ n - m - fromL l ∧ (∀ i, i < k → growP Pu n m (l ++ [((fromL l + i : Nat) : Int)]) (orU s (shU ((fromL l + i : Nat) : Int))) = none) ∧ F.ds = [] ∧ F.r 0 = lv ∧ F.r 1 = .int .u64 s ∧ F.r 2 = vint ((m + 1 : Nat) : Int) ∧ F.r 3 = ptr pp 0 ∧ F.r 4 = ptr pn 0 ∧ F.r 5 = ptr pg 0 ∧ F.r 12 = vint ((fromL l + k : Nat) : Int)) k] (RetQ prog [.tmp 9, .tmp 10] H.length K))) := by
        intro H2 wv q F2 S2 O2 hlt hF
        refine callC (by kernel_rfl) ?_
        have hSl := S.1
        have hpgl := lt_of_get cg
        refine good105 hJ P hn hX hpp hpn hpg m (l ++ [((fromL l + k : Nat) : Int)]) (orU s (shU ((fromL l + k : Nat) : Int))) (S2.get cp' (by simp)) (S2.get cn' (by simp)) (S2.get cg' (by simp)) (P.keep I' S2) O2 (fun j hj => by cases hj; omega) (by simp; omega) (fun x hx => ?_) fun H3 v S3 I3 nu hr => ext0 (ext1 (hold.2 ?_))
        · rcases List.mem_append.1 hx with hx | hx
          · exact hlb x hx
          · have hx : x = ((fromL l + k : Nat) : Int) := by simpa using hx
            omega
        generalize hB : (growP Pu n m (l ++ [((fromL l + k : Nat) : Int)]) (orU s (shU ((fromL l + k : Nat) : Int)))).isSome = bb
        obtain ⟨f0, f1, f2, f3, f4, f5, f6, f7, f8, f9⟩ := hF (.tuple ⟨[v, .bool bb]⟩) v (.bool bb)
        have S13 : SameX X H H3 := (S.trans S2.weak0).trans S3
        rw [s105_3, f7, f8, f9, f0]
        cases bb with
        | true =>
          obtain ⟨r, hg⟩ := Option.isSome_iff_exists.1 hB
          have e : growP Pu n (m + 1) l s = some r := by
            unfold growP
            exact firstN_some hkl hno hg
          refine cnd_true.2 (retL_same (nu2 nu (by simp [unk])) ?_)
          have := hK H3 v S13 I3 nu fun r' hr' => by
            rw [e] at hr'
            injection hr' with hr'
            subst hr'
            exact hr _ hg
          rw [e] at this
          exact this
        | false =>
          have hg : growP Pu n m (l ++ [((fromL l + k : Nat) : Int)]) (orU s (shU ((fromL l + k : Nat) : Int))) = none := Option.isSome_eq_false_iff.1 hB |> Option.isNone_iff_eq_none.1
          refine cnd_false.2 (addI (by omega) ⟨k + 1, by dsimp only; omega, .inl ⟨S13, I3, by omega, fun i hi => ?_, f0, f1, f2, f3, f4, f5, f6, by show vint _ = vint _; congr 1⟩⟩)
          by_cases e : i = k
          · rw [e]
            exact hg
          · exact hno i (by omega)
      refine ⟨[pg], ldI (v := growV pp pn pg) cg' rfl rfl ⟨by simp [RdOk, ptr, ptrBlk], convI (by omega) (by omega) (u_shlI (by omega) (u_orI (subI (by omega) ?_)))⟩⟩
      rw [e8]
      refine ⟨?_, ?_⟩
      · refine good106 hJ O' (by omega) fun v' C => ⟨fun _ _ => rfl, by decide, fill_one (l := [vint ((fromL l + k : Nat) : Int)]) rfl rfl rfl (by decide) (fillI (qNew fun H1 p1 e1 S1 c1 l1 => ⟨hsb S1, by decide, ?_⟩))⟩
        have c1 : H1[p1]? = some (.cells [vint ((fromL l + k : Nat) : Int)] true 0) := c1
        refine clip_app (C.keep S1) (by omega) (ownX_sli (ownX_new (s := 1) (n := 1) (l := [vint ((fromL l + k : Nat) : Int)]) c1 rfl rfl)) fun w H2 S2 O2 => ⟨hsb (S1.trans S2), ?_⟩
        have hS1 := S1.1
        exact post (S1.trans S2) O2 hS1 fun a b c => ⟨ds, r0, r1, r2, r3, r4, r5, r12, rfl, rfl⟩
      · refine ⟨by decide, fill_one (l := [vint ((fromL l + k : Nat) : Int)]) rfl rfl rfl (by decide) (fillI (qNew fun H1 p1 e1 S1 c1 l1 => ⟨hsb S1, ?_⟩))⟩
        have c1 : H1[p1]? = some (.cells [vint ((fromL l + k : Nat) : Int)] true 0) := c1
        refine good106 hJ (ownX_keep O' S1 (by simp)) (by omega) fun v' C => ⟨hsb S1, by decide, ?_⟩
        refine clip_app C (by omega) (ownX_sli (ownX_new (s := 1) (n := 1) (l := [vint ((fromL l + k : Nat) : Int)]) c1 rfl rfl)) fun w H2 S2 O2 => ⟨hsb (S1.trans S2), ?_⟩
        have hS1 := S1.1
        exact post (S1.trans S2) O2 hS1 fun a b c => ⟨ds, r0, r1, r2, r3, r4, r5, r12, rfl, rfl⟩
    refine eqlI (cndI (fun hx => absurd hx (by omega)) fun _ => lenI (ownX_sli O) (gtrI (cndI (fun hpos => lenI (ownX_sli O) (subI (by omega) ?_)) fun h0 => hold.2 ?_)))
    · have hll : l.length - 1 < l.length := by omega
      have ei : ((l.length : Nat) : Int) - 1 = ((l.length - 1 : Nat) : Int) := by omega
      have hx := List.getElem?_eq_getElem hll
      have hb := hlb _ (List.getElem_mem hll)
      rw [ei]
      refine idx_load (ownX_sli O) ⟨by omega, by omega⟩ (x := vint l[l.length - 1]) (by rw [Int.toNat_natCast, List.getElem?_map, hx]; rfl) fun p => addI (by omega) (hold.2 (loop rfl rfl rfl rfl rfl rfl rfl ?_))
      show vint _ = vint _
      congr 1
      unfold fromL
      rw [List.getLast?_eq_getElem?, hx]
      show l[l.length - 1] + 1 = ((l[l.length - 1].toNat + 1 : Nat) : Int)
      omega
    · have : l = [] := List.length_eq_zero_iff.1 (by omega)
      refine loop rfl rfl rfl rfl rfl rfl rfl ?_
      rw [this]
      rfl

theorem good75 (hJ : Closed prog main J) {X : List Nat} {I : List AObj → Prop} {Pu : Int → Bool} {fv : Value} {n : Nat} (P : Pass J X I Pu fv) (hn : n ≤ 60) (hX : ∀ x ∈ X, x < H.length) (hI : I H)
    (hK : ∀ H' v, SameX X H H' → I H' → (∃ b, OwnX H' 1 (((pickP Pu n).getD []).map vint) ((pickP Pu n).getD []).length v b) → K (.tuple ⟨[v, .bool (pickP Pu n).isSome]⟩) H') : Good prog J 75 [vint (n : Nat), fv] H K := by
  refine g75 hJ fun ok => ?_
  rw [e75]
  refine qBox1 rfl rfl fun H1 pn e1 S1 c1 l1 => qBox1 P.val.1 P.val.2 fun H2 pp e2 S2 c2 l2 => qAl fun H3 pg e3 S3 c3 l3 => ⟨rfl, qSt c3 (by simp) rfl rfl fun H4 S4 c4 l4 => ?_⟩
  have c4 : H4[pg]? = some (.cells [growV pp pn pg] true 0) := c4
  have T24 : SameX [] H2 H4 := S3.thru S4 (by simp; omega)
  have T14 : SameX [] H1 H4 := S2.trans T24
  have T4 : SameX [] H H4 := S1.trans T14
  have n4 := T14.get c1 (by simp)
  have p4 := T24.get c2 (by simp)
  have hS1 := S1.1
  have hS2 := S2.1
  have hS3 := S3.1
  have nX : ∀ {p}, H.length ≤ p → p ∉ X := fun h hm => by have := hX _ hm; omega
  refine ldI (v := vint (n : Nat)) n4 rfl rfl (addI (by omega) ?_)
  refine l75_1 hJ (fun m : Nat => n + 1 - m) (fun m F H' => SameX X H4 H' ∧ I H' ∧ m ≤ n + 1 ∧ (∀ i, i < m → growP Pu n i [] 0 = none) ∧ F.ds = [] ∧ F.r 6 = ptr pg 0 ∧ F.r 12 = vint ((n : Int) + 1) ∧ F.r 13 = vint (m : Nat)) ?_ (s := 0)
    (.inl ⟨SameX.refl, P.keep hI T4, by omega, fun i hi => absurd hi (Nat.not_lt_zero _), rfl, rfl, rfl, rfl⟩)
  rintro m F H' ⟨S, I', hm, hno, ds, r6, r12, r13⟩ okc hnc
  have T' : SameX X H H' := T4.weak0.trans S
  rw [s75_1, r6, r12, r13, ds]
  refine lssI (cndI (fun hlt => ?_) fun hge => ?_)
  · refine ldI (v := growV pp pn pg) (S.get c4 (nX (by omega))) rfl rfl (callC (by kernel_rfl) ?_)
    refine good105 (lo := H.length) hJ P hn hX (by omega) (by omega) (by omega) m [] 0 (S.get p4 (nX (by omega))) (S.get n4 (nX (by omega))) (S.get c4 (nX (by omega))) I' ⟨rfl, rfl, .inl ⟨rfl, rfl, rfl⟩⟩ (by simp) (by simp; omega) (by simp) fun H5 v S5 I5 nu hr => ext0 (ext1 ?_)
    generalize hB : (growP Pu n m [] 0).isSome = bb
    cases bb with
    | true =>
      obtain ⟨r, hg⟩ := Option.isSome_iff_exists.1 hB
      have e : pickP Pu n = some r := firstN_some (k := m) (by omega) hno hg
      refine cnd_true.2 (retL_same (nu2 nu (by simp [unk])) ?_)
      obtain ⟨b, Ob, _⟩ := hr r hg
      have := hK H5 v (T'.trans S5) I5 (by rw [e]; exact ⟨b, Ob⟩)
      rw [e] at this
      exact this
    | false =>
      have hg : growP Pu n m [] 0 = none := Option.isNone_iff_eq_none.1 (Option.isSome_eq_false_iff.1 hB)
      refine cnd_false.2 (addI (by omega) ⟨m + 1, by dsimp only; omega, .inl ⟨S.trans S5, I5, by omega, fun i hi => ?_, ds, r6, r12, by show vint _ = vint _; congr 1⟩⟩)
      by_cases e : i = m
      · rw [e]
        exact hg
      · exact hno i (by omega)
  · have e : pickP Pu n = none := firstN_none fun i hi => hno i (by omega)
    have := hK H' (.slice none 0 0) T' I' (by rw [e]; exact ⟨none, rfl, rfl, .inl ⟨rfl, rfl, rfl⟩⟩)
    rw [e] at this
    exact retL_same (by simp [unk]) this

theorem callB {g : FuncId} {first args : List Value} (hg : Nat.blt g prog.funcs.size = true) (hk : Good prog J g (first ++ args) H K) : callV prog (Good prog J) (.func (.func g) ⟨first⟩ ⟨[]⟩) args H K := by
  show (bif Nat.blt g prog.funcs.size then Good prog J g (first ++ args ++ []) H K else False)
  rw [hg, cond_true, List.append_nil]
  exact hk

def Wk (h0 : List AObj) (bw bm : Nat) (t : Tal) (cv nv : Value) (H : List AObj) : Prop := ∃ u es, WorkIn h0 H bw t cv nv u (.map (some bm)) ∧ H[bm]? = some (.map es true) ∧ MetOk t es
theorem Wk.keep {h0 H' : List AObj} {bw bm : Nat} {t : Tal} {cv nv : Value} (a : Wk h0 bw bm t cv nv H) (S : SameX [] H H') : Wk h0 bw bm t cv nv H' := by
  obtain ⟨u, es, w, hm, met⟩ := a
  exact ⟨u, es, w.same S (by simp) (by simp), S.get hm (by simp), met⟩
theorem truthX (hJ : Closed prog main J) {h0 : List AObj} {bw bm : Nat} {t : Tal} {cv nv : Value} {u' : Int} (fine : TalFine t) (hbw : h0.length ≤ bw) (hbm : h0.length ≤ bm) (hne : bw ≠ bm) (a : Wk h0 bw bm t cv nv H)
    (hK : ∀ H', SameX [bw, bm] H H' → Wk h0 bw bm t cv nv H' → K (.bool (truthS t u')) H') : Good prog J 74 [ptr bw 0, .int .u64 u'] H K := by
  obtain ⟨u, es, w, hm, met⟩ := a
  exact good74 hJ w hbw hbm hne fine hm met fun H' es' S w' hm' met' => hK H' S ⟨u', es', w', hm', met'⟩

theorem passC (hJ : Closed prog main J) {h0 : List AObj} {bw bm pw : Nat} {t : Tal} {cv nv : Value} (fine : TalFine t) (hbw : h0.length ≤ bw) (hbm : h0.length ≤ bm) (hne : bw ≠ bm) (hp1 : pw ≠ bw) (hp2 : pw ≠ bm) :
    Pass J [bw, bm] (fun H => Wk h0 bw bm t cv nv H ∧ H[pw]? = some (.cells [ptr bw 0] true 0)) (fun s => !truthS t (andU 127 s)) (.func (.func 76) ⟨[]⟩ ⟨[ptr pw 0]⟩) where
  call := fun {H s Kf} hI hk => by
    refine callC (by kernel_rfl) (g76 hJ fun ok => ?_)
    rw [e76]
    refine ldI (v := ptr bw 0) hI.2 rfl rfl (u_andNotI (truthX hJ fine hbw hbm hne hI.1 fun H' S w' => notI (retL_same (by simp [unk]) ?_)))
    exact hk H' S ⟨w', S.get hI.2 (by simp; exact ⟨hp1, hp2⟩)⟩
  keep := fun hI S => ⟨hI.1.keep S, S.get hI.2 (by simp)⟩
  kn := rfl
  val := ⟨rfl, rfl⟩
theorem passW (hJ : Closed prog main J) {h0 : List AObj} {bw bm : Nat} {t : Tal} {cv nv : Value} (fine : TalFine t) (hbw : h0.length ≤ bw) (hbm : h0.length ≤ bm) (hne : bw ≠ bm) :
    Pass J [bw, bm] (Wk h0 bw bm t cv nv) (truthS t) (.func (.func 74) ⟨[ptr bw 0]⟩ ⟨[]⟩) where
  call := fun {H s Kf} hI hk => callB (by kernel_rfl) (truthX hJ fine hbw hbm hne hI hk)
  keep := fun hI S => hI.keep S
  kn := rfl
  val := ⟨rfl, rfl⟩

noncomputable def clashE (t : Tal) : Int := if talErr t ≠ 0 then talErr t else bif truthS t 0 then 11 else 0
noncomputable def clashL (t : Tal) : List Int := if clashE t = 0 then (clashO t).getD [] else []
noncomputable def wrongE (t : Tal) : Int := if talErr t ≠ 0 then talErr t else bif truthS t 127 then 0 else 11
noncomputable def wrongL (t : Tal) : List Int := if wrongE t = 0 then (wrongO t).getD [] else []

theorem good32 (hJ : Closed prog main J) {v cv nv : Value} {t : Tal} (ht : TalAt H v t cv nv) (hK : ∀ H' w, SameX [] H H' → Sli H' w 1 (clashL t).length ((clashL t).map vint) → K (.tuple ⟨[w, vint (clashE t)]⟩) H') : Good prog J 32 [v] H K := by
  refine g32 hJ fun ok => ?_
  rw [e32, ht.val]
  have kn : kn1 nv = true := (sli_one ht.co).2.2
  refine qBox (tal_one ht) fun H1 p1 e1 S1 c1 l1 => ?_
  have t1 : TalAt H1 (.agg ⟨talCells t cv nv⟩) t cv nv := ⟨rfl, S1.sli ht.ch (by simp), S1.sli ht.co (by simp)⟩
  refine load_part (c := talCells t cv nv) c1 (by rw [cs_val]; omega) rfl (talAt_kc t1) ?_
  refine good71 hJ t1 fun H2 bw bm S2 hbw hbm hne w hm => ext0 (ext1 ?_)
  refine qAl fun H3 p3 e3 S3 c3 l3 => qSt c3 (by simp) rfl rfl fun H4 S4 c4 l4 => ?_
  have c4 : H4[p3]? = some (.cells [ptr bw 0] true 0) := c4
  have S24 : SameX [] H2 H4 := S3.thru S4 (by simp; omega)
  have T4 : SameX [] H H4 := (S1.trans S2).trans S24
  have nil : ∀ {H' : List AObj} {e : Int}, SameX [] H H' → clashE t = e → e ≠ 0 → retL H.length K [] [.slice none 0 0, vint e] H' := fun {H' e} S he h0 => by
    subst he
    refine retL_same (by simp [unk]) (hK H' _ S ?_)
    unfold clashL
    rw [if_neg h0]
    exact ownX_sli (o := none) ⟨rfl, rfl, .inl ⟨rfl, rfl, rfl⟩⟩
  refine neqI (cndI (fun h1 => nil T4 (by unfold clashE; rw [if_pos h1]) h1) fun h1 => ?_)
  have he0 : talErr t = 0 := Decidable.not_not.1 h1
  have fine := talErr_fine he0
  have wbl := lt_of_get w.at_
  have wml := lt_of_get hm
  have hS1 := S1.1
  have hS2 := S2.1
  have W4 : Wk H1 bw bm t cv nv H4 := ⟨0, [], w.same S24 (by simp) (by simp), S24.get hm (by simp), metOk_nil⟩
  refine ldI (v := ptr bw 0) c4 rfl rfl (truthX hJ fine hbw hbm hne W4 fun H5 S5 W5 => ?_)
  have T5 : SameX [] H H5 := T4.thru S5 (by simp; omega)
  have c15 := S5.get (S24.get (S2.get c1 (by simp)) (by simp)) (by simp; omega)
  have c45 := S5.get c4 (by simp; omega)
  have hS5 := S5.1
  have hS24 := S24.1
  cases h2 : truthS t 0 with
  | true =>
    exact cnd_true.2 (nil T5 (by unfold clashE; rw [if_neg h1, h2]; rfl) (by decide))
  | false =>
    have eE : clashE t = 0 := by unfold clashE; rw [if_neg h1, h2]; rfl
    refine cnd_false.2 (offI (ldI (v := nv) c15 rfl kn (lenI (T5.sli ht.co (by simp)) ⟨rfl, ?_⟩)))
    have few := fine.few
    refine good75 hJ (passC hJ fine hbw hbm hne (pw := p3) (by omega) (by omega)) (by omega) (by simp; omega) ⟨W5, c45⟩ fun H6 v6 S6 _ hO => ext0 (ext1 ?_)
    obtain ⟨b, O⟩ := hO
    have nu : v6 ≠ unk := by
      have := (ownX_val O).2.2
      intro e
      rw [e] at this
      cases this
    refine retL_same (nu2 nu (by simp [unk])) ?_
    have := hK H6 v6 (T5.thru S6 (by simp; omega)) (by
      unfold clashL
      rw [if_pos eE]
      exact ownX_sli O)
    rw [eE] at this
    exact this

theorem good33 (hJ : Closed prog main J) {v cv nv : Value} {t : Tal} (ht : TalAt H v t cv nv) (hK : ∀ H' w, SameX [] H H' → Sli H' w 1 (wrongL t).length ((wrongL t).map vint) → K (.tuple ⟨[w, vint (wrongE t)]⟩) H') : Good prog J 33 [v] H K := by
  refine g33 hJ fun ok => ?_
  rw [e33, ht.val]
  have kn : kn1 nv = true := (sli_one ht.co).2.2
  refine qBox (tal_one ht) fun H1 p1 e1 S1 c1 l1 => ?_
  have t1 : TalAt H1 (.agg ⟨talCells t cv nv⟩) t cv nv := ⟨rfl, S1.sli ht.ch (by simp), S1.sli ht.co (by simp)⟩
  refine load_part (c := talCells t cv nv) c1 (by rw [cs_val]; omega) rfl (talAt_kc t1) ?_
  refine good71 hJ t1 fun H2 bw bm S2 hbw hbm hne w hm => ext0 (ext1 ?_)
  have T2 : SameX [] H H2 := S1.trans S2
  have nil : ∀ {H' : List AObj} {e : Int}, SameX [] H H' → wrongE t = e → e ≠ 0 → retL H.length K [] [.slice none 0 0, vint e] H' := fun {H' e} S he h0 => by
    subst he
    refine retL_same (by simp [unk]) (hK H' _ S ?_)
    unfold wrongL
    rw [if_neg h0]
    exact ownX_sli (o := none) ⟨rfl, rfl, .inl ⟨rfl, rfl, rfl⟩⟩
  refine neqI (cndI (fun h1 => nil T2 (by unfold wrongE; rw [if_pos h1]) h1) fun h1 => ?_)
  have he0 : talErr t = 0 := Decidable.not_not.1 h1
  have fine := talErr_fine he0
  have wbl := lt_of_get w.at_
  have wml := lt_of_get hm
  have hS1 := S1.1
  have W2 : Wk H1 bw bm t cv nv H2 := ⟨0, [], w, hm, metOk_nil⟩
  refine truthX hJ fine hbw hbm hne W2 fun H5 S5 W5 => notI ?_
  have T5 : SameX [] H H5 := T2.thru S5 (by simp; omega)
  have c15 := S5.get (S2.get c1 (by simp)) (by simp; omega)
  have hS5 := S5.1
  cases h2 : truthS t 127 with
  | false =>
    exact cnd_true.2 (nil T5 (by unfold wrongE; rw [if_neg h1, h2]; rfl) (by decide))
  | true =>
    have eE : wrongE t = 0 := by unfold wrongE; rw [if_neg h1, h2]; rfl
    refine cnd_false.2 (offI (ldI (v := nv) c15 rfl kn (lenI (T5.sli ht.co (by simp)) ⟨rfl, ?_⟩)))
    have few := fine.few
    refine good75 hJ (passW hJ fine hbw hbm hne) (by omega) (by simp; omega) W5 fun H6 v6 S6 _ hO => ext0 (ext1 ?_)
    obtain ⟨b, O⟩ := hO
    have nu : v6 ≠ unk := by
      have := (ownX_val O).2.2
      intro e
      rw [e] at this
      cases this
    refine retL_same (nu2 nu (by simp [unk])) ?_
    have := hK H6 v6 (T5.thru S6 (by simp; omega)) (by
      unfold wrongL
      rw [if_pos eE]
      exact ownX_sli O)
    rw [eE] at this
    exact this
end
end Go.Proofs.Ytdgpacdknpahnaa

namespace Go.Proofs.Ytdgpacdknpahnaa
open Go.Conc Go.Proofs.Try
set_option maxRecDepth 100000
section
variable {σ : Type}
def runTo (f : Nat → σ → σ × Bool) : Nat → σ → σ × Bool
  | 0, a => (a, false)
  | i + 1, a => bif (runTo f i a).2 then runTo f i a else f i (runTo f i a).1
def okTo (f : Nat → σ → σ × Bool) (g : Nat → σ → Bool) : Nat → σ → Bool
  | 0, _ => true
  | i + 1, a => okTo f g i a && ((runTo f i a).2 || g i (runTo f i a).1)
theorem runTo_stay {f : Nat → σ → σ × Bool} {a : σ} {k : Nat} (h : (runTo f k a).2 = true) : ∀ d, runTo f (k + d) a = runTo f k a
  | 0 => rfl
  | d + 1 => by
    have ih := runTo_stay h d
    show (bif (runTo f (k + d) a).2 then runTo f (k + d) a else f (k + d) (runTo f (k + d) a).1) = _
    rw [ih, h]
    rfl
theorem runTo_end {f : Nat → σ → σ × Bool} {a : σ} {k n : Nat} (hk : k ≤ n) (h : (runTo f k a).2 = true) : runTo f n a = runTo f k a := by
  have := runTo_stay h (n - k)
  rwa [show k + (n - k) = n from by omega] at this
theorem runTo_next {f : Nat → σ → σ × Bool} {a : σ} {k : Nat} (h : (runTo f k a).2 = false) : runTo f (k + 1) a = f k (runTo f k a).1 := by
  show (bif (runTo f k a).2 then runTo f k a else f k (runTo f k a).1) = _
  rw [h]
  rfl
theorem okTo_at {f : Nat → σ → σ × Bool} {g : Nat → σ → Bool} {a : σ} {k : Nat} : ∀ {n : Nat}, okTo f g n a = true → k < n → (runTo f k a).2 = false → g k (runTo f k a).1 = true
  | 0, _, hk, _ => by omega
  | n + 1, h, hk, hf => by
    have h : (okTo f g n a && ((runTo f n a).2 || g n (runTo f n a).1)) = true := h
    rw [Bool.and_eq_true, Bool.or_eq_true] at h
    by_cases e : k = n
    · subst e
      rcases h.2 with h2 | h2
      · rw [hf] at h2; cases h2
      · exact h2
    · exact okTo_at h.1 (by omega) hf

def runS (st : σ → Int → σ) (Pu : Int → Bool) (n : Nat) : Nat → List Int → Int → σ → σ × Bool
  | 0, _, s, a => (st a s, Pu s)
  | m + 1, l, s, a => runTo (fun k a => runS st Pu n m (l ++ [((fromL l + k : Nat) : Int)]) (orU s (shU ((fromL l + k : Nat) : Int))) a) (n - m - fromL l) a
def allS (Bd : σ → Bool) (st : σ → Int → σ) (Pu : Int → Bool) (n : Nat) : Nat → List Int → Int → σ → Bool
  | 0, _, _, a => Bd a
  | m + 1, l, s, a => okTo (fun k a => runS st Pu n m (l ++ [((fromL l + k : Nat) : Int)]) (orU s (shU ((fromL l + k : Nat) : Int))) a) (fun k a => allS Bd st Pu n m (l ++ [((fromL l + k : Nat) : Int)]) (orU s (shU ((fromL l + k : Nat) : Int))) a) (n - m - fromL l) a
def pickS (st : σ → Int → σ) (Pu : Int → Bool) (n : Nat) (a : σ) : σ × Bool := runTo (fun m a => runS st Pu n m [] 0 a) (n + 1) a
def pickOk (Bd : σ → Bool) (st : σ → Int → σ) (Pu : Int → Bool) (n : Nat) (a : σ) : Bool := okTo (fun m a => runS st Pu n m [] 0 a) (fun m a => allS Bd st Pu n m [] 0 a) (n + 1) a
end
def Mv (X : List Nat) (o : Option Nat) (H H' : List AObj) (o' : Option Nat) : Prop := SameX (X ++ o.toList) H H' ∧ (o' = o ∨ ∃ j, o' = some j ∧ H.length ≤ j)
section
variable {X : List Nat} {o o1 o2 : Option Nat} {H H1 H2 : List AObj} {p : Nat}
theorem Mv.refl : Mv X o H H o := ⟨SameX.refl, .inl rfl⟩
theorem Mv.more (S : SameX [] H H1) : Mv X o H H1 o := ⟨S.weak0, .inl rfl⟩
theorem Mv.same (a : Mv X o H H1 o1) (hp : p < H.length) (h1 : p ∉ X) (h2 : o ≠ some p) : H1[p]? = H[p]? := a.1.2 p hp (by
  simp only [List.mem_append, Option.mem_toList, not_or]
  exact ⟨h1, fun e => h2 e⟩)
theorem Mv.get {x : AObj} (a : Mv X o H H1 o1) (hx : H[p]? = some x) (h1 : p ∉ X) (h2 : o ≠ some p) : H1[p]? = some x := by
  rw [a.same (lt_of_get hx) h1 h2]
  exact hx
theorem Mv.free (a : Mv X o H H1 o1) (hp : p < H.length) (h2 : o ≠ some p) : o1 ≠ some p := by
  rcases a.2 with e | ⟨j, e, hj⟩
  · rw [e]
    exact h2
  · rw [e]
    intro h
    cases h
    omega
theorem Mv.trans (a : Mv X o H H1 o1) (b : Mv X o1 H1 H2 o2) : Mv X o H H2 o2 := by
  have h1 := a.1.1
  refine ⟨⟨Nat.le_trans h1 b.1.1, fun p hp hx => ?_⟩, ?_⟩
  · simp only [List.mem_append, Option.mem_toList, not_or] at hx
    have hn : o ≠ some p := fun e => hx.2 e
    rw [b.same (by omega) hx.1 (a.free hp hn), a.same hp hx.1 hn]
  · rcases b.2 with e | ⟨j, e, hj⟩
    · rw [e]
      exact a.2
    · exact .inr ⟨j, e, by omega⟩
theorem Mv.own {s len : Nat} {cs : List Value} {v : Value} {q : Option Nat} (a : Mv X o H H1 o1) (O : OwnX H s cs len v q) (h : ∀ j, q = some j → j ∉ X ∧ o ≠ some j) : OwnX H1 s cs len v q := ownX_keep O a.1 fun i hi => by
  simp only [List.mem_append, Option.mem_toList, not_or]
  exact ⟨(h i hi).1, fun e => (h i hi).2 e⟩
end
structure PassS {σ : Type} (J : JT) (X : List Nat) (I : σ → Option Nat → List AObj → Prop) (st : σ → Int → σ) (Pu : Int → Bool) (Bd : σ → Bool) (fv : Value) : Prop where
  call : ∀ {H : List AObj} {s : Int} {a : σ} {o : Option Nat} {Kf : Value → List AObj → Prop}, Bd a = true → I a o H → (∀ H' o', Mv X o H H' o' → I (st a s) o' H' → Kf (.bool (Pu s)) H') → callV prog (Good prog J) fv [.int .u64 s] H Kf
  keep : ∀ {H H' : List AObj} {a : σ} {o : Option Nat}, I a o H → SameX [] H H' → I a o H'
  lt : ∀ {H : List AObj} {a : σ} {o : Option Nat}, I a o H → ∀ j, o = some j → j < H.length
  kn : kn1 fv = true
  val : fv.cells = #[fv] ∧ one fv = true

section
variable {main : Bool} {J : JT} {h H : List AObj} {K : Value → List AObj → Prop} {KV : Value → Prop} {HL : List AObj → Prop} {n0 : Nat} {σ : Type} {st : σ → Int → σ} {Pu : Int → Bool} {Bd : σ → Bool}
theorem good105S (hJ : Closed prog main J) {X : List Nat} {I : σ → Option Nat → List AObj → Prop} {fv : Value} {n pp pn pg : Nat} (P : PassS J X I st Pu Bd fv) (hn : n ≤ 60) :
    ∀ (m : Nat) (l : List Int) (s : Int) {a : σ} {oo : Option Nat} {H : List AObj} {K : Value → List AObj → Prop} {lv : Value} {o : Option Nat}, H[pp]? = some (.cells [fv] true 0) → H[pn]? = some (.cells [vint (n : Nat)] true 0) → H[pg]? = some (.cells [growV pp pn pg] true 0) → I a oo H → (∀ x ∈ X, x < H.length) →
      OwnX H 1 (l.map vint) l.length lv o → (∀ j, o = some j → j ∉ X ∧ oo ≠ some j) → (∀ p ∈ [pp, pn, pg], p ∉ X ∧ oo ≠ some p) → l.length + m ≤ 100 → (∀ x ∈ l, 0 ≤ x ∧ x < n) → allS Bd st Pu n m l s a = true →
      (∀ H' v o', Mv X oo H H' o' → I (runS st Pu n m l s a).1 o' H' → v ≠ unk → K (.tuple ⟨[v, .bool (runS st Pu n m l s a).2]⟩) H') →
      Good prog J 105 [lv, .int .u64 s, vint (m : Nat), ptr pp 0, ptr pn 0, ptr pg 0] H K
  | 0, l, s, a, oo, H, K, lv, o, cp, cn, cg, hI, hX, O, ho, hM, hlm, hlb, hB, hK => by
    refine g105 hJ fun ok => ?_
    rw [e105]
    refine eqlI (cndI (fun _ => ldI (v := fv) cp rfl P.kn (P.call hB hI fun H' o' M I' => ?_)) fun hx => absurd rfl hx)
    have nu : lv ≠ unk := by
      have := (ownX_val O).2.2
      intro e
      rw [e] at this
      cases this
    exact retL_same (nu2 nu (by simp [unk])) (hK H' lv o' M I' nu)
  | m + 1, l, s, a, oo, H, K, lv, o, cp, cn, cg, hI, hX, O, ho, hM, hlm, hlb, hB, hK => by
    refine g105 hJ fun ok => ?_
    rw [e105]
    generalize hf : (fun k a => runS st Pu n m (l ++ [((fromL l + k : Nat) : Int)]) (orU s (shU ((fromL l + k : Nat) : Int))) a) = f
    have hR : runS st Pu n (m + 1) l s a = runTo f (n - m - fromL l) a := by rw [← hf]; rfl
    have hf' : ∀ k a, runS st Pu n m (l ++ [((fromL l + k : Nat) : Int)]) (orU s (shU ((fromL l + k : Nat) : Int))) a = f k a := fun k a => by rw [← hf]
    have hB' : okTo f (fun k a => allS Bd st Pu n m (l ++ [((fromL l + k : Nat) : Int)]) (orU s (shU ((fromL l + k : Nat) : Int))) a) (n - m - fromL l) a = true := by rw [← hf]; exact hB
    have lpp := lt_of_get cp
    have lpn := lt_of_get cn
    have lpg := lt_of_get cg
    have lo := ownX_lt O
    have mp := hM pp (by simp)
    have mn := hM pn (by simp)
    have mg := hM pg (by simp)
    -- the loop
    have loop : ∀ {F : RG}, F.ds = [] → F.r 0 = lv → F.r 1 = .int .u64 s → F.r 2 = vint ((m + 1 : Nat) : Int) → F.r 3 = ptr pp 0 → F.r 4 = ptr pn 0 → F.r 5 = ptr pg 0 → F.r 11 = vint (fromL l : Nat) →
        W prog J 58 H.length 105 (subC [1, 1, 1, 1] (codeOf f105)) F H (contX pl105 prog J 58 H.length 105 ct105 [1, 1, 1, 1] (codeOf f105) [] (RetQ prog [.tmp 9, .tmp 10] H.length K)) := by
      intro F ds r0 r1 r2 r3 r4 r5 r11
      rw [s105_1, r11]
      refine l105_2 hJ (fun k : Nat => n - m - fromL l - k) (fun k F H' => (∃ o', Mv X oo H H' o' ∧ I (runTo f k a).1 o' H') ∧ k ≤ n - m - fromL l ∧ (runTo f k a).2 = false ∧ F.ds = [] ∧ F.r 0 = lv ∧ F.r 1 = .int .u64 s ∧ F.r 2 = vint ((m + 1 : Nat) : Int) ∧ F.r 3 = ptr pp 0 ∧ F.r 4 = ptr pn 0 ∧ F.r 5 = ptr pg 0 ∧ F.r 12 = vint ((fromL l + k : Nat) : Int)) ?_ (s := 0)
        (.inl ⟨⟨oo, Mv.refl, hI⟩, by omega, rfl, ds, r0, r1, r2, r3, r4, r5, rfl⟩)
      rintro k F H' ⟨⟨o', M, I'⟩, hk, hno, ds, r0, r1, r2, r3, r4, r5, r12⟩ okc hnc
      have hfl : fromL l ≤ n := by
        unfold fromL
        cases hl : l.getLast? with
        | none => exact Nat.zero_le _
        | some x =>
          have := hlb x (List.mem_of_getLast? hl)
          show x.toNat + 1 ≤ n
          omega
      have cp' := M.get cp mp.1 mp.2
      have cn' := M.get cn mn.1 mn.2
      have cg' := M.get cg mg.1 mg.2
      have O' := M.own O ho
      have lg := lt_of_get cg'
      have hM' : ∀ p ∈ [pp, pn, pg], p ∉ X ∧ o' ≠ some p := fun p hp => ⟨(hM p hp).1, M.free (by simp at hp; omega) (hM p hp).2⟩
      rw [s105_2, r0, r1, r2, r4, r5, r12, ds]
      refine ldI (v := vint (n : Nat)) cn' rfl rfl (subI (by omega) (leqI (cndI (fun hle => ?_) fun hgt => ?_)))
      rotate_left
      · have hke : k = n - m - fromL l := by omega
        refine retL_same (by simp [unk]) ?_
        have e : runS st Pu n (m + 1) l s a = runTo f k a := by rw [hR, hke]
        have := hK H' (.slice none 0 0) o' M (by rw [e]; exact I') (by simp [unk])
        rw [e, hno] at this
        exact this
      have hkl : k < n - m - fromL l := by omega
      have hBk := okTo_at hB' hkl hno
      have hsb : ∀ {H2}, SameX [] H' H2 → SameB (some [pg]) H' H2 := fun S2 x hx => S2.2 x (by simp at hx; omega) (by simp)
      have e8 : ((m + 1 : Nat) : Int) - 1 = (m : Nat) := by omega
      -- behind the call
      have post : ∀ {H2 : List AObj} {wv : Value} {q : Nat} {F2 : Value → Value → Value → RG}, SameX [] H' H2 → OwnX H2 1 ((l ++ [((fromL l + k : Nat) : Int)]).map vint) (l ++ [((fromL l + k : Nat) : Int)]).length wv (some q) → H'.length ≤ q → q ∉ X → o' ≠ some q →
          (∀ a b c, (F2 a b c).ds = [] ∧ (F2 a b c).r 0 = lv ∧ (F2 a b c).r 1 = .int .u64 s ∧ (F2 a b c).r 2 = vint ((m + 1 : Nat) : Int) ∧ (F2 a b c).r 3 = ptr pp 0 ∧ (F2 a b c).r 4 = ptr pn 0 ∧ (F2 a b c).r 5 = ptr pg 0 ∧ (F2 a b c).r 12 = vint ((fromL l + k : Nat) : Int) ∧ (F2 a b c).r 13 = b ∧ (F2 a b c).r 14 = c) →
          callV prog (Good prog J) (growV pp pn pg) [wv, .int .u64 (orU s (shU ((fromL l + k : Nat) : Int))), vint (m : Nat)] H2 fun v16 h17 => aExt v16 0 fun v18 => aExt v16 1 fun v19 => Hold (W prog J 58 H.length 105 (subC [1, 1, 1, 1, 0, 1, 0, 0, 1, 0, 0, 1] (codeOf f105)) (F2 v16 v18 v19) h17 (contX pl105 prog J 58 H.length 105 ct105 [1, 1, 1, 1, 0, 1, 0, 0, 1, 0, 0, 1] (codeOf f105) [Nx H.length (fun k : Nat => n - m - fromL l - k) (fun k F H' => (∃ o', Mv X oo H H' o' ∧ I (runTo f k a).1 o' H') ∧ k ≤ n - m - fromL l ∧ (runTo f k a).2 = false ∧ F.ds = [] ∧ F.r 0 = lv ∧ F.r 1 = .int .u64 s ∧ F.r 2 = vint ((m + 1 : Nat) : Int) ∧ F.r 3 = ptr pp 0 ∧ F.r 4 = ptr pn 0 ∧ F.r 5 = ptr pg 0 ∧ F.r 12 = vint ((fromL l + k : Nat) : Int)) k] (RetQ prog [.tmp 9, .tmp 10] H.length K))) := by
        intro H2 wv q F2 S2 O2 hlt hqX hqo hF
        refine callC (by kernel_rfl) ?_
        refine good105S hJ P hn m (l ++ [((fromL l + k : Nat) : Int)]) (orU s (shU ((fromL l + k : Nat) : Int))) (S2.get cp' (by simp)) (S2.get cn' (by simp)) (S2.get cg' (by simp)) (P.keep I' S2) (fun x hx => by have := hX x hx; have := M.1.1; have := S2.1; omega) O2 (fun j hj => by cases hj; exact ⟨hqX, hqo⟩) hM' (by simp; omega) (fun x hx => ?_) hBk fun H3 v o3 M3 I3 nu => ext0 (ext1 (hold.2 ?_))
        · rcases List.mem_append.1 hx with hx | hx
          · exact hlb x hx
          · have hx : x = ((fromL l + k : Nat) : Int) := by simpa using hx
            omega
        rw [hf'] at I3 ⊢
        have hnx := runTo_next hno
        rw [← hnx] at I3 ⊢
        generalize hBB : (runTo f (k + 1) a).2 = bb
        obtain ⟨f0, f1, f2, f3, f4, f5, f6, f7, f8, f9⟩ := hF (.tuple ⟨[v, .bool bb]⟩) v (.bool bb)
        have S13 : Mv X oo H H3 o3 := (M.trans (Mv.more S2)).trans M3
        rw [s105_3, f7, f8, f9, f0]
        cases bb with
        | true =>
          have e : runS st Pu n (m + 1) l s a = runTo f (k + 1) a := by rw [hR, runTo_end (by omega) hBB]
          refine cnd_true.2 (retL_same (nu2 nu (by simp [unk])) ?_)
          have := hK H3 v o3 S13 (by rw [e]; exact I3) nu
          rw [e, hBB] at this
          exact this
        | false =>
          exact cnd_false.2 (addI (by omega) ⟨k + 1, by dsimp only; omega, .inl ⟨⟨o3, S13, I3⟩, by omega, hBB, f0, f1, f2, f3, f4, f5, f6, by show vint _ = vint _; congr 1⟩⟩)
      -- new blocks are nobody's
      have hXn : ∀ {q : Nat}, H'.length ≤ q → q ∉ X ∧ o' ≠ some q := fun hq => ⟨fun hm => by have := hX _ hm; have := M.1.1; omega, fun e => by have := P.lt I' _ e; omega⟩
      refine ⟨[pg], ldI (v := growV pp pn pg) cg' rfl rfl ⟨by simp [RdOk, ptr, ptrBlk], convI (by omega) (by omega) (u_shlI (by omega) (u_orI (subI (by omega) ?_)))⟩⟩
      rw [e8]
      refine ⟨?_, ?_⟩
      · refine good106 hJ O' (by omega) fun v' C => ⟨fun _ _ => rfl, by decide, fill_one (l := [vint ((fromL l + k : Nat) : Int)]) rfl rfl rfl (by decide) (fillI (qNew fun H1 p1 e1 S1 c1 l1 => ⟨hsb S1, by decide, ?_⟩))⟩
        have c1 : H1[p1]? = some (.cells [vint ((fromL l + k : Nat) : Int)] true 0) := c1
        refine clip_app (C.keep S1) (by omega) (ownX_sli (ownX_new (s := 1) (n := 1) (l := [vint ((fromL l + k : Nat) : Int)]) c1 rfl rfl)) fun w H2 S2 O2 => ⟨hsb (S1.trans S2), ?_⟩
        have hS1 := S1.1
        exact post (S1.trans S2) O2 hS1 (hXn hS1).1 (hXn hS1).2 fun a b c => ⟨ds, r0, r1, r2, r3, r4, r5, r12, rfl, rfl⟩
      · refine ⟨by decide, fill_one (l := [vint ((fromL l + k : Nat) : Int)]) rfl rfl rfl (by decide) (fillI (qNew fun H1 p1 e1 S1 c1 l1 => ⟨hsb S1, ?_⟩))⟩
        have c1 : H1[p1]? = some (.cells [vint ((fromL l + k : Nat) : Int)] true 0) := c1
        refine good106 hJ (ownX_keep O' S1 (by simp)) (by omega) fun v' C => ⟨hsb S1, by decide, ?_⟩
        refine clip_app C (by omega) (ownX_sli (ownX_new (s := 1) (n := 1) (l := [vint ((fromL l + k : Nat) : Int)]) c1 rfl rfl)) fun w H2 S2 O2 => ⟨hsb (S1.trans S2), ?_⟩
        have hS1 := S1.1
        exact post (S1.trans S2) O2 hS1 (hXn hS1).1 (hXn hS1).2 fun a b c => ⟨ds, r0, r1, r2, r3, r4, r5, r12, rfl, rfl⟩
    refine eqlI (cndI (fun hx => absurd hx (by omega)) fun _ => lenI (ownX_sli O) (gtrI (cndI (fun hpos => lenI (ownX_sli O) (subI (by omega) ?_)) fun h0 => hold.2 ?_)))
    · have hll : l.length - 1 < l.length := by omega
      have ei : ((l.length : Nat) : Int) - 1 = ((l.length - 1 : Nat) : Int) := by omega
      have hx := List.getElem?_eq_getElem hll
      have hb := hlb _ (List.getElem_mem hll)
      rw [ei]
      refine idx_load (ownX_sli O) ⟨by omega, by omega⟩ (x := vint l[l.length - 1]) (by rw [Int.toNat_natCast, List.getElem?_map, hx]; rfl) fun p => addI (by omega) (hold.2 (loop rfl rfl rfl rfl rfl rfl rfl ?_))
      show vint _ = vint _
      congr 1
      unfold fromL
      rw [List.getLast?_eq_getElem?, hx]
      show l[l.length - 1] + 1 = ((l[l.length - 1].toNat + 1 : Nat) : Int)
      omega
    · have : l = [] := List.length_eq_zero_iff.1 (by omega)
      refine loop rfl rfl rfl rfl rfl rfl rfl ?_
      rw [this]
      rfl

theorem good75S (hJ : Closed prog main J) {X : List Nat} {I : σ → Option Nat → List AObj → Prop} {fv : Value} {n : Nat} {a : σ} {oo : Option Nat} (P : PassS J X I st Pu Bd fv) (hn : n ≤ 60) (hX : ∀ x ∈ X, x < H.length) (hI : I a oo H) (hB : pickOk Bd st Pu n a = true)
    (hK : ∀ H' v o', Mv X oo H H' o' → I (pickS st Pu n a).1 o' H' → K v H') : Good prog J 75 [vint (n : Nat), fv] H K := by
  refine g75 hJ fun ok => ?_
  rw [e75]
  generalize hf : (fun m a => runS st Pu n m [] 0 a) = f
  have hf' : ∀ m a, runS st Pu n m [] 0 a = f m a := fun m a => by rw [← hf]
  have hR : pickS st Pu n a = runTo f (n + 1) a := by rw [← hf]; rfl
  have hB' : okTo f (fun m a => allS Bd st Pu n m [] 0 a) (n + 1) a = true := by rw [← hf]; exact hB
  refine qBox1 rfl rfl fun H1 pn e1 S1 c1 l1 => qBox1 P.val.1 P.val.2 fun H2 pp e2 S2 c2 l2 => qAl fun H3 pg e3 S3 c3 l3 => ⟨rfl, qSt c3 (by simp) rfl rfl fun H4 S4 c4 l4 => ?_⟩
  have c4 : H4[pg]? = some (.cells [growV pp pn pg] true 0) := c4
  have T24 : SameX [] H2 H4 := S3.thru S4 (by simp; omega)
  have T14 : SameX [] H1 H4 := S2.trans T24
  have T4 : SameX [] H H4 := S1.trans T14
  have n4 := T14.get c1 (by simp)
  have p4 := T24.get c2 (by simp)
  have hS1 := S1.1
  have hS2 := S2.1
  have hS3 := S3.1
  have lo := P.lt hI
  have hM : ∀ p, H.length ≤ p → p ∉ X ∧ oo ≠ some p := fun p hp => ⟨fun hm => by have := hX _ hm; omega, fun e => by have := lo _ e; omega⟩
  refine ldI (v := vint (n : Nat)) n4 rfl rfl (addI (by omega) ?_)
  refine l75_1 hJ (fun m : Nat => n + 1 - m) (fun m F H' => (∃ o', Mv X oo H4 H' o' ∧ I (runTo f m a).1 o' H') ∧ m ≤ n + 1 ∧ (runTo f m a).2 = false ∧ F.ds = [] ∧ F.r 6 = ptr pg 0 ∧ F.r 12 = vint ((n : Int) + 1) ∧ F.r 13 = vint (m : Nat)) ?_ (s := 0)
    (.inl ⟨⟨oo, Mv.refl, P.keep hI T4⟩, by omega, rfl, rfl, rfl, rfl, rfl⟩)
  rintro m F H' ⟨⟨o', M, I'⟩, hm, hno, ds, r6, r12, r13⟩ okc hnc
  rw [s75_1, r6, r12, r13, ds]
  have MM : Mv X oo H H' o' := (Mv.more T4).trans M
  refine lssI (cndI (fun hlt => ?_) fun hge => ?_)
  · have hBm := okTo_at hB' (show m < n + 1 by omega) hno
    have m1 := hM pg (by omega)
    have m2 := hM pp (by omega)
    have m3 := hM pn (by omega)
    refine ldI (v := growV pp pn pg) (M.get c4 m1.1 m1.2) rfl rfl (callC (by kernel_rfl) ?_)
    have l4p := lt_of_get p4
    have l4n := lt_of_get n4
    have l4g := lt_of_get c4
    refine good105S hJ P hn m [] 0 (M.get p4 m2.1 m2.2) (M.get n4 m3.1 m3.2) (M.get c4 m1.1 m1.2) I' (fun x hx => by have := hX x hx; have := MM.1.1; omega) ⟨rfl, rfl, .inl ⟨rfl, rfl, rfl⟩⟩ (by simp) (fun p hp => ?_) (by simp; omega) (by simp) hBm fun H5 v o5 M5 I5 nu => ext0 (ext1 ?_)
    · have hp3 : p = pp ∨ p = pn ∨ p = pg := by simpa using hp
      rcases hp3 with rfl | rfl | rfl
      · exact ⟨m2.1, M.free l4p m2.2⟩
      · exact ⟨m3.1, M.free l4n m3.2⟩
      · exact ⟨m1.1, M.free l4g m1.2⟩
    rw [hf', ← runTo_next hno] at I5 ⊢
    generalize hBB : (runTo f (m + 1) a).2 = bb
    cases bb with
    | true =>
      refine cnd_true.2 (retL_same (nu2 nu (by simp [unk])) (hK H5 _ o5 (MM.trans M5) ?_))
      rw [hR, runTo_end (by omega) hBB]
      exact I5
    | false => exact cnd_false.2 (addI (by omega) ⟨m + 1, by dsimp only; omega, .inl ⟨⟨o5, M.trans M5, I5⟩, by omega, hBB, ds, r6, r12, by show vint _ = vint _; congr 1⟩⟩)
  · have hmn : m = n + 1 := by omega
    subst hmn
    refine retL_same (by simp [unk]) (hK H' _ o' MM ?_)
    rw [hR]
    exact I'
end
end Go.Proofs.Ytdgpacdknpahnaa

namespace Go.Proofs.Ytdgpacdknpahnaa
open Go.Conc Go.Proofs.Try
set_option maxRecDepth 100000
theorem gtrU {a b : Int} {t : TypeId} {KV : Value → Prop} (hk : KV (.bool (decide (a > b)))) : aBin prog .gtr t (.int .u64 a) (.int .u64 b) KV := by rw [b_gtr]; exact hk
theorem own_nunk {H : List AObj} {s len : Nat} {cs : List Value} {v : Value} {o : Option Nat} (O : OwnX H s cs len v o) : v ≠ unk := by
  have := (ownX_val O).2.2
  intro e
  rw [e] at this
  cases this

theorem OwnL.moreB {lo : Nat} {H : List AObj} {ls : List (List Int)} {o : Option Nat} {v y wv : Value} {l : List Int} {b : Option Nat} {K : Value → List AObj → Prop}
    (L : OwnL lo H v ls o) (hlo : lo ≤ H.length) (hpl : ls.length < 900) (Of : OwnX H 1 (l.map vint) l.length wv b) (hb : ∀ j, b = some j → some j ≠ o ∧ lo ≤ j) (hyv : Sli H y 1 1 [wv])
    (hK : ∀ v' H' o', SameX o.toList H H' → OwnL lo H' v' (ls ++ [l]) (some o') → H.length ≤ o' → v' ≠ unk → K v' H') : aApp 1 v y H K := by
  obtain ⟨hl0, cs, Oc, he⟩ := L
  have bfl := ownX_lt Of
  refine ownX_more Oc (by omega) (by omega) hyv fun v' Hh ph eh Oh Sh => ?_
  have hno : ∀ j, some j ≠ o → j ∉ o.toList := fun j hj hm => hj (by rw [Option.mem_toList.1 hm])
  refine hK v' Hh ph Sh ⟨fun j hj => by cases hj; omega, cs ++ [wv], by rw [List.length_append]; exact Oh, fun m l' hl => ?_⟩ (by omega) (own_nunk Oh)
  have hcl : cs.length = ls.length := by have := Oc.1; omega
  rcases Nat.lt_or_ge m ls.length with hm | hm
  · rw [List.getElem?_append_left hm] at hl
    obtain ⟨lv2, b2, e2, e3, e4⟩ := he m l' hl
    refine ⟨lv2, b2, by rw [List.getElem?_append_left (by omega)]; exact e2, ownX_keep e3 Sh fun j hj => hno j (e4 j hj).1, fun j hj => ⟨?_, (e4 j hj).2⟩⟩
    have := ownX_lt e3 j hj
    intro e
    injection e with e
    omega
  · rw [List.getElem?_append_right hm] at hl
    have hm0 : m - ls.length = 0 := by
      have := (List.getElem?_eq_some_iff.1 hl).1
      simp at this
      omega
    rw [hm0] at hl
    have : l' = l := by simpa using hl.symm
    subst this
    refine ⟨wv, b, by rw [List.getElem?_append_right (by omega), hcl, hm0]; rfl, ownX_keep Of Sh fun j hj => hno j (hb j hj).1, fun j hj => ⟨fun e => ?_, (hb j hj).2⟩⟩
    have := bfl j hj
    injection e with e
    omega

def hitB (u : Int) (i : Nat) : Bool := decide (IntKind.u64.wrap (BitVec.ofInt 64 (u.fdiv (2 ^ min i 64)) &&& BitVec.ofInt 64 1).toNat = 1)
def bitsN (n : Nat) (s : Int) : List Int := ((List.range n).filter (hitB s)).map Int.ofNat
theorem bitsN_succ (n : Nat) (s : Int) : bitsN (n + 1) s = bitsN n s ++ (bif hitB s n then [(n : Int)] else []) := by
  unfold bitsN
  rw [List.range_succ, List.filter_append, List.map_append]
  congr 1
  cases h : hitB s n <;> simp [h]
theorem bitsN_le (n : Nat) (s : Int) : (bitsN n s).length ≤ n := by
  unfold bitsN
  rw [List.length_map]
  exact Nat.le_trans (List.length_filter_le _ _) (by simp)

def stM (n many : Nat) (a : List (List Int)) (s : Int) : List (List Int) := bif decide ((bitsN n s).length = many) then a ++ [bitsN n s] else a
def puM (n many : Nat) (s : Int) : Bool := decide ((bitsN n s).length > many)
def bdM (a : List (List Int)) : Bool := decide (a.length < 800)

structure IM (lo pw pm pl : Nat) (wv : Value) (many : Nat) (a : List (List Int)) (o : Option Nat) (H : List AObj) : Prop where
  hw : H[pw]? = some (.cells [wv] true 0)
  hm : H[pm]? = some (.cells [vint (many : Nat)] true 0)
  hl : ∃ lv, H[pl]? = some (.cells [lv] true 0) ∧ OwnL lo H lv a o
  lo : lo ≤ H.length

section
variable {main : Bool} {J : JT} {h H : List AObj} {K : Value → List AObj → Prop} {n0 : Nat}
theorem pass91 (hJ : Closed prog main J) {lo pw pm pl n many : Nat} {wv : Value} (hwv : ∀ KV : Value → Prop, KV (vint (n : Nat)) → aLenS wv KV) (kwv : kn1 wv = true) (hn : n ≤ 60) (hmy : many ≤ 1000) (h1 : pw < lo) (h2 : pm < lo) (h3 : pl < lo) (d1 : pw ≠ pl) (d2 : pm ≠ pl) :
    PassS J [pl] (IM lo pw pm pl wv many) (stM n many) (puM n many) bdM (.func (.func 91) ⟨[]⟩ ⟨[ptr pw 0, ptr pm 0, ptr pl 0]⟩) where
  call := fun {H s a o Kf} hB hI hk => by
    refine callC (by kernel_rfl) (g91 hJ fun ok => ?_)
    have e0 : ([.int .u64 s] ++ [ptr pw 0, ptr pm 0, ptr pl 0] : List Value) = [.int .u64 s, ptr pw 0, ptr pm 0, ptr pl 0] := rfl
    show W prog J 36 H.length 91 (codeOf f91) (RG.mk (regs [.int .u64 s, ptr pw 0, ptr pm 0, ptr pl 0]) []) H (RetQ prog [.tmp 5] H.length Kf)
    rw [e91]
    refine ldI hI.hw rfl kwv (hwv _ ?_)
    refine l91_1 hJ (fun i : Nat => n - i) (fun i f H' => SameX [] H H' ∧ i ≤ n ∧ (∃ ol, OwnX H' 1 ((bitsN i s).map vint) (bitsN i s).length (f.r 6) ol ∧ ∀ j, ol = some j → H.length ≤ j) ∧ f.ds = [] ∧ f.r 0 = .int .u64 s ∧ f.r 2 = ptr pm 0 ∧ f.r 3 = ptr pl 0 ∧ f.r 9 = vint (n : Nat) ∧ f.r 10 = vint (i : Nat)) ?_ (s := 0)
      (.inl ⟨SameX.refl, by omega, ⟨none, ownX_nil, by simp⟩, rfl, rfl, rfl, rfl, rfl, rfl⟩)
    rintro i f H' ⟨S, hi, ⟨ol, Ol, hol⟩, ds, r0, r2, r3, r9, r10⟩ okc hnc
    generalize hlv : f.r 6 = lv at Ol
    rw [s91_1, r0, r2, r3, r9, r10, hlv, ds]
    have hble := bitsN_le i s
    refine lssI (cndI (fun hlt => ?_) fun hge => ?_)
    · refine convI (by omega) (by omega) (u_shrI (u_andI (eqlU ?_)))
      have hb := bitsN_succ i s
      refine cndI (fun hh => ⟨by decide, fill1 rfl rfl (by decide) (fillI (qNew fun H1 p1 e1 S1 c1 l1 => ⟨by decide, ?_⟩))⟩) fun hh => ?_
      · have hit : hitB s i = true := decide_eq_true hh
        rw [hit] at hb
        refine ownX_more (ownX_keep Ol S1 (by simp)) (by omega) (by omega) (ownX_sli (ownX_new (n := 1) (l := [vint (i : Nat)]) c1 rfl rfl)) fun v' H2 p2 e2 O2 S2 => addI (by omega) ⟨i + 1, by dsimp only; omega, .inl ⟨(S.trans S1).thru S2 ?_, by omega, ⟨some p2, ?_, fun j hj => ?_⟩, ds, r0, r2, r3, r9, by show vint _ = vint _; congr 1⟩⟩
        · intro y hy
          rw [Option.mem_toList] at hy
          exact .inr (hol y hy)
        · rw [hb]
          show OwnX H2 1 ((bitsN i s ++ [(i : Int)]).map vint) (bitsN i s ++ [(i : Int)]).length v' (some p2)
          rw [List.map_append, List.length_append]
          exact O2
        · cases hj
          have := S.1
          have := S1.1
          omega
      · have hit : hitB s i = false := decide_eq_false hh
        rw [hit, cond_false, List.append_nil] at hb
        refine addI (by omega) ⟨i + 1, by dsimp only; omega, .inl ⟨S, by omega, ⟨ol, ?_, hol⟩, ds, r0, r2, r3, r9, by show vint _ = vint _; congr 1⟩⟩
        rw [hb]
        show OwnX H' 1 _ _ (f.r 6) ol
        rw [hlv]
        exact Ol
    · have hin : i = n := by omega
      subst hin
      have cm := S.get hI.hm (by simp)
      obtain ⟨llv, cl, LL⟩ := hI.hl
      have cl' := S.get cl (by simp)
      have LL' := LL.keep S
      have hlo := hI.lo
      have hS := S.1
      refine lenI (ownX_sli Ol) (ldI (v := vint (many : Nat)) cm rfl rfl (eqlI (cndI (fun he => ?_) fun hne => ?_)))
      · have he' : (bitsN i s).length = many := by omega
        have hst : stM i many a s = a ++ [bitsN i s] := by unfold stM; rw [decide_eq_true he']; rfl
        have hB' : a.length < 800 := of_decide_eq_true hB
        have kl := (ownX_val LL'.2.choose_spec.1)
        refine ldI cl' rfl kl.2.2 ⟨by decide, fill1 (ownX_val Ol).1 (ownX_val Ol).2.1 (by decide) (fillI (qNew fun H1 p1 e1 S1 c1 l1 => ⟨by decide, ?_⟩))⟩
        have hS1 := S1.1
        refine (LL'.keep S1).moreB (b := ol) (by omega) (by omega) (ownX_keep Ol S1 (by simp)) (fun j hj => ⟨fun e => ?_, by have := hol j hj; omega⟩) (ownX_sli (ownX_new (n := 1) (l := [lv]) c1 rfl (by
          unfold kn
          simp [(ownX_val Ol).2.2]))) fun v' H2 o2 S2 L2 ho2 nu => ?_
        · have h5 := hol j hj
          have h6 := (LL.lt j e.symm).2
          omega
        have cl1 := S1.get cl' (by simp)
        have hno : ∀ {x : Nat}, x < lo → x ∉ o.toList := fun hx hm => by
          have := LL.1 _ (Option.mem_toList.1 hm)
          omega
        have cl2 := S2.get cl1 (hno h3)
        have kv := ownX_val L2.2.choose_spec.1
        have cm2 := S2.get (S1.get cm (by simp)) (hno h2)
        refine qSt cl2 (by simp) kv.1 kv.2.1 fun H3 S3 c3 l3 => lenI (ownX_sli Ol) (ldI (v := vint (many : Nat)) (S3.get cm2 (by simpa using d2)) rfl rfl (gtrI ?_))
        have M : Mv [pl] o H H3 (some o2) := by
          refine ⟨((S.trans S1).weak0.trans (S2.weak fun y hy => List.mem_append_right _ hy)).trans (S3.weak fun y hy => List.mem_append_left _ hy), .inr ⟨o2, rfl, by omega⟩⟩
        refine retL_same (by simp [unk]) ?_
        have := hk H3 (some o2) M (by
          rw [hst]
          refine ⟨M.get hI.hw (by simpa using d1) (fun e => hno h1 (Option.mem_toList.2 e)), M.get hI.hm (by simpa using d2) (fun e => hno h2 (Option.mem_toList.2 e)), ⟨v', by rw [c3]; rfl, ?_⟩, by have := M.1.1; omega⟩
          exact L2.keepX S3 (by simp; exact h3))
        have e : decide (((bitsN i s).length : Int) > (many : Int)) = puM i many s := by
          unfold puM
          rw [decide_eq_decide]
          omega
        rw [e]
        exact this
      · have hne' : (bitsN i s).length ≠ many := by omega
        have hst : stM i many a s = a := by unfold stM; rw [decide_eq_false hne']; rfl
        refine lenI (ownX_sli Ol) (ldI (v := vint (many : Nat)) cm rfl rfl (gtrI (retL_same (by simp [unk]) ?_)))
        have := hk H' o (Mv.more S) (by
          rw [hst]
          exact ⟨S.get hI.hw (by simp), cm, ⟨llv, cl', LL'⟩, by omega⟩)
        have e : decide (((bitsN i s).length : Int) > (many : Int)) = puM i many s := by
          unfold puM
          rw [decide_eq_decide]
          omega
        rw [e]
        exact this
  keep := fun hI S => ⟨S.get hI.hw (by simp), S.get hI.hm (by simp), by
    obtain ⟨lv, h1, h2⟩ := hI.hl
    exact ⟨lv, S.get h1 (by simp), h2.keep S⟩, Nat.le_trans hI.lo S.1⟩
  lt := fun hI j hj => by
    obtain ⟨lv, _, h2⟩ := hI.hl
    exact (h2.lt j hj).2
  kn := rfl
  val := ⟨rfl, rfl⟩

def setM (t : Tal) (m : Int) : Nat → Int
  | 0 => 0
  | k + 1 => if ((t.counts[k]?).getD ⟨0, 0, 0, 0⟩).man = m then orU (setM t m k) (shU (k : Nat)) else setM t m k
def setA (t : Tal) (m : Int) : Int := setM t m t.counts.length
def menTo (t : Tal) (n : Nat) : List Int := ((List.range n).map fun k => ((k + 1 : Nat) : Int)).filter fun m => decide (setA t m > 0)
theorem menTo_succ (t : Tal) (n : Nat) : menTo t (n + 1) = menTo t n ++ (bif decide (setA t ((n + 1 : Nat) : Int) > 0) then [((n + 1 : Nat) : Int)] else []) := by
  unfold menTo
  rw [List.range_succ, List.map_append, List.filter_append]
  congr 1
theorem menTo_le (t : Tal) (n : Nat) : (menTo t n).length ≤ n := by
  unfold menTo
  exact Nat.le_trans (List.length_filter_le _ _) (by simp)
def menR (t : Tal) : List Int := menTo t 9
def setsR (t : Tal) : List Int := (menR t).map (setA t)

theorem good90 (hJ : Closed prog main J) {v cv nv : Value} {t : Tal} (ta : TalAt H v t cv nv) (hl : t.counts.length < 60)
    (hK : ∀ H' wv kv ow, SameX [] H H' → OwnX H' 1 ((menR t).map vint) (menR t).length wv ow → (∀ j, ow = some j → H.length ≤ j) → Sli H' kv 1 (setsR t).length ((setsR t).map fun n => .int .u64 n) → K (.tuple ⟨[wv, kv]⟩) H') : Good prog J 90 [v] H K := by
  refine g90 hJ fun ok => ?_
  rw [e90, ta.val]
  refine qBox (tal_one ta) fun H1 p1 e1 S1 c1 l1 => ?_
  have t1 : TalAt H1 (.agg ⟨talCells t cv nv⟩) t cv nv := ⟨rfl, S1.sli ta.ch (by simp), S1.sli ta.co (by simp)⟩
  have kn : kn1 nv = true := (sli_one t1.co).2.2
  refine l90_1 hJ (fun m : Nat => 9 - m) (fun m f H' => SameX [] H1 H' ∧ m ≤ 9 ∧ (∃ ow os, OwnX H' 1 ((menTo t m).map vint) (menTo t m).length (f.r 4) ow ∧ OwnX H' 1 (((menTo t m).map (setA t)).map fun n => .int .u64 n) ((menTo t m).map (setA t)).length (f.r 5) os ∧ (∀ j, ow = some j → H1.length ≤ j ∧ os ≠ some j) ∧ ∀ j, os = some j → H1.length ≤ j) ∧ f.ds = [] ∧ f.r 1 = ptr p1 0 ∧ f.r 6 = vint ((m + 1 : Nat) : Int)) ?_ (s := 0)
    (.inl ⟨SameX.refl, by omega, ⟨none, none, ownX_nil, ownX_nil, by simp, by simp⟩, rfl, rfl, rfl⟩)
  rintro m f H' ⟨S, hm, ⟨ow, os, Ow, Os, how, hos⟩, ds, r1, r6⟩ okc hnc
  generalize hwv : f.r 4 = wv at Ow
  generalize hkv : f.r 5 = kv at Os
  have c1' := S.get c1 (by simp)
  have t' := talAt_same t1 S (by simp)
  rw [s90_1, r1, r6, hwv, hkv, ds]
  have hml := menTo_le t m
  refine leqI (cndI (fun hle => ?_) fun hgt => ?_)
  · refine offI (ldI (v := nv) c1' rfl kn (lenI t'.co ?_))
    refine l90_2 hJ (fun i : Nat => t.counts.length - i) (fun i f H2 => SameX [] H' H2 ∧ i ≤ t.counts.length ∧ f.ds = [] ∧ f.r 1 = ptr p1 0 ∧ f.r 4 = wv ∧ f.r 5 = kv ∧ f.r 6 = vint ((m + 1 : Nat) : Int) ∧ f.r 7 = .int .u64 (setM t ((m + 1 : Nat) : Int) i) ∧ f.r 15 = nv ∧ f.r 16 = vint (t.counts.length : Nat) ∧ f.r 17 = vint (i : Nat)) ?_ (s := 0)
      (.inl ⟨SameX.refl, by omega, ds, r1, hwv, hkv, r6, rfl, rfl, rfl, rfl⟩)
    clear okc hnc
    rintro i f2 H2 ⟨S2, hi, ds2, q1, q4, q5, q6, q7, q15, q16, q17⟩ okc hnc
    have t2 := talAt_same t' S2 (by simp)
    rw [s90_2, q4, q5, q6, q7, q15, q16, q17]
    refine lssI (cndI (fun hlt => ?_) fun hge => ?_)
    · have hil : i < t.counts.length := by omega
      obtain ⟨b2, o2, cs2, w2, z2, hx2, hb2, hle2, hp2, hk2⟩ := sliE_elem cnt_len (by omega) t2.co hil
      have hget : (t.counts[i]?).getD ⟨0, 0, 0, 0⟩ = t.counts[i] := by rw [List.getElem?_eq_getElem hil]; rfl
      refine hx2 _ (load_part hb2 hle2 hp2 hk2 (qAl fun H3 p9 e3 S3 c3 l3 => qStA (c := t.counts[i].cells) c3 rfl rfl rfl fun H4 S4 c4 l4 => ?_))
      have T4 : SameX [] H' H4 := (S2.trans S3).thru S4 (by have := S2.1; simp; omega)
      refine offI (ldI (v := vint t.counts[i].man) c4 rfl rfl (eqlI (cndI (fun he => convI (by omega) (by omega) (u_shlI (by omega) (u_orI (addI (by omega) ⟨i + 1, by dsimp only; omega, .inl ⟨T4, by omega, ds2, q1, q4, q5, q6, ?_, q15, q16, by show vint _ = vint _; congr 1⟩⟩)))) fun hne => addI (by omega) ⟨i + 1, by dsimp only; omega, .inl ⟨T4, by omega, ds2, q1, q4, q5, q6, ?_, q15, q16, by show vint _ = vint _; congr 1⟩⟩)))
      · show Value.int .u64 _ = _
        conv => rhs; rw [setM, hget, if_pos he]
      · show f2.r 7 = _
        rw [q7]
        conv => rhs; rw [setM, hget, if_neg hne]
    · have hin : i = t.counts.length := by omega
      subst hin
      have hS : setM t ((m + 1 : Nat) : Int) t.counts.length = setA t ((m + 1 : Nat) : Int) := rfl
      rw [hS]
      have hsu := menTo_succ t m
      refine gtrU (cndI (fun hpos => ⟨by decide, fill1 rfl rfl (by decide) (fillI (qNew fun H3 p3 e3 S3 c3 l3 => ⟨by decide, ?_⟩))⟩) fun hno => ?_)
      · rw [decide_eq_true hpos, cond_true] at hsu
        have T3 := S2.trans S3
        refine ownX_more (ownX_keep Ow T3 (by simp)) (by omega) (by omega) (ownX_sli (ownX_new (n := 1) (l := [vint ((m + 1 : Nat) : Int)]) c3 rfl rfl)) fun v' H4 p4 e4 O4 S4 => ⟨by decide, fill1 rfl rfl (by decide) (fillI (qNew fun H5 p5 e5 S5 c5 l5 => ⟨by decide, ?_⟩))⟩
        have Os4 := ownX_keep (ownX_keep Os T3 (by simp)) S4 (fun j hj hm => by
          rw [Option.mem_toList] at hm
          exact (how j hm).2 hj)
        have lo4 := ownX_lt O4
        refine ownX_more (ownX_keep Os4 S5 (by simp)) (by omega) (by rw [List.length_map]; omega) (ownX_sli (ownX_new (n := 1) (l := [.int .u64 (setA t ((m + 1 : Nat) : Int))]) c5 rfl rfl)) fun v6 H6 p6 e6 O6 S6 => addI (by omega) ⟨m + 1, by dsimp only; omega, .inl ⟨?_, by omega, ⟨some p4, some p6, ?_, ?_, fun j hj => ?_, fun j hj => ?_⟩, ds2, q1, by show vint _ = vint _; congr 1⟩⟩
        · refine ((((S.trans T3).thru S4 fun y hy => ?_).trans S5).thru S6 fun y hy => ?_)
          · rw [Option.mem_toList] at hy
            exact .inr (how y hy).1
          · rw [Option.mem_toList] at hy
            exact .inr (hos y hy)
        · rw [hsu, List.map_append, List.length_append]
          refine ownX_keep (ownX_keep O4 S5 (by simp)) S6 fun j hj hm => ?_
          rw [Option.mem_toList] at hm
          cases hj
          have := (ownX_lt Os4) _ hm
          have := (ownX_lt (ownX_keep Os T3 (by simp))) _ hm
          omega
        · rw [hsu, List.map_append, List.map_append, List.length_append]
          exact O6
        · cases hj
          have := S.1
          have := T3.1
          refine ⟨by omega, fun e => ?_⟩
          cases e
          have := lo4 _ rfl
          have := S5.1
          omega
        · cases hj
          have := S.1
          have := T3.1
          have := S4.1
          have := S5.1
          omega
      · rw [decide_eq_false hno, cond_false, List.append_nil] at hsu
        refine addI (by omega) ⟨m + 1, by dsimp only; omega, .inl ⟨S.trans S2, by omega, ⟨ow, os, ?_, ?_, how, hos⟩, ds2, q1, by show vint _ = vint _; congr 1⟩⟩
        · show OwnX H2 1 _ _ (f2.r 4) ow
          rw [q4, hsu]
          exact ownX_keep Ow S2 (by simp)
        · show OwnX H2 1 _ _ (f2.r 5) os
          rw [q5, hsu]
          exact ownX_keep Os S2 (by simp)
  · have hm9 : m = 9 := by omega
    subst hm9
    refine retL_same (nu2 (own_nunk Ow) (own_nunk Os)) (hK H' wv kv ow (S1.trans S) Ow (fun j hj => ?_) (ownX_sli Os))
    have := (how j hj).1
    have := S1.1
    omega
end
end Go.Proofs.Ytdgpacdknpahnaa

namespace Go.Proofs.Ytdgpacdknpahnaa
open Go.Conc Go.Proofs.Try
set_option maxRecDepth 100000
set_option maxHeartbeats 4000000
set_option linter.unusedVariables false
section
variable {main : Bool} {J : JT} {n0 : Nat} {h : List AObj} {K : Value → List AObj → Prop}
section
variable {Sx : RG → List AObj → Prop}
theorem at92 : prog.funcs[92]? = some f92 := by kernel_rfl
theorem body92 : f92.body = some (codeOf f92) := by kernel_rfl
def pl92 : Plans := [(1, false, .take 1 (.take 2 (.alt 0 true (.alt 3 false (.last 4 true (.last 5 true (.take 6 (.fin)))) (.last 4 true (.alt 3 false (.last 5 true (.take 6 (.fin))) (.last 5 true (.last 3 false (.take 6 (.fin))))))) (.alt 3 false (.alt 0 true (.last 4 true (.last 5 true (.take 6 (.fin)))) (.last 4 true (.last 0 true (.last 5 true (.take 6 (.fin)))))) (.last 4 true (.alt 0 true (.alt 3 false (.last 5 true (.take 6 (.fin))) (.last 5 true (.last 3 false (.take 6 (.fin))))) (.last 3 false (.last 0 true (.last 5 true (.take 6 (.fin)))))))))))]
def ct92 : Cuts := .go
theorem pok92 : plansOk prog pl92 (trunc 2 (codeOf f92)) = true := by kernel_rfl
theorem e92 {a0 a1 a2 : Value} : W prog J 50 h.length 92 (trunc 2 (codeOf f92)) (RG.mk (regs [a0, a1, a2]) []) h (thenK Sx (RetQ prog [.tmp 6] h.length K)) =
(aBox a0 h fun v1 h2 =>
aBox a2 h2 fun v3 h4 =>
(∃ B, aLenS a1 fun v5 =>
RdOk (some B) (mapBlk a1) ∧ ((((8 : Nat) ≤ 1024 ∧ aMkC (vint 0) h4 fun v6 h7 =>
SameB (some B) h4 h7 ∧ ((((8 : Nat) ≤ 1024 ∧ aMkC v5 h7 fun v8 h9 =>
aAlloc [(Value.chan none)] h9 fun v10 h11 =>
SameB (some B) h4 h11 ∧ (aStore 1 v10 v6 h11 fun h12 =>
SameB (some B) h4 h12 ∧ (Sx (RG.put (RG.put (RG.put (RG.put (RG.put (RG.put (RG.put (RG.put (RG.put (RG.mk (regs [a0, a1, a2]) []) 3 v1) 5 v3) 6 (vint 0)) 15 a1) 16 v5) 14 v6) 17 v8) 7 v10) 8 v8) h12)))) ∧ (aAlloc [(Value.chan none)] h7 fun v13 h14 =>
SameB (some B) h4 h14 ∧ ((((8 : Nat) ≤ 1024 ∧ aMkC v5 h14 fun v15 h16 =>
aStore 1 v13 v6 h16 fun h17 =>
SameB (some B) h4 h17 ∧ (Sx (RG.put (RG.put (RG.put (RG.put (RG.put (RG.put (RG.put (RG.put (RG.put (RG.mk (regs [a0, a1, a2]) []) 3 v1) 5 v3) 6 (vint 0)) 15 a1) 16 v5) 14 v6) 7 v13) 17 v15) 8 v15) h17))) ∧ (aStore 1 v13 v6 h14 fun h18 =>
SameB (some B) h4 h18 ∧ (((8 : Nat) ≤ 1024 ∧ aMkC v5 h18 fun v19 h20 =>
Sx (RG.put (RG.put (RG.put (RG.put (RG.put (RG.put (RG.put (RG.put (RG.put (RG.mk (regs [a0, a1, a2]) []) 3 v1) 5 v3) 6 (vint 0)) 15 a1) 16 v5) 14 v6) 7 v13) 17 v19) 8 v19) h20)))))))) ∧ (((8 : Nat) ≤ 1024 ∧ aMkC v5 h4 fun v21 h22 =>
(((8 : Nat) ≤ 1024 ∧ aMkC (vint 0) h22 fun v23 h24 =>
SameB (some B) h4 h24 ∧ (aAlloc [(Value.chan none)] h24 fun v25 h26 =>
SameB (some B) h4 h26 ∧ (aStore 1 v25 v23 h26 fun h27 =>
SameB (some B) h4 h27 ∧ (Sx (RG.put (RG.put (RG.put (RG.put (RG.put (RG.put (RG.put (RG.put (RG.put (RG.mk (regs [a0, a1, a2]) []) 3 v1) 5 v3) 6 (vint 0)) 15 a1) 16 v5) 17 v21) 14 v23) 7 v25) 8 v21) h27))))) ∧ (aAlloc [(Value.chan none)] h22 fun v28 h29 =>
SameB (some B) h4 h29 ∧ (((8 : Nat) ≤ 1024 ∧ aMkC (vint 0) h29 fun v30 h31 =>
SameB (some B) h4 h31 ∧ (aStore 1 v28 v30 h31 fun h32 =>
SameB (some B) h4 h32 ∧ (Sx (RG.put (RG.put (RG.put (RG.put (RG.put (RG.put (RG.put (RG.put (RG.put (RG.mk (regs [a0, a1, a2]) []) 3 v1) 5 v3) 6 (vint 0)) 15 a1) 16 v5) 17 v21) 7 v28) 14 v30) 8 v21) h32))))))) ∧ (aAlloc [(Value.chan none)] h4 fun v33 h34 =>
SameB (some B) h4 h34 ∧ ((((8 : Nat) ≤ 1024 ∧ aMkC (vint 0) h34 fun v35 h36 =>
SameB (some B) h4 h36 ∧ ((((8 : Nat) ≤ 1024 ∧ aMkC v5 h36 fun v37 h38 =>
aStore 1 v33 v35 h38 fun h39 =>
SameB (some B) h4 h39 ∧ (Sx (RG.put (RG.put (RG.put (RG.put (RG.put (RG.put (RG.put (RG.put (RG.put (RG.mk (regs [a0, a1, a2]) []) 3 v1) 5 v3) 6 (vint 0)) 15 a1) 16 v5) 7 v33) 14 v35) 17 v37) 8 v37) h39))) ∧ (aStore 1 v33 v35 h36 fun h40 =>
SameB (some B) h4 h40 ∧ (((8 : Nat) ≤ 1024 ∧ aMkC v5 h40 fun v41 h42 =>
Sx (RG.put (RG.put (RG.put (RG.put (RG.put (RG.put (RG.put (RG.put (RG.put (RG.mk (regs [a0, a1, a2]) []) 3 v1) 5 v3) 6 (vint 0)) 15 a1) 16 v5) 7 v33) 14 v35) 17 v41) 8 v41) h42)))))) ∧ (((8 : Nat) ≤ 1024 ∧ aMkC v5 h34 fun v43 h44 =>
((8 : Nat) ≤ 1024 ∧ aMkC (vint 0) h44 fun v45 h46 =>
SameB (some B) h4 h46 ∧ (aStore 1 v33 v45 h46 fun h47 =>
SameB (some B) h4 h47 ∧ (Sx (RG.put (RG.put (RG.put (RG.put (RG.put (RG.put (RG.put (RG.put (RG.put (RG.mk (regs [a0, a1, a2]) []) 3 v1) 5 v3) 6 (vint 0)) 15 a1) 16 v5) 7 v33) 17 v43) 14 v45) 8 v43) h47)))))))))) := top_eq pok92 ct92 (by kernel_rfl)
end
theorem q92_1 {f : RG} {fr : FuncId} {Q : QT} : W prog J 50 n0 fr (subC [1, 1, 0, 0] (codeOf f92)) f h Q =
(aLenS (f.r 1) fun v1 =>
Q .normal (RG.put (RG.put (RG.put f 18 (f.r 1)) 19 v1) 20 (vint 0)) h) := by kernel_rfl
theorem q92_2 {f : RG} {fr : FuncId} {Q : QT} : W prog J 50 n0 fr (subC [1, 1, 0, 1, 0, 0, 0] (codeOf f92)) f h Q =
(aBin prog .lss 3 (f.r 20) (f.r 19) fun v1 =>
Q .normal (RG.put f 21 v1) h) := by kernel_rfl
theorem q92_3 {f : RG} {fr : FuncId} {Q : QT} : W prog J 50 n0 fr (subC [1, 1, 0, 1, 0, 0, 1, 0] (codeOf f92)) f h Q =
(cnd (f.r 21)
(Q .normal f h)
(Q (.exit 0) f h)) := by kernel_rfl
theorem q92_4 {f : RG} {fr : FuncId} {Q : QT} : W prog J 50 n0 fr (subC [1, 1, 0, 1, 0, 0, 1, 1, 0, 0, 0] (codeOf f92)) f h Q =
(aIdx 1 (f.r 18) (f.r 20) fun v1 =>
aLoad false 1 v1 h fun v2 =>
aAlloc [(vint 0)] h fun v3 h4 =>
aAlloc [(Value.slice none 0 0)] h4 fun v5 h6 =>
aStore 1 v3 (f.r 20) h6 fun h7 =>
aStore 1 v5 v2 h7 fun h8 =>
Q .normal (RG.put (RG.put (RG.put (RG.put (RG.put f 22 (f.r 20)) 23 v1) 24 v2) 9 v3) 10 v5) h8) := by kernel_rfl
theorem q92_5 {f : RG} {fr : FuncId} {Q : QT} : W prog J 50 n0 fr (subC [1, 1, 0, 1, 0, 0, 1, 1, 1] (codeOf f92)) f h Q =
(aBin prog .add 3 (f.r 20) (vint 1) fun v1 =>
Q .normal (RG.put (RG.put f 26 v1) 20 v1) h) := by kernel_rfl
theorem q92_6 {f : RG} {fr : FuncId} {Q : QT} : W prog J 50 n0 fr (subC [1, 1, 1, 0, 0] (codeOf f92)) f h Q =
(aLenS (f.r 1) fun v1 =>
Q .normal (RG.put (RG.put (RG.put f 27 (f.r 1)) 28 v1) 29 (vint 0)) h) := by kernel_rfl
theorem q92_7 {f : RG} {fr : FuncId} {Q : QT} : W prog J 50 n0 fr (subC [1, 1, 1, 0, 1, 0, 0, 0] (codeOf f92)) f h Q =
(aBin prog .lss 3 (f.r 29) (f.r 28) fun v1 =>
Q .normal (RG.put f 30 v1) h) := by kernel_rfl
theorem q92_8 {f : RG} {fr : FuncId} {Q : QT} : W prog J 50 n0 fr (subC [1, 1, 1, 0, 1, 0, 0, 1, 0] (codeOf f92)) f h Q =
(cnd (f.r 30)
(Q .normal f h)
(Q (.exit 2) f h)) := by kernel_rfl
theorem q92_9 {f : RG} {fr : FuncId} {Q : QT} : W prog J 50 n0 fr (subC [1, 1, 1, 0, 1, 0, 0, 1, 1, 0, 0, 1, 0] (codeOf f92)) f h Q =
(aBin prog .geq 3 (f.r 11) (vint 0) fun v1 =>
Q .normal (RG.put (RG.put f 33 (f.r 11)) 34 v1) h) := by kernel_rfl
theorem q92_10 {f : RG} {fr : FuncId} {Q : QT} : W prog J 50 n0 fr (subC [1, 1, 1, 0, 1, 0, 0, 1, 1, 1] (codeOf f92)) f h Q =
(aBin prog .add 3 (f.r 29) (vint 1) fun v1 =>
Q .normal (RG.put (RG.put f 37 v1) 29 v1) h) := by kernel_rfl
theorem q92_11 {f : RG} {fr : FuncId} {Q : QT} : W prog J 50 n0 fr (subC [1, 1, 1, 1, 1, 0] (codeOf f92)) f h Q =
(aLenS (f.r 1) fun v1 =>
Q .normal (RG.put (RG.put (RG.put f 39 (f.r 1)) 40 v1) 12 v1) h) := by kernel_rfl
theorem q92_12 {f : RG} {fr : FuncId} {Q : QT} : W prog J 50 n0 fr (subC [1, 1, 1, 1, 1, 1, 0, 0] (codeOf f92)) f h Q =
(Q .normal (RG.put f 41 (f.r 8)) h) := by kernel_rfl
theorem q92_13 {f : RG} {fr : FuncId} {Q : QT} : W prog J 50 n0 fr (subC [1, 1, 1, 1, 1, 1, 0, 1, 0, 0, 1, 0] (codeOf f92)) f h Q =
(cnd (f.r 43)
(Q .normal f h)
(Q (.exit 4) f h)) := by kernel_rfl
theorem q92_14 {f : RG} {fr : FuncId} {Q : QT} : W prog J 50 n0 fr (subC [1, 1, 1, 1, 1, 1, 0, 1, 0, 0, 1, 1] (codeOf f92)) f h Q =
(aExt (f.r 42) 0 fun v1 =>
(((1 * 1 : Nat) ≤ 16777216 ∧ (1 : Nat) ≤ 16777216 ∧ List.length [(vint 0)] = 1) ∧ aFill (zrep [(vint 0)] 1) [(0, 1, v1)] fun c2 =>
aNewS 1 c2 h fun v3 h4 =>
Good prog J 103 [(f.r 12), v3] h4 fun v5 h6 =>
Q .normal (RG.put (RG.put (RG.put (RG.put (RG.put (RG.put (RG.put f 44 v1) 13 v1) 45 (f.r 12)) 46 v1) 47 v3) 48 v5) 12 v5) h6)) := by kernel_rfl
noncomputable def ops92_1 : Array Oper := opsAt [1, 1, 0, 1, 0, 0, 1, 1, 0, 0, 1] (codeOf f92)
theorem z92_1 : ops92_1.size = 2 := by kernel_rfl
noncomputable def p92_1_0 : Oper := opGet ops92_1 0
theorem o92_1_0 {J : JT} : ops92_1[0]? = some p92_1_0 ∧ p92_1_0.dst = some 25 ∧ dstOk 50 p92_1_0 = true ∧ (∀ r, gd ops92_1 p92_1_0 r = some true) ∧ (∀ (f : RG) (h : List AObj) (H : Value → List AObj → Prop), opW prog (Good prog J) p92_1_0 f.r h H = (aMkF 110 [] [(f.r 10), (f.r 5), (f.r 3), (f.r 7), (f.r 9)] fun v1 =>
H v1 h)) := ⟨by kernel_rfl, by kernel_rfl, by kernel_rfl, fun _ => by kernel_rfl, fun _ _ _ => by kernel_rfl⟩
noncomputable def p92_1_1 : Oper := opGet ops92_1 1
theorem o92_1_1 {J : JT} : ops92_1[1]? = some p92_1_1 ∧ p92_1_1.dst = none ∧ dstOk 50 p92_1_1 = true ∧ (∀ r, gd ops92_1 p92_1_1 r = some true) ∧ (p92_1_1.op = (Go.Op.go { callee := (Go.Callee.value (Go.Operand.tmp 25)), args := #[], argTypes := #[] })) := ⟨by kernel_rfl, by kernel_rfl, by kernel_rfl, fun _ => by kernel_rfl, by kernel_rfl⟩
noncomputable def ops92_2 : Array Oper := opsAt [1, 1, 1, 0, 1, 0, 0, 1, 1, 0, 0, 0] (codeOf f92)
theorem z92_2 : ops92_2.size = 3 := by kernel_rfl
noncomputable def p92_2_0 : Oper := opGet ops92_2 0
theorem o92_2_0 {J : JT} : ops92_2[0]? = some p92_2_0 ∧ p92_2_0.dst = some 31 ∧ dstOk 50 p92_2_0 = true ∧ (∀ r, gd ops92_2 p92_2_0 r = some true) ∧ (∀ (f : RG) (h : List AObj) (H : Value → List AObj → Prop), opW prog (Good prog J) p92_2_0 f.r h H = (aLoad false 1 (f.r 7) h fun v1 =>
H v1 h)) := ⟨by kernel_rfl, by kernel_rfl, by kernel_rfl, fun _ => by kernel_rfl, fun _ _ _ => by kernel_rfl⟩
noncomputable def p92_2_1 : Oper := opGet ops92_2 1
theorem o92_2_1 {J : JT} : ops92_2[1]? = some p92_2_1 ∧ p92_2_1.dst = some 32 ∧ dstOk 50 p92_2_1 = true ∧ (∀ r, gd ops92_2 p92_2_1 r = some true) ∧ (p92_2_1.op = (Go.Op.recv 138 (Go.Operand.tmp 31) false)) := ⟨by kernel_rfl, by kernel_rfl, by kernel_rfl, fun _ => by kernel_rfl, by kernel_rfl⟩
noncomputable def p92_2_2 : Oper := opGet ops92_2 2
theorem o92_2_2 {J : JT} : ops92_2[2]? = some p92_2_2 ∧ p92_2_2.dst = some 11 ∧ dstOk 50 p92_2_2 = true ∧ (∀ r, gd ops92_2 p92_2_2 r = some true) ∧ (∀ (f : RG) (h : List AObj) (H : Value → List AObj → Prop), opW prog (Good prog J) p92_2_2 f.r h H = (H (f.r 32) h)) := ⟨by kernel_rfl, by kernel_rfl, by kernel_rfl, fun _ => by kernel_rfl, fun _ _ _ => by kernel_rfl⟩
noncomputable def ops92_3 : Array Oper := opsAt [1, 1, 1, 0, 1, 0, 0, 1, 1, 0, 0, 1, 1, 0] (codeOf f92)
theorem z92_3 : ops92_3.size = 3 := by kernel_rfl
noncomputable def p92_3_0 : Oper := opGet ops92_3 0
theorem o92_3_0 {J : JT} : ops92_3[0]? = some p92_3_0 ∧ p92_3_0.dst = some 35 ∧ dstOk 50 p92_3_0 = true ∧ (∀ r, gd ops92_3 p92_3_0 r = some true) ∧ (∀ (f : RG) (h : List AObj) (H : Value → List AObj → Prop), opW prog (Good prog J) p92_3_0 f.r h H = (H (f.r 8) h)) := ⟨by kernel_rfl, by kernel_rfl, by kernel_rfl, fun _ => by kernel_rfl, fun _ _ _ => by kernel_rfl⟩
noncomputable def p92_3_1 : Oper := opGet ops92_3 1
theorem o92_3_1 {J : JT} : ops92_3[1]? = some p92_3_1 ∧ p92_3_1.dst = some 36 ∧ dstOk 50 p92_3_1 = true ∧ (∀ r, gd ops92_3 p92_3_1 r = some true) ∧ (∀ (f : RG) (h : List AObj) (H : Value → List AObj → Prop), opW prog (Good prog J) p92_3_1 f.r h H = (H (f.r 11) h)) := ⟨by kernel_rfl, by kernel_rfl, by kernel_rfl, fun _ => by kernel_rfl, fun _ _ _ => by kernel_rfl⟩
noncomputable def p92_3_2 : Oper := opGet ops92_3 2
theorem o92_3_2 {J : JT} : ops92_3[2]? = some p92_3_2 ∧ p92_3_2.dst = none ∧ dstOk 50 p92_3_2 = true ∧ (∀ r, gd ops92_3 p92_3_2 r = some true) ∧ (p92_3_2.op = (Go.Op.send (Go.Operand.tmp 35) (Go.Operand.tmp 36))) := ⟨by kernel_rfl, by kernel_rfl, by kernel_rfl, fun _ => by kernel_rfl, by kernel_rfl⟩
noncomputable def ops92_4 : Array Oper := opsAt [1, 1, 1, 1, 0] (codeOf f92)
theorem z92_4 : ops92_4.size = 2 := by kernel_rfl
noncomputable def p92_4_0 : Oper := opGet ops92_4 0
theorem o92_4_0 {J : JT} : ops92_4[0]? = some p92_4_0 ∧ p92_4_0.dst = some 38 ∧ dstOk 50 p92_4_0 = true ∧ (∀ r, gd ops92_4 p92_4_0 r = some true) ∧ (∀ (f : RG) (h : List AObj) (H : Value → List AObj → Prop), opW prog (Good prog J) p92_4_0 f.r h H = (H (f.r 8) h)) := ⟨by kernel_rfl, by kernel_rfl, by kernel_rfl, fun _ => by kernel_rfl, fun _ _ _ => by kernel_rfl⟩
noncomputable def p92_4_1 : Oper := opGet ops92_4 1
theorem o92_4_1 {J : JT} : ops92_4[1]? = some p92_4_1 ∧ p92_4_1.dst = none ∧ dstOk 50 p92_4_1 = true ∧ (∀ r, gd ops92_4 p92_4_1 r = some true) ∧ (p92_4_1.op = (Go.Op.call { callee := (Go.Callee.builtin Go.Builtin.close), args := #[(Go.Operand.tmp 38)], argTypes := #[138] })) := ⟨by kernel_rfl, by kernel_rfl, by kernel_rfl, fun _ => by kernel_rfl, by kernel_rfl⟩
noncomputable def ops92_5 : Array Oper := opsAt [1, 1, 1, 1, 1, 1, 0, 1, 0, 0, 0] (codeOf f92)
theorem z92_5 : ops92_5.size = 2 := by kernel_rfl
noncomputable def p92_5_0 : Oper := opGet ops92_5 0
theorem o92_5_0 {J : JT} : ops92_5[0]? = some p92_5_0 ∧ p92_5_0.dst = some 42 ∧ dstOk 50 p92_5_0 = true ∧ (∀ r, gd ops92_5 p92_5_0 r = some true) ∧ (p92_5_0.op = (Go.Op.recv 138 (Go.Operand.tmp 41) true)) := ⟨by kernel_rfl, by kernel_rfl, by kernel_rfl, fun _ => by kernel_rfl, by kernel_rfl⟩
noncomputable def p92_5_1 : Oper := opGet ops92_5 1
theorem o92_5_1 {J : JT} : ops92_5[1]? = some p92_5_1 ∧ p92_5_1.dst = some 43 ∧ dstOk 50 p92_5_1 = true ∧ (∀ r, gd ops92_5 p92_5_1 r = some true) ∧ (∀ (f : RG) (h : List AObj) (H : Value → List AObj → Prop), opW prog (Good prog J) p92_5_1 f.r h H = (aExt (f.r 42) 1 fun v1 =>
H v1 h)) := ⟨by kernel_rfl, by kernel_rfl, by kernel_rfl, fun _ => by kernel_rfl, fun _ _ _ => by kernel_rfl⟩
def pl92t : Plans := [(1, false, .take 1 (.take 2 (.alt 0 true (.alt 3 false (.last 4 true (.last 5 true (.take 6 (.fin)))) (.last 4 true (.alt 3 false (.last 5 true (.take 6 (.fin))) (.last 5 true (.last 3 false (.take 6 (.fin))))))) (.alt 3 false (.alt 0 true (.last 4 true (.last 5 true (.take 6 (.fin)))) (.last 4 true (.last 0 true (.last 5 true (.take 6 (.fin)))))) (.last 4 true (.alt 0 true (.alt 3 false (.last 5 true (.take 6 (.fin))) (.last 5 true (.last 3 false (.take 6 (.fin))))) (.last 3 false (.last 0 true (.last 5 true (.take 6 (.fin)))))))))))]
def ct92t : Cuts := .bin (.go) (.bin (.go) (.bin (.go) (.bin (.go) (.bin (.go) (.bin (.go) (.bin (.go) (.cut (.go))))))))
theorem pok92t : plansOk prog pl92t (codeOf f92) = true := by kernel_rfl
theorem s92t_1 {f : RG} : W prog J 50 n0 92 (subC [1, 1, 1, 1, 1, 1, 1] (codeOf f92)) f h (contX pl92t prog J 50 n0 92 ct92t [1, 1, 1, 1, 1, 1, 1] (codeOf f92) [] (RetQ prog [.tmp 6] n0 K)) =
(retL n0 K f.ds [(f.r 12)] h) := sub_eq pok92t ct92t (by kernel_rfl)
end
end Go.Proofs.Ytdgpacdknpahnaa

namespace Go.Proofs.Ytdgpacdknpahnaa
open Go.Conc Go.Proofs.Try
set_option maxRecDepth 100000
set_option maxHeartbeats 4000000
set_option linter.unusedVariables false
section
variable {main : Bool} {J : JT} {n0 : Nat} {h : List AObj} {K : Value → List AObj → Prop}
theorem at110 : prog.funcs[110]? = some f110 := by kernel_rfl
theorem body110 : f110.body = some (codeOf f110) := by kernel_rfl
theorem q110_1 {f : RG} {fr : FuncId} {Q : QT} : W prog J 28 n0 fr (subC [0] (codeOf f110)) f h Q =
(Q .normal (RG.put f 5 (Value.int .u64 0)) h) := by kernel_rfl
theorem q110_2 {f : RG} {fr : FuncId} {Q : QT} : W prog J 28 n0 fr (subC [1, 0, 0] (codeOf f110)) f h Q =
(aLoad false 1 (f.r 0) h fun v1 =>
aLenS v1 fun v2 =>
Q .normal (RG.put (RG.put (RG.put f 8 v1) 9 v2) 10 (vint 0)) h) := by kernel_rfl
theorem q110_3 {f : RG} {fr : FuncId} {Q : QT} : W prog J 28 n0 fr (subC [1, 0, 1, 0, 0, 0] (codeOf f110)) f h Q =
(aBin prog .lss 3 (f.r 10) (f.r 9) fun v1 =>
Q .normal (RG.put f 11 v1) h) := by kernel_rfl
theorem q110_4 {f : RG} {fr : FuncId} {Q : QT} : W prog J 28 n0 fr (subC [1, 0, 1, 0, 0, 1, 0] (codeOf f110)) f h Q =
(cnd (f.r 11)
(Q .normal f h)
(Q (.exit 0) f h)) := by kernel_rfl
theorem q110_5 {f : RG} {fr : FuncId} {Q : QT} : W prog J 28 n0 fr (subC [1, 0, 1, 0, 0, 1, 1, 0] (codeOf f110)) f h Q =
(aIdx 1 (f.r 8) (f.r 10) fun v1 =>
aLoad false 1 v1 h fun v2 =>
aLoad false 1 (f.r 1) h fun v3 =>
aIdx 1 v3 v2 fun v4 =>
aLoad false 1 v4 h fun v5 =>
aBin prog .or 101 (f.r 5) v5 fun v6 =>
Q .normal (RG.put (RG.put (RG.put (RG.put (RG.put (RG.put (RG.put (RG.put (RG.put (RG.put f 12 v1) 13 v2) 7 v2) 14 (f.r 5)) 15 v3) 16 v2) 17 v4) 18 v5) 19 v6) 5 v6) h) := by kernel_rfl
theorem q110_6 {f : RG} {fr : FuncId} {Q : QT} : W prog J 28 n0 fr (subC [1, 0, 1, 0, 0, 1, 1, 1] (codeOf f110)) f h Q =
(aBin prog .add 3 (f.r 10) (vint 1) fun v1 =>
Q .normal (RG.put (RG.put f 20 v1) 10 v1) h) := by kernel_rfl
theorem q110_7 {f : RG} {fr : FuncId} {Q : QT} : W prog J 28 n0 fr (subC [1, 1, 0] (codeOf f110)) f h Q =
(aLoad true 6 (f.r 2) h fun v1 =>
Good prog J 95 [v1] h fun v2 h3 =>
Good prog J 74 [v2, (f.r 5)] h3 fun v4 h5 =>
Q .normal (RG.put (RG.put (RG.put (RG.put f 21 v1) 22 v2) 23 (f.r 5)) 24 v4) h5) := by kernel_rfl
noncomputable def ops110_1 : Array Oper := opsAt [1, 1, 1, 0] (codeOf f110)
theorem r110_1 : subC [1, 1, 1, 0] (codeOf f110) = .region 7 ops110_1 false := by kernel_rfl
theorem z110_1 : ops110_1.size = 3 := by kernel_rfl
noncomputable def p110_1_0 : Oper := opGet ops110_1 0
theorem o110_1_0 {J : JT} : ops110_1[0]? = some p110_1_0 ∧ p110_1_0.dst = some 25 ∧ dstOk 28 p110_1_0 = true ∧ (∀ r, gd ops110_1 p110_1_0 r = some true) ∧ (∀ (f : RG) (h : List AObj) (H : Value → List AObj → Prop), opW prog (Good prog J) p110_1_0 f.r h H = (aLoad false 1 (f.r 3) h fun v1 =>
H v1 h)) := ⟨by kernel_rfl, by kernel_rfl, by kernel_rfl, fun _ => by kernel_rfl, fun _ _ _ => by kernel_rfl⟩
noncomputable def p110_1_1 : Oper := opGet ops110_1 1
theorem o110_1_1 {J : JT} : ops110_1[1]? = some p110_1_1 ∧ p110_1_1.dst = some 26 ∧ dstOk 28 p110_1_1 = true ∧ (∀ r, gd ops110_1 p110_1_1 r = some true) ∧ (∀ (f : RG) (h : List AObj) (H : Value → List AObj → Prop), opW prog (Good prog J) p110_1_1 f.r h H = (aLoad false 1 (f.r 4) h fun v1 =>
H v1 h)) := ⟨by kernel_rfl, by kernel_rfl, by kernel_rfl, fun _ => by kernel_rfl, fun _ _ _ => by kernel_rfl⟩
noncomputable def p110_1_2 : Oper := opGet ops110_1 2
theorem o110_1_2 {J : JT} : ops110_1[2]? = some p110_1_2 ∧ p110_1_2.dst = none ∧ dstOk 28 p110_1_2 = true ∧ (∀ r, gd ops110_1 p110_1_2 r = some true) ∧ (p110_1_2.op = (Go.Op.send (Go.Operand.tmp 25) (Go.Operand.tmp 26))) := ⟨by kernel_rfl, by kernel_rfl, by kernel_rfl, fun _ => by kernel_rfl, by kernel_rfl⟩
noncomputable def ops110_2 : Array Oper := opsAt [1, 1, 1, 1] (codeOf f110)
theorem r110_2 : subC [1, 1, 1, 1] (codeOf f110) = .region 8 ops110_2 false := by kernel_rfl
theorem z110_2 : ops110_2.size = 2 := by kernel_rfl
noncomputable def p110_2_0 : Oper := opGet ops110_2 0
theorem o110_2_0 {J : JT} : ops110_2[0]? = some p110_2_0 ∧ p110_2_0.dst = some 27 ∧ dstOk 28 p110_2_0 = true ∧ (∀ r, gd ops110_2 p110_2_0 r = some true) ∧ (∀ (f : RG) (h : List AObj) (H : Value → List AObj → Prop), opW prog (Good prog J) p110_2_0 f.r h H = (aLoad false 1 (f.r 3) h fun v1 =>
H v1 h)) := ⟨by kernel_rfl, by kernel_rfl, by kernel_rfl, fun _ => by kernel_rfl, fun _ _ _ => by kernel_rfl⟩
noncomputable def p110_2_1 : Oper := opGet ops110_2 1
theorem o110_2_1 {J : JT} : ops110_2[1]? = some p110_2_1 ∧ p110_2_1.dst = none ∧ dstOk 28 p110_2_1 = true ∧ (∀ r, gd ops110_2 p110_2_1 r = some true) ∧ (p110_2_1.op = (Go.Op.send (Go.Operand.tmp 27) (Go.Operand.const (Go.Value.int Go.IntKind.i64 (-1))))) := ⟨by kernel_rfl, by kernel_rfl, by kernel_rfl, fun _ => by kernel_rfl, by kernel_rfl⟩
end
end Go.Proofs.Ytdgpacdknpahnaa

namespace Go.Proofs.Ytdgpacdknpahnaa
open Go.Conc
open Go.ConcN (sumTo upd sumTo_upd upd_ne upd_same)
def Ends (P : Program) (Post : Value → World → Prop) (m : Machine) (t : Trace) : Prop :=
  ∃ N last o w' t', runNT P (N + 1) m t = (.ended o w', t') ∧ runN P N m = .next last ∧ step P last = .ended o w' ∧ Go.Conc.Good P Post last o w' t'

structure Base (W0 w : World) : Prop where
  tape : w.tape = W0.tape
  os : w.os = W0.os
  output : w.output = W0.output
  size : W0.heap.size ≤ w.heap.size

def J1 (P : Program) (W0 : World) (Post : Value → World → Prop) (g : Goroutine) (w : World) (ft : Foot) : Prop :=
  ∀ (gs : Array Goroutine) (w₁ : World) (sl : Option (Nat × Nat)) (t : Trace) (q : Nat → Nat), (∀ b, ft.rd b → b < w₁.heap.size) → (∀ b, ft.wr b → ft.rd b) → RelyW ft w w₁ → Base W0 w₁ → gs[0]? = some g → Leavers P t gs q → Past (fun _ => False) w₁.heap.size t →
    Ends P Post (crowd gs w₁ sl) t

section
variable {P : Program} {W0 : World} {Post : Value → World → Prop} {g : Goroutine} {w w₁ : World} {ft : Foot}
theorem Ends.next {m m' : Machine} {t : Trace} {ops : Array MemOp} (hs : stepT P m = (.next m', ops)) (h : Ends P Post m' (t ++ ops)) : Ends P Post m t := by
  obtain ⟨n, last, o, w, t', h1, h2, h3, h4⟩ := h
  exact ⟨n + 1, last, o, w, t', by rw [runNT_succ_next hs]; exact h1, by rw [runN_succ_next hs]; exact h2, h3, h4⟩

theorem evL_of {e : Event} {B : Nat} (he : EvOk ft e) (hb : ∀ b, ft.rd b → b < B) : EvL (fun _ => False) B e := by
  obtain ⟨loc, wr, sync⟩ := e
  unfold EvOk at he
  refine ⟨fun x _ hs => hs.elim, ?_, ?_, ?_⟩
  · intro hl
    simp only at hl
    subst hl
    exact he
  · intro hl
    simp only at hl
    subst hl
    exact he
  · cases loc with
    | cell a => exact hb _ he.2.1
    | obj r =>
      have hs : sync = false := he.1
      subst hs
      have := hb _ he.2.1
      cases wr <;> exact this
    | mark m =>
      cases m <;> first | exact he.elim | trivial
    | output => trivial
    | goroutines => trivial

theorem mem_g {i : Nat} {fn : FuncId} {pos : String} {es : Array Event} {op : MemOp} (h : op ∈ MemOp.ofEvents i fn pos es) : op.g = i := by
  rw [ofEvents_eq] at h
  obtain ⟨e, he, rfl⟩ := Array.mem_map.1 h
  rfl

theorem relyW_at (ft : Foot) (w : World) (d : Nat) : RelyW ft w (w.at d) := ⟨fun _ _ => rfl, Nat.le_refl _, rfl, rfl, rfl⟩

theorem J1.both (hrun : g.status = .running)
    (h : ∀ w₁, RelyW ft w w₁ → Base W0 w₁ → (∃ g' w' es, stepG P true g w₁ = .go g' w' es ∧ g'.status = .running ∧ GuarW ft w₁ w' es ∧ J1 P W0 Post g' w' (ft.ext w₁.heap.size w'.heap.size)) ∨
      ∃ v es, stepG P true g w₁ = .ended (.done v) w₁ es ∧ (∀ e ∈ es, EvOk ft e) ∧ Post v w₁) : J1 P W0 Post g w ft := by
  intro gs w₁ sl t q hbd hsub hrel hbase h0 hL hP
  generalize hM : sumTo gs.size q = M
  induction M using Nat.strongRecOn generalizing gs w₁ sl t q with
  | ind M ih =>
    have haw : ∀ g ∈ gs, awake g := by
      intro x hx
      obtain ⟨i, hi, rfl⟩ := Array.mem_iff_getElem.1 hx
      rcases Nat.eq_zero_or_pos i with rfl | hpos
      · have : gs[0] = g := by simpa [Array.getElem?_eq_getElem hi] using h0
        rw [this]; exact awake_of (.inl hrun)
      · exact awake_of ((hL.old i _ hpos (Array.getElem?_eq_getElem hi)).status.elim .inl fun x => .inr (.inr x))
    obtain ⟨i, x, d, sl', hi, hg, hst⟩ := crowd_pick (P := P) (w := w₁) (sl := sl) haw ⟨0, g, h0, hrun⟩
    rcases Nat.eq_zero_or_pos i with rfl | hpos
    · obtain rfl : x = g := by rw [h0] at hi; exact (Option.some.inj hi).symm
      rcases h (w₁.at d) (hrel.trans (relyW_at ft w₁ d)) ⟨hbase.tape, hbase.os, hbase.output, hbase.size⟩ with ⟨g', w', es, hgo, hrun', hgu, hJ⟩ | ⟨v, es, hend, hes, hpost⟩
      · have hrunT := runT_crowd_go (P := P) (sl := sl') (i := 0) hi (show stepG P (0 == 0) x (w₁.at d) = _ from hgo)
        have hsz : ((gs.map (woken P x g' w')).setIfInBounds 0 g').size = gs.size := by simp
        have hlt : 0 < gs.size := (Array.getElem?_eq_some_iff.1 h0).1
        have hw' : w₁.heap.size ≤ w'.heap.size := hgu.size
        refine Ends.next (hst.trans hrunT) ?_
        refine hJ _ w' sl' _ q (fun b hb => ?_) (fun b hb => ?_) (RelyW.refl _ _) ⟨hgu.tape.trans hbase.tape, hgu.os.trans hbase.os, hgu.output.trans hbase.output, Nat.le_trans hbase.size hgu.size⟩ (by simp [hlt]) ⟨fun j y hj hy => ?_, fun j hj => ?_⟩ ?_
        · rcases hb with hb | hb
          · exact Nat.lt_of_lt_of_le (hbd b hb) hw'
          · exact hb.2
        · rcases hb with hb | hb
          · exact .inl (hsub b hb)
          · exact .inr hb
        · have hne : 0 ≠ j := by omega
          rw [Array.getElem?_setIfInBounds_ne hne, Array.getElem?_map] at hy
          obtain ⟨z, hz, rfl⟩ := Option.map_eq_some_iff.1 hy
          have hq := hL.old j z hj hz
          rw [woken_quitsD hq, Deaf_other t (by omega) _ (fun op hop => mem_g hop)]
          exact hq
        · rw [Deaf_other t (g' := 0) (by simp at hj; omega) _ (fun op hop => mem_g hop)]
          exact hL.above j (by simpa using hj)
        · exact (hP.mono hw').own fun e he => evL_of (hgu.evs e he) fun b hb => Nat.lt_of_lt_of_le (hbd b hb) hw'
      · have hrunT := runT_many_ended (P := P) (sl := sl') (i := 0) hi (show stepG P (0 == 0) x (w₁.at d) = _ from hend)
        have hP' := hP.own (fn := x.frame.fn) (pos := x.frame.place) fun e he => evL_of (hes e he) hbd
        refine ⟨0, crowd gs w₁ sl, .done v, w₁.at d, _, by simp only [runNT, hst.trans hrunT], rfl, by simp [step, hst.trans hrunT], v, rfl, hpost, hP'.clean, hP'.over, ⟨fun y hy => ?_, rfl⟩, fun j y hy hj => ?_⟩
        · obtain ⟨j, hj⟩ := List.mem_iff_getElem?.1 hy
          rw [List.getElem?_drop] at hj
          exact ⟨_, (hL.old (1 + j) y (by omega) (by simpa [crowd] using hj)).leaves⟩
        · have hq := hL.old j y (by omega) hy
          refine ⟨q j, ?_⟩
          have e : (t ++ MemOp.ofEvents 0 x.frame.fn x.frame.place es).deaf j (t ++ MemOp.ofEvents 0 x.frame.fn x.frame.place es).size = Deaf t j :=
            Deaf_other t (g := j) (g' := 0) (by omega) _ (fun op hop => mem_g hop)
          rw [e]
          exact hq.hears _
    · have hq := hL.old i x hpos hi
      have hi0 : (i == 0) = false := by simp; omega
      have hlt : i < gs.size := (Array.getElem?_eq_some_iff.1 hi).1
      cases hqi : q i with
      | zero => rw [hqi] at hq; rw [hq.1] at hg; cases hg
      | succ k =>
        rw [hqi] at hq
        rcases hq with ⟨hf, _⟩ | ⟨_, g', es, hm, hstp, hq'⟩
        · rw [hf] at hg; cases hg
        have hrunT := runT_crowd_go (P := P) (sl := sl') (i := i) hi (by rw [hi0]; exact hstp (w₁.at d))
        have hsz : ((gs.map (woken P x g' (w₁.at d))).setIfInBounds i g').size = gs.size := by simp
        have hsum : sumTo gs.size (upd q i k) + (k + 1) = sumTo gs.size q + k := by
          have := sumTo_upd q k id hlt
          simpa [hqi] using this
        refine Ends.next (hst.trans hrunT) (ih (sumTo gs.size (upd q i k)) (by omega) _ (w₁.at d) sl' _ (upd q i k) hbd (hrel.trans (relyW_at ft w₁ d)) ⟨hbase.tape, hbase.os, hbase.output, hbase.size⟩ ?_ ⟨fun j y hj hy => ?_, fun j hj => ?_⟩ (hP.mute (by omega) hm) (by rw [hsz]))
        · have hne : i ≠ 0 := by omega
          rw [Array.getElem?_setIfInBounds_ne hne, Array.getElem?_map, h0]
          simp [woken_run hrun]
        · by_cases hji : i = j
          · subst hji
            rw [Array.getElem?_setIfInBounds_self_of_lt (by simpa using hlt)] at hy
            obtain rfl := Option.some.inj hy
            rw [upd_same, Deaf_own]
            exact hq'
          · rw [Array.getElem?_setIfInBounds_ne hji, Array.getElem?_map] at hy
            obtain ⟨z, hz, rfl⟩ := Option.map_eq_some_iff.1 hy
            have hqj := hL.old j z hj hz
            rw [woken_quitsD hqj, upd_ne q k (Ne.symm hji), Deaf_other t hji _ (fun op hop => mem_g hop)]
            exact hqj
        · rw [Deaf_other t (g' := i) (by simp at hj; omega) _ (fun op hop => mem_g hop)]
          exact hL.above j (by simpa using hj)

theorem J1.closed (P : Program) (W0 : World) (Post : Value → World → Prop) : Closed P true (J1 P W0 Post) where
  rely := fun h hr gs w₂ sl t q hbd hsub hrel hbase h0 hL hP => h gs w₂ sl t q hbd hsub (hr.trans hrel) hbase h0 hL hP
  step := fun hrun h => J1.both hrun fun w₁ h₁ _ => by
    obtain ⟨g', w', es, a, b, c, d⟩ := h w₁ h₁
    exact .inl ⟨g', w', es, a, b, c, d⟩
end
end Go.Proofs.Ytdgpacdknpahnaa

namespace Go.Proofs.Ytdgpacdknpahnaa
open Go.Conc
def putAt {X : Type} (f : Nat → X) (i : Nat) (x : X) : Nat → X := fun j => if j = i then x else f j

theorem putAt_self {X : Type} (f : Nat → X) (i : Nat) (x : X) : putAt f i x i = x := by simp [putAt]
theorem putAt_ne {X : Type} (f : Nat → X) {i j : Nat} (x : X) (h : j ≠ i) : putAt f i x j = f j := by simp [putAt, h]

def Less {X : Type} (r : X → X → Prop) (n : Nat) (f' f : Nat → X) : Prop := ∃ i, i < n ∧ r (f' i) (f i) ∧ ∀ j, j ≠ i → f' j = f j

theorem less_acc {X : Type} (r : X → X → Prop) : ∀ (n : Nat) (f : Nat → X), (∀ i, i < n → Acc r (f i)) → Acc (Less r n) f
  | 0, f, _ => ⟨f, fun _ h => by obtain ⟨i, hi, _⟩ := h; omega⟩
  | n + 1, f, h => by
    have key : ∀ a, Acc r a → ∀ g : Nat → X, Acc (Less r n) g → Acc (Less r (n + 1)) (putAt g n a) := by
      intro a ha
      induction ha with
      | intro a _ iha =>
        intro g hg
        induction hg with
        | intro g hgs ihg =>
          refine ⟨_, fun y hy => ?_⟩
          obtain ⟨i, hi, hr, ho⟩ := hy
          by_cases hin : i = n
          · subst hin
            rw [putAt_self] at hr
            have : y = putAt g i (y i) := by
              funext j
              by_cases hj : j = i
              · subst hj; rw [putAt_self]
              · rw [putAt_ne _ _ hj, ho j hj, putAt_ne _ _ hj]
            rw [this]
            exact iha (y i) hr g ⟨g, hgs⟩
          · rw [putAt_ne _ _ hin] at hr
            have : y = putAt (putAt g i (y i)) n a := by
              funext j
              by_cases hj : j = n
              · subst hj
                rw [putAt_self, ho j (fun e => hin e.symm), putAt_self]
              · rw [putAt_ne _ _ hj]
                by_cases hji : j = i
                · subst hji; rw [putAt_self]
                · rw [putAt_ne _ _ hji, ho j hji, putAt_ne _ _ hj]
            rw [this]
            refine ihg _ ⟨i, by omega, by rw [putAt_self]; exact hr, fun j hj => putAt_ne _ _ hj⟩
    have e : f = putAt f n (f n) := by
      funext j
      by_cases hj : j = n
      · subst hj; rw [putAt_self]
      · rw [putAt_ne _ _ hj]
    rw [e]
    exact key (f n) (h n (by omega)) f (less_acc r n f fun i hi => h i (by omega))

inductive Toward (P : Program) (Stop : JT) : Goroutine → World → Foot → Prop where
  | stop {g : Goroutine} {w : World} {ft : Foot} : g.status = .running → (∀ w₁, RelyW ft w w₁ → Stop g w₁ ft) → Toward P Stop g w ft
  | step {g : Goroutine} {w : World} {ft : Foot} : g.status = .running → (∀ w₁, RelyW ft w w₁ → ∃ g' w' es, stepG P false g w₁ = .go g' w' es ∧ g'.status = .running ∧ GuarW ft w₁ w' es) →
      (∀ w₁ g' w' es, RelyW ft w w₁ → stepG P false g w₁ = .go g' w' es → Toward P Stop g' w' (ft.ext w₁.heap.size w'.heap.size)) → Toward P Stop g w ft

theorem Toward.running {P : Program} {Stop : JT} {g : Goroutine} {w : World} {ft : Foot} (h : Toward P Stop g w ft) : g.status = .running := by
  cases h with
  | stop h _ => exact h
  | step h _ _ => exact h

theorem Toward.rely {P : Program} {Stop : JT} {g : Goroutine} {w w₁ : World} {ft : Foot} (h : Toward P Stop g w ft) (hr : RelyW ft w w₁) : Toward P Stop g w₁ ft := by
  cases h with
  | stop h1 h2 => exact .stop h1 fun w₂ h₂ => h2 w₂ (hr.trans h₂)
  | step h1 h2 h3 => exact .step h1 (fun w₂ h₂ => h2 w₂ (hr.trans h₂)) fun w₂ g' w' es h₂ hs => h3 w₂ g' w' es (hr.trans h₂) hs

theorem Toward.closed (P : Program) (Stop : JT) : Closed P false (Toward P Stop) where
  rely := fun h hr => h.rely hr
  step := fun hrun h => .step hrun (fun w₁ h₁ => by
    obtain ⟨g', w', es, a, b, c, _⟩ := h w₁ h₁
    exact ⟨g', w', es, a, b, c⟩) fun w₁ g' w' es h₁ hs => by
    obtain ⟨g2, w2, es2, a, b, c, d⟩ := h w₁ h₁
    rw [hs] at a
    cases a
    exact d

inductive WS where
  | quit (n : Nat)
  | way (w : World) (ft : Foot)
  | park

inductive WLt (P : Program) : Goroutine × WS → Goroutine × WS → Prop where
  | step {g g' : Goroutine} {w w₁ w' : World} {ft : Foot} {es : Array Event} : RelyW ft w w₁ → stepG P false g w₁ = .go g' w' es → WLt P (g', .way w' (ft.ext w₁.heap.size w'.heap.size)) (g, .way w ft)
  | quit {g g' : Goroutine} {w : World} {ft : Foot} {n : Nat} : WLt P (g', .quit n) (g, .way w ft)
  | park {g g' : Goroutine} {w : World} {ft : Foot} : WLt P (g', .park) (g, .way w ft)
  | out {g g' : Goroutine} {n : Nat} : WLt P (g', .quit n) (g, .park)
  | less {g g' : Goroutine} {n m : Nat} : n < m → WLt P (g', .quit n) (g, .quit m)

theorem acc_quit (P : Program) : ∀ (n : Nat) (g : Goroutine), Acc (WLt P) (g, .quit n) := by
  intro n
  induction n using Nat.strongRecOn with
  | ind n ih =>
    intro g
    refine ⟨_, fun y hy => ?_⟩
    cases hy with
    | less h => exact ih _ h _
theorem acc_park (P : Program) (g : Goroutine) : Acc (WLt P) (g, .park) :=
  ⟨_, fun y hy => by cases hy with | out => exact acc_quit P _ _⟩

def Halts (P : Program) (Stop : JT) : Prop := ∀ g w ft g' w' es, Stop g w ft → stepG P false g w ≠ .go g' w' es

theorem acc_way {P : Program} {Stop : JT} (hS : Halts P Stop) {g : Goroutine} {w : World} {ft : Foot} (h : Toward P Stop g w ft) : Acc (WLt P) (g, .way w ft) := by
  induction h with
  | stop h1 h2 =>
    refine ⟨_, fun y hy => ?_⟩
    cases hy with
    | step hr hs => exact absurd hs (hS _ _ _ _ _ _ (h2 _ hr))
    | quit => exact acc_quit P _ _
    | park => exact acc_park P _
  | step h1 h2 _ ih =>
    refine ⟨_, fun y hy => ?_⟩
    cases hy with
    | step hr hs => exact ih _ _ _ _ hr hs
    | quit => exact acc_quit P _ _
    | park => exact acc_park P _

def locBlk : Loc → Option Nat
  | .cell a => some a.block
  | .obj r => some r
  | _ => none

def KnowsOk (t : Trace) (x : Nat) (ft : Foot) : Prop :=
  ∀ i a, touchAt t i = some a → a.loc.isMemory = true → Knows t x i ∨ ∀ b, locBlk a.loc = some b → ¬ ft.wr b ∧ (a.write = true → ¬ ft.rd b)

theorem evOk_touch {ft : Foot} {e : Event} {a : Touch} (he : EvOk ft e) (ha : (MemAct.ofEvent e).touch? = some a) : ∃ b, locBlk a.loc = some b ∧ ft.rd b ∧ (a.write = true → ft.wr b) := by
  obtain ⟨loc, wr, sync⟩ := e
  unfold EvOk at he
  cases loc with
  | cell x =>
    simp only at he
    simp only [MemAct.ofEvent, MemAct.touch?, Option.some.injEq] at ha
    subst ha
    exact ⟨_, rfl, he.2.1, he.2.2⟩
  | obj r =>
    obtain ⟨rfl, h1, h2⟩ := he
    cases wr <;> (simp only [MemAct.ofEvent, MemAct.touch?, Option.some.injEq] at ha; subst ha; exact ⟨_, rfl, h1, h2⟩)
  | mark m => cases m <;> first | exact he.elim | (simp [MemAct.ofEvent, MemAct.touch?] at ha)
  | output => exact he.elim
  | goroutines => exact he.elim

theorem touch_low {x : MemAct} {a : Touch} {n b : Nat} (hl : x.low n) (ha : x.touch? = some a) (hb : locBlk a.loc = some b) : b < n := by
  cases x with
  | access e =>
    obtain ⟨loc, wr, sy⟩ := e
    simp only [MemAct.touch?, Option.some.injEq] at ha
    subst ha
    cases loc with
    | cell x => injection hb with hb; subst hb; exact hl
    | obj x => injection hb with hb; subst hb; exact hl
    | _ => cases hb
  | mark mk =>
    cases mk with
    | read x => injection ha with ha; subst ha; injection hb with hb; subst hb; exact hl
    | write x => injection ha with ha; subst ha; injection hb with hb; subst hb; exact hl
    | _ => cases ha
  | _ => cases ha

theorem touch_app {t u : Trace} {i : Nat} {a : Touch} (h : touchAt (t ++ u) i = some a) : (i < t.size ∧ touchAt t i = some a) ∨ ∃ op ∈ u, (t ++ u)[i]? = some op ∧ op.act.touch? = some a := by
  obtain ⟨x, hx, hxa⟩ := touch_of h
  rcases getElem?_append_cases hx with ⟨hi, hx'⟩ | ⟨_, hxu⟩
  · exact .inl ⟨hi, by rw [touchAt_of hx']; exact hxa⟩
  · exact .inr ⟨x, hxu, hx, hxa⟩

theorem conf_blk {said : Bool} {a b : Touch} (h : a.conflicts said b) : locBlk a.loc = locBlk b.loc ∧ a.loc.isMemory = true ∧ (a.write = true ∨ b.write = true) := ⟨by rw [h.1], h.2.1, h.2.2.1⟩

section
variable {t u : Trace} {x y : Nat} {ft fy : Foot} {fn : FuncId} {pos : String} {es : Array Event}
theorem KnowsOk.noRace {said : Bool} (hc : ¬ Race said t) (hk : KnowsOk t x ft) (he : ∀ e ∈ es, EvOk ft e) : ¬ Race said (t ++ MemOp.ofEvents x fn pos es) := by
  refine noRace_append hc (fun op hop => mem_g hop) fun i a ha op hop b hb hcf => ?_
  obtain ⟨e, hee, rfl⟩ := Go.Conc.mem_ofEvents hop
  obtain ⟨bl, h1, h2, h3⟩ := evOk_touch (he e hee) hb
  obtain ⟨c1, c2, c3⟩ := conf_blk hcf
  rcases hk i a ha c2 with h | h
  · exact h
  · obtain ⟨n1, n2⟩ := h bl (by rw [c1]; exact h1)
    rcases c3 with c | c
    · exact absurd h2 (n2 c)
    · exact absurd (h3 c) n1

theorem KnowsOk.mute (hk : KnowsOk t y fy) (hu : ∀ op ∈ u, op.act.touch? = none) : KnowsOk (t ++ u) y fy := by
  intro i a ha hm
  rcases touch_app ha with ⟨hi, h⟩ | ⟨op, hop, _, h⟩
  · exact (hk i a h hm).imp (·.app u) id
  · rw [hu op hop] at h; cases h

theorem KnowsOk.other (hk : KnowsOk t y fy) (he : ∀ e ∈ es, EvOk ft e) (d1 : ∀ b, ft.wr b → ¬ fy.rd b) (d2 : ∀ b, fy.wr b → ¬ ft.rd b) : KnowsOk (t ++ MemOp.ofEvents x fn pos es) y fy := by
  intro i a ha hm
  rcases touch_app ha with ⟨hi, h⟩ | ⟨op, hop, _, h⟩
  · exact (hk i a h hm).imp (·.app _) id
  · obtain ⟨e, hee, rfl⟩ := Go.Conc.mem_ofEvents hop
    obtain ⟨bl, h1, h2, h3⟩ := evOk_touch (he e hee) h
    refine .inr fun b hb => ?_
    rw [h1] at hb
    cases hb
    exact ⟨fun hw => d2 _ hw h2, fun hw => d1 _ (h3 hw)⟩

theorem KnowsOk.own {n m : Nat} (hk : KnowsOk t x ft) (he : ∀ e ∈ es, EvOk ft e) (hs : ∀ op ∈ t, op.act.low n) : KnowsOk (t ++ MemOp.ofEvents x fn pos es) x (ft.ext n m) := by
  intro i a ha hm
  rcases touch_app ha with ⟨hi, h⟩ | ⟨op, hop, hg, h⟩
  · rcases hk i a h hm with hh | hh
    · exact .inl (hh.app _)
    · refine .inr fun b hb => ?_
      obtain ⟨n1, n2⟩ := hh b hb
      have hlow : b < n := by
        obtain ⟨z, hz, hza⟩ := touch_of h
        exact touch_low (hs z (Array.mem_of_getElem? hz)) hza hb
      exact ⟨fun hw => hw.elim n1 (fun e => by omega), fun hw hr => hr.elim (n2 hw) fun e => by omega⟩
  · have := knows_own hg
    rw [mem_g hop] at this
    exact .inl this

theorem KnowsOk.less {f' : Foot} (hk : KnowsOk t x ft) (h1 : ∀ b, f'.rd b → ft.rd b) (h2 : ∀ b, f'.wr b → ft.wr b) : KnowsOk t x f' := fun i a ha hm =>
  (hk i a ha hm).imp id fun hh b hb => ⟨fun hw => (hh b hb).1 (h2 b hw), fun hw hr => (hh b hb).2 hw (h1 b hr)⟩

theorem low_events {n : Nat} (he : ∀ e ∈ es, EvOk ft e) (hb : ∀ b, ft.rd b → b < n) : ∀ op ∈ MemOp.ofEvents x fn pos es, op.act.low n := fun op hop => by
  obtain ⟨e, hee, rfl⟩ := Go.Conc.mem_ofEvents hop
  exact (evL_of (he e hee) hb).2.2.2
end
end Go.Proofs.Ytdgpacdknpahnaa
