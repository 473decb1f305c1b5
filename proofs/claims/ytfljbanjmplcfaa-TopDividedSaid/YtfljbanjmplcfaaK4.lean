/- Parts of the proof, 4. No conditions. -/
import Derived.Test.YtfljbanjmplcfaaK3
import Derived.Test.YtfljbanjmplcfaaK2
import Derived.Conc.CrowdComm
import Derived.Conc.TokenTrace
import Derived.Conc.Own2
namespace Go.Proofs.Ytfljbanjmplcfaa
open Go.Conc Go.Proofs.Try
set_option maxRecDepth 100000
def limA (t : Tal) (u : Int) : Nat → Rng := limN u t.counts t.counts.length
def bkN (t : Tal) (L : Nat → Rng) : Nat → Rng
 | 0 => fwd t L (t.gates.toNat - 1)
 | n + 1 => (fwd t L (t.gates.toNat - 2 - n)).meet ((bkN t L n).plus (stretchR t (t.gates.toNat - 2 - n)).turn)
def bkR (t : Tal) (L : Nat → Rng) (g : Nat) : Rng := bkN t L (t.gates.toNat - 1 - g)
def trulyL (t : Tal) : List Rng := (List.range t.gates.toNat).map (bkR t (limA t 0))
theorem bkR_last {t : Tal} {L : Nat → Rng} {g : Nat} (hg : t.gates.toNat = g + 1) : bkR t L g = fwd t L g := by
 unfold bkR
 rw [hg,show g + 1 - 1 - g = 0 from by omega]
 show fwd t L _ = _
 rw [hg]
 rfl
theorem bkR_step {t : Tal} {L : Nat → Rng} {g : Nat} (hg : g + 1 < t.gates.toNat) : bkR t L g = (fwd t L g).meet ((bkR t L (g + 1)).plus (stretchR t g).turn) := by
 unfold bkR
 obtain ⟨n,hn⟩ : ∃ n,t.gates.toNat - 1 - g = n + 1 := ⟨t.gates.toNat - 2 - g,by omega⟩
 rw [hn,show t.gates.toNat - 1 - (g + 1) = n from by omega]
 show (fwd t L (t.gates.toNat - 2 - n)).meet ((bkN t L n).plus (stretchR t (t.gates.toNat - 2 - n)).turn) = _
 rw [show t.gates.toNat - 2 - n = g from by omega]
theorem bkR_sm {t : Tal} (h : TalFine t) {L : Nat → Rng} (hL : ∀ g,(L g).sm 1000) (g : Nat) : (bkR t L g).sm 100000 := by
 have hg := h.gates
 have key : ∀ n : Nat,n < 5 → (bkN t L n).sm (6000 + 1000 * n) := by
  intro n
  induction n with
  | zero =>
   intro _
   exact Rng.sm_le (fwd_sm h hL _) (by omega)
  | succ n ih =>
   intro hn
   refine Rng.sm_meet (Rng.sm_le (fwd_sm h hL _) (by omega)) ?_
   exact Rng.sm_le (Rng.sm_plus (ih (by omega)) (Rng.sm_turn (stretch_sm h _))) (by omega)
 exact Rng.sm_le (key (t.gates.toNat - 1 - g) (by omega)) (by omega)
theorem limA_sm {t : Tal} (h : TalFine t) (u : Int) : ∀ g,(limA t u g).sm 1000 := limN_sm (fun c hc => (h.cosm.2 c hc).2) _
section
variable {main : Bool} {J : JT} {h h0 : List AObj} {K : Value → List AObj → Prop} {KV : Value → Prop} {HL : List AObj → Prop} {n0 : Nat}
theorem good29 (hJ : Closed prog main J) {v cv nv : Value} {t : Tal} (ht : TalAt h v t cv nv) (hs : SliE h0 cv 2 Rng.cells t.changes) (hs2 : SliE h0 nv 4 Cnt.cells t.counts) (hp : ∃ g,h = h0 ++ g)
  (hK : ∀ H bw bm,SameX [] h H → h.length ≤ bw → h.length ≤ bm → bw ≠ bm → WorkIn h0 H bw t cv nv 0 (.map (some bm)) → H[bm]? = some (.map [] true) → K (ptr bw 0) H) : Good prog J 29 [v] h K := by
 refine g29 hJ fun ok => ?_
 rw [e29,ht.val]
 have k1 : kn1 cv = true ∧ kn1 nv = true := ⟨(sli_one ht.ch).2.2,(sli_one ht.co).2.2⟩
 refine qBox (tal_one ht) fun H1 p1 e1 S1 b1 l1 => load_part (c := talCells t cv nv) b1 (by rw [cs_val]; omega) rfl (tal_kn k1.1 k1.2) ?_
 refine qNewM fun H2 p2 e2 S2 b2 l2 => ?_
 refine fill_agg (l := talCells t cv nv) rfl (tal_one ht) (by simp) (fill1 rfl rfl (by simp [wrAt,talCells]) (fillI ?_))
 have hone : (talCells t cv nv ++ [Value.int .u64 0,.map (some p2)]).all one = true := by
  rw [List.all_append,tal_one ht]
  rfl
 refine qBox (l := talCells t cv nv ++ [Value.int .u64 0,.map (some p2)]) hone fun H3 p3 e3 S3 b3 l3 => ?_
 have S13 : SameX [] h H3 := (S1.trans S2).trans S3
 refine retL_same (by simp [ptr,unk]) (hK H3 p3 p2 S13 (by omega) (by omega) (by omega) ⟨b3,?_,hs,hs2⟩ (S3.get b2 (by simp)))
 obtain ⟨g,rfl⟩ := hp
 obtain ⟨g',e⟩ := S13.app0 (by simp)
 exact ⟨g ++ g',by rw [e,List.append_assoc]⟩
theorem good22 (hJ : Closed prog main J) {v cv nv : Value} {t : Tal} (ht : TalAt h v t cv nv)
  (hK : ∀ H bw bm,SameX [] h H → h.length ≤ bw → h.length ≤ bm → bw ≠ bm → WorkIn h H bw t cv nv 0 (.map (some bm)) → H[bm]? = some (.map [] true) → K (.tuple ⟨[ptr bw 0,vint (talErr t)]⟩) H) : Good prog J 22 [v] h K := by
 refine g22 hJ fun ok => ?_
 rw [e22,ht.val]
 have k1 : kn1 cv = true ∧ kn1 nv = true := ⟨(sli_one ht.ch).2.2,(sli_one ht.co).2.2⟩
 refine qBox (tal_one ht) fun H1 p1 e1 S1 b1 l1 => ⟨[p1],?_⟩
 refine load_part (c := talCells t cv nv) b1 (by rw [cs_val]; omega) rfl (tal_kn k1.1 k1.2) ⟨by simp [RdOk,ptrBlk,ptr],?_⟩
 refine load_part (c := talCells t cv nv) b1 (by rw [cs_val]; omega) rfl (tal_kn k1.1 k1.2) ⟨by simp [RdOk,ptrBlk,ptr],?_⟩
 have t1 : TalAt H1 (.agg ⟨talCells t cv nv⟩) t cv nv := ⟨rfl,S1.sli ht.ch (by simp),S1.sli ht.co (by simp)⟩
 obtain ⟨g,hg⟩ := S1.app0 (by simp)
 refine good29 hJ t1 ht.ch ht.co ⟨g,hg⟩ fun H2 bw bm S2 a1 a2 a3 w hm => ⟨fun b hb => ?_,?_⟩
 ·simp at hb
  subst hb
  exact S2.2 _ (lt_of_get b1) (by simp)
 have t2 : TalAt H2 (.agg ⟨talCells t cv nv⟩) t cv nv := ⟨rfl,S2.sli t1.ch (by simp),S2.sli t1.co (by simp)⟩
 refine good30 hJ t2 ⟨fun b hb => ?_,?_⟩
 ·simp at hb
  subst hb
  exact S2.2 _ (lt_of_get b1) (by simp)
 exact retL_same (by simp [ptr,unk]) (hK H2 bw bm (S1.trans S2) (by omega) (by omega) a3 w hm)
noncomputable abbrev lp23 (st : LoopState) (pend : Option Code) (r : Nat → Value) (d : Nat) : AObj := .loop st pend 23 r 60 #[23,24] (subC [1,1,1,0,1,0,0] (codeOf f23)) (subC [1,1,1,0,1,0,1] (codeOf f23)) d
def outF (t : Tal) (L : Nat → Rng) (g : Nat) : Nat → Rng := fun j => if j < g then fwd t L j else ⟨0,0⟩
def outB (t : Tal) (L : Nat → Rng) (g : Nat) : Nat → Rng := fun j => if j < g then fwd t L j else bkR t L j
theorem round72 (hJ : Closed prog main J) {H : List AObj} {l p4 po d g G : Nat} {r : Nat → Value} {s : Rng} {f : Nat → Rng} {Q : Value → List AObj → Prop} (hl : H[l]? = some (lp23 .ready none r d))
  (r4 : r 4 = ptr p4 0) (h4 : H[p4]? = some (.cells [.slice (some ⟨po,0,none⟩) G G] true 0)) (ho : H[po]? = some (.cells (rngsC f G) true 0)) (hg : g < G) (n1 : p4 ≠ l) (n2 : po ≠ l) (n3 : p4 ≠ po)
  (h1 : ∀ H',SameX [l,po] H H' → H'[l]? = some (lp23 .ready none r d) → H'[po]? = some (.cells (rngsC (fun j => if j = g then s else f j) G) true 0) → Q (.bool true) H') :
  callV prog (Good prog J) (.func (.yield l) ⟨[]⟩ ⟨[]⟩) [vint g,s.val] H Q := by
 show Good prog J (yid prog l) [vint g,s.val] H Q
 have hll := lt_of_get hl
 refine good_round hJ hl rfl (by decide) fun ok => W_sound hJ mixed _ ?_
 rw [a23_1]
 refine qAl fun H1 p e1 S1 b1 l1 => ?_
 refine qStA (c := s.cells) b1 rfl rfl rfl fun H2 S2 b2 l2 => ?_
 refine ⟨rfl,none,_,_,_,_,_,_,_,S2.get (S1.get hl (by simp)) (by simp; omega),W_sound hJ mixed _ ?_⟩
 rw [b23_1]
 have hpo := lt_of_get ho
 have hp4 := lt_of_get h4
 have S3 : SameX [l] H2 (H2.set l (lp23 .busy none r d)) := SameX.refl.set (.inl (by simp))
 have z4 := S3.get (S2.get (S1.get h4 (by simp)) (by simp; omega)) (by simp; omega)
 show aLoad false 1 (r 4) _ _
 rw [r4]
 refine ldI z4 rfl rfl ?_
 refine load_part (c := s.cells) (S3.get b2 (by simp; omega)) (by simp [Rng.cells]) rfl rfl ?_
 refine idxI ⟨by omega,by omega⟩ ?_
 rw [Int.toNat_natCast,Nat.zero_add]
 have zo := S3.get (S2.get (S1.get ho (by simp)) (by simp; omega)) (by simp; omega)
 refine qSt2 zo (by rw [rngsC_len]; omega) rfl rfl fun H4 S4 b4 l4 => ?_
 rw [rngsC_set f s hg] at b4
 have hl2 : l < H2.length := by omega
 refine ⟨.busy,none,_,_,_,_,_,_,_,S4.get (List.getElem?_set_self hl2) (by simp; omega),.inl (h1 _ ?_ (List.getElem?_set_self (by rw [l4]; simpa using hl2)) (get_set b4 n2))⟩
 have S12 : SameX [l,po] H H2 := (S1.weak0).thru S2 (by simp; omega)
 refine SameX.set ?_ (.inl (by simp))
 exact (S12.thru S3 (by simp)).thru S4 (by simp)
theorem back72 (hJ : Closed prog main J) {H : List AObj} {f : RG} {bw bm p4 po d : Nat} {t : Tal} {cv nv : Value} {u : Int} {L : Nat → Rng} {s : Nat} {nx0 : RG → List AObj → Prop} (w : WorkIn h0 H bw t cv nv u (.map (some bm))) (fine : TalFine t) (hL : ∀ g,(L g).sm 1000)
  (hs : s < t.gates.toNat) (z4 : H[p4]? = some (.cells [.slice (some ⟨po,0,none⟩) t.gates.toNat t.gates.toNat] true 0)) (zo : H[po]? = some (.cells (rngsC (outB t L s) t.gates.toNat) true 0)) (hn : p4 ≠ po) (hd : H[d]? = some .deferred) (hdp : d ≠ po)
  (ds : f.ds = [d]) (r0 : f.r 0 = ptr bw 0) (r4 : f.r 4 = ptr p4 0) (r7 : f.r 7 = .func (.func 34) ⟨[]⟩ ⟨[]⟩) (r8 : f.r 8 = .func (.func 35) ⟨[]⟩ ⟨[]⟩) (r9 : f.r 9 = vint ((s : Int) - 1))
  (hx : 0 < s → ∀ H' f',SameX [po] H H' → H'[po]? = some (.cells (rngsC (outB t L (s - 1)) t.gates.toNat) true 0) → f'.ds = [d] → f'.r 0 = ptr bw 0 → f'.r 4 = ptr p4 0 → f'.r 7 = .func (.func 34) ⟨[]⟩ ⟨[]⟩ → f'.r 8 = .func (.func 35) ⟨[]⟩ ⟨[]⟩ → f'.r 9 = vint ((s : Int) - 1 - 1) → nx0 f' H')
  (hK : s = 0 → K (.tuple ⟨[.slice (some ⟨po,0,none⟩) t.gates.toNat t.gates.toNat,.bool true]⟩) (H.set d .dead)) :
  W prog J 60 n0 23 (subC [1,1,1,1,1,0,1,0,0] (codeOf f23)) f H (thenK nx0 (contQ prog J 60 n0 23 [1,1,1,1,1,0,1,0] (codeOf f23) [] (RetQ prog [.tmp 2,.tmp 3] n0 K))) := by
 have hg := fine.gates
 have hch := fine.chl
 rw [s23_2]
 simp only [r0,r4,r7,r8,r9,ds]
 refine geqI (cndI (fun hge => ?_) fun hlt => ?_)
 ·refine ⟨[p4,po],ldI z4 rfl rfl ⟨by simp [RdOk,ptrBlk,ptr],ldI z4 rfl rfl ⟨by simp [RdOk,ptrBlk,ptr],?_⟩⟩⟩
  have e1 : (s : Int) - 1 = ((s - 1 : Nat) : Int) := by omega
  have e2 : ((s - 1 : Nat) : Int) + 1 = (s : Nat) := by omega
  rw [e1]
  refine idxI ⟨by omega,by omega⟩ ?_
  rw [Int.toNat_natCast,Nat.zero_add]
  refine load_part (c := (outB t L s (s - 1)).cells) zo (by rw [rngsC_len]; omega) (rngsC_get _ (by omega)) rfl ⟨by simp [RdOk,ptrBlk,ptr],ldI z4 rfl rfl ⟨by simp [RdOk,ptrBlk,ptr],addI (by omega) ?_⟩⟩
  rw [e2]
  refine idxI ⟨by omega,by omega⟩ ?_
  rw [Int.toNat_natCast,Nat.zero_add]
  refine load_part (c := (outB t L s s).cells) zo (by rw [rngsC_len]; omega) (rngsC_get _ (by omega)) rfl ⟨by simp [RdOk,ptrBlk,ptr],?_⟩
  have hj : s - 1 < t.changes.length := by omega
  refine good37 hJ w.work hj ?_ (by have := fine.most; omega) ⟨fun _ _ => rfl,?_⟩
  ·have := fine.ch _ (List.getElem_mem hj)
   unfold Rng.sm
   omega
  have b1 : outB t L s (s - 1) = fwd t L (s - 1) := by
   unfold outB
   rw [if_pos (by omega)]
  have b2 : outB t L s s = bkR t L s := by
   unfold outB
   rw [if_neg (by omega)]
  rw [b1,b2]
  show Good prog J 34 [(stretchR t (s - 1)).val] _ _
  refine good34 hJ (Rng.sm_le (stretch_sm fine _) (by omega)) ⟨fun _ _ => rfl,?_⟩
  refine good36 hJ (r := bkR t L s) (q := (stretchR t (s - 1)).turn) (Rng.sm_le (bkR_sm fine hL s) (by omega)) (Rng.sm_le (Rng.sm_turn (stretch_sm fine _)) (by omega)) ⟨fun _ _ => rfl,?_⟩
  show Good prog J 35 [(fwd t L (s - 1)).val,_] _ _
  refine good35 hJ (r := fwd t L (s - 1)) (q := (bkR t L s).plus (stretchR t (s - 1)).turn) ⟨fun _ _ => rfl,?_⟩
  have b3 : (fwd t L (s - 1)).meet ((bkR t L s).plus (stretchR t (s - 1)).turn) = bkR t L (s - 1) := by
   rw [bkR_step (t := t) (L := L) (g := s - 1) (by omega),show s - 1 + 1 = s from by omega]
  rw [b3]
  refine idxI ⟨by omega,by omega⟩ ?_
  rw [Int.toNat_natCast,Nat.zero_add]
  refine qSt2 zo (by rw [rngsC_len]; omega) rfl rfl fun H1 S1 c1 l1 => subI (by omega) ?_
  rw [rngsC_set _ _ (by omega)] at c1
  have b4 : rngsC (fun j => if j = s - 1 then bkR t L (s - 1) else outB t L s j) t.gates.toNat = rngsC (outB t L (s - 1)) t.gates.toNat := rngsC_congr fun j _ => by
   unfold outB
   by_cases h1 : j = s - 1
   ·subst h1
    rw [if_pos rfl,if_neg (by omega)]
   ·rw [if_neg h1]
    by_cases h2 : j < s - 1
    ·rw [if_pos (by omega),if_pos h2]
    ·rw [if_neg (by omega),if_neg h2]
  rw [b4] at c1
  refine hx (by omega) H1 _ S1 c1 ds r0 r4 r7 r8 ?_
  show vint _ = vint _
  congr 1
  omega
 ·refine ldI z4 rfl rfl (retL_def hd (by simp [unk]) (hK (by omega)))
theorem outF_all {t : Tal} {L : Nat → Rng} : rngsC (outF t L t.gates.toNat) t.gates.toNat = rngsC (outB t L (t.gates.toNat - 1)) t.gates.toNat := by
 refine rngsC_congr fun j hj => ?_
 unfold outF outB
 rw [if_pos hj]
 split
 ·rfl
 ·exact (bkR_last (by omega)).symm
theorem range72 (hJ : Closed prog main J) {n0 p4 po b1 b2 bw bm : Nat} {t : Tal} {L : Nat → Rng} {cv nv : Value} {u : Int} {f : RG} (w : WorkIn h0 h bw t cv nv u (.map (some bm))) (fine : TalFine t) (hL : ∀ g,(L g).sm 1000) (hT : TruthIs t L)
  (q1 : h[p4]? = some (.cells [.slice (some ⟨po,0,none⟩) t.gates.toNat t.gates.toNat] true 0)) (q2 : h[po]? = some (.cells (rngsC (outF t L 0) t.gates.toNat) true 0)) (q3 : h[b1]? = some (.cells [ptr bw 0] true 0)) (q4 : h[b2]? = some (.cells (limCells L) true 0))
  (d1 : p4 ≠ po) (d2 : po ≠ b1) (d3 : po ≠ b2) (d4 : po ≠ bw) (hpo : h0.length ≤ po)
  (ds : f.ds = []) (r0 : f.r 0 = ptr bw 0) (r4 : f.r 4 = ptr p4 0) (r22 : f.r 22 = .func (.func 49) ⟨[]⟩ ⟨[ptr b1 0,ptr b2 0]⟩)
  (hK : ∀ H,SameX [po] h H → H[po]? = some (.cells (rngsC (bkR t L) t.gates.toNat) true 0) → K (.tuple ⟨[.slice (some ⟨po,0,none⟩) t.gates.toNat t.gates.toNat,.bool true]⟩) H) :
  Sem J 60 n0 23 (subC [1,1,1,0,1,0] (codeOf f23)) f h (contQ prog J 60 n0 23 [1,1,1,0,1,0] (codeOf f23) [] (RetQ prog [.tmp 2,.tmp 3] n0 K)) := by
 have hg := fine.gates
 have l1 := lt_of_get q1
 have l2 := lt_of_get q2
 have l3 := lt_of_get q3
 have l4 := lt_of_get q4
 have lw := lt_of_get w.at_
 refine l23_1 hJ (first := []) (cap := [ptr b1 0,ptr b2 0]) r22 (by decide) ?_
 have hpre : h0.length ≤ h.length := by
  obtain ⟨g,rfl⟩ := w.pre
  simp
 have S0 : SameX [] h (h ++ [AObj.deferred] ++ [lp23 .ready none f.r h.length]) := SameX.refl.app.app
 have hIl : (h ++ [AObj.deferred] ++ [lp23 .ready none f.r h.length])[h.length + 1]? = some (lp23 .ready none f.r h.length) := by
  rw [List.append_assoc]
  exact app2_get1
 have hId : (h ++ [AObj.deferred] ++ [lp23 .ready none f.r h.length])[h.length]? = some .deferred := by simp
 have hsl : (h ++ [AObj.deferred] ++ [lp23 .ready none f.r h.length]).length = h.length + 2 := by simp
 generalize h ++ [AObj.deferred] ++ [lp23 .ready none f.r h.length] = h1 at *
 have hX : ∀ x ∈ [h.length + 1,po],h0.length ≤ x ∧ x < h1.length := by
  rw [hsl]
  simp
  omega
 refine good49 hJ (h0 := h0) (X := [h.length + 1,po]) (L := L) (t := t) (I := fun g H => H[h.length + 1]? = some (lp23 .ready none f.r h.length) ∧ H[po]? = some (.cells (rngsC (outF t L g) t.gates.toNat) true 0)) (Stop := fun _ _ => False)
  (w.same S0 (by simp) (by simp)) fine hL hX (S0.get q3 (by simp)) (S0.get q4 (by simp)) (by simp; omega) (by simp; omega) (by simp; omega) (fun g H H' hx hI => ?_) ⟨hIl,S0.get q2 (by simp)⟩ (fun g H Q hg' S hI k1 k2 => ?_) (fun H S hI => ?_) (fun g H hg' S hI => hI.elim)
 ·rw [hx _ (by simp),hx _ (by simp)]
  exact hI
 ·refine round72 hJ hI.1 r4 (S.get (S0.get q1 (by simp)) (by simp; omega)) hI.2 (by omega) (by omega) (by omega) d1 fun H' S' a b => k1 H' S' ⟨a,?_⟩
  rw [b]
  congr 2
  refine rngsC_congr fun j _ => ?_
  unfold outF
  by_cases e1 : j = g
  ·subst e1
   rw [if_pos rfl,if_pos (by omega)]
  ·rw [if_neg e1]
   by_cases e2 : j < g
   ·rw [if_pos e2,if_pos (by omega)]
   ·rw [if_neg e2,if_neg (by omega)]
 ·refine endQ_normal hI.1 (by simp) ?_
  rw [c23_1]
  have hlen := S.1
  have S2 : SameX [po] h (H.set (h.length + 1) .dead) := by
   have := (S0.weak0 (Y := [h.length + 1,po])).trans S
   refine SameX.thru (Y := [h.length + 1,po]) SameX.refl (this.set (.inl (by simp))) (by simp)
  have w2 := w.same S2 (by simp; omega) (by simp; omega)
  show aNil (f.r 0) _
  rw [r0]
  refine nilI (offI (offI (ldI (v := vint t.gates) w2.at_ rfl rfl (subI (by omega) ?_))))
  have z4 := S2.get q1 (by simp; omega)
  have zo : (H.set (h.length + 1) AObj.dead)[po]? = some (.cells (rngsC (outB t L (t.gates.toNat - 1)) t.gates.toNat) true 0) := by
   rw [← outF_all]
   exact get_set hI.2 (by omega)
  have zd : (H.set (h.length + 1) AObj.dead)[h.length]? = some .deferred := get_set (S.get hId (by simp; omega)) (by omega)
  generalize H.set (h.length + 1) AObj.dead = H1 at *
  refine l23_2 hJ (fun s : Nat => s) (fun s f' H' => SameX [po] h H' ∧ s < t.gates.toNat ∧ H'[po]? = some (.cells (rngsC (outB t L s) t.gates.toNat) true 0) ∧ H'[h.length]? = some .deferred ∧ f'.ds = [h.length] ∧ f'.r 0 = ptr bw 0 ∧ f'.r 4 = ptr p4 0 ∧ f'.r 7 = .func (.func 34) ⟨[]⟩ ⟨[]⟩ ∧ f'.r 8 = .func (.func 35) ⟨[]⟩ ⟨[]⟩ ∧ f'.r 9 = vint ((s : Int) - 1)) ?_ (s := t.gates.toNat - 1)
   (.inl ⟨S2,by omega,zo,zd,by show h.length :: f.ds = _; rw [ds],r0,r4,rfl,rfl,by show vint _ = vint _; congr 1; omega⟩)
  rintro s f' H' ⟨S3,hs,zo',zd',ds',r0',r4',r7',r8',r9'⟩ ok' hn'
  refine back72 hJ (w.same S3 (by simp; omega) (by simp; omega)) fine hL hs (S3.get q1 (by simp; omega)) zo' d1 zd' (by omega) ds' r0' r4' r7' r8' r9' (fun hpos H2 f2 S4 zo2 a1 a2 a3 a4 a5 a6 => ⟨s - 1,by dsimp only; omega,.inl ⟨S3.trans S4,by omega,zo2,S4.get zd' (by simp; omega),a1,a2,a3,a4,a5,by rw [a6]; congr 1; omega⟩⟩) fun hs0 => ?_
  subst hs0
  refine hK _ (S3.set (.inr (Nat.le_refl _))) ?_
  have : rngsC (outB t L 0) t.gates.toNat = rngsC (bkR t L) t.gates.toNat := rngsC_congr fun j _ => by
   unfold outB
   rw [if_neg (by omega)]
  rw [← this]
  exact get_set zo' (by omega)
theorem good23 (hJ : Closed prog main J) {bw bm : Nat} {t : Tal} {cv nv : Value} {u : Int} (w : WorkIn h0 h bw t cv nv u (.map (some bm))) (hbw : h0.length ≤ bw) (hbm : h0.length ≤ bm) (hne : bw ≠ bm) (fine : TalFine t) {es : List (Value × Value)} (hm : h[bm]? = some (.map es true)) (met : MetOk t es)
  (k1 : ¬ TruthIs t (limA t 0) → ∀ H,SameX [bw,bm] h H → K (.tuple ⟨[.slice none 0 0,.bool false]⟩) H)
  (k2 : TruthIs t (limA t 0) → ∀ H po es',SameX [bw,bm] h H → h.length ≤ po → WorkIn h0 H bw t cv nv 0 (.map (some bm)) → H[bm]? = some (.map es' true) → MetOk t es' → H[po]? = some (.cells (rngsC (bkR t (limA t 0)) t.gates.toNat) true 0) → K (.tuple ⟨[.slice (some ⟨po,0,none⟩) t.gates.toNat t.gates.toNat,.bool true]⟩) H) :
  Good prog J 23 [ptr bw 0] h K := by
 refine g23 hJ fun ok => ?_
 rw [e23]
 have hg := fine.gates
 have lw := lt_of_get w.at_
 have lm := lt_of_get hm
 have hpre : h0.length ≤ h.length := by
  obtain ⟨g,rfl⟩ := w.pre
  simp
 refine good31 hJ (u' := 0) w hbw hbm hne fine hm met fun H1 es1 S1 w1 hm1 met1 => ?_
 refine notI (cndN (fun hf => retL_same (by simp [unk]) (k1 hf H1 S1)) fun hT => ?_)
 refine nilI (offI (offI (ldI (v := vint t.gates) w1.at_ rfl rfl ⟨by decide,?_⟩)))
 have eg : t.gates = (t.gates.toNat : Int) := by omega
 rw [eg]
 refine qMk (by omega) fun H2 po e2 S2 c2 l2 => qAl fun H3 p4 e3 S3 c3 l3 => qSt (c := [.slice none 0 0]) c3 (by simp) rfl rfl fun H4 S4 c4 l4 => ?_
 have w4 : WorkIn h0 H4 bw t cv nv 0 (.map (some bm)) := ((w1.same S2 (by simp) (by simp)).same S3 (by simp) (by simp)).same S4 (by have := S1.1; simp; omega) (by have := S1.1; simp; omega)
 refine good33 hJ w4.work fine.cosm ?_
 show Good prog J 32 [ptr bw 0,.agg ⟨limCells (limA t 0)⟩] H4 _
 refine good32 hJ ?_
 have S5 : SameX [] H4 (H4 ++ [.cells [ptr bw 0] true 0,.cells (limCells (limA t 0)) true 0]) := SameX.refl.app
 have g1 : (H4 ++ [AObj.cells [ptr bw 0] true 0,.cells (limCells (limA t 0)) true 0])[H4.length]? = some (.cells [ptr bw 0] true 0) := by simp
 have g2 : (H4 ++ [AObj.cells [ptr bw 0] true 0,.cells (limCells (limA t 0)) true 0])[H4.length + 1]? = some (.cells (limCells (limA t 0)) true 0) := by simp
 generalize H4 ++ [AObj.cells [ptr bw 0] true 0,.cells (limCells (limA t 0)) true 0] = H5 at *
 have h1l := S1.1
 have SA : SameX [bw,bm] h H4 := ((S1.thru S2 (by simp)).thru S3 (by simp)).thru S4 (by simp; omega)
 have zpo : H5[po]? = some (.cells (rngsC (outF t (limA t 0) 0) t.gates.toNat) true 0) := by
  have := S5.get (S4.get (S3.get c2 (by simp)) (by simp; omega)) (by simp)
  rw [rngsC_zero] at this
  rw [this]
  congr 2
 refine range72 hJ (p4 := p4) (po := po) (b1 := H4.length) (b2 := H4.length + 1) (w4.same S5 (by simp) (by simp)) fine (limA_sm fine 0) hT (S5.get c4 (by simp)) zpo g1 g2 (by omega) (by omega) (by omega) (by omega) (by omega) rfl rfl rfl rfl fun H6 S6 c6 => ?_
 have S46 : SameX [po] H4 H6 := S5.weak0.trans S6
 refine k2 hT H6 po es1 (SA.thru S46 (by simp; omega)) (by omega) (w4.same S46 (by simp; omega) (by simp; omega)) ?_ met1 c6
 exact S46.get (S4.get (S3.get (S2.get hm1 (by simp)) (by simp)) (by simp; omega)) (by simp; omega)
theorem trulyL_len (t : Tal) : (trulyL t).length = t.gates.toNat := by simp [trulyL]
theorem trulyL_get (t : Tal) (i : Nat) (hi : i < (trulyL t).length) : (trulyL t)[i] = bkR t (limA t 0) i := by simp [trulyL]
theorem trulyL_take (t : Tal) {i : Nat} (hi : i < t.gates.toNat) : (trulyL t).take (i + 1) = (trulyL t).take i ++ [bkR t (limA t 0) i] := by
 have hl := trulyL_len t
 rw [List.take_add_one,List.getElem?_eq_getElem (by omega),trulyL_get]
 rfl
theorem good10 (hJ : Closed prog main J) {v cv nv : Value} {t : Tal} (ht : TalAt h v t cv nv)
  (k1 : talErr t ≠ 0 → K (.tuple ⟨[.slice none 0 0,vint (talErr t)]⟩) h) (k2 : talErr t = 0 → ¬ TruthIs t (limA t 0) → K (.tuple ⟨[.slice none 0 0,vint 11]⟩) h)
  (k3 : talErr t = 0 → TruthIs t (limA t 0) → ∀ c sz,K (.tuple ⟨[.slice (some ⟨h.length,0,none⟩) t.gates.toNat c,vint 0]⟩) (h ++ [.cells ((trulyL t).flatMap Rng.cells) true sz])) : Good prog J 10 [v] h K := by
 refine g10 hJ fun ok => ?_
 rw [e10,ht.val]
 have kc : kn1 cv = true ∧ kn1 nv = true := ⟨(sli_one ht.ch).2.2,(sli_one ht.co).2.2⟩
 refine qBox (tal_one ht) fun H1 p1 e1 S1 b1 l1 => ?_
 refine load_part (c := talCells t cv nv) b1 (by rw [cs_val]; omega) rfl (tal_kn kc.1 kc.2) ?_
 have t1 : TalAt H1 (.agg ⟨talCells t cv nv⟩) t cv nv := ⟨rfl,S1.sli ht.ch (by simp),S1.sli ht.co (by simp)⟩
 refine good22 hJ t1 fun H2 bw bm S2 a1 a2 a3 w hm => ext0 (ext1 (neqI (cndI (fun hne => ?_) fun heq => ?_)))
 ·exact retX ok (Nat.le_refl _) (S1.trans S2) (by simp) (by simp [unk]) (by simp [pack,VOk,AOk,LOk]) (k1 hne)
 have h0 : talErr t = 0 := by omega
 have fine := talErr_fine h0
 have hg := fine.gates
 have S2' : SameX [] h H2 := S1.trans S2
 refine good23 hJ w a1 a2 a3 fine hm metOk_nil (fun hf H3 S3 => ext0 (ext1 (notI (cnd_true.2 ?_)))) (fun hT H3 po es' S3 h1 w3 hm3 met3 c3 => ext0 (ext1 (notI (cnd_false.2 ?_))))
 ·exact retX ok (Nat.le_refl _) (S2'.thru S3 (by simp; omega)) (by simp) (by simp [unk]) (by simp [pack,VOk,AOk,LOk]) (k2 h0 hf)
 have SA : SameX [] h H3 := S2'.thru S3 (by simp; omega)
 have hl2 := S2'.1
 show aLenS (.slice (some ⟨po,0,none⟩) t.gates.toNat t.gates.toNat) _
 rw [lenS]
 refine l10_1 hJ (fun i : Nat => t.gates.toNat - i) (fun i f H => ∃ lv o,SameX [] h H ∧ H[po]? = some (.cells (rngsC (bkR t (limA t 0)) t.gates.toNat) true 0) ∧ i ≤ t.gates.toNat ∧ OwnX H 2 (((trulyL t).take i).flatMap Rng.cells) i lv o ∧ (∀ b,o = some b → h.length ≤ b ∧ b ≠ po) ∧
   f.ds = [] ∧ f.r 8 = lv ∧ f.r 26 = .slice (some ⟨po,0,none⟩) t.gates.toNat t.gates.toNat ∧ f.r 27 = vint t.gates.toNat ∧ f.r 28 = vint (i : Nat)) ?_ (s := 0)
  (.inl ⟨_,none,SA,c3,by omega,ownX_nil,by simp,rfl,rfl,rfl,rfl,rfl⟩)
 rintro i f H ⟨lv,o,SH,zo,hi,own,hob,hds,r8,r26,r27,r28⟩ ok' hn'
 rw [s10_1]
 simp only [r8,r26,r27,r28,hds]
 refine lssI (cndI (fun hlt => ?_) fun hge => ?_)
 ·refine idxI ⟨by omega,by omega⟩ ?_
  rw [Int.toNat_natCast,Nat.zero_add]
  refine load_part (c := (bkR t (limA t 0) i).cells) zo (by rw [rngsC_len]; omega) (rngsC_get _ (by omega)) rfl ?_
  refine qAl fun H4 p4 e4 S4 c4 l4 => qStA (c := (bkR t (limA t 0) i).cells) c4 rfl rfl rfl fun H5 S5 c5 l5 => ?_
  refine load_part (c := (bkR t (limA t 0) i).cells) c5 (by simp [Rng.cells]) rfl rfl ⟨by decide,fill_agg (l := (bkR t (limA t 0) i).cells) rfl rfl (by simp [zrep]) (fillI ?_)⟩
  refine qNew fun H6 p6 e6 S6 c6 l6 => ⟨by decide,?_⟩
  have hol := ownX_lt own
  have own6 : OwnX H6 2 (((trulyL t).take i).flatMap Rng.cells) i lv o := ownX_keep (ownX_keep (ownX_keep own S4 (by simp)) S5 (by intro b hb; have := hol b hb; simp; omega)) S6 (by simp)
  have S36 : SameX [p4] H H6 := (S4.weak0.trans S5).thru S6 (by simp)
  have hSl := SH.1
  refine ownX_more own6 (by omega) (by omega) (e := (bkR t (limA t 0) i).cells) (ownX_sli (ownX_new (n := 1) c6 rfl rfl)) fun v' H7 p7 e7 own7 S7 => addI (by omega) ?_
  have S37 : SameX (p4 :: o.toList) H H7 := (S36.weak (by simp)).thru (S7.weak (Y := p4 :: o.toList) (by simp +contextual)) (by simp +contextual)
  have hpo := lt_of_get zo
  refine ⟨i + 1,by dsimp only; omega,.inl ⟨v',some p7,?_,?_,by omega,?_,?_,hds,rfl,r26,r27,rfl⟩⟩
  ·refine SH.thru S37 fun y hy => .inr ?_
   simp at hy
   rcases hy with rfl | hy
   ·omega
   ·exact (hob y hy).1
  ·refine S37.get zo ?_
   simp
   exact ⟨by omega,fun e => (hob po e).2 rfl⟩
  ·rw [trulyL_take t (by omega),List.flatMap_append]
   simpa using own7
  ·intro b hb
   cases hb
   have := S37.1
   have := S6.1
   omega
 ·have hi2 : i = t.gates.toNat := by omega
  have htk : (trulyL t).take i = trulyL t := List.take_of_length_le (by rw [trulyL_len]; omega)
  rw [htk] at own
  obtain ⟨h1,h2,⟨h3,_,_⟩ | ⟨b,c,sz,rfl,rfl,h5,h6⟩⟩ := own
  ·omega
  ·obtain ⟨g,rfl⟩ := SH.app0 (by simp)
   subst hi2
   refine retX_tail ok (Nat.le_refl _) h5 (hob b rfl).1 ?_ (by simp [unk]) (by simp [sub,VOk]) (by simp) (k3 h0 hT c sz)
   show LOk _ _
   rw [LOk_iff]
   intro x hx
   obtain ⟨r,_,hr⟩ := List.mem_flatMap.1 hx
   simp [Rng.cells] at hr
   rcases hr with rfl | rfl <;> simp [VOk]
def verdict (r : Rng) (n : Int) : Int := if ¬ (r.lo ≤ n ∧ n ≤ r.hi) then 2 else if r.lo = r.hi then 1 else 3
theorem good14 (hJ : Closed prog main J) {v cv nv : Value} {t : Tal} {gate number : Int} (ht : TalAt h v t cv nv)
  (k1 : talErr t ≠ 0 → K (.tuple ⟨[vint 0,vint (talErr t)]⟩) h) (k2 : talErr t = 0 → ¬ (0 ≤ gate ∧ gate ≤ t.gates - 1) → K (.tuple ⟨[vint 0,vint 3]⟩) h)
  (k3 : talErr t = 0 → 0 ≤ gate → gate ≤ t.gates - 1 → number < 0 → K (.tuple ⟨[vint 0,vint 1]⟩) h)
  (k4 : talErr t = 0 → 0 ≤ gate → gate ≤ t.gates - 1 → 0 ≤ number → ¬ TruthIs t (limA t 0) → K (.tuple ⟨[vint 0,vint 11]⟩) h)
  (k5 : talErr t = 0 → 0 ≤ gate → gate ≤ t.gates - 1 → 0 ≤ number → TruthIs t (limA t 0) → K (.tuple ⟨[vint (verdict (bkR t (limA t 0) gate.toNat) number),vint 0]⟩) h) : Good prog J 14 [v,vint gate,vint number] h K := by
 refine g14 hJ fun ok => ?_
 rw [e14,ht.val]
 have kc : kn1 cv = true ∧ kn1 nv = true := ⟨(sli_one ht.ch).2.2,(sli_one ht.co).2.2⟩
 refine qBox (tal_one ht) fun H1 p1 e1 S1 b1 l1 => ?_
 refine load_part (c := talCells t cv nv) b1 (by rw [cs_val]; omega) rfl (tal_kn kc.1 kc.2) ?_
 have t1 : TalAt H1 (.agg ⟨talCells t cv nv⟩) t cv nv := ⟨rfl,S1.sli ht.ch (by simp),S1.sli ht.co (by simp)⟩
 refine good22 hJ t1 fun H2 bw bm S2 a1 a2 a3 w hm => ext0 (ext1 (neqI (cndI (fun hne => ?_) fun heq => ?_)))
 ·exact retX ok (Nat.le_refl _) (S1.trans S2) (by simp) (by simp [unk]) (by simp [pack,VOk,AOk,LOk]) (k1 hne)
 have h0 : talErr t = 0 := by omega
 have fine := talErr_fine h0
 have hg := fine.gates
 have S2' : SameX [] h H2 := S1.trans S2
 have fin : ∀ (x y : Int) (H : List AObj),SameX [] h H → K (.tuple ⟨[vint x,vint y]⟩) h → retL h.length K [] [vint x,vint y] H := fun x y H S hk =>
  retX ok (Nat.le_refl _) S (by simp) (by simp [unk]) (by simp [pack,VOk,AOk,LOk]) hk
 refine offI (ldI (v := vint t.gates) (S2.get b1 (by simp)) rfl rfl (subI (by omega) (good27 hJ (notI (cndN (fun hn => fin _ _ _ S2' (k2 h0 hn)) fun hgt => lssI (cndI (fun hn => fin _ _ _ S2' (k3 h0 hgt.1 hgt.2 hn)) fun hn0 => ?_))))))
 refine good23 hJ w a1 a2 a3 fine hm metOk_nil (fun hf H3 S3 => ext0 (ext1 (notI (cnd_true.2 ?_)))) (fun hT H3 po es' S3 h1 w3 hm3 met3 c3 => ext0 (ext1 (notI (cnd_false.2 ?_))))
 ·exact fin _ _ _ (S2'.thru S3 (by simp; omega)) (k4 h0 hgt.1 hgt.2 (by omega) hf)
 have SA : SameX [] h H3 := S2'.thru S3 (by simp; omega)
 refine idxI ⟨by omega,by omega⟩ ?_
 rw [Nat.zero_add]
 refine load_part (c := (bkR t (limA t 0) gate.toNat).cells) c3 (by rw [rngsC_len]; omega) (rngsC_get _ (by omega)) rfl ?_
 refine qAl fun H4 p4 e4 S4 c4 l4 => qStA (c := (bkR t (limA t 0) gate.toNat).cells) c4 rfl rfl rfl fun H5 S5 c5 l5 => ?_
 have hSA := SA.1
 have S5' : SameX [] h H5 := (SA.trans S4).thru S5 (by simp; omega)
 have k5' := k5 h0 hgt.1 hgt.2 (by omega) hT
 refine offI (ldI c5 rfl rfl (offI (ldI c5 rfl rfl (good27 hJ (notI (cndN (fun hn => fin _ _ _ S5' ?_) fun hin => ?_))))))
 ·rw [verdict,if_pos hn] at k5'
  exact k5'
 ·refine offI (ldI c5 rfl rfl (offI (ldI c5 rfl rfl (eqlI (cndI (fun he => fin _ _ _ S5' ?_) fun hne => fin _ _ _ S5' ?_)))))
  ·rw [verdict,if_neg (by simpa using hin),if_pos he] at k5'
   exact k5'
  ·rw [verdict,if_neg (by simpa using hin),if_neg hne] at k5'
   exact k5'
end
def HX (h H : List AObj) (ns : List Int) (k : Nat) : Prop := ∃ nv k' s rest,H = HF h nv k' s rest ∧ k' ≤ k ∧ (0 ≤ s ∧ s < 18446744073709551616) ∧ Hnd h nv ns
section
variable {main : Bool} {J : JT} {h H : List AObj} {K : Value → List AObj → Prop} {ns : List Int} {k : Nat}
theorem HX.mono {k' : Nat} (a : HX h H ns k) (hk : k ≤ k') : HX h H ns k' := by
 obtain ⟨nv,k1,s,rest,e,h1,h2,h3⟩ := a
 exact ⟨nv,k1,s,rest,e,by omega,h2,h3⟩
theorem HX.pre (a : HX h H ns k) : SameX [] h H := by
 obtain ⟨nv,k1,s,rest,rfl,_⟩ := a
 exact SameX.refl.app
theorem HX.lt (a : HX h H ns k) : h.length < H.length := by
 obtain ⟨nv,k1,s,rest,rfl,_⟩ := a
 rw [hf_len]
 omega
theorem HX.same {X : List Nat} {H' : List AObj} (a : HX h H ns k) (S : SameX X H H') (hX : ∀ x ∈ X,h.length < x) : HX h H' ns k := by
 obtain ⟨nv,k1,s,rest,rfl,h1,h2,h3⟩ := a
 have e : HF h nv k1 s rest = (h ++ [.cells [nv,vint k1,.int .u64 s] true 0]) ++ rest := by simp [HF]
 rw [e] at S
 obtain ⟨g,hg⟩ := S.pre (fun x hx => by have := hX x hx; simp; omega)
 exact ⟨nv,k1,s,g,by rw [hg]; simp [HF],h1,h2,h3⟩
theorem hf_same {nv : Value} {k1 k2 : Nat} {s1 s2 : Int} {rest g : List AObj} : SameX [h.length] (HF h nv k1 s1 rest) (HF h nv k2 s2 rest ++ g) := by
 refine ⟨by rw [hf_app,hf_len,hf_len]; simp,fun i hi hx => ?_⟩
 simp at hx
 rw [List.getElem?_append_left (by rw [hf_len] at hi ⊢; omega)]
 unfold HF
 rcases Nat.lt_or_ge i h.length with x | x
 ·rw [List.getElem?_append_left x,List.getElem?_append_left x]
 ·rw [List.getElem?_append_right x,List.getElem?_append_right x]
  obtain ⟨j,hj⟩ : ∃ j,i - h.length = j + 1 := ⟨i - h.length - 1,by omega⟩
  rw [hj]
  rfl
theorem newX (hJ : Closed prog main J) {nv : Value} (sn : Sli h nv 1 ns.length (ns.map vint)) (hln : ns.length < 4611686018427387904)
  (hK : ∀ H,HX h H ns 0 → K (ptr h.length 0) H) : Good prog J 4 [nv] h K := by
 obtain ⟨nb,nc,hnv,_⟩ := id sn
 subst hnv
 exact good4 hJ (hK _ ⟨_,0,88172645463325252,[],rfl,Nat.le_refl _,by omega,⟨sn,hln⟩⟩)
theorem upX (hJ : Closed prog main J) (a : HX h H ns k) (hk : k < 1000000) {m : Int} (hm : m < 1000000)
  (hK : ∀ y H',0 ≤ y → (y ≤ m ∨ y = 0) → SameX [h.length] H H' → H'.length = H.length → HX h H' ns (k + 1) → K (vint y) H') : Good prog J 8 [ptr h.length 0,vint m] H K := by
 obtain ⟨nv,k1,s,rest,rfl,h1,h2,h3⟩ := a
 have := up (k := k1) (g := []) (rest := rest) (K := K) hJ h3 h2 (by omega) hm fun y k' s' a1 a2 a3 a4 => hK y _ a1 a2 hf_same (by simp [hf_len]) ⟨nv,k',s',rest,by simp,by omega,a4,h3⟩
 simpa using this
theorem amX (hJ : Closed prog main J) (a : HX h H ns k) (hk : k < 1000000) {lo hi : Int} (h1 : -1000000 ≤ lo ∧ lo ≤ 1000000) (h2 : -1000000 ≤ hi ∧ hi ≤ 1000000)
  (hK : ∀ y H',lo ≤ y → (y ≤ hi ∨ y = lo) → SameX [h.length] H H' → H'.length = H.length → HX h H' ns (k + 1) → K (vint y) H') : Good prog J 9 [ptr h.length 0,vint lo,vint hi] H K := by
 obtain ⟨nv,k1,s,rest,rfl,b1,b2,b3⟩ := a
 have := amo (k := k1) (g := []) (rest := rest) (K := K) hJ b3 b2 (by omega) h1 h2 fun y k' s' a1 a2 a3 a4 => hK y _ a1 a2 hf_same (by simp [hf_len]) ⟨nv,k',s',rest,by simp,by omega,a4,b3⟩
 simpa using this
end
section
variable {h H : List AObj} {KV : Value → Prop}
theorem talAt_kc {v cv nv : Value} {t : Tal} (ht : TalAt H v t cv nv) : kn (talCells t cv nv) = true := tal_kn (sli_one ht.ch).2.2 (sli_one ht.co).2.2
end
instance : DecidableEq Rng := fun a b =>
  if h : a.lo = b.lo ∧ a.hi = b.hi then isTrue (by cases a; cases b; simp_all) else isFalse (fun e => h (by rw [e]; exact ⟨rfl,rfl⟩))
instance : DecidableEq Cnt := fun a b =>
  if h : a.gate = b.gate ∧ a.man = b.man ∧ a.num = b.num ∧ a.err = b.err then isTrue (by cases a; cases b; simp_all) else isFalse (fun e => h (by rw [e]; exact ⟨rfl,rfl,rfl,rfl⟩))
theorem teqR (a b c d : Int) : teq prog 10000 26 (.agg ⟨[vint a,vint b]⟩) (.agg ⟨[vint c,vint d]⟩) =
 (match some (a == c) with
 | some true => (match some (b == d) with
  | some true => some true
  | some false => some false
  | none => none)
 | some false => some false
 | none => none) := by kernel_rfl
theorem teqR2 (r q : Rng) : teq prog 10000 26 r.val q.val = some (decide (r = q)) := by
 obtain ⟨a,b⟩ := r
 obtain ⟨c,d⟩ := q
 unfold Rng.val Rng.cells
 rw [teqR]
 by_cases e1 : a = c
 ·by_cases e2 : b = d
  ·simp [e1,e2]
  ·rw [beq_eq_false_iff_ne.2 e2,beq_iff_eq.2 e1]
   simp [e2]
 ·rw [beq_eq_false_iff_ne.2 e1]
  simp [e1]
section
variable {main : Bool} {J : JT} {h H : List AObj} {K : Value → List AObj → Prop} {KV : Value → Prop} {n0 : Nat}
theorem neqR {r q : Rng} (hk : KV (.bool (decide (r ≠ q)))) : aBin prog .neq 26 r.val q.val KV := by
 have e2 : prog.eqGuardType prog.depth 26 = false := by kernel_rfl
 show aEq prog true 26 r.val q.val KV
 unfold aEq
 rw [teqR2]
 exact ⟨e2,by simpa using hk⟩
theorem good20 (hJ : Closed prog main J) {a b : Value} {l : List Rng} (ha : SliE h a 2 Rng.cells l) (hb : SliE h b 2 Rng.cells l) (hl : l.length < 1000000) (hK : K (.bool true) h) : Good prog J 20 [a,b] h K := by
 refine g20 hJ fun ok => ?_
 rw [e20]
 refine lenI ha (lenI hb (neqI (cndI (fun hx => absurd rfl hx) fun _ => ?_)))
 refine l20_1 hJ (fun i : Nat => l.length - i) (fun i f H => H = h ∧ i ≤ l.length ∧ f.ds = [] ∧ f.r 0 = a ∧ f.r 1 = b ∧ f.r 5 = vint (i : Nat)) ?_ (s := 0) (.inl ⟨rfl,by omega,rfl,rfl,rfl,rfl⟩)
 rintro i f H ⟨rfl,hi,hds,r0,r1,r5⟩ ok' hn'
 rw [s20_1]
 simp only [r0,r1,r5,hds]
 refine lenI ha (lssI (cndI (fun hlt => ?_) fun hge => retL_same (by simp [unk]) hK))
 have hi' : i < l.length := by omega
 obtain ⟨b1,o1,cs1,w1,z1,hx1,hb1,hle1,hp1,hk1⟩ := sliE_elem rng_len (by omega) ha hi'
 obtain ⟨b2,o2,cs2,w2,z2,hx2,hb2,hle2,hp2,hk2⟩ := sliE_elem rng_len (by omega) hb hi'
 refine hx1 _ (load_part hb1 hle1 hp1 hk1 (hx2 _ (load_part hb2 hle2 hp2 hk2 (neqR (cndI (fun hx => absurd rfl hx) fun _ => addI (by omega) ?_)))))
 exact ⟨i + 1,by dsimp only; omega,.inl ⟨rfl,by omega,hds,r0,r1,rfl⟩⟩
end
def Rng.sub (a b : Rng) : Prop := b.lo ≤ a.lo ∧ a.hi ≤ b.hi
theorem flatR : ∀ l : List Rng,(l.flatMap Rng.cells).length = l.length * 2 ∧ kn (l.flatMap Rng.cells) = true
 | [] => ⟨rfl,rfl⟩
 | c :: l => by
  obtain ⟨h1,h2⟩ := flatR l
  rw [List.flatMap_cons,List.length_append,h1,rng_len,List.length_cons]
  refine ⟨by omega,?_⟩
  unfold kn at *
  rw [List.all_append,h2]
  rfl
def Rng.has (r : Rng) (n : Int) : Prop := r.lo ≤ n ∧ n ≤ r.hi
structure Tru (t : Tal) (L : Nat → Rng) (ns : Nat → Int) : Prop where
 first : t.first.has (ns 0)
 lim : ∀ g,g < t.gates.toNat → (L g).has (ns g)
 step : ∀ g,g + 1 < t.gates.toNat → (stretchR t g).has (ns (g + 1) - ns g)
section
variable {t : Tal} {L : Nat → Rng} {ns : Nat → Int}
theorem Tru.fwd (h : Tru t L ns) : ∀ g,g < t.gates.toNat → (Go.Proofs.Ytfljbanjmplcfaa.fwd t L g).has (ns g)
 | 0,hg => by
  have h1 := h.first
  have h2 := h.lim 0 hg
  unfold Go.Proofs.Ytfljbanjmplcfaa.fwd Rng.meet Rng.has at *
  dsimp only
  omega
 | g + 1,hg => by
  have h1 := h.fwd g (by omega)
  have h2 := h.lim (g + 1) hg
  have h3 := h.step g hg
  show (((Go.Proofs.Ytfljbanjmplcfaa.fwd t L g).plus (stretchR t g)).meet (L (g + 1))).has _
  unfold Rng.meet Rng.plus Rng.has at *
  dsimp only
  omega
theorem Tru.truth (h : Tru t L ns) : TruthIs t L := fun g hg => by
 have := h.fwd g (by omega)
 unfold Rng.has at this
 omega
theorem Tru.bk (h : Tru t L ns) : ∀ d g,g + d + 1 = t.gates.toNat → (bkR t L g).has (ns g)
 | 0,g,hg => by
  rw [bkR_last (by omega)]
  exact h.fwd g (by omega)
 | d + 1,g,hg => by
  rw [bkR_step (by omega)]
  have h1 := h.bk d (g + 1) (by omega)
  have h2 := h.fwd g (by omega)
  have h3 := h.step g (by omega)
  unfold Rng.meet Rng.plus Rng.turn Rng.has at *
  dsimp only
  omega
theorem stretch_ok (f : TalFine t) (g : Nat) : (stretchR t g).lo ≤ (stretchR t g).hi := by
 have h1 := f.most
 unfold stretchR
 cases e : t.changes[g]? with
 | none =>
  unfold Rng.plus
  dsimp only [Option.getD]
  omega
 | some r =>
  have := f.ch r (List.mem_of_getElem? e)
  unfold Rng.plus
  dsimp only [Option.getD]
  omega
theorem fwd_prev (f : TalFine t) (hT : TruthIs t L) {g : Nat} (hg : g + 1 < t.gates.toNat) {n : Int} (hn : (fwd t L (g + 1)).has n) : ∃ n',(fwd t L g).has n' ∧ (stretchR t g).has (n - n') := by
 have h1 := hT g (by omega)
 have h2 := stretch_ok f g
 refine ⟨max (fwd t L g).lo (n - (stretchR t g).hi),?_⟩
 change (((fwd t L g).plus (stretchR t g)).meet (L (g + 1))).has n at hn
 unfold Rng.meet Rng.plus Rng.has at *
 dsimp only at *
 omega
theorem fwd_lim {g : Nat} {n : Int} (hn : (fwd t L g).has n) : (L g).has n := by
 cases g with
 | zero =>
  unfold fwd Rng.meet Rng.has at *
  dsimp only at *
  omega
 | succ g =>
  change (((fwd t L g).plus (stretchR t g)).meet (L (g + 1))).has n at hn
  unfold Rng.meet Rng.plus Rng.has at *
  dsimp only at *
  omega
theorem bk_fwd {g : Nat} (hg : g < t.gates.toNat) {n : Int} (hn : (bkR t L g).has n) : (fwd t L g).has n := by
 by_cases h : t.gates.toNat = g + 1
 ·rw [bkR_last h] at hn
  exact hn
 ·rw [bkR_step (by omega)] at hn
  unfold Rng.meet Rng.has at *
  dsimp only at *
  omega
theorem bk_prev (f : TalFine t) (hT : TruthIs t L) {g : Nat} (hg : g + 1 < t.gates.toNat) {n : Int} (hn : (bkR t L (g + 1)).has n) : ∃ n',(bkR t L g).has n' ∧ (stretchR t g).has (n - n') := by
 obtain ⟨n',h1,h2⟩ := fwd_prev f hT hg (bk_fwd hg hn)
 refine ⟨n',?_,h2⟩
 rw [bkR_step hg]
 unfold Rng.meet Rng.plus Rng.turn Rng.has at *
 dsimp only
 omega
theorem bk_ok (f : TalFine t) (hT : TruthIs t L) : ∀ d g,g + d + 1 = t.gates.toNat → (bkR t L g).lo ≤ (bkR t L g).hi
 | 0,g,hg => by
  rw [bkR_last (by omega)]
  exact hT g (by omega)
 | d + 1,g,hg => by
  have h1 := bk_ok f hT d (g + 1) (by omega)
  obtain ⟨n',h2,_⟩ := bk_prev f hT (g := g) (n := (bkR t L (g + 1)).lo) (by omega) ⟨Int.le_refl _,h1⟩
  unfold Rng.has at h2
  omega
theorem bk_next (f : TalFine t) (hT : TruthIs t L) {g : Nat} (hg : g + 1 < t.gates.toNat) {n : Int} (hn : (bkR t L g).has n) : ∃ n',(bkR t L (g + 1)).has n' ∧ (stretchR t g).has (n' - n) := by
 have h1 := bk_ok f hT (t.gates.toNat - 2 - g) (g + 1) (by omega)
 have h2 := stretch_ok f g
 rw [bkR_step hg] at hn
 refine ⟨max (bkR t L (g + 1)).lo (n + (stretchR t g).lo),?_⟩
 unfold Rng.meet Rng.plus Rng.turn Rng.has at *
 dsimp only at *
 omega
theorem ex_of_bk (f : TalFine t) (hT : TruthIs t L) {g : Nat} (hg : g < t.gates.toNat) {n : Int} (hn : (bkR t L g).has n) : ∃ ns,Tru t L ns ∧ ns g = n := by
 have pre : ∀ g,g < t.gates.toNat → ∀ n,(fwd t L g).has n → ∃ ns : Nat → Int,t.first.has (ns 0) ∧ (∀ j,j ≤ g → (L j).has (ns j)) ∧ (∀ j,j < g → (stretchR t j).has (ns (j + 1) - ns j)) ∧ ns g = n := by
  intro g
  induction g with
  | zero =>
   intro _ n hn
   refine ⟨fun _ => n,?_,fun j hj => ?_,fun j hj => absurd hj (by omega),rfl⟩
   ·unfold fwd Rng.meet Rng.has at *
    dsimp only at *
    omega
   ·have : j = 0 := by omega
    subst this
    exact fwd_lim hn
  | succ g ih =>
   intro hg n hn
   obtain ⟨n',h1,h2⟩ := fwd_prev f hT hg hn
   obtain ⟨ns,a1,a2,a3,a4⟩ := ih (by omega) n' h1
   refine ⟨fun j => if j = g + 1 then n else ns j,?_,fun j hj => ?_,fun j hj => ?_,by simp⟩
   ·simpa using a1
   ·by_cases e : j = g + 1
    ·subst e
     simpa using fwd_lim hn
    ·simp only [if_neg e]
     exact a2 j (by omega)
   ·by_cases e : j = g
    ·subst e
     simp only [if_true,if_neg (show ¬ j = j + 1 by omega),a4]
     exact h2
    ·simp only [if_neg (show ¬ j + 1 = g + 1 by omega),if_neg (show ¬ j = g + 1 by omega)]
     exact a3 j (by omega)
 have suf : ∀ d g,g + d + 1 = t.gates.toNat → ∀ n,(bkR t L g).has n → ∃ ns : Nat → Int,(∀ j,g ≤ j → j < t.gates.toNat → (L j).has (ns j)) ∧ (∀ j,g ≤ j → j + 1 < t.gates.toNat → (stretchR t j).has (ns (j + 1) - ns j)) ∧ ns g = n := by
  intro d
  induction d with
  | zero =>
   intro g hg n hn
   refine ⟨fun _ => n,fun j h1 h2 => ?_,fun j h1 h2 => absurd h2 (by omega),rfl⟩
   have : j = g := by omega
   subst this
   exact fwd_lim (bk_fwd (by omega) hn)
  | succ d ih =>
   intro g hg n hn
   obtain ⟨n',h1,h2⟩ := bk_next f hT (by omega) hn
   obtain ⟨ns,a1,a2,a3⟩ := ih (g + 1) (by omega) n' h1
   refine ⟨fun j => if j = g then n else ns j,fun j h1 h2 => ?_,fun j h1 h3 => ?_,by simp⟩
   ·by_cases e : j = g
    ·subst e
     simpa using fwd_lim (bk_fwd (by omega) hn)
    ·simp only [if_neg e]
     exact a1 j (by omega) h2
   ·by_cases e : j = g
    ·subst e
     simp only [if_true,if_neg (show ¬ j + 1 = j by omega),a3]
     exact h2
    ·simp only [if_neg e,if_neg (show ¬ j + 1 = g by omega)]
     exact a2 j (by omega) h3
 obtain ⟨p,a1,a2,a3,a4⟩ := pre g hg n (bk_fwd hg hn)
 obtain ⟨q,b1,b2,b3⟩ := suf (t.gates.toNat - 1 - g) g (by omega) n hn
 refine ⟨fun j => if j ≤ g then p j else q j,⟨?_,fun j hj => ?_,fun j hj => ?_⟩,by simp [a4]⟩
 ·simpa using a1
 ·by_cases e : j ≤ g
  ·simp only [if_pos e]
   exact a2 j e
  ·simp only [if_neg e]
   exact b1 j (by omega) hj
 ·by_cases e : j + 1 ≤ g
  ·simp only [if_pos e,if_pos (show j ≤ g by omega)]
   exact a3 j (by omega)
  ·by_cases e2 : j = g
   ·subst e2
    simp only [if_neg e,if_pos (Nat.le_refl _),a4,← b3]
    exact b2 j (by omega) hj
   ·simp only [if_neg e,if_neg (show ¬ j ≤ g by omega)]
    exact b2 j (by omega) hj
end
instance (r : Rng) (n : Int) : Decidable (r.has n) := inferInstanceAs (Decidable (_ ∧ _))
def AllP (t : Tal) (g : Int) (n : Int) : Prop := ∀ c ∈ t.counts,c.gate = g → (rd c).has n
theorem poss_iff {c : Cnt} (h1 : 0 ≤ c.num ∧ c.num ≤ 300) (h2 : 0 ≤ c.err ∧ c.err ≤ 20) {n : Int} : (rd c).has n ↔ 0 ≤ n ∧ 100 * (c.num - n) ≤ c.err * n ∧ 100 * -(c.num - n) ≤ c.err * n := by
 obtain ⟨a,b,d,e⟩ := rd_facts h1 h2
 show rdLo c ≤ n ∧ n ≤ rdHi c ↔ _
 rw [lo_le h2,le_hi h2]
 refine ⟨fun ⟨x,y⟩ => ⟨?_,by omega,by omega⟩,fun ⟨x,y,z⟩ => ⟨by omega,by omega⟩⟩
 have := (lo_le h2 (n := n)).2 x
 omega
theorem lim_iff {t : Tal} (f : TalFine t) {g : Nat} {n : Int} : (limA t 0 g).has n ↔ (0 ≤ n ∧ n ≤ 600) ∧ AllP t g n := by
 have key : ∀ i,i ≤ t.counts.length → ((limN 0 t.counts i g).has n ↔ (0 ≤ n ∧ n ≤ 600) ∧ ∀ j (hj : j < t.counts.length),j < i → t.counts[j].gate = g → (rd t.counts[j]).has n) := by
  intro i
  induction i with
  | zero =>
   intro _
   show (⟨0,600⟩ : Rng).has n ↔ _
   unfold Rng.has
   simp
  | succ i ih =>
   intro hi
   have ih := ih (by omega)
   rw [limN_step (by omega),keep_zero]
   show (updR _ _ _ g).has n ↔ _
   have hc := f.co _ (List.getElem_mem (show i < t.counts.length by omega))
   unfold updR
   by_cases e : g = t.counts[i].gate.toNat
   ·have e' : t.counts[i].gate = g := by omega
    rw [if_pos e,← e]
    have hm : ((limN 0 t.counts i g).meet (rd t.counts[i])).has n ↔ (limN 0 t.counts i g).has n ∧ (rd t.counts[i]).has n := by
     unfold Rng.meet Rng.has
     dsimp only
     omega
    rw [hm,ih]
    refine ⟨fun ⟨⟨x,y⟩,z⟩ => ⟨x,fun j hj hji hg => ?_⟩,fun ⟨x,y⟩ => ⟨⟨x,fun j hj hji hg => y j hj (by omega) hg⟩,y i (by omega) (by omega) e'⟩⟩
    by_cases ej : j = i
    ·subst ej
     exact z
    ·exact y j hj (by omega) hg
   ·rw [if_neg e,ih]
    refine ⟨fun ⟨x,y⟩ => ⟨x,fun j hj hji hg => ?_⟩,fun ⟨x,y⟩ => ⟨x,fun j hj hji hg => y j hj (by omega) hg⟩⟩
    by_cases ej : j = i
    ·subst ej
     exact absurd (by omega) e
    ·exact y j hj (by omega) hg
 unfold limA
 rw [key _ (Nat.le_refl _)]
 refine and_congr_right fun _ => ⟨fun h c hc => ?_,fun h j hj _ hg => h _ (List.getElem_mem hj) hg⟩
 obtain ⟨j,hj,rfl⟩ := List.mem_iff_getElem.1 hc
 exact h j hj hj
def befLo (t : Tal) (g : Nat) (n : Int) : Int := max 0 (n - ((t.changes[g]?).getD ⟨0,0⟩).hi)
def befHi (t : Tal) (g : Nat) (n : Int) : Int := min 540 (n - ((t.changes[g]?).getD ⟨0,0⟩).lo + t.most)
def Ch (t : Tal) : Nat → Int → Prop
 | 0,n => t.first.has n ∧ AllP t (0 : Nat) n
 | g + 1,n => (0 ≤ n ∧ n ≤ 540) ∧ (∃ m,befLo t g n ≤ m ∧ m ≤ befHi t g n ∧ Ch t g m) ∧ AllP t (g + 1 : Nat) n
section
variable {main : Bool} {J : JT} {h h0 H : List AObj} {K : Value → List AObj → Prop} {KV : Value → Prop} {n0 : Nat}
noncomputable instance (t : Tal) (g n : Int) : Decidable (AllP t g n) := Classical.propDecidable _
noncomputable instance (t : Tal) (g : Nat) (n : Int) : Decidable (Ch t g n) := Classical.propDecidable _
end
noncomputable def toldP (t : Tal) (gate number : Int) : Int × Int :=
 open Classical in
 if talErr t ≠ 0 then (0,talErr t) else if ¬ (0 ≤ gate ∧ gate ≤ t.gates - 1) then (0,3) else if number < 0 then (0,1) else if ¬ TruthIs t (limA t 0) then (0,11) else (verdict (bkR t (limA t 0) gate.toNat) number,0)
noncomputable def trulyE (t : Tal) : Int :=
 open Classical in
 if talErr t ≠ 0 then talErr t else if ¬ TruthIs t (limA t 0) then 11 else 0
noncomputable def trulyO (t : Tal) : List Rng :=
 open Classical in
 if talErr t ≠ 0 then [] else if ¬ TruthIs t (limA t 0) then [] else trulyL t
section
variable {main : Bool} {J : JT} {h H : List AObj} {K : Value → List AObj → Prop} {n0 : Nat} {v cv nv : Value} {t : Tal} {gate number : Int}
theorem told_all (P : Value → Prop) (hK : P (.tuple ⟨[vint (toldP t gate number).1,vint (toldP t gate number).2]⟩)) :
  (talErr t ≠ 0 → P (.tuple ⟨[vint 0,vint (talErr t)]⟩)) ∧ (talErr t = 0 → ¬ (0 ≤ gate ∧ gate ≤ t.gates - 1) → P (.tuple ⟨[vint 0,vint 3]⟩)) ∧
  (talErr t = 0 → 0 ≤ gate → gate ≤ t.gates - 1 → number < 0 → P (.tuple ⟨[vint 0,vint 1]⟩)) ∧
  (talErr t = 0 → 0 ≤ gate → gate ≤ t.gates - 1 → 0 ≤ number → ¬ TruthIs t (limA t 0) → P (.tuple ⟨[vint 0,vint 11]⟩)) ∧
  (talErr t = 0 → 0 ≤ gate → gate ≤ t.gates - 1 → 0 ≤ number → TruthIs t (limA t 0) → P (.tuple ⟨[vint (verdict (bkR t (limA t 0) gate.toNat) number),vint 0]⟩)) := by
 have go : ∀ x,toldP t gate number = x → P (.tuple ⟨[vint x.1,vint x.2]⟩) := fun x hx => by rw [← hx]; exact hK
 refine ⟨fun h0 => go (0,talErr t) ?_,fun h0 hg => go (0,3) ?_,fun h0 h1 h2 h3 => go (0,1) ?_,fun h0 h1 h2 h3 hT => go (0,11) ?_,fun h0 h1 h2 h3 hT => go (verdict (bkR t (limA t 0) gate.toNat) number,0) ?_⟩
 ·unfold toldP
  rw [if_pos h0]
 ·unfold toldP
  rw [if_neg (not_not_intro h0),if_pos hg]
 ·unfold toldP
  rw [if_neg (not_not_intro h0),if_neg (not_not_intro ⟨h1,h2⟩),if_pos h3]
 ·unfold toldP
  rw [if_neg (not_not_intro h0),if_neg (not_not_intro ⟨h1,h2⟩),if_neg (show ¬ number < 0 by omega),if_pos hT]
 ·unfold toldP
  rw [if_neg (not_not_intro h0),if_neg (not_not_intro ⟨h1,h2⟩),if_neg (show ¬ number < 0 by omega),if_neg (not_not_intro hT)]
theorem good14' (hJ : Closed prog main J) (ht : TalAt h v t cv nv) (hK : K (.tuple ⟨[vint (toldP t gate number).1,vint (toldP t gate number).2]⟩) h) : Good prog J 14 [v,vint gate,vint number] h K := by
 obtain ⟨k1,k2,k3,k4,k5⟩ := told_all (fun x => K x h) hK
 exact good14 hJ ht k1 k2 k3 k4 k5
theorem sliE_nil {α : Type} {s : Nat} {enc : α → List Value} : SliE h (.slice none 0 0) s enc ([] : List α) := ⟨none,0,rfl,⟨by simp,rfl⟩,.inl ⟨rfl,rfl⟩⟩
theorem truly_all (hK : ∀ v H,SameX [] h H → SliE H v 2 Rng.cells (trulyO t) → K (.tuple ⟨[v,vint (trulyE t)]⟩) H) :
  (talErr t ≠ 0 → K (.tuple ⟨[.slice none 0 0,vint (talErr t)]⟩) h) ∧ (talErr t = 0 → ¬ TruthIs t (limA t 0) → K (.tuple ⟨[.slice none 0 0,vint 11]⟩) h) ∧
  (talErr t = 0 → TruthIs t (limA t 0) → ∀ v H,SameX [] h H → SliE H v 2 Rng.cells (trulyL t) → K (.tuple ⟨[v,vint 0]⟩) H) := by
 have go : ∀ x y v H,trulyE t = x → trulyO t = y → SameX [] h H → SliE H v 2 Rng.cells y → K (.tuple ⟨[v,vint x]⟩) H := fun x y v H hx hy S hs => by
  subst hx hy
  exact hK v H S hs
 refine ⟨fun h0 => go _ [] _ _ ?_ ?_ SameX.refl sliE_nil,fun h0 hT => go _ [] _ _ ?_ ?_ SameX.refl sliE_nil,fun h0 hT v H S hs => go _ _ v H ?_ ?_ S hs⟩
 ·unfold trulyE
  rw [if_pos h0]
 ·unfold trulyO
  rw [if_pos h0]
 ·unfold trulyE
  rw [if_neg (not_not_intro h0),if_pos hT]
 ·unfold trulyO
  rw [if_neg (not_not_intro h0),if_pos hT]
 ·unfold trulyE
  rw [if_neg (not_not_intro h0),if_neg (not_not_intro hT)]
 ·unfold trulyO
  rw [if_neg (not_not_intro h0),if_neg (not_not_intro hT)]
theorem good10' (hJ : Closed prog main J) (ht : TalAt h v t cv nv) (hK : ∀ v H,SameX [] h H → SliE H v 2 Rng.cells (trulyO t) → K (.tuple ⟨[v,vint (trulyE t)]⟩) H) : Good prog J 10 [v] h K := by
 obtain ⟨k1,k2,k3⟩ := truly_all hK
 refine good10 hJ ht k1 k2 fun h0 hT c sz => ?_
 have hg := (talErr_fine h0).gates
 refine k3 h0 hT _ _ SameX.refl.app ?_
 rw [← trulyL_len]
 have hf := flatR (trulyL t)
 exact ⟨_,_,rfl,hf,.inr ⟨_,_,rfl,.inr ⟨(trulyL t).flatMap Rng.cells,true,sz,by simp,by rw [List.drop_zero,List.take_of_length_le (by rw [hf.1]; exact Nat.le_refl _)]⟩⟩⟩
end
end Go.Proofs.Ytfljbanjmplcfaa
namespace Go.Proofs.Ytfljbanjmplcfaa
open Go.Conc
def putAt {X : Type} (f : Nat → X) (i : Nat) (x : X) : Nat → X := fun j => if j = i then x else f j
theorem putAt_self {X : Type} (f : Nat → X) (i : Nat) (x : X) : putAt f i x i = x := by simp [putAt]
theorem putAt_ne {X : Type} (f : Nat → X) {i j : Nat} (x : X) (h : j ≠ i) : putAt f i x j = f j := by simp [putAt,h]
def Less {X : Type} (r : X → X → Prop) (n : Nat) (f' f : Nat → X) : Prop := ∃ i,i < n ∧ r (f' i) (f i) ∧ ∀ j,j ≠ i → f' j = f j
theorem less_acc {X : Type} (r : X → X → Prop) : ∀ (n : Nat) (f : Nat → X),(∀ i,i < n → Acc r (f i)) → Acc (Less r n) f
 | 0,f,_ => ⟨f,fun _ h => by obtain ⟨i,hi,_⟩ := h; omega⟩
 | n + 1,f,h => by
  have key : ∀ a,Acc r a → ∀ g : Nat → X,Acc (Less r n) g → Acc (Less r (n + 1)) (putAt g n a) := by
   intro a ha
   induction ha with
   | intro a _ iha =>
    intro g hg
    induction hg with
    | intro g hgs ihg =>
     refine ⟨_,fun y hy => ?_⟩
     obtain ⟨i,hi,hr,ho⟩ := hy
     by_cases hin : i = n
     ·subst hin
      rw [putAt_self] at hr
      have : y = putAt g i (y i) := by
       funext j
       by_cases hj : j = i
       ·subst hj; rw [putAt_self]
       ·rw [putAt_ne _ _ hj,ho j hj,putAt_ne _ _ hj]
      rw [this]
      exact iha (y i) hr g ⟨g,hgs⟩
     ·rw [putAt_ne _ _ hin] at hr
      have : y = putAt (putAt g i (y i)) n a := by
       funext j
       by_cases hj : j = n
       ·subst hj
        rw [putAt_self,ho j (fun e => hin e.symm),putAt_self]
       ·rw [putAt_ne _ _ hj]
        by_cases hji : j = i
        ·subst hji; rw [putAt_self]
        ·rw [putAt_ne _ _ hji,ho j hji,putAt_ne _ _ hj]
      rw [this]
      refine ihg _ ⟨i,by omega,by rw [putAt_self]; exact hr,fun j hj => putAt_ne _ _ hj⟩
  have e : f = putAt f n (f n) := by
   funext j
   by_cases hj : j = n
   ·subst hj; rw [putAt_self]
   ·rw [putAt_ne _ _ hj]
  rw [e]
  exact key (f n) (h n (by omega)) f (less_acc r n f fun i hi => h i (by omega))
inductive Toward (P : Program) (Stop : JT) : Goroutine → World → Foot → Prop where
 | stop {g : Goroutine} {w : World} {ft : Foot} : g.status = .running → (∀ w₁,RelyW ft w w₁ → Stop g w₁ ft) → Toward P Stop g w ft
 | step {g : Goroutine} {w : World} {ft : Foot} : g.status = .running → (∀ w₁,RelyW ft w w₁ → ∃ g' w' es,stepG P false g w₁ = .go g' w' es ∧ g'.status = .running ∧ GuarW ft w₁ w' es) →
  (∀ w₁ g' w' es,RelyW ft w w₁ → stepG P false g w₁ = .go g' w' es → Toward P Stop g' w' (ft.ext w₁.heap.size w'.heap.size)) → Toward P Stop g w ft
theorem Toward.running {P : Program} {Stop : JT} {g : Goroutine} {w : World} {ft : Foot} (h : Toward P Stop g w ft) : g.status = .running := by
 cases h with
 | stop h _ => exact h
 | step h _ _ => exact h
theorem Toward.rely {P : Program} {Stop : JT} {g : Goroutine} {w w₁ : World} {ft : Foot} (h : Toward P Stop g w ft) (hr : RelyW ft w w₁) : Toward P Stop g w₁ ft := by
 cases h with
 | stop h1 h2 => exact .stop h1 fun w₂ h₂ => h2 w₂ (hr.trans h₂)
 | step h1 h2 h3 => exact .step h1 (fun w₂ h₂ => h2 w₂ (hr.trans h₂)) fun w₂ g' w' es h₂ hs => h3 w₂ g' w' es (hr.trans h₂) hs
theorem Toward.closed (P : Program) (Stop : JT) : Closed P false (Toward P Stop) where
 rely := fun h hr => h.rely hr
 step := fun hrun h => .step hrun (fun w₁ h₁ => by
  obtain ⟨g',w',es,a,b,c,_⟩ := h w₁ h₁
  exact ⟨g',w',es,a,b,c⟩) fun w₁ g' w' es h₁ hs => by
  obtain ⟨g2,w2,es2,a,b,c,d⟩ := h w₁ h₁
  rw [hs] at a
  cases a
  exact d
inductive WS where
 | quit (n : Nat)
 | way (w : World) (ft : Foot)
 | park
inductive WLt (P : Program) : Goroutine × WS → Goroutine × WS → Prop where
 | step {g g' : Goroutine} {w w₁ w' : World} {ft : Foot} {es : Array Event} : RelyW ft w w₁ → stepG P false g w₁ = .go g' w' es → WLt P (g',.way w' (ft.ext w₁.heap.size w'.heap.size)) (g,.way w ft)
 | quit {g g' : Goroutine} {w : World} {ft : Foot} {n : Nat} : WLt P (g',.quit n) (g,.way w ft)
 | park {g g' : Goroutine} {w : World} {ft : Foot} : WLt P (g',.park) (g,.way w ft)
 | out {g g' : Goroutine} {n : Nat} : WLt P (g',.quit n) (g,.park)
 | less {g g' : Goroutine} {n m : Nat} : n < m → WLt P (g',.quit n) (g,.quit m)
theorem acc_quit (P : Program) : ∀ (n : Nat) (g : Goroutine),Acc (WLt P) (g,.quit n) := by
 intro n
 induction n using Nat.strongRecOn with
 | ind n ih =>
  intro g
  refine ⟨_,fun y hy => ?_⟩
  cases hy with
  | less h => exact ih _ h _
theorem acc_park (P : Program) (g : Goroutine) : Acc (WLt P) (g,.park) :=
 ⟨_,fun y hy => by cases hy with | out => exact acc_quit P _ _⟩
def Halts (P : Program) (Stop : JT) : Prop := ∀ g w ft g' w' es,Stop g w ft → stepG P false g w ≠ .go g' w' es
theorem acc_way {P : Program} {Stop : JT} (hS : Halts P Stop) {g : Goroutine} {w : World} {ft : Foot} (h : Toward P Stop g w ft) : Acc (WLt P) (g,.way w ft) := by
 induction h with
 | stop h1 h2 =>
  refine ⟨_,fun y hy => ?_⟩
  cases hy with
  | step hr hs => exact absurd hs (hS _ _ _ _ _ _ (h2 _ hr))
  | quit => exact acc_quit P _ _
  | park => exact acc_park P _
 | step h1 h2 _ ih =>
  refine ⟨_,fun y hy => ?_⟩
  cases hy with
  | step hr hs => exact ih _ _ _ _ hr hs
  | quit => exact acc_quit P _ _
  | park => exact acc_park P _
def locBlk : Loc → Option Nat
 | .cell a => some a.block
 | .obj r => some r
 | _ => none
def KnowsOk (t : Trace) (x : Nat) (ft : Foot) : Prop :=
 ∀ i a,touchAt t i = some a → a.loc.isMemory = true → Knows t x i ∨ ∀ b,locBlk a.loc = some b → ¬ ft.wr b ∧ (a.write = true → ¬ ft.rd b)
theorem evOk_touch {ft : Foot} {e : Event} {a : Touch} (he : EvOk ft e) (ha : (MemAct.ofEvent e).touch? = some a) : ∃ b,locBlk a.loc = some b ∧ ft.rd b ∧ (a.write = true → ft.wr b) := by
 obtain ⟨loc,wr,sync⟩ := e
 unfold EvOk at he
 cases loc with
 | cell x =>
  simp only at he
  simp only [MemAct.ofEvent,MemAct.touch?,Option.some.injEq] at ha
  subst ha
  exact ⟨_,rfl,he.2.1,he.2.2⟩
 | obj r =>
  obtain ⟨rfl,h1,h2⟩ := he
  cases wr <;> (simp only [MemAct.ofEvent,MemAct.touch?,Option.some.injEq] at ha; subst ha; exact ⟨_,rfl,h1,h2⟩)
 | mark m => cases m <;> first | exact he.elim | (simp [MemAct.ofEvent,MemAct.touch?] at ha)
 | output => exact he.elim
 | goroutines => exact he.elim
theorem touch_low {x : MemAct} {a : Touch} {n b : Nat} (hl : x.low n) (ha : x.touch? = some a) (hb : locBlk a.loc = some b) : b < n := by
 cases x with
 | access e =>
  obtain ⟨loc,wr,sy⟩ := e
  simp only [MemAct.touch?,Option.some.injEq] at ha
  subst ha
  cases loc with
  | cell x => injection hb with hb; subst hb; exact hl
  | obj x => injection hb with hb; subst hb; exact hl
  | _ => cases hb
 | mark mk =>
  cases mk with
  | read x => injection ha with ha; subst ha; injection hb with hb; subst hb; exact hl
  | write x => injection ha with ha; subst ha; injection hb with hb; subst hb; exact hl
  | _ => cases ha
 | _ => cases ha
theorem touch_app {t u : Trace} {i : Nat} {a : Touch} (h : touchAt (t ++ u) i = some a) : (i < t.size ∧ touchAt t i = some a) ∨ ∃ op ∈ u,(t ++ u)[i]? = some op ∧ op.act.touch? = some a := by
 obtain ⟨x,hx,hxa⟩ := touch_of h
 rcases getElem?_append_cases hx with ⟨hi,hx'⟩ | ⟨_,hxu⟩
 ·exact .inl ⟨hi,by rw [touchAt_of hx']; exact hxa⟩
 ·exact .inr ⟨x,hxu,hx,hxa⟩
theorem conf_blk {said : Bool} {a b : Touch} (h : a.conflicts said b) : locBlk a.loc = locBlk b.loc ∧ a.loc.isMemory = true ∧ (a.write = true ∨ b.write = true) := ⟨by rw [h.1],h.2.1,h.2.2.1⟩
section
variable {t u : Trace} {x y : Nat} {ft fy : Foot} {fn : FuncId} {pos : String} {es : Array Event}
theorem KnowsOk.noRace {said : Bool} (hc : ¬ Race said t) (hk : KnowsOk t x ft) (he : ∀ e ∈ es,EvOk ft e) : ¬ Race said (t ++ MemOp.ofEvents x fn pos es) := by
 refine noRace_append hc (fun op hop => mem_g hop) fun i a ha op hop b hb hcf => ?_
 obtain ⟨e,hee,rfl⟩ := Go.Conc.mem_ofEvents hop
 obtain ⟨bl,h1,h2,h3⟩ := evOk_touch (he e hee) hb
 obtain ⟨c1,c2,c3⟩ := conf_blk hcf
 rcases hk i a ha c2 with h | h
 ·exact h
 ·obtain ⟨n1,n2⟩ := h bl (by rw [c1]; exact h1)
  rcases c3 with c | c
  ·exact absurd h2 (n2 c)
  ·exact absurd (h3 c) n1
theorem KnowsOk.mute (hk : KnowsOk t y fy) (hu : ∀ op ∈ u,op.act.touch? = none) : KnowsOk (t ++ u) y fy := by
 intro i a ha hm
 rcases touch_app ha with ⟨hi,h⟩ | ⟨op,hop,_,h⟩
 ·exact (hk i a h hm).imp (·.app u) id
 ·rw [hu op hop] at h; cases h
theorem KnowsOk.other (hk : KnowsOk t y fy) (he : ∀ e ∈ es,EvOk ft e) (d1 : ∀ b,ft.wr b → ¬ fy.rd b) (d2 : ∀ b,fy.wr b → ¬ ft.rd b) : KnowsOk (t ++ MemOp.ofEvents x fn pos es) y fy := by
 intro i a ha hm
 rcases touch_app ha with ⟨hi,h⟩ | ⟨op,hop,_,h⟩
 ·exact (hk i a h hm).imp (·.app _) id
 ·obtain ⟨e,hee,rfl⟩ := Go.Conc.mem_ofEvents hop
  obtain ⟨bl,h1,h2,h3⟩ := evOk_touch (he e hee) h
  refine .inr fun b hb => ?_
  rw [h1] at hb
  cases hb
  exact ⟨fun hw => d2 _ hw h2,fun hw => d1 _ (h3 hw)⟩
theorem KnowsOk.own {n m : Nat} (hk : KnowsOk t x ft) (_he : ∀ e ∈ es,EvOk ft e) (hs : ∀ op ∈ t,op.act.low n) : KnowsOk (t ++ MemOp.ofEvents x fn pos es) x (ft.ext n m) := by
 intro i a ha hm
 rcases touch_app ha with ⟨hi,h⟩ | ⟨op,hop,hg,h⟩
 ·rcases hk i a h hm with hh | hh
  ·exact .inl (hh.app _)
  ·refine .inr fun b hb => ?_
   obtain ⟨n1,n2⟩ := hh b hb
   have hlow : b < n := by
    obtain ⟨z,hz,hza⟩ := touch_of h
    exact touch_low (hs z (Array.mem_of_getElem? hz)) hza hb
   exact ⟨fun hw => hw.elim n1 (fun e => by omega),fun hw hr => hr.elim (n2 hw) fun e => by omega⟩
 ·have := knows_own hg
  rw [mem_g hop] at this
  exact .inl this
theorem KnowsOk.less {f' : Foot} (hk : KnowsOk t x ft) (h1 : ∀ b,f'.rd b → ft.rd b) (h2 : ∀ b,f'.wr b → ft.wr b) : KnowsOk t x f' := fun i a ha hm =>
 (hk i a ha hm).imp id fun hh b hb => ⟨fun hw => (hh b hb).1 (h2 b hw),fun hw hr => (hh b hb).2 hw (h1 b hr)⟩
theorem low_events {n : Nat} (he : ∀ e ∈ es,EvOk ft e) (hb : ∀ b,ft.rd b → b < n) : ∀ op ∈ MemOp.ofEvents x fn pos es,op.act.low n := fun op hop => by
 obtain ⟨e,hee,rfl⟩ := Go.Conc.mem_ofEvents hop
 exact (evL_of (he e hee) hb).2.2.2
end
structure Crew where
 ch : Nat → Option (Nat × Array Value × Bool)
 c : Nat
 pend : List Nat
 phi : Nat → Value → Prop
def AtSend (P : Program) (c : Nat) (Φ : Value → Prop) : JT := fun g w _ =>
 ∃ g₂ v z,stepG P false g w = .comm g₂ #[scase c v z] true .send w #[] ∧ Φ v ∧ ∃ n,QuitsD P n 0 (Conc.served g₂ undef)
theorem atSend_halts (P : Program) (c : Nat) (Φ : Value → Prop) : Halts P (AtSend P c Φ) := fun g w ft g' w' es h e => by
 obtain ⟨g₂,v,z,h,_⟩ := h
 rw [h] at e
 cases e
structure WayOk (P : Program) (T : Crew) (t : Trace) (i k : Nat) (ft : Foot) (w : World) (g : Goroutine) (wi : World) (fi : Foot) : Prop where
 way : Toward P (AtSend P T.c (T.phi k)) g wi fi
 rely : RelyW fi wi w
 lt : ∀ b,fi.rd b → b < w.heap.size
 sub : ∀ b,fi.wr b → fi.rd b
 ch : ∀ b x,T.ch b = some x → ¬ fi.rd b
 d1 : ∀ b,fi.wr b → ¬ ft.rd b
 d2 : ∀ b,ft.wr b → ¬ fi.rd b
 know : KnowsOk t i fi
def ParkOk (P : Program) (T : Crew) (k : Nat) (g : Goroutine) : Prop := ∃ g₂ v z,g = parked g₂ #[scase T.c v z] .send ∧ T.phi k v ∧ ∃ n,QuitsD P n 0 (Conc.served g₂ undef)
structure Inv (P : Program) (W0 : World) (T : Crew) (ft : Foot) (gs : Array Goroutine) (w : World) (t : Trace) (st : Nat → WS) (ix : Nat → Nat) : Prop where
 base : Base W0 w
 lt : ∀ b,ft.rd b → b < w.heap.size
 sub : ∀ b,ft.wr b → ft.rd b
 chan : ∀ b x,T.ch b = some x → ∃ s r tm,w.heap[b]? = some (.chan x.1 x.2.1 x.2.2 s r tm)
 cnt : ∀ b x s r tm,T.ch b = some x → w.heap[b]? = some (.chan x.1 x.2.1 x.2.2 s r tm) → s = r + x.2.1.size
 chft : ∀ b x,T.ch b = some x → ¬ ft.rd b
 own : T.pend ≠ [] → T.ch T.c = some (0,#[],false)
 nd : T.pend.Nodup
 ixr : ∀ k ∈ T.pend,0 < ix k ∧ ix k < gs.size
 inj : ∀ k ∈ T.pend,∀ l ∈ T.pend,ix k = ix l → k = l
 pnd : ∀ k ∈ T.pend,∃ g,gs[ix k]? = some g ∧ Deaf t (ix k) = 0 ∧ ((∃ wi fi,st (ix k) = .way wi fi ∧ WayOk P T t (ix k) k ft w g wi fi) ∨ (st (ix k) = .park ∧ ParkOk P T k g))
 old : ∀ i g,0 < i → gs[i]? = some g → (∀ k ∈ T.pend,ix k ≠ i) → ∃ n,st i = .quit n ∧ QuitsD P n (Deaf t i) g
 disj : ∀ k ∈ T.pend,∀ l ∈ T.pend,k ≠ l → ∀ wk fk wl fl,st (ix k) = .way wk fk → st (ix l) = .way wl fl → ∀ b,fk.wr b → ¬ fl.rd b
 above : ∀ j,gs.size ≤ j → Deaf t j = 0
 hears : Deaf t 0 = 0
 clean : ∀ said,¬ Race said t
 known : KnowsOk t 0 ft
 done : ∀ i a,touchAt t i = some a → a.loc.isMemory = true → Knows t 0 i ∨ ∃ k ∈ T.pend,t.g? i = some (ix k)
 seen : ∀ op ∈ t,op.act.low w.heap.size
def MainOk (T : Crew) (g : Goroutine) : Prop := g.status = .running ∨ ∃ g₂ z sh,g = parked g₂ #[rcase T.c z] sh ∧ T.ch T.c = some (0,#[],false)
def JC (P : Program) (W0 : World) (Post : Value → World → Prop) (T : Crew) (g : Goroutine) (w : World) (ft : Foot) : Prop :=
 ∀ (gs : Array Goroutine) (w₁ : World) (sl : Option (Nat × Nat)) (t : Trace) (st : Nat → WS) (ix : Nat → Nat),RelyW ft w w₁ → gs[0]? = some g → Inv P W0 T ft gs w₁ t st ix → Ends P Post (crowd gs w₁ sl) t
section
variable {P : Program} {W0 : World} {Post : Value → World → Prop} {T : Crew} {g : Goroutine} {w w₁ w' : World} {ft : Foot} {gs : Array Goroutine} {t : Trace} {st : Nat → WS} {ix : Nat → Nat} {i : Nat} {sl : Option (Nat × Nat)}
theorem Inv.at (I : Inv P W0 T ft gs w t st ix) (d : Nat) : Inv P W0 T ft gs (w.at d) t st ix where
 base := ⟨I.base.tape,I.base.os,I.base.output,I.base.size⟩
 lt := I.lt
 sub := I.sub
 chan := I.chan
 cnt := I.cnt
 chft := I.chft
 own := I.own
 nd := I.nd
 ixr := I.ixr
 inj := I.inj
 pnd := fun k hk => by
  obtain ⟨g,h1,h2,h3⟩ := I.pnd k hk
  refine ⟨g,h1,h2,h3.imp (fun ⟨wi,fi,e,W⟩ => ⟨wi,fi,e,?_⟩) id⟩
  exact ⟨W.way,W.rely.trans (relyW_at fi w d),W.lt,W.sub,W.ch,W.d1,W.d2,W.know⟩
 old := I.old
 disj := I.disj
 above := I.above
 hears := I.hears
 clean := I.clean
 known := I.known
 done := I.done
 seen := I.seen
theorem moved_get {f : Goroutine → Goroutine} {g' : Goroutine} {j : Nat} {y : Goroutine} (hne : i ≠ j) (h : ((gs.map f).setIfInBounds i g')[j]? = some y) : ∃ z,gs[j]? = some z ∧ y = f z := by
 rw [Array.getElem?_setIfInBounds_ne hne,Array.getElem?_map] at h
 obtain ⟨z,hz,e⟩ := Option.map_eq_some_iff.1 h
 exact ⟨z,hz,e.symm⟩
theorem moved_put {f : Goroutine → Goroutine} {g' : Goroutine} {j : Nat} {z : Goroutine} (hne : i ≠ j) (h : gs[j]? = some z) (e : f z = z) : ((gs.map f).setIfInBounds i g')[j]? = some z := by
 rw [Array.getElem?_setIfInBounds_ne hne,Array.getElem?_map,h]
 simp [e]
theorem moved_own {f : Goroutine → Goroutine} {g g' : Goroutine} (h : gs[i]? = some g) : ((gs.map f).setIfInBounds i g')[i]? = some g' := by
 have hlt := (Array.getElem?_eq_some_iff.1 h).1
 rw [Array.getElem?_setIfInBounds_self_of_lt (by simpa using hlt)]
theorem main_still {x g' : Goroutine} (hm : MainOk T g) (hc : T.ch T.c = some (0,#[],false) → ∃ s r tm,w'.heap[T.c]? = some (.chan 0 #[] false s r tm)) : woken P x g' w' g = g := by
 rcases hm with h | ⟨g₂,z,sh,rfl,h⟩
 ·exact woken_run h
 ·obtain ⟨s,r,tm,h⟩ := hc h
  exact woken_recv_open _ _ h
theorem pend_still {x g' y : Goroutine} {k : Nat} (_hc : T.ch T.c = some (0,#[],false)) (hch : ∃ s r tm,w'.heap[T.c]? = some (.chan 0 #[] false s r tm)) (h : (∃ wi fi,WayOk P T t i k ft w y wi fi) ∨ ParkOk P T k y) : woken P x g' w' y = y := by
 rcases h with ⟨wi,fi,W⟩ | ⟨g₂,v,z,rfl,_⟩
 ·exact woken_run W.way.running
 ·obtain ⟨s,r,tm,h⟩ := hch
  exact woken_send_open _ _ h
theorem deaf_evs {fi : Foot} {fn : FuncId} {pos : String} {es : Array Event} {n : Nat} (he : ∀ e ∈ es,EvOk fi e) (hb : ∀ b,fi.rd b → b < n) (j : Nat) : Deaf (t ++ MemOp.ofEvents i fn pos es) j = Deaf t j := by
 by_cases h : i = j
 ·subst h
  rw [Deaf_own]
  exact deafBehind_still (fun e hm => ⟨(evL_of (he e hm) hb).2.1,(evL_of (he e hm) hb).2.2.1⟩) _
 ·rw [Deaf_other t h _ (fun op hop => mem_g hop)]
theorem g_app {u : Trace} {j : Nat} {y : Nat} (h : t.g? j = some y) : (t ++ u).g? j = some y := by
 unfold Trace.g? at h ⊢
 obtain ⟨z,hz,e⟩ := Option.map_eq_some_iff.1 h
 rw [getElem?_append_old (lt_size_of_getElem? hz),hz]
 simp [e]
theorem done_mute {u : Trace} (hd : ∀ i a,touchAt t i = some a → a.loc.isMemory = true → Knows t 0 i ∨ ∃ k ∈ T.pend,t.g? i = some (ix k)) (hu : ∀ op ∈ u,op.act.touch? = none) :
  ∀ i a,touchAt (t ++ u) i = some a → a.loc.isMemory = true → Knows (t ++ u) 0 i ∨ ∃ k ∈ T.pend,(t ++ u).g? i = some (ix k) := by
 intro i a ha hm
 rcases touch_app ha with ⟨_,h⟩ | ⟨op,hop,_,h⟩
 ·exact (hd i a h hm).imp (·.app u) fun ⟨k,hk,e⟩ => ⟨k,hk,g_app e⟩
 ·rw [hu op hop] at h; cases h
theorem Inv.quit (I : Inv P W0 T ft gs w t st ix) {x g' : Goroutine} {es : Array Event} {m : Nat} (hpos : 0 < i) (hi : gs[i]? = some x) (hn : ∀ k ∈ T.pend,ix k ≠ i) (hm : ∀ e ∈ es,Event.mute e = true)
  (hq : QuitsD P m (deafBehind (Deaf t i) es) g') : Inv P W0 T ft ((gs.map (woken P x g' w)).setIfInBounds i g') w (t ++ MemOp.ofEvents i x.frame.fn x.frame.place es) (putAt st i (.quit m)) ix := by
 have htn : ∀ op ∈ MemOp.ofEvents i x.frame.fn x.frame.place es,op.act.touch? = none := fun op hop => by
  obtain ⟨e,he,rfl⟩ := Go.Conc.mem_ofEvents hop
  exact touch_mute (hm e he)
 have hdo : ∀ j,i ≠ j → Deaf (t ++ MemOp.ofEvents i x.frame.fn x.frame.place es) j = Deaf t j := fun j hj => Deaf_other t hj _ (fun op hop => mem_g hop)
 have hlt : i < gs.size := (Array.getElem?_eq_some_iff.1 hi).1
 refine { base := I.base,lt := I.lt,sub := I.sub,chan := I.chan,cnt := I.cnt,chft := I.chft,own := I.own,nd := I.nd,ixr := fun k hk => ?_,inj := I.inj,pnd := fun k hk => ?_,old := fun j y hj hy hnj => ?_,disj := fun k hk l hl hkl wk fk wl fl e1 e2 => ?_,above := fun j hj => ?_,hears := ?_,clean := fun said => ?_,known := I.known.mute htn,done := done_mute I.done htn,seen := ?_ }
 ·simpa using I.ixr k hk
 ·obtain ⟨y,h1,h2,h3⟩ := I.pnd k hk
  have hne : i ≠ ix k := fun e => hn k hk e.symm
  have hown := I.own (List.ne_nil_of_mem hk)
  have hst : woken P x g' w y = y := pend_still (t := t) (i := ix k) (ft := ft) (w := w) hown (I.chan _ _ hown) (h3.imp (fun ⟨a,b,_,c⟩ => ⟨a,b,c⟩) fun h => h.2)
  refine ⟨y,moved_put hne h1 hst,by rw [hdo _ hne]; exact h2,?_⟩
  rw [putAt_ne _ _ (Ne.symm hne)]
  refine h3.imp (fun ⟨wi,fi,e,W⟩ => ⟨wi,fi,e,W.way,W.rely,W.lt,W.sub,W.ch,W.d1,W.d2,W.know.mute htn⟩) id
 ·by_cases hji : i = j
  ·subst hji
   rw [moved_own hi] at hy
   cases hy
   exact ⟨m,putAt_self _ _ _,by rw [Deaf_own]; exact hq⟩
  ·obtain ⟨z,hz,rfl⟩ := moved_get hji hy
   obtain ⟨n,e,hqz⟩ := I.old j z hj hz hnj
   refine ⟨n,by rw [putAt_ne _ _ (Ne.symm hji)]; exact e,?_⟩
   rw [woken_quitsD hqz,hdo _ hji]
   exact hqz
 ·rw [putAt_ne _ _ (hn k hk)] at e1
  rw [putAt_ne _ _ (hn l hl)] at e2
  exact I.disj k hk l hl hkl wk fk wl fl e1 e2
 ·have : i ≠ j := by simp at hj; omega
  rw [hdo _ this]
  exact I.above j (by simpa using hj)
 ·rw [hdo _ (by omega)]
  exact I.hears
 ·exact noRace_append (I.clean said) (fun op hop => mem_g hop) fun _ _ _ op hop b hb _ => by rw [htn op hop] at hb; cases hb
 ·exact seen_app I.seen fun op hop => by
   obtain ⟨e,he,rfl⟩ := Go.Conc.mem_ofEvents hop
   exact low_mute (hm e he) _
theorem Inv.walk (I : Inv P W0 T ft gs w t st ix) {k : Nat} (hk : k ∈ T.pend) {x g' : Goroutine} {es : Array Event} {wi : World} {fi : Foot} (hi : gs[ix k]? = some x) (hst : st (ix k) = .way wi fi) (W : WayOk P T t (ix k) k ft w x wi fi)
  (hgu : GuarW fi w w' es) (hto : Toward P (AtSend P T.c (T.phi k)) g' w' (fi.ext w.heap.size w'.heap.size)) :
  Inv P W0 T ft ((gs.map (woken P x g' w')).setIfInBounds (ix k) g') w' (t ++ MemOp.ofEvents (ix k) x.frame.fn x.frame.place es) (putAt st (ix k) (.way w' (fi.ext w.heap.size w'.heap.size))) ix := by
 have hsz := hgu.size
 have hdf := fun j => deaf_evs (t := t) (i := ix k) (fn := x.frame.fn) (pos := x.frame.place) hgu.evs W.lt j
 have hch : ∀ b y,T.ch b = some y → ∃ s r tm,w'.heap[b]? = some (.chan y.1 y.2.1 y.2.2 s r tm) := fun b y hb => by
  obtain ⟨s,r,tm,e⟩ := I.chan b y hb
  have hlt : b < w.heap.size := (Array.getElem?_eq_some_iff.1 e).1
  exact ⟨s,r,tm,by rw [hgu.heap b hlt fun hw => W.ch b y hb (W.sub b hw)]; exact e⟩
 have hcnt : ∀ b y s r tm,T.ch b = some y → w'.heap[b]? = some (.chan y.1 y.2.1 y.2.2 s r tm) → s = r + y.2.1.size := fun b y s r tm hb hw' => by
  obtain ⟨s',r',tm',e⟩ := I.chan b y hb
  have hlt : b < w.heap.size := (Array.getElem?_eq_some_iff.1 e).1
  rw [hgu.heap b hlt fun hw => W.ch b y hb (W.sub b hw)] at hw'
  exact I.cnt b y s r tm hb hw'
 have hown := I.own (List.ne_nil_of_mem hk)
 have other : ∀ {fy : Foot},(∀ b,fi.wr b → ¬ fy.rd b) → (∀ b,fy.rd b → b < w.heap.size) → ∀ b,fy.rd b → w'.heap[b]? = w.heap[b]? := fun hd hl b hb => hgu.heap b (hl b hb) fun hw => hd b hw hb
 refine { base := ⟨hgu.tape.trans I.base.tape,hgu.os.trans I.base.os,hgu.output.trans I.base.output,Nat.le_trans I.base.size hsz⟩,lt := fun b hb => Nat.lt_of_lt_of_le (I.lt b hb) hsz,sub := I.sub,chan := hch,cnt := hcnt,chft := I.chft,own := I.own,nd := I.nd,ixr := fun l hl => ?_,inj := I.inj,pnd := fun l hl => ?_,old := fun j y hj hy hnj => ?_,disj := fun a ha b hb hab wa fa wb fb e1 e2 => ?_,above := fun j hj => ?_,hears := ?_,clean := fun said => W.know.noRace (I.clean said) hgu.evs,known := I.known.other hgu.evs W.d1 W.d2,done := fun j a ha hm => ?_,seen := ?_ }
 ·simpa using I.ixr l hl
 ·by_cases hlk : l = k
  ·subst hlk
   refine ⟨g',moved_own hi,by rw [hdf]; obtain ⟨_,_,h2,_⟩ := I.pnd l hk; exact h2,.inl ⟨w',_,putAt_self _ _ _,?_⟩⟩
   refine ⟨hto,RelyW.refl _ _,fun b hb => ?_,fun b hb => ?_,fun b y hb hr => ?_,fun b hb hr => ?_,fun b hb hr => ?_,W.know.own hgu.evs I.seen⟩
   ·rcases hb with hb | hb
    ·exact Nat.lt_of_lt_of_le (W.lt b hb) hsz
    ·exact hb.2
   ·rcases hb with hb | hb
    ·exact .inl (W.sub b hb)
    ·exact .inr hb
   ·rcases hr with hr | hr
    ·exact W.ch b y hb hr
    ·obtain ⟨s,r,tm,e⟩ := I.chan b y hb
     have hlt : b < w.heap.size := (Array.getElem?_eq_some_iff.1 e).1
     omega
   ·rcases hb with hb | hb
    ·exact W.d1 b hb hr
    ·have := I.lt b hr
     omega
   ·rcases hr with hr | hr
    ·exact W.d2 b hb hr
    ·have := I.lt b (I.sub b hb)
     omega
  ·obtain ⟨y,h1,h2,h3⟩ := I.pnd l hl
   have hne : ix k ≠ ix l := fun e => hlk (I.inj k hk l hl e).symm
   have hst' : woken P x g' w' y = y := pend_still (t := t) (i := ix l) (ft := ft) (w := w) hown (hch _ _ hown) (h3.imp (fun ⟨a,b,_,c⟩ => ⟨a,b,c⟩) fun h => h.2)
   refine ⟨y,moved_put hne h1 hst',by rw [hdf]; exact h2,?_⟩
   rw [putAt_ne _ _ (Ne.symm hne)]
   refine h3.imp (fun ⟨wl,fl,e,V⟩ => ⟨wl,fl,e,?_⟩) id
   have hd := I.disj k hk l hl (fun e => hlk e.symm) wi fi wl fl hst e
   have hd' := I.disj l hl k hk hlk wl fl wi fi e hst
   exact ⟨V.way,V.rely.trans ⟨fun b hb => other hd V.lt b hb,hsz,hgu.tape,hgu.os,hgu.output⟩,fun b hb => Nat.lt_of_lt_of_le (V.lt b hb) hsz,V.sub,V.ch,V.d1,V.d2,V.know.other hgu.evs hd hd'⟩
 ·by_cases hji : ix k = j
  ·exact absurd hji (hnj k hk)
  ·obtain ⟨z,hz,rfl⟩ := moved_get hji hy
   obtain ⟨n,e,hqz⟩ := I.old j z hj hz hnj
   refine ⟨n,by rw [putAt_ne _ _ (Ne.symm hji)]; exact e,?_⟩
   rw [woken_quitsD hqz,hdf]
   exact hqz
 ·have low : ∀ l,l ∈ T.pend → ∀ wl fl,st (ix l) = .way wl fl → ∀ b,fl.rd b → b < w.heap.size := fun l hl wl fl e => by
   obtain ⟨y,_,_,h3⟩ := I.pnd l hl
   rcases h3 with ⟨_,_,e',V⟩ | ⟨e',_⟩
   ·rw [e] at e'
    cases e'
    exact V.lt
   ·rw [e] at e'
    cases e'
  have sub : ∀ l,l ∈ T.pend → ∀ wl fl,st (ix l) = .way wl fl → ∀ b,fl.wr b → fl.rd b := fun l hl wl fl e => by
   obtain ⟨y,_,_,h3⟩ := I.pnd l hl
   rcases h3 with ⟨_,_,e',V⟩ | ⟨e',_⟩
   ·rw [e] at e'
    cases e'
    exact V.sub
   ·rw [e] at e'
    cases e'
  by_cases hak : a = k
  ·subst hak
   rw [putAt_self] at e1
   cases e1
   have hne : ix b ≠ ix a := fun e => hab (I.inj b hb a ha e).symm
   rw [putAt_ne _ _ hne] at e2
   intro y hy hr
   rcases hy with hy | hy
   ·exact I.disj a ha b hb hab wi fi wb fb hst e2 y hy hr
   ·have := low b hb wb fb e2 y hr
    omega
  ·have hne : ix a ≠ ix k := fun e => hak (I.inj a ha k hk e)
   rw [putAt_ne _ _ hne] at e1
   by_cases hbk : b = k
   ·subst hbk
    rw [putAt_self] at e2
    cases e2
    intro y hy hr
    rcases hr with hr | hr
    ·exact I.disj a ha b hb hab wa fa wi fi e1 hst y hy hr
    ·have := low a ha wa fa e1 y (sub a ha wa fa e1 y hy)
     omega
   ·have hne' : ix b ≠ ix k := fun e => hbk (I.inj b hb k hk e)
    rw [putAt_ne _ _ hne'] at e2
    exact I.disj a ha b hb hab wa fa wb fb e1 e2
 ·rw [hdf]
  exact I.above j (by simpa using hj)
 ·rw [hdf]
  exact I.hears
 ·rcases touch_app ha with ⟨_,h⟩ | ⟨op,hop,hg,h⟩
  ·exact (I.done j a h hm).imp (·.app _) fun ⟨l,hl,e⟩ => ⟨l,hl,g_app e⟩
  ·refine .inr ⟨k,hk,?_⟩
   unfold Trace.g?
   rw [hg]
   simp [mem_g hop]
 ·exact seen_app (fun op hop => MemAct.low_mono hsz (I.seen op hop)) fun op hop => MemAct.low_mono hsz (low_events hgu.evs W.lt op hop)
end
def Crew.less (T : Crew) (k : Nat) : Crew := { T with pend := T.pend.erase k }
def meas (gs : Array Goroutine) (st : Nat → WS) : Nat → Goroutine × WS := fun i => if i = 0 then (default,.quit 0) else (gs.getD i default,st i)
section
variable {P : Program} {W0 : World} {Post : Value → World → Prop} {T : Crew} {g g0 : Goroutine} {w w₁ w' : World} {ft : Foot} {gs gs' : Array Goroutine} {t : Trace} {st st' : Nat → WS} {ix : Nat → Nat} {i k : Nat} {sl : Option (Nat × Nat)}
theorem meas_acc (I : Inv P W0 T ft gs w t st ix) : Acc (Less (WLt P) gs.size) (meas gs st) := by
 refine less_acc _ _ _ fun j hj => ?_
 by_cases h0 : j = 0
 ·have e : meas gs st j = (default,.quit 0) := if_pos h0
  rw [e]
  exact acc_quit P _ _
 ·have e : meas gs st j = (gs.getD j default,st j) := if_neg h0
  rw [e]
  clear e
  have hg : gs[j]? = some gs[j] := Array.getElem?_eq_getElem hj
  have hd : gs.getD j default = gs[j] := by rw [Array.getD_eq_getD_getElem?,hg]; rfl
  rw [hd]
  by_cases hp : ∃ k ∈ T.pend,ix k = j
  ·obtain ⟨k,hk,rfl⟩ := hp
   obtain ⟨y,h1,_,h3⟩ := I.pnd k hk
   rw [hg] at h1
   cases h1
   rcases h3 with ⟨wi,fi,e,W⟩ | ⟨e,_⟩
   ·rw [e]
    exact acc_way (atSend_halts P _ _) W.way
   ·rw [e]
    exact acc_park P _
  ·obtain ⟨n,e,_⟩ := I.old j gs[j] (by omega) hg fun k hk e => hp ⟨k,hk,e⟩
   rw [e]
   exact acc_quit P _ _
theorem meas_less (hi : i < gs.size) (h0 : 0 < i) (_hs : gs'.size = gs.size) {x y : Goroutine} {a b : WS} (hx : gs[i]? = some x) (hy : gs'[i]? = some y) (ha : st i = a) (hb : st' i = b) (hr : WLt P (y,b) (x,a))
  (ho : ∀ j,0 < j → j ≠ i → gs'[j]? = gs[j]? ∧ st' j = st j) : Less (WLt P) gs.size (meas gs' st') (meas gs st) := by
 refine ⟨i,hi,?_,fun j hj => ?_⟩
 ·have h0' : ¬ i = 0 := by omega
  unfold meas
  rw [if_neg h0',if_neg h0',Array.getD_eq_getD_getElem?,Array.getD_eq_getD_getElem?,hx,hy,ha,hb]
  exact hr
 ·by_cases hj0 : j = 0
  ·have e1 : meas gs' st' j = (default,.quit 0) := if_pos hj0
   have e2 : meas gs st j = (default,.quit 0) := if_pos hj0
   rw [e1,e2]
  ·obtain ⟨e1,e2⟩ := ho j (by omega) hj
   have x1 : meas gs' st' j = (gs'.getD j default,st' j) := if_neg hj0
   have x2 : meas gs st j = (gs.getD j default,st j) := if_neg hj0
   rw [x1,x2,Array.getD_eq_getD_getElem?,Array.getD_eq_getD_getElem?,e1,e2]
theorem Inv.still (I : Inv P W0 T ft gs w t st ix) {x g' : Goroutine} (hc : ∀ b y,T.ch b = some y → ∃ s r tm,w'.heap[b]? = some (.chan y.1 y.2.1 y.2.2 s r tm)) : ∀ (j : Nat) (y : Goroutine),0 < j → gs[j]? = some y → woken P x g' w' y = y := by
 intro j y hj hy
 by_cases hp : ∃ k ∈ T.pend,ix k = j
 ·obtain ⟨k,hk,rfl⟩ := hp
  obtain ⟨z,h1,_,h3⟩ := I.pnd k hk
  rw [hy] at h1
  cases h1
  have hown := I.own (List.ne_nil_of_mem hk)
  exact pend_still (t := t) (i := ix k) (ft := ft) (w := w) hown (hc _ _ hown) (h3.imp (fun ⟨a,b,_,c⟩ => ⟨a,b,c⟩) fun h => h.2)
 ·obtain ⟨n,_,hq⟩ := I.old j y hj hy fun k hk e => hp ⟨k,hk,e⟩
  exact woken_quitsD hq
theorem moved_same (I : Inv P W0 T ft gs w t st ix) {x g' : Goroutine} (hc : ∀ b y,T.ch b = some y → ∃ s r tm,w'.heap[b]? = some (.chan y.1 y.2.1 y.2.2 s r tm)) {j : Nat} (h0 : 0 < j) (hj : j ≠ i) : ((gs.map (woken P x g' w')).setIfInBounds i g')[j]? = gs[j]? := by
 rw [Array.getElem?_setIfInBounds_ne (Ne.symm hj),Array.getElem?_map]
 cases e : gs[j]? with
 | none => rfl
 | some y => rw [Option.map_some,I.still hc j y h0 e]
theorem park_put {a : WS} (h : a ≠ .park) : ∀ j,putAt st i a j = .park → st j = .park := fun j e => by
 by_cases hj : j = i
 ·subst hj
  rw [putAt_self] at e
  exact absurd e h
 ·rwa [putAt_ne _ _ hj] at e
theorem Inv.other (I : Inv P W0 T ft gs w t st ix) (hm : MainOk T g0) (h0 : gs[0]? = some g0) (hpos : 0 < i) {x : Goroutine} (hi : gs[i]? = some x) (hrun : x.status = .running) :
  (∃ gs' w' ops st',runT P (crowd gs w sl) i = (.next (crowd gs' w' sl),ops) ∧ gs'.size = gs.size ∧ gs'[0]? = some g0 ∧ RelyW ft w w' ∧ Inv P W0 T ft gs' w' (t ++ ops) st' ix ∧ Less (WLt P) gs.size (meas gs' st') (meas gs st) ∧ ∀ j,st' j = .park → st j = .park) ∨
  (∃ k wi fi,k ∈ T.pend ∧ ix k = i ∧ st i = .way wi fi ∧ AtSend P T.c (T.phi k) x w fi) := by
 have hi0 : (i == 0) = false := by simp; omega
 have hlt : i < gs.size := (Array.getElem?_eq_some_iff.1 hi).1
 by_cases hp : ∃ k ∈ T.pend,ix k = i
 ·obtain ⟨k,hk,rfl⟩ := hp
  obtain ⟨y,h1,_,h3⟩ := I.pnd k hk
  rw [hi] at h1
  cases h1
  rcases h3 with ⟨wi,fi,e,W⟩ | ⟨_,g₂,v,z,rfl,_⟩
  ·cases hw : W.way with
   | stop _ hs => exact .inr ⟨k,wi,fi,hk,rfl,e,hs w W.rely⟩
   | step _ h2 h3 =>
    obtain ⟨g',w',es,hgo,hr',hgu⟩ := h2 w W.rely
    have hto := h3 w g' w' es W.rely hgo
    have hI := I.walk hk hi e W hgu hto
    have hch := hI.chan
    have hrel : RelyW ft w w' := ⟨fun b hb => hgu.heap b (I.lt b hb) fun hwr => W.d1 b hwr hb,hgu.size,hgu.tape,hgu.os,hgu.output⟩
    refine .inl ⟨_,w',_,_,runT_crowd_go (P := P) (sl := sl) hi (by rw [hi0]; exact hgo),by simp,?_,hrel,hI,?_,park_put (by simp)⟩
    ·exact moved_put (by omega) h0 (main_still hm fun h => hch _ _ h)
    ·exact meas_less hlt hpos (by simp) hi (moved_own hi) e (putAt_self _ _ _) (.step W.rely hgo) fun j hj hji => ⟨moved_same I hch hj hji,putAt_ne _ _ hji⟩
  ·cases hrun
 ·have hn : ∀ k ∈ T.pend,ix k ≠ i := fun k hk e => hp ⟨k,hk,e⟩
  obtain ⟨n,e,hq⟩ := I.old i x hpos hi hn
  cases n with
  | zero => rw [hq.1] at hrun; cases hrun
  | succ m =>
   rcases hq with ⟨hf,_⟩ | ⟨_,g',es,hmu,hst,hq'⟩
   ·rw [hf] at hrun; cases hrun
   have hI := I.quit hpos hi hn hmu hq'
   refine .inl ⟨_,w,_,_,runT_crowd_go (P := P) (sl := sl) hi (by rw [hi0]; exact hst w),by simp,?_,RelyW.refl _ _,hI,?_,park_put (by simp)⟩
   ·exact moved_put (by omega) h0 (main_still hm fun h => I.chan _ _ h)
   ·exact meas_less hlt hpos (by simp) hi (moved_own hi) e (putAt_self _ _ _) (.less (Nat.lt_succ_self m)) fun j hj hji => ⟨moved_same I I.chan hj hji,putAt_ne _ _ hji⟩
theorem Inv.awake (I : Inv P W0 T ft gs w t st ix) (h0 : gs[0]? = some g0) (hm : MainOk T g0) : ∀ g ∈ gs,awake g := by
 intro y hy
 obtain ⟨j,hj,rfl⟩ := Array.mem_iff_getElem.1 hy
 have hg : gs[j]? = some gs[j] := Array.getElem?_eq_getElem hj
 rcases Nat.eq_zero_or_pos j with rfl | hpos
 ·have : gs[0] = g0 := by rw [hg] at h0; exact Option.some.inj h0
  rw [this]
  rcases hm with h | ⟨g₂,z,sh,rfl,_⟩
  ·exact awake_of (.inl h)
  ·exact awake_of (.inr (.inl rfl))
 ·by_cases hp : ∃ k ∈ T.pend,ix k = j
  ·obtain ⟨k,hk,rfl⟩ := hp
   obtain ⟨z,h1,_,h3⟩ := I.pnd k hk
   rw [hg] at h1
   cases h1
   rcases h3 with ⟨_,_,_,W⟩ | ⟨_,g₂,v,z,e,_⟩
   ·exact awake_of (.inl W.way.running)
   ·rw [e]
    exact awake_of (.inr (.inl rfl))
  ·obtain ⟨n,_,hq⟩ := I.old j _ hpos hg fun k hk e => hp ⟨k,hk,e⟩
   exact awake_of (hq.status.elim .inl fun x => .inr (.inr x))
theorem Inv.noRecv (I : Inv P W0 T ft gs w t st ix) {j : Nat} {y : Goroutine} (hj : 0 < j) (hy : gs[j]? = some y) (c : Nat) : offersAt y c false = [] := by
 by_cases hp : ∃ k ∈ T.pend,ix k = j
 ·obtain ⟨k,hk,rfl⟩ := hp
  obtain ⟨z,h1,_,h3⟩ := I.pnd k hk
  rw [hy] at h1
  cases h1
  rcases h3 with ⟨_,_,_,W⟩ | ⟨_,g₂,v,z,rfl,_⟩
  ·exact offersAt_of_not_blocked (by rw [W.way.running]; simp) _ _
  ·exact offersAt_parked_send' _ _ _ _ _ _
 ·obtain ⟨n,_,hq⟩ := I.old j _ hj hy fun k hk e => hp ⟨k,hk,e⟩
  exact offersAt_of_not_blocked (by rcases hq.status with h | h <;> rw [h] <;> simp) _ _
theorem Inv.parks (I : Inv P W0 T ft gs w t st ix) (hk : k ∈ T.pend) {g₂ : Goroutine} {v z : Value} (hv : T.phi k v) (hq : ∃ n,QuitsD P n 0 (Conc.served g₂ undef)) :
  Inv P W0 T ft (gs.setIfInBounds (ix k) (parked g₂ #[scase T.c v z] .send)) w t (putAt st (ix k) .park) ix := by
 have hlt := I.ixr k hk
 refine { base := I.base,lt := I.lt,sub := I.sub,chan := I.chan,cnt := I.cnt,chft := I.chft,own := I.own,nd := I.nd,ixr := fun l hl => by simpa using I.ixr l hl,inj := I.inj,pnd := fun l hl => ?_,old := fun j y hj hy hnj => ?_,disj := fun a ha b hb hab wa fa wb fb e1 e2 => ?_,above := fun j hj => I.above j (by simpa using hj),hears := I.hears,clean := I.clean,known := I.known,done := I.done,seen := I.seen }
 ·by_cases hlk : l = k
  ·subst hlk
   obtain ⟨_,_,h2,_⟩ := I.pnd l hl
   exact ⟨_,Array.getElem?_setIfInBounds_self_of_lt hlt.2,h2,.inr ⟨putAt_self _ _ _,g₂,v,z,rfl,hv,hq⟩⟩
  ·have hne : ix k ≠ ix l := fun e => hlk (I.inj k hk l hl e).symm
   obtain ⟨y,h1,h2,h3⟩ := I.pnd l hl
   exact ⟨y,by rw [Array.getElem?_setIfInBounds_ne hne]; exact h1,h2,by rw [putAt_ne _ _ (Ne.symm hne)]; exact h3⟩
 ·have hne : ix k ≠ j := hnj k hk
  rw [Array.getElem?_setIfInBounds_ne hne] at hy
  rw [putAt_ne _ _ (Ne.symm hne)]
  exact I.old j y hj hy hnj
 ·by_cases hak : ix a = ix k
  ·rw [hak,putAt_self] at e1; cases e1
  ·by_cases hbk : ix b = ix k
   ·rw [hbk,putAt_self] at e2; cases e2
   ·rw [putAt_ne _ _ hak] at e1
    rw [putAt_ne _ _ hbk] at e2
    exact I.disj a ha b hb hab wa fa wb fb e1 e2
end
section
variable {P : Program} {W0 : World} {Post : Value → World → Prop} {T : Crew} {g g0 : Goroutine} {w w₁ w' : World} {ft : Foot} {gs gs' : Array Goroutine} {t : Trace} {st st' : Nat → WS} {ix : Nat → Nat} {i k : Nat} {sl : Option (Nat × Nat)}
theorem evs_nil (t : Trace) (i : Nat) (fn : FuncId) (pos : String) : t ++ MemOp.ofEvents i fn pos #[] = t := by
 rw [ofEvents_eq]
 simp
theorem JC.main (hrun : g.status = .running) (h : ∀ gs w₁ sl t st ix,RelyW ft w w₁ → gs[0]? = some g → Inv P W0 T ft gs w₁ t st ix → ∃ m' ops,runT P (crowd gs w₁ sl) 0 = (.next m',ops) ∧ Ends P Post m' (t ++ ops)) : JC P W0 Post T g w ft := by
 intro gs w₁ sl t st ix hrel h0 I
 have hacc := meas_acc I
 generalize hM : meas gs st = M at hacc
 generalize hn : gs.size = n at hacc
 induction hacc generalizing gs w₁ sl t st with
 | intro M _ ih =>
  obtain ⟨i,x,d,sl',hi,hx,hst⟩ := crowd_pick (P := P) (w := w₁) (sl := sl) (I.awake h0 (.inl hrun)) ⟨0,g,h0,hrun⟩
  rcases Nat.eq_zero_or_pos i with rfl | hpos
  ·obtain rfl : x = g := by rw [h0] at hi; exact (Option.some.inj hi).symm
   obtain ⟨m',ops,hr,he⟩ := h gs (w₁.at d) sl' t st ix (hrel.trans (relyW_at ft w₁ d)) h0 (I.at d)
   exact Ends.next (hst.trans hr) he
  ·have hi0 : (i == 0) = false := by simp; omega
   rcases (I.at d).other (sl := sl') (.inl hrun) h0 hpos hi hx with ⟨gs',w',ops,st',hr,hs,h0',hrel',I',hl,_⟩ | ⟨k,wi,fi,hk,rfl,e,g₂,v,z,hgo,hv,hq⟩
   ·subst hM hn
    exact Ends.next (hst.trans hr) (ih _ hl gs' w' sl' _ st' ((hrel.trans (relyW_at ft w₁ d)).trans hrel') h0' I' rfl hs)
   ·subst hM hn
    have hown := I.own (List.ne_nil_of_mem hk)
    obtain ⟨s,r,tm,hc⟩ := I.chan _ _ hown
    have hr := crowd_waits (P := P) (sl := sl') (gs := gs) (w := w₁.at d) hi (show stepG P (ix k == 0) x (w₁.at d) = _ from by rw [hi0]; exact hgo) fun cc hcc => by
     obtain rfl : cc = scase T.c v z := by simpa using hcc
     refine ways_send_none (w₁ := w₁.at d) hc (Nat.zero_le _) (partners_nil fun j y hy => ?_)
     rcases getElem?_stand _ _ _ _ hy with ⟨_,rfl⟩ | ⟨_,hy⟩
     ·rfl
     ·rcases Nat.eq_zero_or_pos j with rfl | hj
      ·rw [h0] at hy
       cases hy
       exact offersAt_of_not_blocked (by rw [hrun]; simp) _ _
      ·exact I.noRecv hj hy _
    refine Ends.next (hst.trans hr) ?_
    rw [evs_nil]
    have hlt := I.ixr k hk
    refine ih _ ?_ (gs.setIfInBounds (ix k) (parked g₂ #[scase T.c v z] .send)) (w₁.at d) sl' t (putAt st (ix k) .park) (hrel.trans (relyW_at ft w₁ d)) (by rw [Array.getElem?_setIfInBounds_ne (by omega)]; exact h0) ((I.at d).parks hk hv hq) rfl (by simp)
    exact meas_less hlt.2 hpos (by simp) hi (Array.getElem?_setIfInBounds_self_of_lt hlt.2) e (putAt_self _ _ _) .park fun j hj hji => ⟨Array.getElem?_setIfInBounds_ne (Ne.symm hji),putAt_ne _ _ hji⟩
theorem Inv.main (I : Inv P W0 T ft gs w t st ix) (_h0 : gs[0]? = some g) {g' : Goroutine} {es : Array Event} (hgu : GuarW ft w w' es) :
  Inv P W0 T (ft.ext w.heap.size w'.heap.size) ((gs.map (woken P g g' w')).setIfInBounds 0 g') w' (t ++ MemOp.ofEvents 0 g.frame.fn g.frame.place es) st ix := by
 have hsz := hgu.size
 have hdf := fun j => deaf_evs (t := t) (i := 0) (fn := g.frame.fn) (pos := g.frame.place) hgu.evs I.lt j
 have heap : ∀ b y,T.ch b = some y → w'.heap[b]? = w.heap[b]? := fun b y hb => by
  obtain ⟨s,r,tm,e⟩ := I.chan b y hb
  exact hgu.heap b (Array.getElem?_eq_some_iff.1 e).1 fun hw => I.chft b y hb (I.sub b hw)
 have hch : ∀ b y,T.ch b = some y → ∃ s r tm,w'.heap[b]? = some (.chan y.1 y.2.1 y.2.2 s r tm) := fun b y hb => by
  rw [heap b y hb]
  exact I.chan b y hb
 refine { base := ⟨hgu.tape.trans I.base.tape,hgu.os.trans I.base.os,hgu.output.trans I.base.output,Nat.le_trans I.base.size hsz⟩,lt := fun b hb => ?_,sub := fun b hb => ?_,chan := hch,cnt := fun b y s r tm hb hw => I.cnt b y s r tm hb (by rw [← heap b y hb]; exact hw),chft := fun b y hb hr => ?_,own := I.own,nd := I.nd,ixr := fun l hl => by simpa using I.ixr l hl,inj := I.inj,pnd := fun l hl => ?_,old := fun j y hj hy hnj => ?_,disj := I.disj,above := fun j hj => ?_,hears := by rw [hdf]; exact I.hears,clean := fun said => I.known.noRace (I.clean said) hgu.evs,known := I.known.own hgu.evs I.seen,done := fun j a ha hm => ?_,seen := ?_ }
 ·rcases hb with hb | hb
  ·exact Nat.lt_of_lt_of_le (I.lt b hb) hsz
  ·exact hb.2
 ·rcases hb with hb | hb
  ·exact .inl (I.sub b hb)
  ·exact .inr hb
 ·rcases hr with hr | hr
  ·exact I.chft b y hb hr
  ·obtain ⟨s,r,tm,e⟩ := I.chan b y hb
   have hlt : b < w.heap.size := (Array.getElem?_eq_some_iff.1 e).1
   omega
 ·obtain ⟨y,h1,h2,h3⟩ := I.pnd l hl
  have hpos := (I.ixr l hl).1
  refine ⟨y,moved_put (by omega) h1 (I.still hch _ _ hpos h1),by rw [hdf]; exact h2,h3.imp (fun ⟨wl,fl,e,V⟩ => ⟨wl,fl,e,?_⟩) id⟩
  have heq : ∀ b,fl.rd b → w'.heap[b]? = w.heap[b]? := fun b hb => hgu.heap b (V.lt b hb) fun hw => V.d2 b hw hb
  refine ⟨V.way,V.rely.trans ⟨heq,hsz,hgu.tape,hgu.os,hgu.output⟩,fun b hb => Nat.lt_of_lt_of_le (V.lt b hb) hsz,V.sub,V.ch,fun b hb hr => ?_,fun b hb hr => ?_,V.know.other hgu.evs V.d2 V.d1⟩
  ·rcases hr with hr | hr
   ·exact V.d1 b hb hr
   ·have := V.lt b (V.sub b hb)
    omega
  ·rcases hb with hb | hb
   ·exact V.d2 b hb hr
   ·have := V.lt b hr
    omega
 ·obtain ⟨z,hz,rfl⟩ := moved_get (by omega) hy
  obtain ⟨n,e,hqz⟩ := I.old j z hj hz hnj
  refine ⟨n,e,?_⟩
  rw [woken_quitsD hqz,hdf]
  exact hqz
 ·rw [hdf]
  exact I.above j (by simpa using hj)
 ·rcases touch_app ha with ⟨_,h⟩ | ⟨op,hop,hg,h⟩
  ·exact (I.done j a h hm).imp (·.app _) fun ⟨l,hl,e⟩ => ⟨l,hl,g_app e⟩
  ·have := knows_own hg
   rw [mem_g hop] at this
   exact .inl this
 ·exact seen_app (fun op hop => MemAct.low_mono hsz (I.seen op hop)) fun op hop => MemAct.low_mono hsz (low_events hgu.evs I.lt op hop)
theorem JC.closed (P : Program) (W0 : World) (Post : Value → World → Prop) (T : Crew) : Closed P true (JC P W0 Post T) where
 rely := fun h hr gs w₂ sl t st ix hrel h0 I => h gs w₂ sl t st ix (hr.trans hrel) h0 I
 step := fun hrun h => JC.main hrun fun gs w₁ sl t st ix hrel h0 I => by
  obtain ⟨g',w',es,hgo,hr',hgu,hJ⟩ := h w₁ hrel
  refine ⟨_,_,runT_crowd_go (P := P) (sl := sl) (i := 0) h0 (show stepG P (0 == 0) _ w₁ = _ from hgo),?_⟩
  exact hJ _ w' sl _ st ix (RelyW.refl _ _) (moved_own h0) (I.main h0 hgu)
theorem JC.last {f' : Foot} (hp : T.pend = []) (hrd : ∀ b,f'.rd b → ft.rd b ∨ (T.ch b).isSome = true) (hsub : ∀ b,f'.wr b → f'.rd b)
  (h : ∀ w₂,RelyW ft w w₂ → (∀ b,(T.ch b).isSome = true → b < w₂.heap.size) → J1 P W0 Post g w₂ f') : JC P W0 Post T g w ft := by
 intro gs w₁ sl t st ix hrel h0 I
 have hchl : ∀ b,(T.ch b).isSome = true → b < w₁.heap.size := fun b hb => by
  obtain ⟨x,hx⟩ := Option.isSome_iff_exists.1 hb
  obtain ⟨s,r,tm,e⟩ := I.chan b x hx
  exact (Array.getElem?_eq_some_iff.1 e).1
 refine h w₁ hrel hchl gs w₁ sl t (fun i => match st i with | .quit n => n | _ => 0) (fun b hb => (hrd b hb).elim (I.lt b) (hchl b)) hsub (RelyW.refl _ _) I.base h0 ⟨fun j y hj hy => ?_,I.above⟩ ?_
 ·obtain ⟨n,e,hq⟩ := I.old j y hj hy (by rw [hp]; simp)
  rw [e]
  exact hq
 ·have kn : ∀ i a,touchAt t i = some a → a.loc.isMemory = true → Knows t 0 i := fun i a ha hm => by
   rcases I.done i a ha hm with h | ⟨k,hk,_⟩
   ·exact h
   ·rw [hp] at hk
    cases hk
  refine ⟨I.clean,fun i a ha hm => .inl (kn i a ha hm),fun i x hx hne hc => ?_,I.hears,I.seen⟩
  obtain ⟨a,ha,hm,_⟩ := hc
  obtain ⟨q,z,h1,h2,h3⟩ := kn i a ha hm
  rcases h3 with rfl | h3
  ·unfold Trace.g? at hx
   rw [h1] at hx
   simp at hx
   omega
  ·exact ⟨q,by unfold Trace.g?; rw [h1]; simp [h2],h3⟩
end
def Crew.more (T : Crew) (k : Nat) : Crew := { T with pend := T.pend ++ [k] }
def Foot.lend (ft : Foot) : Foot := ⟨ft.rd,fun _ => False,ft.tag⟩
section
variable {P : Program} {W0 : World} {Post : Value → World → Prop} {T : Crew} {g g0 : Goroutine} {w w₁ w' : World} {ft : Foot} {gs gs' : Array Goroutine} {t : Trace} {st st' : Nat → WS} {ix : Nat → Nat} {i k : Nat} {sl : Option (Nat × Nat)}
def hired (c : Nat) (f0 : FuncId) (p0 : String) (f1 : FuncId) (p1 : String) : Trace := #[{ g := 0,fn := f0,pos := p0,act := .go c },{ g := c,fn := f1,pos := p1,act := .start }]
theorem hired_quiet (c : Nat) (f0 : FuncId) (p0 : String) (f1 : FuncId) (p1 : String) (g : Nat) : ∀ op ∈ hired c f0 p0 f1 p1,∀ d,deafStep g d op = d := by
 intro op hop d
 simp only [hired,List.mem_toArray,List.mem_cons,List.not_mem_nil,or_false] at hop
 rcases hop with rfl | rfl <;> rfl
theorem hired_mute (c : Nat) (f0 : FuncId) (p0 : String) (f1 : FuncId) (p1 : String) : ∀ op ∈ hired c f0 p0 f1 p1,op.act.touch? = none := by
 intro op hop
 simp only [hired,List.mem_toArray,List.mem_cons,List.not_mem_nil,or_false] at hop
 rcases hop with rfl | rfl <;> rfl
theorem hired_low (c : Nat) (f0 : FuncId) (p0 : String) (f1 : FuncId) (p1 : String) (n : Nat) : ∀ op ∈ hired c f0 p0 f1 p1,op.act.low n := by
 intro op hop
 simp only [hired,List.mem_toArray,List.mem_cons,List.not_mem_nil,or_false] at hop
 rcases hop with rfl | rfl <;> trivial
theorem Inv.hire (I : Inv P W0 T ft gs w t st ix) (hlt0 : 0 < gs.size) (hk : k ∉ T.pend) (hown : T.ch T.c = some (0,#[],false)) {g' child : Goroutine} (hto : Toward P (AtSend P T.c (T.phi k)) child w ft.lend) (f0 : FuncId) (p0 : String) (f1 : FuncId) (p1 : String) :
  Inv P W0 (T.more k) ft.lend ((gs.setIfInBounds 0 g').push child) w (t ++ hired gs.size f0 p0 f1 p1) (putAt st gs.size (.way w ft.lend)) (putAt ix k gs.size) := by
 have hd := fun j => Deaf_quiet (t := t) (hired_quiet gs.size f0 p0 f1 p1 j)
 have hmu := hired_mute gs.size f0 p0 f1 p1
 have hix : ∀ l ∈ T.pend,putAt ix k gs.size l = ix l := fun l hl => putAt_ne _ _ fun e => hk (e ▸ hl)
 have hmem : ∀ {l},l ∈ (T.more k).pend → l ∈ T.pend ∨ l = k := fun hl => by simpa [Crew.more] using hl
 have hget : ∀ l ∈ T.pend,((gs.setIfInBounds 0 g').push child)[ix l]? = gs[ix l]? := fun l hl => by
  have := I.ixr l hl
  rw [Array.getElem?_push_lt (by simpa using this.2),Array.getElem_setIfInBounds (by simpa using this.2),if_neg (by omega),Array.getElem?_eq_getElem this.2]
 have hst : ∀ l ∈ T.pend,putAt st gs.size (.way w ft.lend) (ix l) = st (ix l) := fun l hl => putAt_ne _ _ (by have := I.ixr l hl; omega)
 have hkn : putAt ix k gs.size k = gs.size := putAt_self _ _ _
 have e0 : (t ++ hired gs.size f0 p0 f1 p1)[t.size]? = some { g := 0,fn := f0,pos := p0,act := .go gs.size } := by simp [hired]
 have e1 : (t ++ hired gs.size f0 p0 f1 p1)[t.size + 1]? = some { g := gs.size,fn := f1,pos := p1,act := .start } := by simp [hired]
 have edge : HappensBefore (t ++ hired gs.size f0 p0 f1 p1) t.size (t.size + 1) :=
  Relation.TransGen.single (.inr ⟨.spawn (act?_of e0) (act?_of e1) (g?_of e1),⟨0,g?_of e0,by rw [deaf_old (Nat.le_refl _)]; exact I.hears⟩,⟨gs.size,g?_of e1,by rw [deaf_quiet (hired_quiet gs.size f0 p0 f1 p1 gs.size) 1 (by simp [hired])]; exact I.above _ (Nat.le_refl _)⟩⟩)
 refine { base := I.base,lt := I.lt,sub := fun _ h => h.elim,chan := I.chan,cnt := I.cnt,chft := I.chft,own := fun _ => hown,nd := ?_,ixr := fun l hl => ?_,inj := fun a ha b hb e => ?_,pnd := fun l hl => ?_,old := fun j y hj hy hnj => ?_,disj := fun a ha b hb hab wa fa wb fb x1 x2 => ?_,above := fun j hj => ?_,hears := by rw [hd]; exact I.hears,clean := fun said => noRace_appendMute (I.clean said) hmu,known := (I.known.less (f' := ft.lend) (fun _ h => h) (fun _ h => h.elim)).mute hmu,done := fun j a ha hm => ?_,seen := seen_app I.seen (hired_low _ _ _ _ _ _) }
 ·show (T.pend ++ [k]).Nodup
  rw [List.nodup_append]
  exact ⟨I.nd,by simp,fun a ha b hb => by simp at hb; subst hb; exact fun e => hk (e ▸ ha)⟩
 ·rcases hmem hl with h | rfl
  ·rw [hix l h]
   have := I.ixr l h
   exact ⟨this.1,by simp; omega⟩
  ·rw [hkn]
   exact ⟨hlt0,by simp⟩
 ·rcases hmem ha with h | rfl <;> rcases hmem hb with h' | rfl
  ·rw [hix a h,hix b h'] at e
   exact I.inj a h b h' e
  ·rw [hix a h,hkn] at e
   have := I.ixr a h
   omega
  ·rw [hix b h',hkn] at e
   have := I.ixr b h'
   omega
  ·rfl
 ·rcases hmem hl with h | rfl
  ·rw [hix l h,hget l h,hst l h,hd]
   obtain ⟨y,h1,h2,h3⟩ := I.pnd l h
   exact ⟨y,h1,h2,h3.imp (fun ⟨wl,fl,e,V⟩ => ⟨wl,fl,e,V.way,V.rely,V.lt,V.sub,V.ch,V.d1,fun _ h => h.elim,V.know.mute hmu⟩) id⟩
  ·rw [hkn,hd,putAt_self]
   refine ⟨child,by rw [Array.getElem?_push,if_pos (by simp)],I.above _ (Nat.le_refl _),.inl ⟨w,_,rfl,hto,RelyW.refl _ _,I.lt,fun _ h => h.elim,I.chft,fun _ h => h.elim,fun _ h => h.elim,fun j a ha hm => ?_⟩⟩
   rcases touch_app ha with ⟨_,h⟩ | ⟨op,hop,_,h⟩
   ·rcases I.known j a h hm with hh | hh
    ·exact .inl ⟨t.size + 1,_,e1,rfl,.inr ((hh.hb_new (Nat.le_refl _) e0 rfl).trans edge)⟩
    ·exact .inr fun b hb => ⟨fun h => h.elim,(hh b hb).2⟩
   ·rw [hmu op hop] at h; cases h
 ·have hjs : j ≠ gs.size := fun e => hnj k (by simp [Crew.more]) (by rw [hkn]; exact e.symm)
  have hlt : j < gs.size := by
   have := (Array.getElem?_eq_some_iff.1 hy).1
   simp at this
   omega
  rw [Array.getElem?_push_lt (by simpa using hlt),Array.getElem_setIfInBounds (by simpa using hlt),if_neg (by omega),← Array.getElem?_eq_getElem hlt] at hy
  obtain ⟨n,e,hq⟩ := I.old j y hj hy fun l hl e => hnj l (by simp [Crew.more,hl]) (by rw [hix l hl]; exact e)
  exact ⟨n,by rw [putAt_ne _ _ hjs]; exact e,by rw [hd]; exact hq⟩
 ·rcases hmem ha with h | rfl <;> rcases hmem hb with h' | rfl
  ·rw [hix a h,hst a h] at x1
   rw [hix b h',hst b h'] at x2
   exact I.disj a h b h' hab wa fa wb fb x1 x2
  ·rw [hix a h,hst a h] at x1
   rw [hkn,putAt_self] at x2
   cases x2
   obtain ⟨y,_,_,h3⟩ := I.pnd a h
   rcases h3 with ⟨wl,fl,e,V⟩ | ⟨e,_⟩
   ·rw [e] at x1
    cases x1
    exact V.d1
   ·rw [e] at x1
    cases x1
  ·rw [hkn,putAt_self] at x1
   cases x1
   exact fun _ h => h.elim
  ·exact absurd rfl hab
 ·rw [hd]
  exact I.above j (by simp at hj; omega)
 ·rcases done_mute (ix := ix) I.done hmu j a ha hm with h | ⟨l,hl,e⟩
  ·exact .inl h
  ·exact .inr ⟨l,by simp [Crew.more,hl],by rw [hix l hl]; exact e⟩
theorem JC.spawn (hrun : g.status = .running) (hk : k ∉ T.pend) (hown : T.ch T.c = some (0,#[],false))
  (h : ∀ w₁,RelyW ft w w₁ → ∃ g' child,stepG P true g w₁ = .spawn g' child w₁ #[] ∧ Toward P (AtSend P T.c (T.phi k)) child w₁ ft.lend ∧ JC P W0 Post (T.more k) g' w₁ ft.lend) : JC P W0 Post T g w ft :=
 JC.main hrun fun gs w₁ sl t st ix hrel h0 I => by
  obtain ⟨g',child,hgo,hto,hJ⟩ := h w₁ hrel
  have hlt0 : 0 < gs.size := (Array.getElem?_eq_some_iff.1 h0).1
  refine ⟨_,_,runT_crowd_spawn (P := P) (sl := sl) (i := 0) h0 (show stepG P (0 == 0) _ w₁ = _ from hgo),?_⟩
  have e : t ++ ((MemOp.ofEvents 0 g.frame.fn g.frame.place #[]).push { g := 0,fn := g.frame.fn,pos := g.frame.place,act := .go gs.size } |>.push { g := gs.size,fn := child.frame.fn,pos := g.frame.place,act := .start }) = t ++ hired gs.size g.frame.fn g.frame.place child.frame.fn g.frame.place := by
   rw [ofEvents_eq]
   simp [hired]
  rw [e]
  refine hJ _ w₁ sl _ _ _ (RelyW.refl _ _) ?_ (I.hire hlt0 hk hown hto _ _ _ _)
  rw [Array.getElem?_push_lt (by simpa using hlt0),Array.getElem_setIfInBounds (by simpa using hlt0)]
  simp
end
section
variable {P : Program} {W0 : World} {Post : Value → World → Prop} {T : Crew} {g g0 : Goroutine} {w w₁ w' : World} {ft : Foot} {gs gs' : Array Goroutine} {t : Trace} {st st' : Nat → WS} {ix : Nat → Nat} {i k : Nat} {sl : Option (Nat × Nat)}
theorem mem_less {l : Nat} (h : l ∈ (T.less k).pend) : l ∈ T.pend := List.mem_of_mem_erase h
theorem ne_less {l : Nat} (hn : T.pend.Nodup) (h : l ∈ (T.less k).pend) : l ≠ k := fun e => by
 subst e
 exact (hn.not_mem_erase) h
theorem less_mem {l : Nat} (h : l ∈ T.pend) (hne : l ≠ k) : l ∈ (T.less k).pend := (List.mem_erase_of_ne hne).2 h
theorem passed_heap (w : World) (c s r : Nat) (tm : Bool) (b : Nat) : (w.setChan c 0 #[] false s r tm).heap[b]? = if b = c ∧ c < w.heap.size then some (.chan 0 #[] false s r tm) else w.heap[b]? := by
 unfold World.setChan
 by_cases h : c = b
 ·subst h
  by_cases hl : c < w.heap.size
  ·simp [hl]
  ·simp [hl]
 ·rw [if_neg (fun e => h e.1.symm)]
  simp [Array.getElem?_setIfInBounds_ne h]
theorem Inv.handed (I : Inv P W0 T ft gs w t st ix) (hk : k ∈ T.pend) {s r : Nat} {tm : Bool} (hc : w.heap[T.c]? = some (.chan 0 #[] false s r tm)) (hs : gs'.size = gs.size) {y : Goroutine} {n : Nat} (hy : gs'[ix k]? = some y) (hq : QuitsD P n 0 y)
  (ho : ∀ j,0 < j → j ≠ ix k → gs'[j]? = gs[j]?) (d : Nat) (fh : FuncId) (ph : String) (fj : FuncId) (pj : String) :
  Inv P W0 (T.less k) ft gs' ((w.at d).setChan T.c 0 #[] false (s + 1) (r + 1) tm) (t ++ met (ix k) 0 fh ph fj pj T.c s 0) (putAt st (ix k) (.quit n)) ix := by
 have hown := I.own (List.ne_nil_of_mem hk)
 have hsr : s = r := by have := I.cnt _ _ s r tm hown hc; simpa using this
 have hclt : T.c < w.heap.size := (Array.getElem?_eq_some_iff.1 hc).1
 have hd := fun j => Deaf_quiet (t := t) (met_quiet (ix k) 0 fh ph fj pj T.c s 0 j)
 have hmu := met_mute (ix k) 0 fh ph fj pj T.c s 0
 have hpas := fun b => passed_heap (w.at d) T.c (s + 1) (r + 1) tm b
 have hpos := (I.ixr k hk).1
 have e0 : (t ++ met (ix k) 0 fh ph fj pj T.c s 0)[t.size]? = some { g := ix k,fn := fh,pos := ph,act := .send T.c s } := by simp [met]
 have e3 : (t ++ met (ix k) 0 fh ph fj pj T.c s 0)[t.size + 3]? = some { g := 0,fn := fj,pos := pj,act := .recvDone T.c s } := by simp [met]
 have hdk : Deaf t (ix k) = 0 := by
  obtain ⟨_,_,h2,_⟩ := I.pnd k hk
  exact h2
 have edge : HappensBefore (t ++ met (ix k) 0 fh ph fj pj T.c s 0) t.size (t.size + 3) :=
  Relation.TransGen.single (.inr ⟨.handOver (act?_of e0) (act?_of e3),⟨ix k,g?_of e0,by rw [deaf_old (Nat.le_refl _)]; exact hdk⟩,⟨0,g?_of e3,by rw [deaf_quiet (met_quiet (ix k) 0 fh ph fj pj T.c s 0 0) 3 (by simp [met])]; exact I.hears⟩⟩)
 have heap : ∀ b,b ≠ T.c → ((w.at d).setChan T.c 0 #[] false (s + 1) (r + 1) tm).heap[b]? = w.heap[b]? := fun b hb => by
  rw [hpas,if_neg (fun e => hb e.1)]
  rfl
 have rel : ∀ {f : Foot},¬ f.rd T.c → RelyW f w ((w.at d).setChan T.c 0 #[] false (s + 1) (r + 1) tm) := fun hn =>
  ⟨fun b hb => heap b fun e => hn (e ▸ hb),by simp [World.setChan,World.at],rfl,rfl,rfl⟩
 have hsz : ((w.at d).setChan T.c 0 #[] false (s + 1) (r + 1) tm).heap.size = w.heap.size := by simp [World.setChan,World.at]
 have hst : ∀ l ∈ (T.less k).pend,putAt st (ix k) (.quit n) (ix l) = st (ix l) := fun l hl => putAt_ne _ _ fun e => ne_less I.nd hl (I.inj l (mem_less hl) k hk e)
 refine { base := ⟨I.base.tape,I.base.os,I.base.output,by rw [hsz]; exact I.base.size⟩,lt := fun b hb => by rw [hsz]; exact I.lt b hb,sub := I.sub,chan := fun b x hb => ?_,cnt := fun b x s' r' tm' hb hw => ?_,chft := I.chft,own := fun _ => hown,nd := I.nd.erase _,ixr := fun l hl => by rw [hs]; exact I.ixr l (mem_less hl),inj := fun a ha b hb e => I.inj a (mem_less ha) b (mem_less hb) e,pnd := fun l hl => ?_,old := fun j z hj hz hnj => ?_,disj := fun a ha b hb hab wa fa wb fb x1 x2 => ?_,above := fun j hj => by rw [hd]; exact I.above j (by omega),hears := by rw [hd]; exact I.hears,clean := fun said => noRace_appendMute (I.clean said) hmu,known := I.known.mute hmu,done := fun j a ha hm => ?_,seen := ?_ }
 ·by_cases hbc : b = T.c
  ·subst hbc
   rw [show (T.less k).ch T.c = T.ch T.c from rfl,hown] at hb
   cases hb
   exact ⟨_,_,_,by rw [hpas,if_pos ⟨rfl,hclt⟩]⟩
  ·rw [heap b hbc]
   exact I.chan b x hb
 ·by_cases hbc : b = T.c
  ·subst hbc
   rw [show (T.less k).ch T.c = T.ch T.c from rfl,hown] at hb
   cases hb
   rw [hpas,if_pos ⟨rfl,hclt⟩] at hw
   simp only [Option.some.injEq,Obj.chan.injEq] at hw
   obtain ⟨_,_,_,rfl,rfl,_⟩ := hw
   simp [hsr]
  ·rw [heap b hbc] at hw
   exact I.cnt b x s' r' tm' hb hw
 ·obtain ⟨z,h1,h2,h3⟩ := I.pnd l (mem_less hl)
  have hne : ix l ≠ ix k := fun e => ne_less I.nd hl (I.inj l (mem_less hl) k hk e)
  refine ⟨z,by rw [ho _ (I.ixr l (mem_less hl)).1 hne]; exact h1,by rw [hd]; exact h2,?_⟩
  rw [hst l hl]
  refine h3.imp (fun ⟨wl,fl,e,V⟩ => ⟨wl,fl,e,V.way,V.rely.trans (rel (V.ch _ _ hown)),fun b hb => by rw [hsz]; exact V.lt b hb,V.sub,V.ch,V.d1,V.d2,V.know.mute hmu⟩) id
 ·by_cases hjk : j = ix k
  ·subst hjk
   rw [hy] at hz
   cases hz
   exact ⟨n,putAt_self _ _ _,by rw [hd,hdk]; exact hq⟩
  ·rw [ho j hj hjk] at hz
   rw [putAt_ne _ _ hjk,hd]
   exact I.old j z hj hz fun l hl e => by
    by_cases hlk : l = k
    ·subst hlk
     exact hjk e.symm
    ·exact hnj l (less_mem hl hlk) e
 ·rw [hst a ha] at x1
  rw [hst b hb] at x2
  exact I.disj a (mem_less ha) b (mem_less hb) hab wa fa wb fb x1 x2
 ·rcases touch_app ha with ⟨_,h⟩ | ⟨op,hop,_,h⟩
  ·rcases I.done j a h hm with h | ⟨l,hl,e⟩
   ·exact .inl (h.app _)
   ·by_cases hlk : l = k
    ·subst hlk
     obtain ⟨z,hz,hzg⟩ := Option.map_eq_some_iff.1 e
     have hkn : Knows t (ix l) j := by
      have := knows_own hz
      rwa [hzg] at this
     exact .inl ⟨t.size + 3,_,e3,rfl,.inr ((hkn.hb_new (Nat.le_refl _) e0 rfl).trans edge)⟩
    ·exact .inr ⟨l,less_mem hl hlk,g_app e⟩
  ·rw [hmu op hop] at h; cases h
 ·rw [hsz]
  refine seen_app I.seen fun op hop => ?_
  simp only [met,List.mem_toArray,List.mem_cons,List.not_mem_nil,or_false] at hop
  rcases hop with rfl | rfl | rfl | rfl <;> exact hclt
theorem passed_rely {f : Foot} {c s r d : Nat} {tm : Bool} (hn : ¬ f.rd c) : RelyW f w ((w.at d).setChan c 0 #[] false s r tm) :=
 ⟨fun b hb => by
  have hne : b ≠ c := fun e => hn (e ▸ hb)
  rw [passed_heap,if_neg (fun e => hne e.1)]
  rfl,by simp [World.setChan,World.at],rfl,rfl,rfl⟩
theorem evs_front (u : Trace) (i : Nat) (fn : FuncId) (pos : String) : MemOp.ofEvents i fn pos #[] ++ u = u := by
 rw [ofEvents_eq]
 simp
theorem Inv.front (I : Inv P W0 T ft gs w t st ix) (hs : gs'.size = gs.size) (ho : ∀ j,0 < j → gs'[j]? = gs[j]?) : Inv P W0 T ft gs' w t st ix where
 base := I.base
 lt := I.lt
 sub := I.sub
 chan := I.chan
 cnt := I.cnt
 chft := I.chft
 own := I.own
 nd := I.nd
 ixr := fun k hk => by rw [hs]; exact I.ixr k hk
 inj := I.inj
 pnd := fun k hk => by
  rw [ho _ (I.ixr k hk).1]
  exact I.pnd k hk
 old := fun i g hi hg hn => I.old i g hi (by rw [← ho i hi]; exact hg) hn
 disj := I.disj
 above := fun j hj => I.above j (by omega)
 hears := I.hears
 clean := I.clean
 known := I.known
 done := I.done
 seen := I.seen
theorem finish_recv {g₂ : Goroutine} {cs : Array CommCase} {ok : Bool} {v : Value} : g₂.finishComm P cs (.recv ok) 0 v true = Conc.served g₂ (recvd ok v true) := finishComm_recv P g₂ cs ok 0 v true
theorem park_ends {g₂ : Goroutine} {z : Value} {ok : Bool} (hp : T.pend ≠ []) (hN : ∀ k ∈ T.pend,∀ v,T.phi k v → JC P W0 Post (T.less k) (Conc.served g₂ (recvd ok v true)) w ft) (h0 : gs[0]? = some (parked g₂ #[rcase T.c z] (.recv ok))) (hrel : RelyW ft w w₁)
  (I : Inv P W0 T ft gs w₁ t st ix) (hnp : ∀ k ∈ T.pend,st (ix k) ≠ .park) : Ends P Post (crowd gs w₁ sl) t := by
 have hown := I.own hp
 have hm : MainOk T (parked g₂ #[rcase T.c z] (.recv ok)) := .inr ⟨g₂,z,_,rfl,hown⟩
 have hacc := meas_acc I
 generalize hM : meas gs st = M at hacc
 generalize hn : gs.size = n at hacc
 induction hacc generalizing gs w₁ sl t st with
 | intro M _ ih =>
  obtain ⟨l,hl⟩ := List.exists_mem_of_ne_nil _ hp
  obtain ⟨y,hy,_,h3⟩ := I.pnd l hl
  have hyr : y.status = .running := by
   rcases h3 with ⟨_,_,_,V⟩ | ⟨e,_⟩
   ·exact V.way.running
   ·exact absurd e (hnp l hl)
  obtain ⟨i,x,d,sl',hi,hx,hst⟩ := crowd_pick (P := P) (w := w₁) (sl := sl) (I.awake h0 hm) ⟨ix l,y,hy,hyr⟩
  have hpos : 0 < i := by
   rcases Nat.eq_zero_or_pos i with rfl | h
   ·rw [h0] at hi
    cases hi
    cases hx
   ·exact h
  have hi0 : (i == 0) = false := by simp; omega
  rcases (I.at d).other (sl := sl') hm h0 hpos hi hx with ⟨gs',w',ops,st',hr,hs,h0',hrel',I',hl',hpk⟩ | ⟨k,wi,fi,hk,rfl,e,gk,v,zk,hgo,hv,n,hq⟩
  ·subst hM hn
   exact Ends.next (hst.trans hr) (ih _ hl' h0' ((hrel.trans (relyW_at ft w₁ d)).trans hrel') I' (fun k hk e => hnp k hk (hpk _ e)) rfl hs)
  ·obtain ⟨s,r,tm,hc⟩ := I.chan _ _ hown
   have hlt := I.ixr k hk
   have hmem : ∀ j b,(j,b) ∈ partners (gs.setIfInBounds (ix k) ph) T.c false → j = 0 ∧ b = 0 := fun j b hjb => by
    obtain ⟨y,hy,hb⟩ := mem_partners.1 hjb
    rcases getElem?_stand _ _ _ _ hy with ⟨_,rfl⟩ | ⟨_,hy⟩
    ·cases hb
    ·rcases Nat.eq_zero_or_pos j with rfl | hj
     ·rw [h0] at hy
      cases hy
      rw [offersAt_parked_recv,if_pos rfl] at hb
      exact ⟨rfl,by simpa using hb⟩
     ·rw [I.noRecv hj hy] at hb
      cases hb
   have h0k : (gs.setIfInBounds (ix k) ph)[0]? = some (parked g₂ #[rcase T.c z] (.recv ok)) := by rw [Array.getElem?_setIfInBounds_ne (by omega)]; exact h0
   obtain ⟨j,gj,zj,shj,d2,hij,hgj,hr⟩ := crowd_send_meets_some (P := P) (sl := sl') (gs := gs) (w := w₁.at d) (w₁ := w₁.at d) hi (show stepG P (ix k == 0) x (w₁.at d) = _ from by rw [hi0]; exact hgo) (show (w₁.at d).heap[T.c]? = _ from hc)
    (fun e => by
     have : (0,0) ∈ partners (gs.setIfInBounds (ix k) ph) T.c false := mem_partners.2 ⟨_,h0k,by rw [offersAt_parked_recv,if_pos rfl]; simp⟩
     rw [e] at this
     cases this)
    (fun j b hjb => by
     obtain ⟨rfl,rfl⟩ := hmem j b hjb
     exact ⟨rfl,by omega,g₂,z,_,h0⟩)
   have hj0 : j = 0 := by
    rcases Nat.eq_zero_or_pos j with h | h
    ·exact h
    ·have := I.noRecv h hgj T.c
     rw [offersAt_parked_recv,if_pos rfl] at this
     cases this
   subst hj0
   rw [h0] at hgj
   have hpe : parked g₂ #[rcase T.c z] (.recv ok) = parked gj #[rcase T.c zj] shj := Option.some.inj hgj
   have hoff := congrArg Goroutine.offers hpe
   simp only [parked,rcase,Option.some.injEq,Prod.mk.injEq] at hoff
   obtain ⟨ho1,rfl⟩ := hoff
   have hz : z = zj := by simpa using ho1
   subst hz
   have hgeq : gj.finishComm P #[rcase T.c z] (.recv ok) 0 v true = Conc.served g₂ (recvd ok v true) := by
    rw [← finish_recv (P := P) (cs := #[rcase T.c z]),← finishComm_parked P gj _ #[rcase T.c z] _ (.recv ok),← hpe,finishComm_parked]
   have hsr : s = r := by have := I.cnt _ _ s r tm hown hc; simpa using this
   subst hsr
   subst hM hn
   rw [hgeq,finishComm_send] at hr
   refine Ends.next (hst.trans hr) ?_
   rw [evs_front]
   exact hN k hk v hv _ _ sl' _ _ ix (hrel.trans ((relyW_at ft w₁ d).trans (passed_rely (I.chft _ _ hown)))) (by rw [Array.getElem?_setIfInBounds_ne (by omega),Array.getElem?_setIfInBounds_self_of_lt (by omega)])
    ((I.at d).handed (n := n) (y := Conc.served gk undef) hk hc (by simp) (Array.getElem?_setIfInBounds_self_of_lt (by simpa using hlt.2)) hq
     (fun j h1 h2 => by rw [Array.getElem?_setIfInBounds_ne (Ne.symm h2),Array.getElem?_setIfInBounds_ne (by omega)]) d2 gk.frame.fn gk.frame.place gj.frame.fn gj.frame.place)
theorem Inv.sends (I : Inv P W0 T ft gs w t st ix) {j b : Nat} {y : Goroutine} (hj : 0 < j) (hy : gs[j]? = some y) (hb : b ∈ offersAt y T.c true) : ∃ k ∈ T.pend,ix k = j ∧ b = 0 ∧ ParkOk P T k y := by
 by_cases hp : ∃ k ∈ T.pend,ix k = j
 ·obtain ⟨k,hk,rfl⟩ := hp
  obtain ⟨z,h1,_,h3⟩ := I.pnd k hk
  rw [hy] at h1
  cases h1
  rcases h3 with ⟨_,_,_,W⟩ | ⟨_,hpk⟩
  ·rw [offersAt_of_not_blocked (by rw [W.way.running]; simp)] at hb
   cases hb
  ·refine ⟨k,hk,rfl,?_,hpk⟩
   obtain ⟨g₂,v,z,rfl,_⟩ := hpk
   rw [offersAt_parked_send,if_pos rfl] at hb
   simpa using hb
 ·obtain ⟨n,_,hq⟩ := I.old j _ hj hy fun k hk e => hp ⟨k,hk,e⟩
  rw [offersAt_of_not_blocked (by rcases hq.status with h | h <;> rw [h] <;> simp)] at hb
  cases hb
theorem JC.recv (hrun : g.status = .running) (hp : T.pend ≠ []) {ok : Bool}
  (h : ∀ w₁,RelyW ft w w₁ → ∃ g₂ z,stepG P true g w₁ = .comm g₂ #[rcase T.c z] true (.recv ok) w₁ #[] ∧ ∀ k ∈ T.pend,∀ v,T.phi k v → JC P W0 Post (T.less k) (Conc.served g₂ (recvd ok v true)) w₁ ft) : JC P W0 Post T g w ft :=
 JC.main hrun fun gs w₁ sl t st ix hrel h0 I => by
  obtain ⟨g₂,z,hgo,hN⟩ := h w₁ hrel
  have hown := I.own hp
  obtain ⟨s,r,tm,hc⟩ := I.chan _ _ hown
  have hlt0 : 0 < gs.size := (Array.getElem?_eq_some_iff.1 h0).1
  have hsr : s = r := by have := I.cnt _ _ s r tm hown hc; simpa using this
  subst hsr
  by_cases hpk : ∃ k ∈ T.pend,st (ix k) = .park
  ·obtain ⟨k0,hk0,e0⟩ := hpk
   obtain ⟨y0,hy0,_,h3⟩ := I.pnd k0 hk0
   have hpar : ParkOk P T k0 y0 := by
    rcases h3 with ⟨_,_,e,_⟩ | ⟨_,hpk⟩
    ·rw [e0] at e; cases e
    ·exact hpk
   have hpos0 := (I.ixr k0 hk0).1
   obtain ⟨j,gj,vj,zj,shj,d,hij,hgj,hr⟩ := crowd_recv_meets_some (P := P) (sl := sl) (gs := gs) (w := w₁) (w₁ := w₁) (i := 0) h0 (show stepG P (0 == 0) _ w₁ = _ from hgo) hc
    (fun e => by
     obtain ⟨gp,vp,zp,rfl,_⟩ := hpar
     have : (ix k0,0) ∈ partners (gs.setIfInBounds 0 ph) T.c true := mem_partners.2 ⟨_,by rw [Array.getElem?_setIfInBounds_ne (by omega)]; exact hy0,by rw [offersAt_parked_send,if_pos rfl]; simp⟩
     rw [e] at this
     cases this)
    (fun j b hjb => by
     obtain ⟨y,hy,hb⟩ := mem_partners.1 hjb
     rcases getElem?_stand _ _ _ _ hy with ⟨_,rfl⟩ | ⟨hj0,hy⟩
     ·cases hb
     ·obtain ⟨k,hk,rfl,rfl,gp,vp,zp,rfl,_⟩ := I.sends (by omega) hy hb
      exact ⟨rfl,hj0,gp,vp,zp,_,hy⟩)
   obtain ⟨k,hk,rfl,_,gp,vp,zp,hpe,hv,n,hq⟩ := I.sends (b := 0) (Nat.pos_of_ne_zero hij) hgj (by rw [offersAt_parked_send,if_pos rfl]; simp)
   have hoff := congrArg Goroutine.offers hpe
   simp only [parked,scase,Option.some.injEq,Prod.mk.injEq] at hoff
   obtain ⟨ho1,rfl⟩ := hoff
   have hz : vj = vp ∧ zj = zp := by simpa using ho1
   obtain ⟨rfl,rfl⟩ := hz
   have hgeq : gj.finishComm P #[scase T.c vj zj] .send 0 undef false = Conc.served gp undef := by
    rw [← finishComm_send P gp #[scase T.c vj zj] 0 undef false,← finishComm_parked P gj _ #[scase T.c vj zj] _ .send,hpe,finishComm_parked]
   refine ⟨_,_,hr,?_⟩
   rw [hgeq,finish_recv,evs_front]
   have hlt := I.ixr k hk
   exact hN k hk vj hv _ _ sl _ _ ix (passed_rely (I.chft _ _ hown)) (Array.getElem?_setIfInBounds_self_of_lt (by simpa using hlt0))
    (I.handed (n := n) (y := Conc.served gp undef) hk hc (by simp) (by rw [Array.getElem?_setIfInBounds_ne (by omega)]; exact Array.getElem?_setIfInBounds_self_of_lt hlt.2) hq
     (fun j h1 h2 => by rw [Array.getElem?_setIfInBounds_ne (by omega),Array.getElem?_setIfInBounds_ne (Ne.symm h2)]) d gj.frame.fn gj.frame.place g₂.frame.fn g₂.frame.place)
  ·have hr := crowd_waits (P := P) (sl := sl) (gs := gs) (w := w₁) (i := 0) h0 (show stepG P (0 == 0) _ w₁ = _ from hgo) fun cc hcc => by
    obtain rfl : cc = rcase T.c z := by simpa using hcc
    refine ways_recv_none hc (partners_nil fun j y hy => ?_)
    rcases getElem?_stand _ _ _ _ hy with ⟨_,rfl⟩ | ⟨hj0,hy⟩
    ·rfl
    ·cases e : offersAt y T.c true with
     | nil => rfl
     | cons b l =>
      obtain ⟨k,hk,rfl,rfl,gp,vp,zp,rfl,_⟩ := I.sends (b := b) (by omega) hy (by rw [e]; simp)
      exfalso
      obtain ⟨z',h1,_,h3⟩ := I.pnd k hk
      rw [hy] at h1
      cases h1
      rcases h3 with ⟨_,_,_,W⟩ | ⟨e',_⟩
      ·have := W.way.running
       cases this
      ·exact hpk ⟨k,hk,e'⟩
   refine ⟨_,_,hr,?_⟩
   rw [evs_nil]
   have h0' : (gs.setIfInBounds 0 (parked g₂ #[rcase T.c z] (.recv ok)))[0]? = some (parked g₂ #[rcase T.c z] (.recv ok)) := Array.getElem?_setIfInBounds_self_of_lt hlt0
   refine park_ends hp hN h0' (RelyW.refl _ _) (I.front (by simp) fun j hj => Array.getElem?_setIfInBounds_ne (by omega)) fun k hk e => hpk ⟨k,hk,e⟩
end
section
variable {P : Program} {W0 : World} {Post : Value → World → Prop} {T : Crew} {g : Goroutine} {w w₁ w' : World} {ft f' : Foot}
theorem J1.crew (hp : T.pend = []) (hch : ∀ b x,T.ch b = some x → ft.rd b ∧ x.2 = (#[],false) ∧ w.heap[b]? = some (.chan x.1 #[] false 0 0 false))
  (hrd : ∀ b,f'.rd b → ft.rd b ∧ T.ch b = none) (hwr : ∀ b,f'.wr b → ft.wr b ∧ f'.rd b) (h : JC P W0 Post T g w f') : J1 P W0 Post g w ft := by
 intro gs w₁ sl t q hbd hsub hrel hbase h0 hL hP
 have heap : ∀ b x,T.ch b = some x → w₁.heap[b]? = some (.chan x.1 x.2.1 x.2.2 0 0 false) := fun b x hb => by
  obtain ⟨h1,h2,h3⟩ := hch b x hb
  rw [hrel.heap b h1,h3,h2]
 have no : ∀ k,k ∉ T.pend := fun k hk => by rw [hp] at hk; cases hk
 refine h gs w₁ sl t (fun i => .quit (q i)) (fun _ => 0) ⟨fun b hb => hrel.heap b (hrd b hb).1,hrel.size,hrel.tape,hrel.os,hrel.output⟩ h0
  { base := hbase,lt := fun b hb => hbd b (hrd b hb).1,sub := fun b hb => (hwr b hb).2,chan := fun b x hb => ⟨0,0,false,heap b x hb⟩,cnt := fun b x s r tm hb hw => ?_,chft := fun b x hb hr => ?_,own := fun hne => absurd hp hne,nd := by rw [hp]; exact List.nodup_nil,ixr := fun k hk => absurd hk (no k),inj := fun k hk => absurd hk (no k),pnd := fun k hk => absurd hk (no k),old := fun i y hi hy _ => ⟨q i,rfl,hL.old i y hi hy⟩,disj := fun k hk => absurd hk (no k),above := hL.above,hears := hP.hears,clean := hP.clean,known := fun i a ha hm => .inl ((hP.known i a ha hm).resolve_right fun x => x.1),done := fun i a ha hm => .inl ((hP.known i a ha hm).resolve_right fun x => x.1),seen := hP.seen }
 ·rw [heap b x hb] at hw
  obtain ⟨_,h2,_⟩ := hch b x hb
  simp only [Option.some.injEq,Obj.chan.injEq] at hw
  obtain ⟨_,_,_,rfl,rfl,_⟩ := hw
  rw [h2]
  rfl
 ·have := (hrd b hr).2
  rw [hb] at this
  cases this
def base0 (P : Program) : Frame := { (default : Frame) with fn := P.funcs.size,defers := [],mode := .panicking [goexitEntry] }
theorem base_catches (P : Program) : (base0 P).catches P = false := by
 have e : (base0 P).todo = [] := rfl
 unfold Frame.catches
 rw [e]
 split
 ·rename_i h
  cases h
 ·rfl
theorem base_quits (hc : (base0 P).catches P = false) : QuitsD P 1 0 (G (base0 P) []) := by
 refine .inr ⟨rfl,{ frame := base0 P,callers := [],status := .finished,dying := none },#[],by simp,fun w => ?_,rfl,rfl⟩
 have e1 : (base0 P).defers = [] := rfl
 have e2 : (base0 P).mode = .panicking [goexitEntry] := rfl
 simp only [G,stepG,e2,unwind,e1,hc]
 simp [goexitEntry]
theorem quiet_run {α : Type} {s : Go.Sem α} {w : World} {Q : α → World → Prop} (h : RunsTo P (fun _ => False) s w Q) : ∃ v w',s.runT P w #[] = (.ok v w',#[]) ∧ Q v w' := by
 obtain ⟨v,w',es,hr,he,hq⟩ := h #[] (by simp)
 have hes : es = #[] := by
  apply Array.eq_empty_of_size_eq_zero
  cases hs : es.size with
  | zero => rfl
  | succ n => exact (he es[0] (Array.getElem_mem (by omega))).elim
 subst hes
 exact ⟨v,w',hr,hq⟩
variable {b : FB} {a : Act} {cs : List Frame} {ops : Array Oper} {fn : Func}
theorem worker_quits (hk : b.kind = .deferred) (hr : b.ro = none) (hbd : b.dfs = []) (hd : a.defers = []) (hf : P.funcs[b.fn]? = some fn) (hres : fn.results = #[]) (hc : (base0 P).catches P = false) :
  QuitsD P 4 0 (G (b.at a [.inRegion ops []]) [base0 P]) := by
 obtain ⟨bf,bk,br,bd⟩ := b
 simp only at hk hr hf hbd
 subst hk hr hbd
 refine .ctl (g' := G (FB.at ⟨bf,.deferred,none,[]⟩ a []) [base0 P]) rfl (fun w => by simp [G,stepG,stepG.exec,FB.at]) ?_
 refine .ctl (g' := G { FB.at ⟨bf,.deferred,none,[]⟩ a [] with mode := .returning } [base0 P]) rfl (fun w => by simp [G,stepG,stepG.exec,FB.at]) ?_
 refine .ctl (g' := G (base0 P) []) rfl (fun w => ?_) (base_quits hc)
 have he : (results fn a.tmps).runT P w #[] = (.ok (.tuple #[]) w,#[]) := by
  have hrun : RunsTo P (fun _ => False) (results fn a.tmps) w fun v w' => v = .tuple #[] ∧ w' = w := by
   unfold results
   rw [hres,Array.mapM_eq_mapM_toList]
   exact RunsTo.bind (RunsTo.map (RunsTo.pure (RunsTo.pure ⟨by simp,rfl⟩)))
  obtain ⟨v,w',hr,rfl,rfl⟩ := quiet_run hrun
  exact hr
 simp only [G,stepG,FB.at,unwind,hd,hf,he,List.append_nil]
 simp [doReturn,base0,goexitEntry,GStep.after,seen]
theorem born_toward {Stop : JT} {d : Deferred} {g : FuncId} {caps : List Value} (hd : d = { target := .fn (.func g) ⟨caps⟩,args := #[] }) (hcl : callable P g = true)
  (h : Toward P Stop (G (Frame.enter P g ⟨caps⟩ .deferred) [base0 P]) w ft) : Toward P Stop (born P d) w ft := by
 subst hd
 refine (Toward.closed P Stop).step rfl fun w₁ h₁ => ?_
 have hrun : RunsTo P (EvOk ft) (invoke (.fn (.func g) ⟨caps⟩) #[]) w₁ fun nx w' => nx = .enter g ⟨caps⟩ ∧ w' = w₁ := by
  unfold invoke
  simp only
  refine callFunc_run hcl ⟨?_,rfl⟩
  congr 1
  apply Array.ext'
  simp
 obtain ⟨nx,w',es,hr,he,rfl,rfl⟩ := hrun #[] (by simp)
 have hes : ∀ e ∈ seen P P.funcs.size es,EvOk ft e := fun e hm => he e (mem_seen hm)
 refine ⟨G (Frame.enter P g ⟨caps⟩ .deferred) [base0 P],w',seen P P.funcs.size es,?_,rfl,(Stays.refl ft w').guar hes,?_⟩
 ·simp only [stepG,born,unwind,callDeferred,hr]
  simp [GStep.after,G,base0]
 ·rw [Foot.ext_self]
  exact h.rely h₁
end
section
variable {P : Program} {main : Bool} {W0 : World} {Post : Value → World → Prop} {T : Crew} {w w₁ w' : World} {ft : Foot} {ρ : Env} {h : List AObj} {FC : Frm} {N : Nat} {f : RG} {b : FB} {a : Act} {cs : List Frame} {K : List Item} {ops : Array Oper} {i : Nat} {rest : List Nat} {o : Oper}
theorem stepG_go (hk : b.kind ≠ .early) (ho : ops[i]? = some o) (hg : gd ops o f.r = some true) (A : ActRel h.length ρ N f a) {x : Operand} {ats : Array TypeId} (hop : o.op = .go { callee := .value x,args := #[],argTypes := ats })
  {g : FuncId} {cap : List Value} (hx : ev f.r x = .func (.func g) ⟨[]⟩ ⟨cap⟩) (w : World) :
  stepG P main (G (b.at a (.inRegion ops (i :: rest) :: K)) cs) w = .spawn (G (b.at (a.put o.dst undef) (.inRegion ops rest :: K)) cs) (born P { target := .fn (.func g) ⟨cap.map (ren ρ)⟩,args := #[] }) w #[] := by
 have hw := gd_wanted A hg
 have hnd : ∀ c,o.op ≠ .defer c := fun c e => by rw [hop] at e; cases e
 have hk' : (b.kind == CallKind.early) = false := by simpa using hk
 obtain ⟨hok,hv⟩ := (ev_rel A.regs x).val (by rw [hx]; simp [unk])
 rw [hx] at hv
 simp only [ren,renFn,renA,renL_eq,List.map_nil] at hv
 have hr : (execOp a.eval o).runT P w #[] = (.ok (.spawn { target := .fn (.func g) ⟨cap.map (ren ρ)⟩,args := #[] }) w,#[]) := by
  have hrun : RunsTo P (fun _ => False) (execOp a.eval o) w fun nx w' => nx = .spawn { target := .fn (.func g) ⟨cap.map (ren ρ)⟩,args := #[] } ∧ w' = w := by
   unfold execOp
   rw [hop]
   simp only [resolve,hv,Deferred.ofValue]
   refine RunsTo.bind (RunsTo.pure (RunsTo.pure ⟨?_,rfl⟩))
   congr 2
   simp
  obtain ⟨v,w',hr,rfl,rfl⟩ := quiet_run hrun
  exact hr
 have hf := FB.finish_at b a ops i rest K undef
 rw [ho] at hf
 simp only [Option.bind_some] at hf
 rw [stepG_op ho hw hnd,← hf]
 simp only [stepG.apply,hr,if_true]
 simp [FB.at,hk',GStep.after,G,born,seen]
theorem stepG_recv (hk : b.kind ≠ .early) (ho : ops[i]? = some o) (hg : gd ops o f.r = some true) (A : ActRel h.length ρ N f a) {x : Operand} {t : TypeId} {ok : Bool} (hop : o.op = .recv t x ok)
  {dir : ChanDir} {e : TypeId} (hu : P.underlying t = some (.chan dir e)) {ie : TypeInfo} (hi : P.info? e = some ie) {z : Value} (hz : ie.zero = some z) {c : Nat} (hx : ev f.r x = .chan (some c)) (w : World) :
  stepG P main (G (b.at a (.inRegion ops (i :: rest) :: K)) cs) w = .comm (G (b.at a (.inRegion ops (i :: rest) :: K)) cs) #[rcase (ρ.blk c) z] true (.recv ok) w #[] := by
 have hw := gd_wanted A hg
 have hnd : ∀ c,o.op ≠ .defer c := fun c e => by rw [hop] at e; cases e
 have hk' : (b.kind == CallKind.early) = false := by simpa using hk
 obtain ⟨hok,hv⟩ := (ev_rel A.regs x).val (by rw [hx]; simp [unk])
 rw [hx] at hv
 simp only [ren] at hv
 have hrun : RunsTo P (fun _ => False) (execOp a.eval o) w fun nx w' => nx = .comm #[rcase (ρ.blk c) z] true (.recv ok) ∧ w' = w := by
  unfold execOp
  rw [hop]
  simp only
  refine RunsTo.bind (RunsTo.underlying hu ?_)
  simp only
  refine RunsTo.bind (RunsTo.zeroValue hi hz (RunsTo.pure ⟨?_,rfl⟩))
  rw [hv]
  rfl
 obtain ⟨nx,w',hr,rfl,rfl⟩ := quiet_run hrun
 rw [stepG_op ho hw hnd]
 simp only [stepG.apply,hr,if_true]
 simp [FB.at,hk',GStep.after,G,seen]
theorem stepG_send (hk : b.kind ≠ .early) (ho : ops[i]? = some o) (hg : gd ops o f.r = some true) (A : ActRel h.length ρ N f a) {x y : Operand} (hop : o.op = .send x y) {c : Nat} (hx : ev f.r x = .chan (some c)) {v : Value} (hy : ev f.r y = v) (hv : v ≠ unk) (w : World) :
  stepG P main (G (b.at a (.inRegion ops (i :: rest) :: K)) cs) w = .comm (G (b.at a (.inRegion ops (i :: rest) :: K)) cs) #[scase (ρ.blk c) (ren ρ v) (.tuple #[])] true .send w #[] := by
 have hw := gd_wanted A hg
 have hnd : ∀ c,o.op ≠ .defer c := fun c e => by rw [hop] at e; cases e
 have hk' : (b.kind == CallKind.early) = false := by simpa using hk
 have hxv := ((ev_rel A.regs x).val (by rw [hx]; simp [unk])).2
 have hyv := ((ev_rel A.regs y).val (by rw [hy]; exact hv)).2
 rw [hx] at hxv
 rw [hy] at hyv
 simp only [ren] at hxv
 have hr : (execOp a.eval o).runT P w #[] = (.ok (.comm #[scase (ρ.blk c) (ren ρ v) (.tuple #[])] true .send) w,#[]) := by
  unfold execOp
  rw [hop]
  simp only [hxv,hyv]
  rfl
 rw [stepG_op ho hw hnd]
 simp only [stepG.apply,hr,if_true]
 simp [FB.at,hk',GStep.after,G,seen]
theorem served_at (v : Value) : Conc.served (G (b.at a (.inRegion ops (i :: rest) :: K)) cs) v = G (b.at (a.put ((ops[i]?).bind (·.dst)) v) (.inRegion ops rest :: K)) cs := by
 rw [← FB.finish_at]
 rfl
theorem go_step (hk : b.kind ≠ .early) (ho : ops[i]? = some o) (hg : gd ops o f.r = some true) (A : ActRel h.length ρ N f a) {x : Operand} {ats : Array TypeId} (hop : o.op = .go { callee := .value x,args := #[],argTypes := ats })
  {g : FuncId} {cap : List Value} (hx : ev f.r x = .func (.func g) ⟨[]⟩ ⟨cap⟩) (hcl : callable P g = true) {k : Nat} (hkp : k ∉ T.pend) (hown : T.ch T.c = some (0,#[],false))
  (hto : ∀ w₁,RelyW ft w w₁ → Toward P (AtSend P T.c (T.phi k)) (G (Frame.enter P g ⟨cap.map (ren ρ)⟩ .deferred) [base0 P]) w₁ ft.lend)
  (hJ : ∀ w₁,RelyW ft w w₁ → JC P W0 Post (T.more k) (G (b.at (a.put o.dst undef) (.inRegion ops rest :: K)) cs) w₁ ft.lend) :
  JC P W0 Post T (G (b.at a (.inRegion ops (i :: rest) :: K)) cs) w ft :=
 JC.spawn rfl hkp hown fun w₁ h₁ => ⟨_,_,stepG_go hk ho hg A hop hx w₁,born_toward rfl hcl (hto w₁ h₁),hJ w₁ h₁⟩
theorem recv_step (hk : b.kind ≠ .early) (ho : ops[i]? = some o) (hg : gd ops o f.r = some true) (A : ActRel h.length ρ N f a) {x : Operand} {t : TypeId} {ok : Bool} (hop : o.op = .recv t x ok)
  {dir : ChanDir} {e : TypeId} (hu : P.underlying t = some (.chan dir e)) {ie : TypeInfo} (hi : P.info? e = some ie) {z : Value} (hz : ie.zero = some z) {c : Nat} (hx : ev f.r x = .chan (some c)) (hc : ρ.blk c = T.c) (hp : T.pend ≠ [])
  (hN : ∀ k ∈ T.pend,∀ v,T.phi k v → ∀ w₁,RelyW ft w w₁ → JC P W0 Post (T.less k) (G (b.at (a.put o.dst (recvd ok v true)) (.inRegion ops rest :: K)) cs) w₁ ft) :
  JC P W0 Post T (G (b.at a (.inRegion ops (i :: rest) :: K)) cs) w ft :=
 JC.recv rfl hp fun w₁ h₁ => ⟨_,z,by rw [← hc]; exact stepG_recv hk ho hg A hop hu hi hz hx w₁,fun k hk v hv => by
  rw [served_at,ho]
  exact hN k hk v hv w₁ h₁⟩
theorem send_stop (hk : b.kind = .deferred) (hr : b.ro = none) (hbd : b.dfs = []) (ho : ops[i]? = some o) (hg : gd ops o f.r = some true) (A : ActRel h.length ρ N f a) (hds : f.ds = []) {x y : Operand} (hop : o.op = .send x y) (hdst : o.dst = none) {c : Nat} (hx : ev f.r x = .chan (some c)) (hc : ρ.blk c = T.c) {v : Value} (hy : ev f.r y = v) (hv : v ≠ unk)
  {k : Nat} (hphi : T.phi k (ren ρ v)) {fn : Func} (hf : P.funcs[b.fn]? = some fn) (hres : fn.results = #[]) (hca : (base0 P).catches P = false) :
  Toward P (AtSend P T.c (T.phi k)) (G (b.at a [.inRegion ops [i]]) [base0 P]) w ft :=
 .stop rfl fun w₁ _ => ⟨_,_,_,by rw [← hc]; exact stepG_send (by rw [hk]; simp) ho hg A hop hx hy hv w₁,hphi,4,by
  rw [served_at,ho]
  simp only [Option.bind_some,hdst]
  exact worker_quits hk hr hbd (by simp [Act.put,A.defers,hds]) hf hres hca⟩
end
def frzO : AObj → AObj
 | .cells c _ sz => .cells c false sz
 | .map es _ => .map es false
 | _ => .dead
def frz (h : List AObj) : List AObj := h.map frzO
def unchO : AObj → AObj
 | .chan _ => .dead
 | .group _ => .dead
 | o => o
def unch (h : List AObj) : List AObj := h.map unchO
def Chs (ρ : Env) (h : List AObj) (b : Nat) : Prop := ∃ i cap,h[i]? = some (.chan cap) ∧ ρ.blk i = b
open Classical in
noncomputable def keepF (ρ : Env) (h : List AObj) (w : World) (ft : Foot) : Frm := ⟨fun b => if ft.rd b ∧ ¬ Chs ρ h b then w.heap[b]? else none,fun _ => False⟩
def lentF (ρ : Env) (h : List AObj) (ft : Foot) : Foot := ⟨fun b => ft.rd b ∧ ¬ Chs ρ h b,fun _ => False,ft.tag⟩
section
variable {ρ ρ' : Env} {h h' g : List AObj} {FC : Frm} {w w' : World} {ft ft' : Foot}
theorem frz_len : (frz h).length = h.length := by simp [frz]
theorem frz_get {i : Nat} {o : AObj} (e : (frz h)[i]? = some o) : ∃ x,h[i]? = some x ∧ frzO x = o := by
 unfold frz at e
 rw [List.getElem?_map] at e
 exact Option.map_eq_some_iff.1 e
theorem frz_wrt (o : AObj) : (frzO o).wrt = false := by cases o <;> rfl
theorem frz_live {o : AObj} (hl : (frzO o).live = true) : o.live = true ∧ ∀ cap,o ≠ .chan cap := by
 cases o <;> first | (cases hl; done) | exact ⟨rfl,fun _ e => by cases e⟩
theorem unch_len : (unch h).length = h.length := by simp [unch]
theorem not_chs (H : HRel ρ h FC w ft) {i : Nat} {o : AObj} (hi : h[i]? = some o) (hl : o.live = true) (hn : ∀ cap,o ≠ .chan cap) : ¬ Chs ρ h (ρ.blk i) := by
 rintro ⟨j,cap,hj,e⟩
 have := H.inj i j _ _ hi hj hl rfl e.symm
 subst this
 rw [hi] at hj
 cases hj
 exact hn cap rfl
theorem frz_orel {n b : Nat} {o : AObj} {x : Option Obj} (ho : ORel n ρ b o x) : ORel n ρ b (frzO o) x := by
 cases o with
 | cells c wr sz =>
  match x,ho with
  | some (.cells c' ty fr),ho =>
   obtain ⟨h1,h2,h3,_⟩ := ho
   exact ⟨fun i v hv => (h1 i v hv).imp (fun e => ⟨e.1,rfl⟩) id,h2,h3,fun e => by cases e⟩
 | map es wr =>
  match x,ho with
  | some (.map es' ty),ho => exact ho
 | _ => trivial
theorem frz_rel (H : HRel ρ h FC w ft) : HRel ρ (frz h) (keepF ρ h w ft) w (lentF ρ h ft) where
 obj := fun i o hi => by
  obtain ⟨x,hx,rfl⟩ := frz_get hi
  rw [frz_len]
  exact frz_orel (H.obj i x hx)
 inj := fun i j o o' hi hj l l' e => by
  obtain ⟨x,hx,rfl⟩ := frz_get hi
  obtain ⟨y,hy,rfl⟩ := frz_get hj
  exact H.inj i j x y hx hy (frz_live l).1 (frz_live l').1 e
 rd := fun i o hi l => by
  obtain ⟨x,hx,rfl⟩ := frz_get hi
  exact ⟨H.rd i x hx (frz_live l).1,not_chs H hx (frz_live l).1 (frz_live l).2⟩
 wr := fun i o hi l => by
  obtain ⟨x,hx,rfl⟩ := frz_get hi
  rw [frz_wrt] at l
  cases l
 lt := fun b hb => H.lt b hb.1
 sub := fun _ hb => hb.elim
 kept := fun b o hb => by
  unfold keepF at hb
  simp only at hb
  split at hb
  ·rename_i hc
   refine ⟨hb,hc,fun i oi hi l => ?_⟩
   obtain ⟨x,hx,rfl⟩ := frz_get hi
   rw [frz_wrt] at l
   cases l
  ·cases hb
 keptW := fun _ hb => hb.elim
 tag := fun i x hi => by
  obtain ⟨y,_,e⟩ := frz_get hi
  cases y <;> cases e
theorem lend_rel (H : HRel ρ h FC w ft) (hn : ∀ o ∈ h,o.wrt = false) (hw : ∀ b,¬ FC.wr b) : HRel ρ h FC w ft.lend where
 obj := H.obj
 inj := H.inj
 rd := H.rd
 wr := fun i o hi l => by rw [hn o (List.mem_of_getElem? hi)] at l; cases l
 lt := H.lt
 sub := fun _ hb => hb.elim
 kept := H.kept
 keptW := fun b hb => (hw b hb).elim
 tag := H.tag
def thawF (ρ : Env) (h : List AObj) (ft ft' : Foot) : Foot := ⟨fun b => ft'.rd b ∨ Chs ρ h b,fun b => ft.wr b ∨ ft'.wr b,ft'.tag⟩
theorem keep_ob (_H : HRel ρ h FC w ft) {b : Nat} (hr : ft.rd b) (hc : ¬ Chs ρ h b) : (keepF ρ h w ft).ob b = w.heap[b]? := if_pos ⟨hr,hc⟩
theorem thaw_rel (H : HRel ρ h FC w ft) (H' : HRel ρ' (frz h ++ g) (keepF ρ h w ft) w' ft') (hu : Env.upto h.length ρ ρ') (hg : ∀ o ∈ g,o.live = true → o.wrt = true) (hs : ∀ b,Chs ρ h b → b < w'.heap.size) :
  HRel ρ' (unch h ++ g) FC w' (thawF ρ h ft ft') ∧ (∀ b,(thawF ρ h ft ft').wr b → (thawF ρ h ft ft').rd b) := by
 have stay : ∀ b,ft.rd b → ¬ Chs ρ h b → w'.heap[b]? = w.heap[b]? ∧ ft'.rd b ∧ ∀ (a : Nat) (oa : AObj),(frz h ++ g)[a]? = some oa → oa.wrt = true → ρ'.blk a ≠ b := fun b hr hc => by
  have hlt := H.lt b hr
  have := H'.kept b w.heap[b] (by rw [keep_ob H hr hc,Array.getElem?_eq_getElem hlt])
  exact ⟨by rw [this.1,Array.getElem?_eq_getElem hlt],this.2⟩
 have hblk : ∀ i o,h[i]? = some o → ρ'.blk i = ρ.blk i := fun i o hi => (hu i (List.getElem?_eq_some_iff.1 hi).1).1
 -- what is met in the heap
 have get : ∀ {i : Nat} {o : AObj},(unch h ++ g)[i]? = some o → (∃ x,h[i]? = some x ∧ unchO x = o) ∨ (h.length ≤ i ∧ g[i - h.length]? = some o ∧ (frz h ++ g)[i]? = some o) := fun {i o} e => by
  rw [List.getElem?_append] at e
  split at e
  ·unfold unch at e
   rw [List.getElem?_map] at e
   exact .inl (Option.map_eq_some_iff.1 e)
  ·rename_i hge
   rw [unch_len] at hge e
   exact .inr ⟨by omega,e,by rw [List.getElem?_append_right (by rw [frz_len]; omega),frz_len]; exact e⟩
 have live : ∀ {x : AObj},(unchO x).live = true → x.live = true ∧ (∀ cap,x ≠ .chan cap) ∧ unchO x = x := fun {x} l => by
  cases x <;> first | (cases l; done) | exact ⟨rfl,(fun _ e => by cases e),rfl⟩
 have wlive : ∀ {o : AObj},o.wrt = true → o.live = true := fun {o} l => by cases o <;> first | (cases l; done) | rfl
 have old : ∀ {i : Nat} {x : AObj},h[i]? = some x → (unchO x).live = true → ft.rd (ρ.blk i) ∧ ¬ Chs ρ h (ρ.blk i) := fun {i x} hx l => by
  obtain ⟨l1,l2,_⟩ := live l
  exact ⟨H.rd i x hx l1,not_chs H hx l1 l2⟩
 have hsub : ∀ b,(thawF ρ h ft ft').wr b → (thawF ρ h ft ft').rd b := fun b hb => by
  rcases hb with hb | hb
  ·by_cases hc : Chs ρ h b
   ·exact .inr hc
   ·exact .inl (stay b (H.sub b hb) hc).2.1
  ·exact .inl (H'.sub b hb)
 refine ⟨⟨fun i o hi => ?_,fun i j o o' hi hj l l' e => ?_,fun i o hi l => ?_,fun i o hi l => ?_,fun b hb => hb.elim (H'.lt b) (hs b),hsub,fun b o hb => ?_,fun b hb => .inl (H.keptW b hb),fun i x hi => (by
  rcases get hi with ⟨y,_,e⟩ | ⟨_,_,hfi⟩
  ·cases y <;> cases e
  ·exact H'.tag i x hfi)⟩,hsub⟩
 ·rcases get hi with ⟨x,hx,rfl⟩ | ⟨hge,hgi,hfi⟩
  ·by_cases l : (unchO x).live = true
   ·obtain ⟨o1,o2⟩ := old hx l
    obtain ⟨_,_,e⟩ := live l
    rw [e,hblk i x hx,(stay _ o1 o2).1]
    have := (H.obj i x hx).congr (m := (unch h ++ g).length) hu (by rw [List.length_append,unch_len]; omega) (List.getElem?_eq_some_iff.1 hx).1
    exact this
   ·cases hx' : unchO x <;> rw [hx'] at l <;> first | trivial | exact absurd rfl l
  ·have := H'.obj i o hfi
   rw [List.length_append,frz_len] at this
   rw [List.length_append,unch_len]
   exact this
 ·rcases get hi with ⟨x,hx,rfl⟩ | ⟨hge,hgi,hfi⟩ <;> rcases get hj with ⟨y,hy,rfl⟩ | ⟨hge',hgj,hfj⟩
  ·rw [hblk i x hx,hblk j y hy] at e
   exact H.inj i j x y hx hy (live l).1 (live l').1 e
  ·exfalso
   obtain ⟨o1,o2⟩ := old hx l
   refine (stay _ o1 o2).2.2 j o' hfj (hg o' (List.mem_of_getElem? hgj) l') ?_
   rw [← e,hblk i x hx]
  ·exfalso
   obtain ⟨o1,o2⟩ := old hy l'
   refine (stay _ o1 o2).2.2 i o hfi (hg o (List.mem_of_getElem? hgi) l) ?_
   rw [e,hblk j y hy]
  ·exact H'.inj i j o o' hfi hfj l l' e
 ·rcases get hi with ⟨x,hx,rfl⟩ | ⟨hge,hgi,hfi⟩
  ·obtain ⟨o1,o2⟩ := old hx l
   rw [hblk i x hx]
   exact .inl (stay _ o1 o2).2.1
  ·exact .inl (H'.rd i o hfi l)
 ·rcases get hi with ⟨x,hx,rfl⟩ | ⟨hge,hgi,hfi⟩
  ·obtain ⟨_,_,e⟩ := live (wlive l)
   rw [e] at l
   rw [hblk i x hx]
   exact .inl (H.wr i x hx l)
  ·exact .inr (H'.wr i o hfi l)
 ·obtain ⟨a1,a2,a3⟩ := H.kept b o hb
  have hc : ¬ Chs ρ h b := fun ⟨i,cap,hi,e⟩ => a3 i _ hi rfl e
  obtain ⟨s1,s2,s3⟩ := stay b a2 hc
  refine ⟨by rw [s1]; exact a1,.inl s2,fun i oi hi l => ?_⟩
  rcases get hi with ⟨x,hx,rfl⟩ | ⟨hge,hgi,hfi⟩
  ·obtain ⟨_,_,e⟩ := live (wlive l)
   rw [e] at l
   rw [hblk i x hx]
   exact a3 i x hx l
  ·exact s3 i oi hfi l
end
def At (J : JT) (N : Nat) (b : FB) (cs : List Frame) (FC : Frm) (ρ0 : Env) (m : Nat) (k : List Item) (f : RG) (h : List AObj) : Prop :=
 ∀ (a : Act) (ρ : Env) (w : World) (ft : Foot),ActRel h.length ρ N f a → HRel ρ h FC w ft → Env.upto m ρ0 ρ → m ≤ h.length → J (G (b.at a k) cs) w ft
section
variable {P : Program} {main : Bool} {J : JT} {N m n1 : Nat} {fn : FuncId} {b : FB} {cs : List Frame} {FC : Frm} {ρ0 : Env} {k : List Item} {f : RG} {h : List AObj} {Q : QT} {c x y : Code} {ops : Array Oper} {i : Nat} {rest : List Nat} {o : Oper}
theorem At.ctrl (hJ : Closed P main J) {k' : List Item} (hst : ∀ a w,stepG P main (G (b.at a k) cs) w = .go (G (b.at a k') cs) w #[]) (h' : At J N b cs FC ρ0 m k' f h) : At J N b cs FC ρ0 m k f h :=
 fun a ρ w ft A H hu hm => hJ.ctrl rfl rfl (hst a) (h' a ρ w ft A H hu hm)
theorem At.seq (hJ : Closed P main J) (h' : At J N b cs FC ρ0 m (.code x :: .code y :: k) f h) : At J N b cs FC ρ0 m (.code (.seq x y) :: k) f h :=
 At.ctrl hJ (fun a w => by simp [G,stepG,stepG.exec,FB.at]) h'
theorem At.block (hJ : Closed P main J) {id : Nat} (h' : At J N b cs FC ρ0 m (.code c :: .inBlock id :: k) f h) : At J N b cs FC ρ0 m (.code (.block id c) :: k) f h :=
 At.ctrl hJ (fun a w => by simp [G,stepG,stepG.exec,FB.at]) h'
theorem At.inBlock (hJ : Closed P main J) {id : Nat} (h' : At J N b cs FC ρ0 m k f h) : At J N b cs FC ρ0 m (.inBlock id :: k) f h :=
 At.ctrl hJ (fun a w => by simp [G,stepG,stepG.exec,FB.at]) h'
theorem At.loop (hJ : Closed P main J) (h' : At J N b cs FC ρ0 m (.code c :: .inLoop c :: k) f h) : At J N b cs FC ρ0 m (.code (.loop c) :: k) f h :=
 At.ctrl hJ (fun a w => by simp [G,stepG,stepG.exec,FB.at]) h'
theorem At.inLoop (hJ : Closed P main J) (h' : At J N b cs FC ρ0 m (.code c :: .inLoop c :: k) f h) : At J N b cs FC ρ0 m (.inLoop c :: k) f h :=
 At.ctrl hJ (fun a w => by simp [G,stepG,stepG.exec,FB.at]) h'
theorem At.region (hJ : Closed P main J) {id : Nat} (h' : At J N b cs FC ρ0 m (.inRegion ops (List.range ops.size) :: k) f h) : At J N b cs FC ρ0 m (.code (.region id ops false) :: k) f h :=
 At.ctrl hJ (fun a w => by simp [G,stepG,stepG.exec,FB.at]) h'
theorem At.ops_nil (hJ : Closed P main J) (h' : At J N b cs FC ρ0 m k f h) : At J N b cs FC ρ0 m (.inRegion ops [] :: k) f h :=
 At.ctrl hJ (fun a w => by simp [G,stepG,stepG.exec,FB.at]) h'
theorem At.piece (hb : b.tag = fn) (hk : b.kind ≠ .early) (hs : Sem J N n1 fn c f h Q) (h1 : m ≤ n1) (h2 : n1 ≤ h.length) (hq : ∀ e f' h',Q e f' h' → (e = .normal ∧ At J N b cs FC ρ0 m k f' h') ∨ ∃ id k',e = .exit id ∧ exitTo id k = some k' ∧ At J N b cs FC ρ0 m k' f' h') : At J N b cs FC ρ0 m (.code c :: k) f h := by
 intro a ρ w ft A H hu hm
 refine hs b a k cs (fun _ _ _ _ => False) ρ FC w ft hb hk (fun _ _ _ _ _ hf _ => hf.elim) A H h2 fun e f' h' ρ' w' ft' a' q A' H' hu' hl' => ?_
 have up : Env.upto m ρ0 ρ' := Env.upto_trans hu (Env.upto_le hu' h1)
 rcases hq e f' h' q with ⟨rfl,hat⟩ | ⟨id,k',rfl,hex,hat⟩
 ·exact hat a' ρ' w' ft' A' H' up (Nat.le_trans h1 hl')
 ·unfold AfterJ
  simp only [hex]
  exact hat a' ρ' w' ft' A' H' up (Nat.le_trans h1 hl')
theorem At.op (hJ : Closed P main J) (hk : b.kind ≠ .early) (ho : ops[i]? = some o) (hd : dstOk N o = true) (hg : gd ops o f.r = some true) (hop : opW P (Good P J) o f.r h fun v h' => h.length ≤ h'.length → At J N b cs FC ρ0 m (.inRegion ops rest :: k) (f.putO o.dst v) h') :
  At J N b cs FC ρ0 m (.inRegion ops (i :: rest) :: k) f h := fun _a _ρ _w _ft A H hu hm =>
 step_any hJ hk ho hg (dstOk_lt hd) A H hop fun _v _h' ρ' w' ft' a' hK A' H' hu' hl' => hK hl' a' ρ' w' ft' A' H' (Env.upto_trans hu (Env.upto_le hu' hm)) (Nat.le_trans hm hl')
theorem At.drop {g : List AObj} {f' : RG} (ok : heapOk h) (hf : ∀ t,f'.r t = unk ∨ (f'.r t = f.r t ∧ VOk h.length (f'.r t))) (hd : f'.ds = f.ds) (hds : ∀ b ∈ f.ds,b < h.length) (hm' : m ≤ h.length) (h' : At J N b cs FC ρ0 m k f' h) : At J N b cs FC ρ0 m k f (h ++ g) := by
 intro a ρ w ft A H hu hm
 have gc := gc_drop (g := g) ok (Nat.le_refl h.length)
 have hcomp : ρ.comp id = ρ := rfl
 have H2 := gc.rel H
 rw [hcomp] at H2
 refine h' a ρ w ft ⟨fun t => ?_,A.size,by rw [hd]; exact A.defers,by rw [hd]; exact hds⟩ H2 hu hm'
 rcases hf t with e | ⟨e,hv⟩
 ·exact .inl e
 ·rcases A.regs t with e2 | ⟨_,e2⟩
  ·exact .inl (e.trans e2)
  ·exact .inr ⟨hv,by rw [e2,e]⟩
end
section
variable {P : Program} {W0 : World} {Post : Value → World → Prop} {T : Crew} {N m : Nat} {b : FB} {cs : List Frame} {FC : Frm} {ρ0 : Env} {K : List Item} {f : RG} {h : List AObj} {ops : Array Oper} {i : Nat} {rest : List Nat} {o : Oper}
theorem At.go (hk : b.kind ≠ .early) (ho : ops[i]? = some o) (hg : gd ops o f.r = some true) {x : Operand} {ats : Array TypeId} (hop : o.op = .go { callee := .value x,args := #[],argTypes := ats }) (hdst : o.dst = none)
  {g : FuncId} {cap : List Value} (hx : ev f.r x = .func (.func g) ⟨[]⟩ ⟨cap⟩) (hcl : callable P g = true) {k : Nat} (hkp : k ∉ T.pend) (hown : T.ch T.c = some (0,#[],false))
  {h0 hd : List AObj} (hh : h = h0 ++ hd) (hn : ∀ o ∈ h0,o.wrt = false) (hw : ∀ b,¬ FC.wr b) (ok : heapOk h0) (hm0 : m ≤ h0.length)
  (hto : ∀ (ρ : Env) (w : World) (ft : Foot),HRel ρ (frz h) (keepF ρ h w ft) w ft.lend → Env.upto m ρ0 ρ → Toward P (AtSend P T.c (T.phi k)) (G (Frame.enter P g ⟨cap.map (ren ρ)⟩ .deferred) [base0 P]) w ft.lend)
  (hnc : ∀ cap,.chan cap ∉ h)
  {f' : RG} (hf : ∀ t,f'.r t = unk ∨ (f'.r t = f.r t ∧ VOk h0.length (f'.r t))) (hfd : f'.ds = f.ds) (hds : ∀ b ∈ f.ds,b < h0.length)
  (hJ : At (JC P W0 Post (T.more k)) N b cs FC ρ0 m (.inRegion ops rest :: K) f' h0) :
  At (JC P W0 Post T) N b cs FC ρ0 m (.inRegion ops (i :: rest) :: K) f h := by
 intro a ρ w ft A H hu hm
 have nc : ∀ b,¬ Chs ρ h b := fun b ⟨j,cap,hj,_⟩ => hnc cap (List.mem_of_getElem? hj)
 refine go_step hk ho hg A hop hx hcl hkp hown (fun w₁ h₁ => ?_) fun w₁ h₁ => ?_
 ·have hlf : lentF ρ h ft = ft.lend := by
   unfold lentF Foot.lend
   simp only [Foot.mk.injEq,and_true]
   funext b
   simp [nc b]
  have hfr := frz_rel (H.rely h₁)
  rw [hlf] at hfr
  exact hto ρ w₁ ft hfr hu
 ·subst hh
  have gc := gc_drop (g := hd) ok (Nat.le_refl h0.length)
  have H2 := gc.rel (H.rely h₁)
  rw [show ρ.comp id = ρ from rfl] at H2
  refine hJ _ ρ w₁ ft.lend ⟨fun t => ?_,by simp [Act.put,hdst,A.size],by simp [Act.put,hdst,hfd,A.defers],by rw [hfd]; exact hds⟩ (lend_rel H2 hn hw) hu hm0
  simp only [Act.put,hdst]
  rcases hf t with e | ⟨e,hv⟩
  ·exact .inl e
  ·rcases A.regs t with e2 | ⟨_,e2⟩
   ·exact .inl (e.trans e2)
   ·exact .inr ⟨hv,by rw [e2,e]⟩
theorem At.recv (hk : b.kind ≠ .early) (ho : ops[i]? = some o) (hd : dstOk N o = true) (hg : gd ops o f.r = some true) {x : Operand} {t : TypeId} {ok : Bool} (hop : o.op = .recv t x ok)
  {dir : ChanDir} {e : TypeId} (hu : P.underlying t = some (.chan dir e)) {ie : TypeInfo} (hi : P.info? e = some ie) {z : Value} (hz : ie.zero = some z) {c : Nat} (hx : ev f.r x = .chan (some c)) (hcm : c < m) (hc : ρ0.blk c = T.c) (hp : T.pend ≠ [])
  (hN : ∀ k ∈ T.pend,∀ v,T.phi k v → ∃ v0,v = v0 ∧ VOk 0 v0 ∧ At (JC P W0 Post (T.less k)) N b cs FC ρ0 m (.inRegion ops rest :: K) (f.putO o.dst (recvd ok v0 true)) h) :
  At (JC P W0 Post T) N b cs FC ρ0 m (.inRegion ops (i :: rest) :: K) f h := by
 intro a ρ w ft A H hu' hm
 refine recv_step hk ho hg A hop hu hi hz hx (by rw [(hu' c hcm).1]; exact hc) hp fun k hkm v hv w₁ h₁ => ?_
 obtain ⟨v0,rfl,hv0,hat⟩ := hN k hkm v hv
 refine hat _ ρ w₁ ft (act_put A (dstOk_lt hd) (.inr ?_)) (H.rely h₁) hu' hm
 have h0 : VOk 0 (recvd ok v true) := by
  unfold recvd
  cases ok
  ·exact hv0
  ·simp [VOk,AOk,LOk,hv0]
 exact ⟨VOk.mono (Nat.zero_le _) _ h0,(ren0 _ h0).symm⟩
end
def lastOk (ops ops' : Array Oper) (last : Nat) : Nat → Array Bool → Array Bool → Bool
 | 0,L,L' => (Region.ready .any ops L == [last]) && (Region.ready .any ops' L').isEmpty
 | n + 1,L,L' => (Region.ready .any ops L == Region.ready .any ops' L') && !(Region.ready .any ops L).isEmpty && (Region.ready .any ops L).all fun i => lastOk ops ops' last n (L.setIfInBounds i true) (L'.setIfInBounds i true)
section
variable {P : Program} {main : Bool} {J : JT} {N m : Nat} {b : FB} {cs : List Frame} {FC : Frm} {ρ0 : Env} {k : List Item} {f : RG} {h : List AObj} {ops ops' : Array Oper} {last : Nat}
theorem At.orders (hJ : Closed P main J) (hk : b.kind ≠ .early) (hsame : ∀ (i : Nat) (o : Oper),ops'[i]? = some o → ops[i]? = some o ∧ ∀ r,gd ops' o r = gd ops o r) {S : List AObj → Prop} {K : RG → List AObj → Prop}
  (hK : ∀ f h,K f h → At J N b cs FC ρ0 m (.inRegion ops [last] :: k) f h) : ∀ (n t : Nat) (L L' : Array Bool) (f : RG) (h : List AObj),lastOk ops ops' last n L L' = true → AnyH P (Good P J) N ops' S n L' f h K → At J N b cs FC ρ0 m (.inRegion ops (Region.linearise.go .any ops (n + 1) t L []) :: k) f h := by
 intro n
 induction n with
 | zero =>
  intro t L L' f h hc hA
  unfold lastOk at hc
  have hr : Region.ready .any ops L = [last] := by simp at hc; exact hc.1
  have e : Region.linearise.go .any ops (0 + 1) t L [] = [last] := by
   simp only [Region.linearise.go]
   change (match (Region.ready .any ops L)[t % (Region.ready .any ops L).length]? with
    | some i => [i].reverse
    | none => [].reverse) = [last]
   rw [hr]
   simp [Nat.mod_one]
  rw [e]
  exact hK f h hA.2
 | succ n ih =>
  intro t L L' f h hc hA
  obtain ⟨_,h₁⟩ := hA
  unfold lastOk at hc
  simp only [Bool.and_eq_true,beq_iff_eq,Bool.not_eq_true',List.all_eq_true] at hc
  obtain ⟨⟨hr,hne⟩,hall⟩ := hc
  rw [Region.linearise.go]
  change At J N b cs FC ρ0 m (.inRegion ops (match (Region.ready .any ops L)[t % (Region.ready .any ops L).length]? with
   | some i => Region.linearise.go .any ops (n + 1) (t / (Region.ready .any ops L).length) (L.setIfInBounds i true) [i]
   | none => [].reverse) :: k) f h
  cases hi : (Region.ready .any ops L)[t % (Region.ready .any ops L).length]? with
  | none =>
   exfalso
   have hpos : 0 < (Region.ready .any ops L).length := by
    cases hr2 : Region.ready .any ops L with
    | nil => rw [hr2] at hne; cases hne
    | cons x xs => simp
   have := Nat.mod_lt t hpos
   rw [List.getElem?_eq_none_iff] at hi
   omega
  | some i =>
   simp only []
   rw [linearise_go_acc,List.reverse_singleton,List.singleton_append]
   have hm := List.mem_of_getElem? hi
   have hm' : i ∈ Region.ready .any ops' L' := by rw [← hr]; exact hm
   have hm2 := hm'
   rw [mem_ready] at hm2
   obtain ⟨_,o,ho',_⟩ := hm2
   obtain ⟨ho,hgd⟩ := hsame i o ho'
   obtain ⟨hN,K',hK',hsub⟩ := h₁ i hm' o ho'
   intro a ρ w ft A H hu hm0
   unfold opG at hK'
   rw [hgd] at hK'
   split at hK'
   ·rename_i hg
    exact step_any hJ hk ho hg hN A H hK' fun v h' ρ' w' ft' a' kk A' H' hu' hl' => ih _ _ _ _ _ (hall i hm) (hsub v h' kk).2 a' ρ' w' ft' A' H' (Env.upto_trans hu (Env.upto_le hu' hm0)) (Nat.le_trans hm0 hl')
   ·rename_i hg
    refine step_skip hJ ho hg A ?_
    exact ih _ _ _ _ _ (hall i hm) (hsub _ _ hK').2 _ ρ w ft (act_put A hN (vrel_undef _ _)) H hu hm0
   ·exact hK'.elim
theorem At.draw (hJ : Closed P main J) (hm : P.follows .mixedOrders = true) (hk : b.kind ≠ .early) (hsame : ∀ (i : Nat) (o : Oper),ops'[i]? = some o → ops[i]? = some o ∧ ∀ r,gd ops' o r = gd ops o r) {K : RG → List AObj → Prop} {id n : Nat} (hn : ops.size = n + 1) (_hn' : ops'.size = n)
  (hl : lastOk ops ops' last n (Array.replicate (n + 1) false) (Array.replicate n false) = true) {p : Plan} (hp : planOk P ops' p n (Array.replicate n false) none = true) {B : Option (List Nat)}
  (hq : planW P (Good P J) N ops' B h p true [] f h K) (hB : B ≠ none)
  (hK : ∀ f h,K f h → At J N b cs FC ρ0 m (.inRegion ops [last] :: k) f h) : At J N b cs FC ρ0 m (.code (.region id ops true) :: k) f h := by
 have hA : AnyH P (Good P J) N ops' (SameB B h) n (Array.replicate n false) f h K := by
  refine anyW_sound _ _ true [] f h down_init (fun j b e => by cases e) (fun _ => ?_) ?_
  ·cases B with
   | none => exact absurd rfl hB
   | some B => exact fun _ _ => rfl
  ·have := planW_eq (C := Good P J) (P := P) (N := N) (B := B) (h0 := h) (K := K) p n (Array.replicate n false) none true [] f h hp
   simp only [planT] at this
   rw [← this]
   exact hq
 intro a ρ w ft A H hu hm0
 refine hJ.step rfl fun w₁ h₁ => ⟨G (b.at a (.inRegion ops (Region.schedule (P.follows .mixedOrders) ops (w₁.tape w₁.drawn (.order b.fn id))) :: k)) cs,{ w₁ with drawn := w₁.drawn + 1 },#[],?_,rfl,(Stays.drawn ft w₁ _).guar (by simp),?_⟩
 ·simp [G,stepG,stepG.exec,FB.at,choose,Go.Sem.run,Question.forced,Question.cut]
 ·rw [show ({ w₁ with drawn := w₁.drawn + 1 } : World).heap = w₁.heap from rfl,Foot.ext_self]
  have H₁ := (H.rely h₁).of_drawn (w₁.drawn + 1)
  simp only [Region.schedule,hm,Bool.true_or,if_true]
  have := At.orders hJ hk hsame hK n (w₁.tape w₁.drawn (.order b.fn id)) _ _ f h hl hA a ρ _ ft A H₁ hu hm0
  rw [← hn] at this
  exact this
theorem At.enter {g : FuncId} {fn : Func} (hf : P.funcs[g]? = some fn) {c : Code} (hb : fn.body = some c) {args : List Value} (ha : args.length ≤ fn.ntmps) (hv : ∀ v ∈ args,VOk h.length v) {ρ : Env} {w : World} {ft : Foot} (H : HRel ρ h FC w ft)
  (hA : At J fn.ntmps ⟨g,.deferred,none,[]⟩ cs FC ρ h.length [.code c] ⟨regs args,[]⟩ h) : J (G (Frame.enter P g ⟨args.map (ren ρ)⟩ .deferred) cs) w ft := by
 have he : Frame.enter P g ⟨args.map (ren ρ)⟩ .deferred = FB.at ⟨g,.deferred,none,[]⟩ ⟨⟨args.map (ren ρ)⟩ ++ Array.replicate (fn.ntmps - args.length) undef,[]⟩ [.code c] := by
  simp [Frame.enter,FB.at,hf,hb]
 rw [he]
 refine hA _ ρ w ft ⟨fun t => ?_,by simp; omega,rfl,by simp⟩ H (fun _ _ => ⟨rfl,rfl⟩) (Nat.le_refl _)
 have ht : ((⟨args.map (ren ρ)⟩ : Array Value) ++ Array.replicate (fn.ntmps - args.length) undef).getD t undef = (args.map (ren ρ)).getD t undef := by
  rw [Array.getD_eq_getD_getElem?,List.getD_eq_getElem?_getD]
  by_cases hx : t < args.length
  ·rw [Array.getElem?_append_left (by simpa using hx)]
   simp
  ·rw [Array.getElem?_append_right (by simp; omega),List.getElem?_eq_none (by simp; omega)]
   simp only [Array.getElem?_replicate]
   split <;> rfl
 rw [ht]
 by_cases hx : t < args.length
 ·refine .inr ?_
  show VOk h.length (regs args t) ∧ _
  have e1 : regs args t = args[t] := by simp [regs,List.getD_eq_getElem?_getD,List.getElem?_eq_getElem hx]
  rw [e1]
  refine ⟨hv _ (List.getElem_mem hx),?_⟩
  show _ = ren ρ (regs args t)
  rw [e1]
  simp [List.getD_eq_getElem?_getD,List.getElem?_eq_getElem hx]
 ·refine .inl ?_
  show regs args t = unk
  simp [regs,List.getD_eq_getElem?_getD,List.getElem?_eq_none (Nat.le_of_not_lt hx)]
end
end Go.Proofs.Ytfljbanjmplcfaa
