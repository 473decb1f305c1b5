/- Parts of the proof, 5. No conditions. -/
import Derived.Test.YtaceckiodofdkaaDoorK3
import Derived.Test.YtaceckiodofdkaaDoorK4
import Derived.Test.YtaceckiodofdkaaDoorK2
import Derived.Conc.CrowdComm
import Derived.Conc.TokenTrace
import Derived.Conc.Own2
namespace Go.Proofs.YtaceckiodofdkaaDoor
open Go.Conc Go.Proofs.Tryd
set_option maxRecDepth 100000
def ownL (t : Tal) (g : Nat) (n m : Int) : Rng := ⟨max 0 (n + ((t.changes[g]?).getD ⟨0,0⟩).lo - m),min t.most (n + ((t.changes[g]?).getD ⟨0,0⟩).hi - m)⟩
def mixL (acc s o : Rng) : Rng := if s.lo ≤ s.hi ∧ o.lo ≤ o.hi then ⟨min acc.lo (s.plus o).lo,max acc.hi (s.plus o).hi⟩ else acc
def accL (t : Tal) (g : Nat) (lo : Int) (prev : Nat → Rng) (m : Int) : Nat → Rng
 | 0 => ⟨1048576,-1⟩
 | i + 1 => mixL (accL t g lo prev m i) (prev i) (ownL t g (lo + i) m)
def wid (r : Rng) : Nat := (r.hi - r.lo + 1).toNat
def lossL (t : Tal) (R : Nat → Rng) (a : Nat) : Nat → Nat → Rng
 | 0,_ => ⟨0,0⟩
 | d + 1,k => accL t (a + d) (R (a + d)).lo (lossL t R a d) ((R (a + d + 1)).lo + k) (wid (R (a + d)))
def hullL (f : Nat → Rng) : Nat → Rng
 | 0 => f 0
 | n + 1 => ⟨min (hullL f n).lo (f n).lo,max (hullL f n).hi (f n).hi⟩
def lostR (t : Tal) (R : Nat → Rng) (a b : Nat) : Rng := hullL (lossL t R a (b - a)) (wid (R b))
def RSm (R : Nat → Rng) (G : Nat) : Prop := ∀ g,g < G → 0 ≤ (R g).lo ∧ (R g).lo ≤ (R g).hi ∧ (R g).hi ≤ 600
def Rng.lm (r : Rng) (B : Int) : Prop := 0 ≤ r.lo ∧ r.lo ≤ 1048576 ∧ -1 ≤ r.hi ∧ r.hi ≤ B
theorem mixL_lm {acc s o : Rng} {B : Int} (h1 : acc.lm (B + 60)) (h2 : s.lm B) (h3 : 0 ≤ o.lo ∧ o.hi ≤ 60) (hB : 0 ≤ B ∧ B ≤ 10000) : (mixL acc s o).lm (B + 60) := by
 obtain ⟨_,_,_,_⟩ := h1
 obtain ⟨_,_,_,_⟩ := h2
 unfold mixL
 split
 ·unfold Rng.plus Rng.lm
  dsimp only
  omega
 ·unfold Rng.lm
  omega
theorem ownL_sm {t : Tal} (h : TalFine t) (g : Nat) {n m : Int} (hn : 0 ≤ n ∧ n ≤ 600) (hm : 0 ≤ m ∧ m ≤ 600) : (ownL t g n m).sm 2000 := by
 have h1 := h.most
 unfold ownL
 cases e : t.changes[g]? with
 | none =>
  unfold Rng.sm
  dsimp only [Option.getD]
  omega
 | some r =>
  have := h.ch r (List.mem_of_getElem? e)
  unfold Rng.sm
  dsimp only [Option.getD]
  omega
theorem accL_lm {t : Tal} (h : TalFine t) (g : Nat) {lo m B : Int} {prev : Nat → Rng} {w : Nat} (hB : 0 ≤ B ∧ B ≤ 10000) (hp : ∀ i,i < w → (prev i).lm B) : ∀ i,i ≤ w → (accL t g lo prev m i).lm (B + 60)
 | 0,_ => by
  show Rng.lm ⟨1048576,-1⟩ _
  unfold Rng.lm
  dsimp only
  omega
 | i + 1,hi => by
  have ih := accL_lm h g (lo := lo) (m := m) hB hp i (by omega)
  have hm := h.most
  refine mixL_lm ih (hp i (by omega)) ?_ hB
  unfold ownL
  dsimp only
  omega
theorem lossL_lm {t : Tal} (h : TalFine t) {R : Nat → Rng} {a : Nat} : ∀ d,d ≤ 10 → ∀ k,(lossL t R a d k).lm (60 * d)
 | 0,_,k => by
  show Rng.lm ⟨0,0⟩ _
  unfold Rng.lm
  dsimp only
  omega
 | d + 1,hd,k => by
  have ih := lossL_lm (a := a) (R := R) h d (by omega)
  have h1 := accL_lm h (a + d) (lo := (R (a + d)).lo) (m := (R (a + d + 1)).lo + k) (B := 60 * d) (prev := lossL t R a d) (w := wid (R (a + d))) (by omega) (fun i _ => ih i) _ (Nat.le_refl _)
  have e : (60 : Int) * ((d + 1 : Nat) : Int) = 60 * d + 60 := by omega
  rw [e]
  exact h1
structure St73 (h0 H : List AObj) (bw p5 po : Nat) (t : Tal) (cv nv : Value) (u : Int) (m : Value) (R : Nat → Rng) : Prop where
 w : WorkIn h0 H bw t cv nv u m
 l5 : H[p5]? = some (.cells [.slice (some ⟨po,0,none⟩) t.gates.toNat t.gates.toNat] true 0)
 lo : H[po]? = some (.cells (rngsC R t.gates.toNat) true 0)
 b0 : h0.length ≤ p5
 b1 : bw < p5
 b2 : po < p5
theorem St73.same {h0 H H' : List AObj} {bw p5 po : Nat} {t : Tal} {cv nv : Value} {u : Int} {m : Value} {R : Nat → Rng} {X : List Nat} (s : St73 h0 H bw p5 po t cv nv u m R) (S : SameX X H H') (hX : ∀ x ∈ X,p5 < x) : St73 h0 H' bw p5 po t cv nv u m R := by
 have b0 := s.b0
 have b1 := s.b1
 have b2 := s.b2
 exact ⟨s.w.same S (fun x hx => by have := hX x hx; omega) (fun hx => by have := hX _ hx; omega),S.get s.l5 (fun hx => by have := hX _ hx; omega),S.get s.lo (fun hx => by have := hX _ hx; omega),b0,b1,b2⟩
def keep73 : List Nat := [0,3,5,8,9,10,11,12,13,14,39,40,55,56]
section
variable {main : Bool} {J : JT} {h h0 H : List AObj} {K : Value → List AObj → Prop} {KV : Value → Prop} {n0 : Nat}
theorem good43 (hJ : Closed prog main J) {p5 po G i : Nat} {R : Nat → Rng} (l5 : h[p5]? = some (.cells [.slice (some ⟨po,0,none⟩) G G] true 0)) (lo : h[po]? = some (.cells (rngsC R G) true 0)) (hi : i < G) (hR : RSm R G) (hK : K (vint (wid (R i) : Nat)) h) : Good prog J 43 [vint i,ptr p5 0] h K := by
 refine g43 hJ fun ok => ?_
 rw [e43]
 have hr := hR i hi
 have hg := rngsC_get R hi
 refine ldI l5 rfl rfl (idxI ⟨by omega,by omega⟩ (offI ?_))
 rw [Int.toNat_natCast,Nat.zero_add]
 refine ldI lo (part_get (j := 1) hg rfl) rfl (ldI l5 rfl rfl (idxI ⟨by omega,by omega⟩ (offI ?_)))
 rw [Int.toNat_natCast,Nat.zero_add]
 refine ldI lo (part_get (j := 0) hg rfl) rfl (subI (by omega) (addI (by omega) (retL_same (by simp [unk]) ?_)))
 have e : (R i).hi - (R i).lo + 1 = (wid (R i) : Nat) := by unfold wid; omega
 rw [e]
 exact hK
theorem good44 (hJ : Closed prog main J) {a b : Int} {p c : Nat} (hp : h[p]? = some (.cells [vint b] true 0)) (hK : K (vint (min a b)) h) : Good prog J 44 [vint a,.slice (some ⟨p,0,none⟩) 1 c] h K := by
 refine g44 hJ fun ok => ?_
 rw [e44,lenS]
 refine l44_1 hJ (fun i : Nat => 1 - i) (fun i f H => H = h ∧ i ≤ 1 ∧ f.ds = [] ∧ f.r 0 = vint (if i = 0 then a else min a b) ∧ f.r 7 = .slice (some ⟨p,0,none⟩) 1 c ∧ f.r 8 = vint (1 : Nat) ∧ f.r 9 = vint (i : Nat)) ?_ (s := 0) (.inl ⟨rfl,by omega,rfl,rfl,rfl,rfl,rfl⟩)
 rintro i f H ⟨rfl,hi,hds,r0,r7,r8,r9⟩ ok' hn'
 rw [s44_1]
 simp only [r0,r7,r8,r9,hds]
 refine lssI (cndI (fun hlt => ?_) fun hge => ?_)
 ·have : i = 0 := by omega
  subst this
  refine idxI ⟨by omega,by omega⟩ (ldI (v := vint b) hp rfl rfl (minI (addI (by omega) ?_)))
  exact ⟨1,by dsimp only; omega,.inl ⟨rfl,by omega,hds,rfl,r7,r8,rfl⟩⟩
 ·have : i = 1 := by omega
  subst this
  exact retL_same (by simp [unk]) hK
theorem in73 (hJ : Closed prog main J) {bw p5 po pn pk g k i w w' : Nat} {t : Tal} {cv nv : Value} {u mm : Int} {m : Value} {R P Nx' : Nat → Rng} {f : RG} {nx0 nx1 nx2 : RG → List AObj → Prop} (s : St73 h0 H bw p5 po t cv nv u m R) (fine : TalFine t) (hR : RSm R t.gates.toNat)
  (hg : g + 1 < t.gates.toNat) (hi : i < w) (hw : w = wid (R g)) (hk : k < w') (hm : 0 ≤ mm ∧ mm ≤ 600) (hPs : (P i).lm 1000)
  (zn : H[pn]? = some (.cells (rngsC P w) true 0)) (zk : H[pk]? = some (.cells (rngsC Nx' w') true 0)) (hnk : pn ≠ pk) (bn : p5 < pn) (bk : p5 < pk)
  (r0 : f.r 0 = ptr bw 0) (r5 : f.r 5 = ptr p5 0) (r11 : f.r 11 = vint g) (r12 : f.r 12 = .slice (some ⟨pk,0,none⟩) w' w') (r13 : f.r 13 = vint k) (r14 : f.r 14 = vint mm) (r55 : f.r 55 = .slice (some ⟨pn,0,none⟩) w w) (r56 : f.r 56 = vint w) (r57 : f.r 57 = vint i)
  (hx : ∀ H' f',SameX [pk] H H' → H'[pk]? = some (.cells (rngsC (fun j => if j = k then mixL (Nx' k) (P i) (ownL t g ((R g).lo + i) mm) else Nx' j) w') true 0) → (∀ j ∈ keep73,f'.r j = f.r j) → f'.ds = f.ds → f'.r 57 = vint ((i : Int) + 1) → nx2 f' H') :
  W prog J 162 n0 26 (subC yp27 (codeOf f26)) f H (thenK nx2 (contQ prog J 162 n0 26 [1,1,1,0,1,0,0,1,0,0,1,0,1,0,0,1,1,0,0,1,1,1,1,0] (codeOf f26) [nx0,nx1] (RetQ prog [.cell 8 55] n0 K))) := by
 have hgt := fine.gates
 have hch := fine.chl
 have hmo := fine.most
 have hb1 := s.b1
 have hb2 := s.b2
 have hrg := hR g (by omega)
 have hww : (wid (R g) : Int) = (R g).hi - (R g).lo + 1 := by unfold wid; omega
 rw [s26_4]
 simp only [r0,r5,r11,r12,r13,r14,r55,r56,r57]
 refine lssI (cndI (fun hlt => ?_) fun hge => absurd (by omega) hge)
 refine idxI ⟨by omega,by omega⟩ ?_
 rw [Int.toNat_natCast,Nat.zero_add]
 refine load_part (c := (P i).cells) zn (by rw [rngsC_len]; omega) (rngsC_get _ hi) rfl ?_
 refine qAl fun H1 p16 e1 S1 c1 l1 => qStA (c := (P i).cells) c1 rfl rfl rfl fun H2 S2 c2 l2 => ?_
 have S12 : SameX [p16] H H2 := S1.weak0.trans S2
 have hlen := lt_of_get zk
 have hlen5 := lt_of_get s.l5
 have s2 := s.same S12 (by simp; omega)
 refine ldI s2.l5 rfl rfl (idxI ⟨by omega,by omega⟩ (offI ?_))
 rw [Int.toNat_natCast,Nat.zero_add]
 refine ldI s2.lo (part_get (j := 0) (rngsC_get R (by omega)) rfl) rfl (addI (by omega) ?_)
 have hj : g < t.changes.length := by omega
 have hcb := fine.ch _ (List.getElem_mem hj)
 have hcg : (t.changes[g]?).getD ⟨0,0⟩ = t.changes[g] := by rw [List.getElem?_eq_getElem hj]; rfl
 have kc := s2.w.work.kc
 obtain ⟨b2,o2,cs2,wr2,sz2,hidx,hb,hle,hpart,hkn⟩ := sliE_elem rng_len (by omega) s2.w.work.ch hj
 have hb2l := lt_of_get hb
 -- the common rest: what may be lost here is reckoned
 have post : ∀ (H5 : List AObj) (p18 : Nat) (F : RG),SameX [p16] H H5 → H5[p16]? = some (.cells (P i).cells true 0) → H5[p18]? = some (.cells (ownL t g ((R g).lo + i) mm).cells true 0) → H.length ≤ p18 → p18 ≠ p16 → F.r 16 = ptr p16 0 → F.r 18 = ptr p18 0 → (∀ j ∈ keep73,F.r j = f.r j) → F.ds = f.ds → F.r 57 = vint i →
   W prog J 162 n0 26 (subC yp25 (codeOf f26)) F H5 (contQ prog J 162 n0 26 [1,1,1,0,1,0,0,1,0,0,1,0,1,0,0,1,1,0,0,1,1,1,1,0,0,1,1,0,0,1,1,1] (codeOf f26) [nx0,nx1,nx2] (RetQ prog [.cell 8 55] n0 K)) := by
  intro H5 p18 F S5 z16 z18 b18 n18 q16 q18 hkeep hds q57
  have hown := ownL_sm fine g (n := (R g).lo + i) (m := mm) (by omega) hm
  have q12 := (hkeep 12 (by simp [keep73])).trans r12
  have q13 := (hkeep 13 (by simp [keep73])).trans r13
  generalize ownL t g ((R g).lo + i) mm = o at *
  have zk5 := S5.get zk (by simp; omega)
  -- nothing to be mixed
  have skip : ∀ F' : RG,mixL (Nx' k) (P i) o = Nx' k → F'.r 111 = .bool false → (∀ j ∈ keep73,F'.r j = f.r j) → F'.ds = f.ds → F'.r 57 = vint i →
    W prog J 162 n0 26 (subC yp26 (codeOf f26)) F' H5 (contQ prog J 162 n0 26 [1,1,1,0,1,0,0,1,0,0,1,0,1,0,0,1,1,0,0,1,1,1,1,0,0,1,1,0,0,1,1,1,1] (codeOf f26) [nx0,nx1,nx2] (RetQ prog [.cell 8 55] n0 K)) := by
   intro F' hmx t111 tk tds t57
   rw [s26_6,t111,t57]
   refine cnd_false.2 (addI (by omega) (hx H5 _ (SameX.refl.thru S5 (by simp; omega) |>.weak0) ?_ ?_ tds rfl))
   ·rw [zk5]
    congr 2
    refine rngsC_congr fun j _ => ?_
    split
    ·rename_i e
     rw [e,hmx]
    ·rfl
   ·exact (fun j hj => by have hh := tk j hj; simp only [keep73,List.mem_cons,List.not_mem_nil,or_false] at hj; rcases hj with rfl | rfl | rfl | rfl | rfl | rfl | rfl | rfl | rfl | rfl | rfl | rfl | rfl | rfl <;> exact hh)
  -- mixed
  have mixd : ∀ F' : RG,mixL (Nx' k) (P i) o = ⟨min (Nx' k).lo ((P i).plus o).lo,max (Nx' k).hi ((P i).plus o).hi⟩ → (P i).lo ≤ (P i).hi → o.lo ≤ o.hi → F'.r 111 = .bool true → F'.r 16 = ptr p16 0 → F'.r 18 = ptr p18 0 → (∀ j ∈ keep73,F'.r j = f.r j) → F'.ds = f.ds → F'.r 57 = vint i →
    W prog J 162 n0 26 (subC yp26 (codeOf f26)) F' H5 (contQ prog J 162 n0 26 [1,1,1,0,1,0,0,1,0,0,1,0,1,0,0,1,1,0,0,1,1,1,1,0,0,1,1,0,0,1,1,1,1] (codeOf f26) [nx0,nx1,nx2] (RetQ prog [.cell 8 55] n0 K)) := by
   intro F' hm1 hle1 hle2 t111 t16 t18 tk tds t57
   have t12 := (tk 12 (by simp [keep73])).trans r12
   have t13 := (tk 13 (by simp [keep73])).trans r13
   rw [s26_6]
   simp only [t111,t16,t18,t12,t13,t57]
   refine cnd_true.2 ?_
   refine load_part (c := (P i).cells) z16 (by simp [Rng.cells]) rfl rfl ?_
   refine load_part (c := o.cells) z18 (by simp [Rng.cells]) rfl rfl ?_
   refine good41 hJ (r := P i) (q := o) (by obtain ⟨_,_,_,_⟩ := hPs; unfold Rng.sm; omega) (Rng.sm_le hown (by omega)) ?_
   refine qStA (c := ((P i).plus o).cells) z16 rfl rfl rfl fun H6 S6 z6 l6 => ?_
   have zk6 := S6.get zk5 (by simp; omega)
   have hgk := rngsC_get Nx' hk
   refine ⟨[pk,p16],idxI ⟨by omega,by omega⟩ (offI ?_)⟩
   rw [Int.toNat_natCast,Nat.zero_add]
   refine ldI zk6 (part_get (j := 0) hgk rfl) rfl ⟨by simp [RdOk,ptrBlk,ptr],offI (ldI (v := vint ((P i).plus o).lo) z6 rfl rfl ⟨by simp [RdOk,ptrBlk,ptr],idxI ⟨by omega,by omega⟩ (offI ?_)⟩)⟩
   rw [Int.toNat_natCast,Nat.zero_add]
   refine ldI zk6 (part_get (j := 1) hgk rfl) rfl ⟨by simp [RdOk,ptrBlk,ptr],offI (ldI (v := vint ((P i).plus o).hi) z6 rfl rfl ⟨by simp [RdOk,ptrBlk,ptr],maxI ?_⟩)⟩
   have h6l := S6.1
   have h5l := S5.1
   have hzl := lt_of_get z16
   have sb6 : ∀ {Hx : List AObj},SameX [] H6 Hx → SameB (some [pk,p16]) H6 Hx := fun S b hb => by
    simp at hb
    rcases hb with rfl | rfl
    ·exact S.2 _ (by omega) (by simp)
    ·exact S.2 _ (by omega) (by simp)
   refine ⟨by decide,fill1 rfl rfl (by decide) (fillI (qNew fun H7 p7 e7 S7 c7 l7 => ⟨sb6 S7,good44 hJ c7 ⟨sb6 S7,fill1 rfl rfl (by decide) (fill1 rfl rfl (by simp) (fillI (idxI ⟨by omega,by omega⟩ ?_)))⟩⟩))⟩
   rw [Int.toNat_natCast,Nat.zero_add]
   refine qSt2 (S7.get zk6 (by simp)) (by rw [rngsC_len]; omega) rfl rfl fun H8 S8 c8 l8 => ?_
   have e8 := rngsC_set Nx' ⟨min (Nx' k).lo ((P i).plus o).lo,max (Nx' k).hi ((P i).plus o).hi⟩ hk
   rw [e8] at c8
   refine addI (by omega) (hx H8 _ ?_ ?_ (fun j hj => by have hh := tk j hj; simp only [keep73,List.mem_cons,List.not_mem_nil,or_false] at hj; rcases hj with rfl | rfl | rfl | rfl | rfl | rfl | rfl | rfl | rfl | rfl | rfl | rfl | rfl | rfl <;> exact hh) tds rfl)
   ·have S58 : SameX [pk,p16] H5 H8 := ((S6.weak (Y := [pk,p16]) (by simp)).thru S7 (by simp)).trans (S8.weak (by simp))
    exact (SameX.thru (X := [pk]) SameX.refl ((S5.weak (Y := [pk,p16]) (by simp)).trans S58) (by simp; omega))
   ·rw [c8,hm1]
  rw [s26_5,q16,q18]
  refine load_part (c := (P i).cells) z16 (by simp [Rng.cells]) rfl rfl (good45 hJ ?_)
  rw [u_not,cnd_ndec]
  refine ⟨fun hle1 => ?_,fun hgt1 => ?_⟩
  ·refine load_part (c := o.cells) z18 (by simp [Rng.cells]) rfl rfl (good45 hJ ?_)
   rw [u_not]
   by_cases hle2 : o.lo ≤ o.hi
   · -- mixed
    have hm1 : mixL (Nx' k) (P i) o = ⟨min (Nx' k).lo ((P i).plus o).lo,max (Nx' k).hi ((P i).plus o).hi⟩ := by
     unfold mixL
     rw [if_pos ⟨by omega,hle2⟩]
    have hd : (decide (o.lo > o.hi)) = false := decide_eq_false (by omega)
    refine mixd _ hm1 (by omega) hle2 ?_ q16 q18 (fun j hj => by have hh := hkeep j hj; simp only [keep73,List.mem_cons,List.not_mem_nil,or_false] at hj; rcases hj with rfl | rfl | rfl | rfl | rfl | rfl | rfl | rfl | rfl | rfl | rfl | rfl | rfl | rfl <;> exact hh) hds q57
    show Value.bool (!decide (o.lo > o.hi)) = .bool true
    rw [hd]
    rfl
   ·have hm1 : mixL (Nx' k) (P i) o = Nx' k := by
     unfold mixL
     rw [if_neg (by omega)]
    have hd : (decide (o.lo > o.hi)) = true := decide_eq_true (by omega)
    refine skip _ hm1 ?_ (fun j hj => by have hh := hkeep j hj; simp only [keep73,List.mem_cons,List.not_mem_nil,or_false] at hj; rcases hj with rfl | rfl | rfl | rfl | rfl | rfl | rfl | rfl | rfl | rfl | rfl | rfl | rfl | rfl <;> exact hh) hds q57
    show Value.bool (!decide (o.lo > o.hi)) = .bool false
    rw [hd]
    rfl
  ·have hm1 : mixL (Nx' k) (P i) o = Nx' k := by
    unfold mixL
    rw [if_neg (by omega)]
   exact skip _ hm1 rfl (fun j hj => by have hh := hkeep j hj; simp only [keep73,List.mem_cons,List.not_mem_nil,or_false] at hj; rcases hj with rfl | rfl | rfl | rfl | rfl | rfl | rfl | rfl | rfl | rfl | rfl | rfl | rfl | rfl <;> exact hh) hds q57
 have eo : ownL t g ((R g).lo + i) mm = ⟨max 0 ((R g).lo + i + t.changes[g].lo - mm),min t.most ((R g).lo + i + t.changes[g].hi - mm)⟩ := by
  unfold ownL
  rw [hcg]
 rw [eo] at post
 have sb : ∀ {H' : List AObj},SameX [] H2 H' → SameB (some [bw,b2]) H2 H' := fun S b hb => by
  simp at hb
  have hbw := lt_of_get s2.w.at_
  rcases hb with rfl | rfl
  ·exact S.2 _ hbw (by simp)
  ·exact S.2 _ hb2l (by simp)
 refine ⟨[bw,b2],nilI (offI (offI (ldI (v := cv) s2.w.at_ rfl kc.1 ⟨by simp [RdOk,ptrBlk,ptr],?_⟩)))⟩
 refine hidx _ (offI (ldI hb (part_get (j := 0) hpart rfl) rfl ⟨by simp [RdOk,ptrBlk,ptr],addI (by omega) (subI (by omega) (maxI ?_))⟩))
 refine nilI (offI (offI (ldI (v := vint t.most) s2.w.at_ rfl rfl ⟨by simp [RdOk,ptrBlk,ptr],nilI (offI (offI (ldI (v := cv) s2.w.at_ rfl kc.1 ⟨by simp [RdOk,ptrBlk,ptr],?_⟩)))⟩)))
 refine hidx _ (offI (ldI hb (part_get (j := 1) hpart rfl) rfl ⟨by simp [RdOk,ptrBlk,ptr],addI (by omega) (subI (by omega) ?_)⟩))
 have lH : H.length + 1 = H2.length := by omega
 refine ⟨⟨by decide,fill1 rfl rfl (by decide) (fillI (qNew fun H3 p3 e3 S3 c3 l3 => ⟨sb S3,⟨good44 hJ c3 ⟨sb S3,fill1 rfl rfl (by decide) (fill1 rfl rfl (by simp) (fillI (qAl fun H4 p4 e4 S4 c4 l4 => ⟨sb (S3.trans S4),?_⟩)))⟩,qAl fun H4 p4 e4 S4 c4 l4 => ⟨sb (S3.trans S4),?_⟩⟩⟩))⟩,qAl fun H3 p3 e3 S3 c3 l3 => ⟨sb S3,⟨by decide,fill1 rfl rfl (by decide) (fillI (qNew fun H4 p4 e4 S4 c4 l4 => ⟨sb (S3.trans S4),?_⟩))⟩⟩⟩
 ·refine qStA c4 rfl rfl rfl fun H5 S5 c5 l5 => ?_
  have S25 : SameX [p4] H2 H5 := ((S3.weak0 (Y := [p4])).trans S4.weak0).trans S5
  refine post H5 p4 _ ?_ (S25.get c2 (by simp; omega)) c5 (by omega) (by omega) rfl rfl (fun j hj => by simp only [keep73,List.mem_cons,List.not_mem_nil,or_false] at hj; rcases hj with rfl | rfl | rfl | rfl | rfl | rfl | rfl | rfl | rfl | rfl | rfl | rfl | rfl | rfl <;> rfl) rfl r57
  exact S12.thru S25 (by simp; omega)
 ·refine good44 hJ (S4.get c3 (by simp)) ⟨sb (S3.trans S4),fill1 rfl rfl (by decide) (fill1 rfl rfl (by simp) (fillI ?_))⟩
  refine qStA c4 rfl rfl rfl fun H5 S5 c5 l5 => ?_
  have S25 : SameX [p4] H2 H5 := ((S3.weak0 (Y := [p4])).trans S4.weak0).trans S5
  refine post H5 p4 _ ?_ (S25.get c2 (by simp; omega)) c5 (by omega) (by omega) rfl rfl (fun j hj => by simp only [keep73,List.mem_cons,List.not_mem_nil,or_false] at hj; rcases hj with rfl | rfl | rfl | rfl | rfl | rfl | rfl | rfl | rfl | rfl | rfl | rfl | rfl | rfl <;> rfl) rfl r57
  exact S12.thru S25 (by simp; omega)
 ·refine good44 hJ c4 ⟨sb (S3.trans S4),fill1 rfl rfl (by decide) (fill1 rfl rfl (by simp) (fillI ?_))⟩
  refine qStA (S4.get c3 (by simp)) rfl rfl rfl fun H5 S5 c5 l5 => ?_
  have S25 : SameX [p3] H2 H5 := ((S3.weak0 (Y := [p3])).trans S4.weak0).trans S5
  refine post H5 p3 _ ?_ (S25.get c2 (by simp; omega)) c5 (by omega) (by omega) rfl rfl (fun j hj => by simp only [keep73,List.mem_cons,List.not_mem_nil,or_false] at hj; rcases hj with rfl | rfl | rfl | rfl | rfl | rfl | rfl | rfl | rfl | rfl | rfl | rfl | rfl | rfl <;> rfl) rfl r57
  exact S12.thru S25 (by simp; omega)
theorem loop73 (hJ : Closed prog main J) {bw p5 po pn pk g k w w' : Nat} {t : Tal} {cv nv : Value} {u mm : Int} {m : Value} {R P N : Nat → Rng} {F : RG} {nx0 nx1 : RG → List AObj → Prop} (s : St73 h0 H bw p5 po t cv nv u m R) (fine : TalFine t) (hR : RSm R t.gates.toNat)
  (hg : g + 1 < t.gates.toNat) (hw : w = wid (R g)) (hk : k < w') (hw' : w' < 1000) (hm : 0 ≤ mm ∧ mm ≤ 600) (hP : ∀ i,i < w → (P i).lm 1000)
  (zn : H[pn]? = some (.cells (rngsC P w) true 0)) (zk : H[pk]? = some (.cells (rngsC (fun j => if j = k then ⟨1048576,-1⟩ else N j) w') true 0)) (hnk : pn ≠ pk) (bn : p5 < pn) (bk : p5 < pk)
  (r0 : F.r 0 = ptr bw 0) (r5 : F.r 5 = ptr p5 0) (r11 : F.r 11 = vint g) (r12 : F.r 12 = .slice (some ⟨pk,0,none⟩) w' w') (r13 : F.r 13 = vint k) (r14 : F.r 14 = vint mm) (r40 : F.r 40 = vint k) (r55 : F.r 55 = .slice (some ⟨pn,0,none⟩) w w) (r56 : F.r 56 = vint w) (r57 : F.r 57 = vint (0 : Nat))
  (hx : ∀ H' f',SameX [pk] H H' → H'[pk]? = some (.cells (rngsC (fun j => if j = k then accL t g (R g).lo P mm w else N j) w') true 0) → (∀ j ∈ [0,3,5,8,9,10,11,12,39],f'.r j = F.r j) → f'.ds = F.ds → f'.r 40 = vint ((k : Int) + 1) → nx1 f' H') :
  Sem J 162 n0 26 (subC yp40 (codeOf f26)) F H (contQ prog J 162 n0 26 [1,1,1,0,1,0,0,1,0,0,1,0,1,0,0,1,1,0,0,1,1,1,1,0] (codeOf f26) [nx0,nx1] (RetQ prog [.cell 8 55] n0 K)) := by
 subst hw
 refine l26_4 hJ (fun i : Nat => wid (R g) - i) (fun i f' H' => SameX [pk] H H' ∧ i ≤ wid (R g) ∧ H'[pk]? = some (.cells (rngsC (fun j => if j = k then accL t g (R g).lo P mm i else N j) w') true 0) ∧ (∀ j ∈ keep73,f'.r j = F.r j) ∧ f'.ds = F.ds ∧ f'.r 57 = vint (i : Nat)) ?_ (s := 0)
  (.inl ⟨SameX.refl,by omega,zk,fun _ _ => rfl,rfl,r57⟩)
 rintro i f' H' ⟨S,hi,zk',hkeep,hds,q57⟩ ok' hn'
 have kk : ∀ j,j ∈ keep73 → f'.r j = F.r j := hkeep
 have q0 := (kk 0 (by simp [keep73])).trans r0
 have q5 := (kk 5 (by simp [keep73])).trans r5
 have q11 := (kk 11 (by simp [keep73])).trans r11
 have q12 := (kk 12 (by simp [keep73])).trans r12
 have q13 := (kk 13 (by simp [keep73])).trans r13
 have q14 := (kk 14 (by simp [keep73])).trans r14
 have q40 := (kk 40 (by simp [keep73])).trans r40
 have q55 := (kk 55 (by simp [keep73])).trans r55
 have q56 := (kk 56 (by simp [keep73])).trans r56
 by_cases hlt : i < wid (R g)
 ·refine in73 hJ (s.same S (by simp; omega)) fine hR hg hlt rfl hk hm (hP i hlt) (S.get zn (by simp; omega)) zk' hnk bn bk q0 q5 q11 q12 q13 q14 q55 q56 q57 fun H2 f2 S2 z2 hkeep2 hds2 t57 => ?_
  ·refine ⟨i + 1,by dsimp only; omega,.inl ⟨S.trans S2,by omega,?_,fun j hj => (hkeep2 j hj).trans (hkeep j hj),hds2.trans hds,t57⟩⟩
   rw [z2]
   congr 2
   refine rngsC_congr fun j _ => ?_
   by_cases e : j = k
   ·subst e
    simp only [if_true]
    rfl
   ·simp only [if_neg e]
 ·have hiw : i = wid (R g) := by omega
  subst hiw
  rw [s26_4,q57,q56,q40]
  refine lssI (cndI (fun hlt => absurd hlt (by omega)) fun _ => addI (by omega) (hx H' _ S zk' (fun j hj => ?_) hds rfl))
  have hh : f'.r j = F.r j := hkeep j (by simp [keep73] at hj ⊢; omega)
  simp only [List.mem_cons,List.not_mem_nil,or_false] at hj
  rcases hj with rfl | rfl | rfl | rfl | rfl | rfl | rfl | rfl | rfl <;> exact hh
theorem row73 (hJ : Closed prog main J) {bw p5 po pn pk g w w' a d : Nat} {t : Tal} {cv nv : Value} {u : Int} {m : Value} {R : Nat → Rng} {F : RG} {nx0 : RG → List AObj → Prop} (s : St73 h0 H bw p5 po t cv nv u m R) (fine : TalFine t) (hR : RSm R t.gates.toNat)
  (hgd : g = a + d) (hg : g + 1 < t.gates.toNat) (hw : w = wid (R g)) (hw' : w' = wid (R (g + 1))) (hP : ∀ i,i < w → (lossL t R a d i).lm 1000)
  (zn : H[pn]? = some (.cells (rngsC (lossL t R a d) w) true 0)) (zk : H[pk]? = some (.cells (rngsC (fun _ => ⟨0,0⟩) w') true 0)) (hnk : pn ≠ pk) (bn : p5 < pn) (bk : p5 < pk)
  (r0 : F.r 0 = ptr bw 0) (r5 : F.r 5 = ptr p5 0) (r10 : F.r 10 = .slice (some ⟨pn,0,none⟩) w w) (r11 : F.r 11 = vint g) (r12 : F.r 12 = .slice (some ⟨pk,0,none⟩) w' w') (r39 : F.r 39 = vint w') (r40 : F.r 40 = vint (0 : Nat))
  (hx : ∀ H' f',SameX [pk] H H' → H'[pk]? = some (.cells (rngsC (lossL t R a (d + 1)) w') true 0) → (∀ j ∈ [0,3,5,8,9],f'.r j = F.r j) → f'.ds = F.ds → f'.r 10 = .slice (some ⟨pk,0,none⟩) w' w' → f'.r 11 = vint ((g : Int) + 1) → nx0 f' H') :
  Sem J 162 n0 26 (subC yp15 (codeOf f26)) F H (contQ prog J 162 n0 26 [1,1,1,0,1,0,0,1,0,0,1,0,1,0] (codeOf f26) [nx0] (RetQ prog [.cell 8 55] n0 K)) := by
 have hgt := fine.gates
 have h2 := hR (g + 1) hg
 have hww : (wid (R (g + 1)) : Int) = (R (g + 1)).hi - (R (g + 1)).lo + 1 := by unfold wid; omega
 refine l26_2 hJ (fun k : Nat => w' - k) (fun k f' H' => SameX [pk] H H' ∧ k ≤ w' ∧ H'[pk]? = some (.cells (rngsC (fun j => if j < k then lossL t R a (d + 1) j else ⟨0,0⟩) w') true 0) ∧ (∀ j ∈ [0,3,5,8,9,10,11,12,39],f'.r j = F.r j) ∧ f'.ds = F.ds ∧ f'.r 40 = vint (k : Nat)) ?_ (s := 0)
  (.inl ⟨SameX.refl,by omega,zk,fun _ _ => rfl,rfl,r40⟩)
 rintro k f' H' ⟨S,hk,zk',hkeep,hds,q40⟩ ok' hn'
 have q0 := (hkeep 0 (by simp)).trans r0
 have q5 := (hkeep 5 (by simp)).trans r5
 have q10 := (hkeep 10 (by simp)).trans r10
 have q11 := (hkeep 11 (by simp)).trans r11
 have q12 := (hkeep 12 (by simp)).trans r12
 have q39 := (hkeep 39 (by simp)).trans r39
 have s' := s.same S (by simp; omega)
 rw [s26_2]
 simp only [q5,q10,q11,q12,q39,q40]
 refine lssI (cndI (fun hlt => ?_) fun hge => ?_)
 ·have hkw : k < w' := by omega
  refine fill1 rfl rfl (by decide) (fill1 rfl rfl (by simp) (fillI (idxI ⟨by omega,by omega⟩ ?_)))
  rw [Int.toNat_natCast,Nat.zero_add]
  refine qSt2 zk' (by rw [rngsC_len]; omega) rfl rfl fun H1 S1 c1 l1 => ?_
  have e1 := rngsC_set (fun j => if j < k then lossL t R a (d + 1) j else ⟨0,0⟩) ⟨1048576,-1⟩ hkw
  rw [e1] at c1
  have s1 := s'.same S1 (by simp; omega)
  refine ldI s1.l5 rfl rfl (addI (by omega) ?_)
  rw [show (g : Int) + 1 = ((g + 1 : Nat) : Int) from by omega]
  refine idxI ⟨by omega,by omega⟩ (offI ?_)
  rw [Int.toNat_natCast,Nat.zero_add]
  refine ldI s1.lo (part_get (j := 0) (rngsC_get R hg) rfl) rfl (addI (by omega) ?_)
  rw [lenS]
  refine loop73 hJ (pn := pn) (pk := pk) (g := g) (k := k) (w := w) (w' := w') (mm := (R (g + 1)).lo + k) (P := lossL t R a d) (N := fun j => if j < k then lossL t R a (d + 1) j else ⟨0,0⟩) s1 fine hR hg hw hkw (by omega) (by omega) hP ((S.trans S1).get zn (by simp; omega)) c1 hnk bn bk q0 q5 q11 q12 rfl rfl q40 rfl rfl rfl fun H2 f2 S2 z2 hkeep2 hds2 t40 => ?_
  refine ⟨k + 1,by dsimp only; omega,.inl ⟨(S.trans S1).trans S2,by omega,?_,fun j hj => (hkeep2 j hj).trans ?_,hds2.trans hds,t40⟩⟩
  ·rw [z2]
   congr 2
   refine rngsC_congr fun j _ => ?_
   by_cases e : j = k
   ·subst e
    rw [if_pos rfl,if_pos (by omega)]
    subst hgd
    rw [hw]
    rfl
   ·rw [if_neg e]
    by_cases e2 : j < k
    ·rw [if_pos e2,if_pos (by omega)]
    ·rw [if_neg e2,if_neg (by omega)]
  ·have hh := hkeep j hj
   simp only [List.mem_cons,List.not_mem_nil,or_false] at hj
   rcases hj with rfl | rfl | rfl | rfl | rfl | rfl | rfl | rfl | rfl <;> exact hh
 ·have hkw : k = w' := by omega
  subst hkw
  refine addI (by omega) (hx H' _ S ?_ (fun j hj => ?_) hds rfl rfl)
  ·rw [zk']
   congr 2
   refine rngsC_congr fun j hj => ?_
   rw [if_pos hj]
  ·have hh := hkeep j (by simp at hj ⊢; omega)
   simp only [List.mem_cons,List.not_mem_nil,or_false] at hj
   rcases hj with rfl | rfl | rfl | rfl | rfl <;> exact hh
theorem good26 (hJ : Closed prog main J) {bw po a b : Nat} {t : Tal} {cv nv : Value} {u : Int} {m : Value} {R : Nat → Rng} (w : WorkIn h0 h bw t cv nv u m) (lo : h[po]? = some (.cells (rngsC R t.gates.toNat) true 0)) (fine : TalFine t) (hR : RSm R t.gates.toNat) (hab : a ≤ b) (hb : b < t.gates.toNat)
  (hK : K (lostR t R a b).val h) : Good prog J 26 [ptr bw 0,.slice (some ⟨po,0,none⟩) t.gates.toNat t.gates.toNat,vint a,vint b] h K := by
 refine g26 hJ fun ok => ?_
 rw [e26]
 have hgt := fine.gates
 have hbw := lt_of_get w.at_
 have hpo := lt_of_get lo
 have hpre : h0.length ≤ h.length := by
  obtain ⟨g,rfl⟩ := w.pre
  simp
 refine qBox1 rfl rfl fun H1 p5 e1 S1 c1 l1 => qAl fun H2 p8 e2 S2 c2 l2 => ⟨rfl,?_⟩
 have S12 := S1.trans S2
 have s2 : St73 h0 H2 bw p5 po t cv nv u m R := ⟨w.same S12 (by simp) (by simp),S2.get c1 (by simp),S12.get lo (by simp),by omega,by omega,by omega⟩
 show Good prog J 43 [vint a,ptr p5 0] H2 _
 refine good43 hJ s2.l5 s2.lo (by omega) hR ⟨by decide,?_⟩
 have hwa := hR a (by omega)
 have hwab : (wid (R a) : Int) = (R a).hi - (R a).lo + 1 := by unfold wid; omega
 refine qMk (by omega) fun H3 pn e3 S3 c3 l3 => ?_
 rw [rngsC_zero] at c3
 have z8 := S3.get c2 (by simp)
 have s3 := s2.same S3 (by simp)
 have SH3 : SameX [] h H3 := S12.trans S3
 refine l26_1 hJ (fun d : Nat => b - a - d) (fun d f' H' => ∃ pn,SameX [] h H' ∧ St73 h0 H' bw p5 po t cv nv u m R ∧ H'[p8]? = some (.cells [vint 0,vint 0] true 0) ∧ a + d ≤ b ∧ H'[pn]? = some (.cells (rngsC (lossL t R a d) (wid (R (a + d)))) true 0) ∧ p8 < pn ∧
   f'.ds = [] ∧ f'.r 0 = ptr bw 0 ∧ f'.r 3 = vint b ∧ f'.r 5 = ptr p5 0 ∧ f'.r 8 = ptr p8 0 ∧ f'.r 9 = .func (.func 43) ⟨[]⟩ ⟨[ptr p5 0]⟩ ∧ f'.r 10 = .slice (some ⟨pn,0,none⟩) (wid (R (a + d))) (wid (R (a + d))) ∧ f'.r 11 = vint ((a + d : Nat) : Int)) ?_ (s := 0)
  (.inl ⟨pn,SH3,s3,z8,by omega,c3,by omega,rfl,rfl,rfl,rfl,rfl,rfl,rfl,rfl⟩)
 clear s3 c3 e3 l3 S3 z8 SH3 H3 pn
 rintro d f' H' ⟨pn,SH,s,z8,hd,zn,hpn,hds,r0,r3,r5,r8,r9,r10,r11⟩ ok' hn'
 rw [s26_1]
 simp only [r3,r8,r9,r10,r11]
 refine lssI (cndI (fun hlt => ?_) fun hge => ?_)
 ·refine addI (by omega) ?_
  rw [show ((a + d : Nat) : Int) + 1 = ((a + d + 1 : Nat) : Int) from by omega]
  show Good prog J 43 [vint ((a + d + 1 : Nat) : Int),ptr p5 0] H' _
  refine good43 hJ s.l5 s.lo (by omega) hR ⟨by decide,?_⟩
  have hw1 := hR (a + d + 1) (by omega)
  have hww1 : (wid (R (a + d + 1)) : Int) = (R (a + d + 1)).hi - (R (a + d + 1)).lo + 1 := by unfold wid; omega
  refine qMk (by omega) fun H4 pk e4 S4 c4 l4 => ?_
  rw [rngsC_zero] at c4
  rw [lenS]
  have hpnl := lt_of_get zn
  have hp8l := lt_of_get z8
  refine row73 hJ (pn := pn) (pk := pk) (a := a) (d := d) (s.same S4 (by simp)) fine hR rfl (by omega) rfl rfl (fun i _ => by have := lossL_lm (a := a) (R := R) fine d (by omega) i; unfold Rng.lm at *; omega) (S4.get zn (by simp)) c4 (by omega) (by omega) (by omega) r0 r5 r10 r11 rfl rfl rfl fun H5 f5 S5 z5 hkeep5 hds5 t10 t11 => ?_
  have hSH := SH.1
  refine ⟨d + 1,by dsimp only; omega,.inl ⟨pk,(SH.trans S4).thru S5 (by simp; omega),(s.same S4 (by simp)).same S5 (by simp; omega),S5.get (S4.get z8 (by simp)) (by simp; omega),by omega,z5,by omega,hds5.trans hds,(hkeep5 0 (by simp)).trans r0,(hkeep5 3 (by simp)).trans r3,(hkeep5 5 (by simp)).trans r5,(hkeep5 8 (by simp)).trans r8,(hkeep5 9 (by simp)).trans r9,t10,?_⟩⟩
  rw [t11]
  congr 1
 ·have hdb : a + d = b := by omega
  have e0 : b - a = d := by omega
  have hL : lostR t R a b = hullL (lossL t R a d) (wid (R (a + d))) := by
   unfold lostR
   rw [e0,hdb]
  rw [hL] at hK
  have hwd := hR (a + d) (by omega)
  have hwdd : (wid (R (a + d)) : Int) = (R (a + d)).hi - (R (a + d)).lo + 1 := by unfold wid; omega
  generalize hW : wid (R (a + d)) = w at *
  generalize hLL : lossL t R a d = L at *
  refine idxI ⟨by omega,by omega⟩ (load_part (c := (L 0).cells) zn (by rw [rngsC_len]; omega) (rngsC_get L (i := 0) (by omega)) rfl ?_)
  refine qAl fun H4 p19 e4 S4 c4 l4 => qStA (c := (L 0).cells) c4 rfl rfl rfl fun H5 S5 c5 l5 => ?_
  rw [lenS]
  have hpnl := lt_of_get zn
  have hp8l := lt_of_get z8
  have S45 : SameX [p19] H' H5 := S4.weak0.trans S5
  have hSH := SH.1
  refine l26_3 hJ (fun i : Nat => w - i) (fun i f'' H'' => SameX [p19] H' H'' ∧ i ≤ w ∧ H''[p19]? = some (.cells (hullL L i).cells true 0) ∧ f''.ds = [] ∧ f''.r 8 = ptr p8 0 ∧ f''.r 19 = ptr p19 0 ∧ f''.r 142 = .slice (some ⟨pn,0,none⟩) w w ∧ f''.r 143 = vint w ∧ f''.r 144 = vint (i : Nat)) ?_ (s := 0)
   (.inl ⟨S45,by omega,c5,hds,r8,rfl,rfl,rfl,rfl⟩)
  rintro i f'' H'' ⟨S,hi,z19,hds2,q8,q19,q142,q143,q144⟩ ok'' hn''
  rw [s26_3]
  simp only [q8,q19,q142,q143,q144]
  refine lssI (cndI (fun hlt => ?_) fun hge => ?_)
  ·have hiw : i < w := by omega
   refine idxI ⟨by omega,by omega⟩ ?_
   rw [Int.toNat_natCast,Nat.zero_add]
   refine load_part (c := (L i).cells) (S.get zn (by simp; omega)) (by rw [rngsC_len]; omega) (rngsC_get L hiw) rfl ?_
   have h19 := lt_of_get z19
   refine qAl fun H6 p21 e6 S6 c6 l6 => qStA (c := (L i).cells) c6 rfl rfl rfl fun H7 S7 c7 l7 => ?_
   have z19' := S7.get (S6.get z19 (by simp)) (by simp; omega)
   refine ⟨[p19,p21],offI (ldI (v := vint (hullL L i).lo) z19' rfl rfl ⟨by simp [RdOk,ptrBlk,ptr],offI (ldI (v := vint (L i).lo) c7 rfl rfl ⟨by simp [RdOk,ptrBlk,ptr],?_⟩)⟩)⟩
   refine offI (ldI (v := vint (hullL L i).hi) z19' rfl rfl ⟨by simp [RdOk,ptrBlk,ptr],offI (ldI (v := vint (L i).hi) c7 rfl rfl ⟨by simp [RdOk,ptrBlk,ptr],maxI ?_⟩)⟩)
   have sb : ∀ {Hx : List AObj},SameX [] H7 Hx → SameB (some [p19,p21]) H7 Hx := fun Sx b hb => by
    simp at hb
    have := lt_of_get c7
    rcases hb with e | e
    ·rw [e]
     exact Sx.2 _ (by omega) (by simp)
    ·rw [e]
     exact Sx.2 _ this (by simp)
   refine ⟨by decide,fill1 rfl rfl (by decide) (fillI (qNew fun H8 p8' e8 S8 c8 l8 => ⟨sb S8,good44 hJ c8 ⟨sb S8,fill1 rfl rfl (by decide) (fill1 rfl rfl (by simp) (fillI ?_))⟩⟩))⟩
   refine qStA (c := (hullL L (i + 1)).cells) (S8.get z19' (by simp)) rfl rfl rfl fun H9 S9 c9 l9 => addI (by omega) ?_
   have S69 : SameX [p19,p21] H'' H9 := ((S6.weak0 (Y := [p19,p21])).trans (S7.weak (by simp))).trans ((S8.weak0 (Y := [p19,p21])).trans (S9.weak (by simp)))
   exact ⟨i + 1,by dsimp only; omega,.inl ⟨S.thru S69 (by simp; have := S.1; omega),by omega,c9,hds2,q8,q19,q142,q143,rfl⟩⟩
  ·have hiw : i = w := by omega
   subst hiw
   refine load_part (c := (hullL L i).cells) z19 (by simp [Rng.cells]) rfl rfl ?_
   refine qStA (c := (hullL L i).cells) (S.get z8 (by simp; omega)) rfl rfl rfl fun H6 S6 c6 l6 => ?_
   have SF : SameX [] h H6 := (SH.thru S (by simp; omega)).thru S6 (by simp; omega)
   obtain ⟨g,rfl⟩ := SF.app0 (by simp)
   obtain ⟨j,hj⟩ : ∃ j,p8 = h.length + j := ⟨p8 - h.length,by omega⟩
   subst hj
   refine ret_agg (i := j) hds2 ok (Nat.le_refl _) rfl (by kernel_rfl) q8 (by rw [back_get] at c6; exact c6) rfl rfl (by simp [VOk,AOk,LOk,Rng.cells]) hK
end
def Rng.has (r : Rng) (n : Int) : Prop := r.lo ≤ n ∧ n ≤ r.hi
section
variable {t : Tal} {L : Nat → Rng} {ns : Nat → Int}
theorem stretch_ok (f : TalFine t) (g : Nat) : (stretchR t g).lo ≤ (stretchR t g).hi := by
 have h1 := f.most
 unfold stretchR
 cases e : t.changes[g]? with
 | none =>
  unfold Rng.plus
  dsimp only [Option.getD]
  omega
 | some r =>
  have := f.ch r (List.mem_of_getElem? e)
  unfold Rng.plus
  dsimp only [Option.getD]
  omega
theorem fwd_prev (f : TalFine t) (hT : TruthIs t L) {g : Nat} (hg : g + 1 < t.gates.toNat) {n : Int} (hn : (fwd t L (g + 1)).has n) : ∃ n',(fwd t L g).has n' ∧ (stretchR t g).has (n - n') := by
 have h1 := hT g (by omega)
 have h2 := stretch_ok f g
 refine ⟨max (fwd t L g).lo (n - (stretchR t g).hi),?_⟩
 change (((fwd t L g).plus (stretchR t g)).meet (L (g + 1))).has n at hn
 unfold Rng.meet Rng.plus Rng.has at *
 dsimp only at *
 omega
theorem fwd_lim {g : Nat} {n : Int} (hn : (fwd t L g).has n) : (L g).has n := by
 cases g with
 | zero =>
  unfold fwd Rng.meet Rng.has at *
  dsimp only at *
  omega
 | succ g =>
  change (((fwd t L g).plus (stretchR t g)).meet (L (g + 1))).has n at hn
  unfold Rng.meet Rng.plus Rng.has at *
  dsimp only at *
  omega
theorem bk_fwd {g : Nat} (hg : g < t.gates.toNat) {n : Int} (hn : (bkR t L g).has n) : (fwd t L g).has n := by
 by_cases h : t.gates.toNat = g + 1
 ·rw [bkR_last h] at hn
  exact hn
 ·rw [bkR_step (by omega)] at hn
  unfold Rng.meet Rng.has at *
  dsimp only at *
  omega
theorem bk_prev (f : TalFine t) (hT : TruthIs t L) {g : Nat} (hg : g + 1 < t.gates.toNat) {n : Int} (hn : (bkR t L (g + 1)).has n) : ∃ n',(bkR t L g).has n' ∧ (stretchR t g).has (n - n') := by
 obtain ⟨n',h1,h2⟩ := fwd_prev f hT hg (bk_fwd hg hn)
 refine ⟨n',?_,h2⟩
 rw [bkR_step hg]
 unfold Rng.meet Rng.plus Rng.turn Rng.has at *
 dsimp only
 omega
theorem bk_ok (f : TalFine t) (hT : TruthIs t L) : ∀ d g,g + d + 1 = t.gates.toNat → (bkR t L g).lo ≤ (bkR t L g).hi
 | 0,g,hg => by
  rw [bkR_last (by omega)]
  exact hT g (by omega)
 | d + 1,g,hg => by
  have h1 := bk_ok f hT d (g + 1) (by omega)
  obtain ⟨n',h2,_⟩ := bk_prev f hT (g := g) (n := (bkR t L (g + 1)).lo) (by omega) ⟨Int.le_refl _,h1⟩
  unfold Rng.has at h2
  omega
theorem limN_base {u : Int} {cs : List Cnt} : ∀ i g,(limN u cs i g).sub ⟨0,600⟩
 | 0,g => Rng.sub_refl _
 | i + 1,g => by
  have ih := limN_base (u := u) (cs := cs) i
  show Rng.sub ((match cs[i]? with
   | some c => bif keepB u i then updR (limN u cs i) c.gate.toNat ((limN u cs i c.gate.toNat).meet (rd c)) else limN u cs i
   | none => limN u cs i) g) _
  cases e : cs[i]? with
  | none => exact ih g
  | some c =>
   cases keepB u i with
   | false => exact ih g
   | true =>
    show Rng.sub (updR _ _ _ g) _
    unfold updR
    split
    ·exact Rng.meet_left (ih _)
    ·exact ih g
theorem bk_rsm (f : TalFine t) {u : Int} (hT : TruthIs t (limA t u)) : RSm (bkR t (limA t u)) t.gates.toNat := fun g hg => by
 have h1 := bk_ok f hT (t.gates.toNat - 1 - g) g (by omega)
 have h2 := fwd_lim (bk_fwd hg (n := (bkR t (limA t u) g).lo) ⟨Int.le_refl _,h1⟩)
 have h3 := fwd_lim (bk_fwd hg (n := (bkR t (limA t u) g).hi) ⟨h1,Int.le_refl _⟩)
 obtain ⟨h4,h5⟩ := limN_base (u := u) (cs := t.counts) t.counts.length g
 unfold limA Rng.has at *
 dsimp only at *
 omega
end
section
variable {main : Bool} {J : JT} {h h0 H : List AObj} {K : Value → List AObj → Prop} {KV : Value → Prop} {n0 : Nat}
theorem ret_agg2 {rs : List ResultVar} {f : RG} {n t p x y : Nat} {c : List Value} {wr : Bool} {sz : Nat} {v : Value} (ds : f.ds = []) (ok : heapOk h) (hn : n0 ≤ h.length) (hrs : rs = [.cell x t,.tmp y]) (ht : tk prog t = some (true,n)) (S : SameX [] h H) (hr : f.r x = ptr p 0) (hb : H[p]? = some (.cells c wr sz)) (hl : c.length = n) (hkn : kn c = true)
  (hy : f.r y = v) (hu : v ≠ unk) (h1 : VOk h.length (.agg ⟨c⟩)) (h2 : VOk h.length v) (hk : K (.tuple ⟨[.agg ⟨c⟩,v]⟩) h) : RetQ prog rs n0 K .ret f H := by
 subst hrs
 obtain ⟨g,rfl⟩ := S.app0 (by simp)
 refine retQ_drop ds ok hn (resW_cell (gg := true) (s := n) ht ?_)
 rw [hr]
 refine load_part (c := c) hb (by omega) (by rw [List.drop_zero,List.take_of_length_le (by omega)]) hkn (resW_tmp (by rw [hy]; exact hu) (resW_nil ?_))
 rw [hy]
 refine ⟨?_,hk⟩
 simp only [pack,VOk,AOk,LOk] at h1 ⊢
 exact ⟨h1,h2,trivial⟩
theorem good10 (hJ : Closed prog main J) {v cv nv : Value} {t : Tal} {a b : Int} (ht : TalAt h v t cv nv)
  (k1 : talErr t ≠ 0 → K (.tuple ⟨[.agg ⟨[vint 0,vint 0]⟩,vint (talErr t)]⟩) h) (k2 : talErr t = 0 → ¬ ((0 ≤ a ∧ a ≤ t.gates - 1) ∧ (0 ≤ b ∧ b ≤ t.gates - 1)) → K (.tuple ⟨[.agg ⟨[vint 0,vint 0]⟩,vint 3]⟩) h)
  (k3 : talErr t = 0 → (0 ≤ a ∧ a ≤ t.gates - 1) → (0 ≤ b ∧ b ≤ t.gates - 1) → a ≥ b → K (.tuple ⟨[.agg ⟨[vint 0,vint 0]⟩,vint 5]⟩) h)
  (k4 : talErr t = 0 → (0 ≤ a ∧ a ≤ t.gates - 1) → (0 ≤ b ∧ b ≤ t.gates - 1) → a < b → ¬ TruthIs t (limA t 0) → K (.tuple ⟨[.agg ⟨[vint 0,vint 0]⟩,vint 11]⟩) h)
  (k5 : talErr t = 0 → (0 ≤ a ∧ a ≤ t.gates - 1) → (0 ≤ b ∧ b ≤ t.gates - 1) → a < b → TruthIs t (limA t 0) → K (.tuple ⟨[(lostR t (bkR t (limA t 0)) a.toNat b.toNat).val,vint 0]⟩) h) : Good prog J 10 [v,vint a,vint b] h K := by
 refine g10 hJ fun ok => ?_
 rw [e10,ht.val]
 have kc : kn1 cv = true ∧ kn1 nv = true := ⟨(sli_one ht.ch).2.2,(sli_one ht.co).2.2⟩
 refine qBox (tal_one ht) fun H1 p1 e1 S1 b1 l1 => qAl fun H2 p2 e2 S2 b2 l2 => ?_
 have b1' := S2.get b1 (by simp)
 have S12 := S1.trans S2
 refine load_part (c := talCells t cv nv) b1' (by rw [cs_val]; omega) rfl (tal_kn kc.1 kc.2) ?_
 have t2 : TalAt H2 (.agg ⟨talCells t cv nv⟩) t cv nv := ⟨rfl,S12.sli ht.ch (by simp),S12.sli ht.co (by simp)⟩
 refine good24 hJ t2 fun H3 bw bm S3 a1 a2 a3 w hm => ext0 (ext1 ?_)
 have S13 : SameX [] h H3 := S12.trans S3
 have b3 := S3.get b2 (by simp)
 have b13 := S3.get b1' (by simp)
 -- an error
 have err : ∀ (e : Int) (H : List AObj) (F : RG),SameX [] H3 H → F.ds = [] → F.r 6 = ptr p2 0 → F.r 7 = vint e → K (.tuple ⟨[.agg ⟨[vint 0,vint 0]⟩,vint e]⟩) h →
   ∀ F' : Value → RG,(∀ c,(F' c).ds = [] ∧ (F' c).r 6 = ptr p2 0 ∧ (F' c).r 7 = vint e) → aFill [vint 0,vint 0] [] fun c11 => aStore 2 (ptr p2 0) (.agg ⟨c11⟩) H fun h12 => RetQ prog [.cell 6 23,.tmp 7] h.length K .ret (F' (.agg ⟨c11⟩)) h12 := by
  intro e H F S _ _ _ hk F' hF
  refine fillI (qStA (S.get b3 (by simp)) rfl rfl rfl fun H4 S4 c4 l4 => ?_)
  exact ret_agg2 (hF _).1 ok (Nat.le_refl _) rfl (by kernel_rfl) ((S13.trans S).thru S4 (by simp; have := S12.1; omega)) (hF _).2.1 c4 rfl rfl (hF _).2.2 (by simp [unk]) (by simp [VOk,AOk,LOk]) (by simp [VOk]) hk
 have z : RG := ⟨fun _ => unk,[]⟩
 refine neqI (cndI (fun hne => ?_) fun heq => ?_)
 ·exact err (talErr t) H3 ⟨fun i => if i = 6 then ptr p2 0 else vint (talErr t),[]⟩ SameX.refl rfl rfl rfl (k1 hne) (fun x => _) fun x => ⟨rfl,rfl,rfl⟩
 have h0 : talErr t = 0 := by omega
 have fine := talErr_fine h0
 have hg := fine.gates
 -- the rest
 have rest : (0 ≤ a ∧ a ≤ t.gates - 1) → (0 ≤ b ∧ b ≤ t.gates - 1) → a < b → ∀ F1 F2 : Value → Value → Value → Value → Value → RG,(∀ x1 x2 x3 x4 x5,(F1 x1 x2 x3 x4 x5).ds = [] ∧ (F1 x1 x2 x3 x4 x5).r 6 = ptr p2 0 ∧ (F1 x1 x2 x3 x4 x5).r 7 = vint 11) → (∀ x1 x2 x3 x4 x5,(F2 x1 x2 x3 x4 x5).ds = [] ∧ (F2 x1 x2 x3 x4 x5).r 6 = ptr p2 0 ∧ (F2 x1 x2 x3 x4 x5).r 7 = vint 0) →
   Good prog J 25 [ptr bw 0] H3 fun v24 h25 => aExt v24 0 fun v26 => aExt v24 1 fun v27 => aUn .not v27 fun v28 => cnd v28 (aFill [vint 0,vint 0] [] fun c29 => aStore 2 (ptr p2 0) (.agg ⟨c29⟩) h25 fun h30 => RetQ prog [.cell 6 23,.tmp 7] h.length K .ret (F1 v24 v26 v27 v28 (.agg ⟨c29⟩)) h30)
    (Good prog J 26 [ptr bw 0,v26,vint a,vint b] h25 fun v31 h32 => aStore 2 (ptr p2 0) v31 h32 fun h33 => RetQ prog [.cell 6 23,.tmp 7] h.length K .ret (F2 v24 v26 v27 v28 v31) h33) := by
  intro ha hb hab F1 F2 hF1 hF2
  refine good25 hJ w a1 a2 a3 fine hm metOk_nil (fun hf H4 S4 => ext0 (ext1 (notI (cnd_true.2 ?_)))) (fun hT H4 po es' S4 h1 w4 hm4 met4 c4 => ext0 (ext1 (notI (cnd_false.2 ?_))))
  ·have S24 : SameX [] h H4 := S13.thru S4 (by simp; have := S12.1; omega)
   refine fillI (qStA (S4.get b3 (by simp; omega)) rfl rfl rfl fun H5 S5 c5 l5 => ?_)
   exact ret_agg2 (hF1 _ _ _ _ _).1 ok (Nat.le_refl _) rfl (by kernel_rfl) (S24.thru S5 (by simp; have := S12.1; omega)) (hF1 _ _ _ _ _).2.1 c5 rfl rfl (hF1 _ _ _ _ _).2.2 (by simp [unk]) (by simp [VOk,AOk,LOk]) (by simp [VOk]) (k4 h0 ha hb hab hf)
  ·have S24 : SameX [] h H4 := S13.thru S4 (by simp; have := S12.1; omega)
   obtain ⟨a',rfl⟩ : ∃ a' : Nat,a = a' := ⟨a.toNat,by omega⟩
   obtain ⟨b',rfl⟩ : ∃ b' : Nat,b = b' := ⟨b.toNat,by omega⟩
   refine good26 hJ w4 c4 fine (bk_rsm fine hT) (by omega) (by omega) ?_
   refine qStA (c := (lostR t (bkR t (limA t 0)) a' b').cells) (S4.get b3 (by simp; omega)) rfl rfl rfl fun H5 S5 c5 l5 => ?_
   have := k5 h0 ha hb hab hT
   rw [Int.toNat_natCast,Int.toNat_natCast] at this
   exact ret_agg2 (hF2 _ _ _ _ _).1 ok (Nat.le_refl _) rfl (by kernel_rfl) (S24.thru S5 (by simp; have := S12.1; omega)) (hF2 _ _ _ _ _).2.1 c5 rfl rfl (hF2 _ _ _ _ _).2.2 (by simp [unk]) (by simp [VOk,AOk,LOk,Rng.cells]) (by simp [VOk]) this
 refine offI (ldI (v := vint t.gates) b13 rfl rfl (subI (by omega) (good20 hJ (notI (cndN (fun hn => ?_) fun hin => ?_)))))
 ·refine cnd_true.2 ?_
  exact err 3 H3 ⟨fun i => if i = 6 then ptr p2 0 else vint 3,[]⟩ SameX.refl rfl rfl rfl (k2 h0 (fun x => hn x.1)) (fun x => _) fun x => ⟨rfl,rfl,rfl⟩
 ·refine offI (ldI (v := vint t.gates) b13 rfl rfl (subI (by omega) (good20 hJ (notI (cndN (fun hn => ?_) fun hin2 => ?_)))))
  ·exact err 3 H3 ⟨fun i => if i = 6 then ptr p2 0 else vint 3,[]⟩ SameX.refl rfl rfl rfl (k2 h0 (fun x => hn x.2)) (fun x => _) fun x => ⟨rfl,rfl,rfl⟩
  ·refine geqI (cndI (fun hge => ?_) fun hlt => ?_)
   ·exact err 5 H3 ⟨fun i => if i = 6 then ptr p2 0 else vint 5,[]⟩ SameX.refl rfl rfl rfl (k3 h0 hin hin2 hge) (fun x => _) fun x => ⟨rfl,rfl,rfl⟩
   ·exact rest hin hin2 (by omega) (fun v24 v26 v27 v28 c => _) (fun v24 v26 v27 v28 v31 => _) (fun _ _ _ _ _ => ⟨rfl,rfl,rfl⟩) fun _ _ _ _ _ => ⟨rfl,rfl,rfl⟩
theorem fldI {c : List Value} {o s : Nat} {x : Value} (hx : c[o]? = some x) (hk : KV x) : aField false s o (.agg ⟨c⟩) KV := by
 unfold aField
 simp only [cond_false]
 rw [hx]
 exact hk
theorem good11 (hJ : Closed prog main J) {v cv nv : Value} {t : Tal} {many : Int} (ht : TalAt h v t cv nv)
  (k1 : talErr t ≠ 0 → K (.tuple ⟨[vint 0,vint (talErr t)]⟩) h) (k2 : talErr t = 0 → many < 0 → K (.tuple ⟨[vint 0,vint 1]⟩) h) (k3 : talErr t = 0 → 0 ≤ many → ¬ TruthIs t (limA t 0) → K (.tuple ⟨[vint 0,vint 11]⟩) h)
  (k4 : talErr t = 0 → 0 ≤ many → TruthIs t (limA t 0) → ∀ g,g < t.gates.toNat → (∀ j,j < g → (lostR t (bkR t (limA t 0)) 0 j).lo < many) → many ≤ (lostR t (bkR t (limA t 0)) 0 g).lo → K (.tuple ⟨[vint (g : Nat),vint 0]⟩) h)
  (k5 : talErr t = 0 → 0 ≤ many → TruthIs t (limA t 0) → (∀ j,j < t.gates.toNat → (lostR t (bkR t (limA t 0)) 0 j).lo < many) → K (.tuple ⟨[vint 0,vint 11]⟩) h) : Good prog J 11 [v,vint many] h K := by
 refine g11 hJ fun ok => ?_
 rw [e11,ht.val]
 have kc : kn1 cv = true ∧ kn1 nv = true := ⟨(sli_one ht.ch).2.2,(sli_one ht.co).2.2⟩
 refine qBox (tal_one ht) fun H1 p1 e1 S1 b1 l1 => ?_
 refine load_part (c := talCells t cv nv) b1 (by rw [cs_val]; omega) rfl (tal_kn kc.1 kc.2) ?_
 have t1 : TalAt H1 (.agg ⟨talCells t cv nv⟩) t cv nv := ⟨rfl,S1.sli ht.ch (by simp),S1.sli ht.co (by simp)⟩
 refine good24 hJ t1 fun H2 bw bm S2 a1 a2 a3 w hm => ext0 (ext1 ?_)
 have S12 := S1.trans S2
 have fin : ∀ (x y : Int) (H : List AObj),SameX [] h H → K (.tuple ⟨[vint x,vint y]⟩) h → retL h.length K [] [vint x,vint y] H := fun x y H S hk =>
  retX ok (Nat.le_refl _) S (by simp) (by simp [unk]) (by simp [pack,VOk,AOk,LOk]) hk
 refine neqI (cndI (fun hne => fin _ _ _ S12 (k1 hne)) fun heq => ?_)
 have h0 : talErr t = 0 := by omega
 have fine := talErr_fine h0
 have hg := fine.gates
 refine lssI (cndI (fun hn => fin _ _ _ S12 (k2 h0 hn)) fun hn => ?_)
 refine good25 hJ w a1 a2 a3 fine hm metOk_nil (fun hf H3 S3 => ext0 (ext1 (cnd_false.2 ?_))) (fun hT H3 po es' S3 h1 w3 hm3 met3 c3 => ext0 (ext1 (cnd_true.2 ?_)))
 ·exact fin _ _ _ (S12.thru S3 (by simp; omega)) (k3 h0 (by omega) hf)
 have SA : SameX [] h H3 := S12.thru S3 (by simp; omega)
 have b13 := S3.get (S2.get b1 (by simp)) (by simp; omega)
 have hR := bk_rsm fine hT
 refine offI (ldI (v := vint t.gates) b13 rfl rfl ?_)
 refine l11_1 hJ (fun i : Nat => t.gates.toNat - i) (fun i f H => H = H3 ∧ i ≤ t.gates.toNat ∧ (∀ j,j < i → (lostR t (bkR t (limA t 0)) 0 j).lo < many) ∧ f.ds = [] ∧ f.r 1 = vint many ∧ f.r 6 = ptr bw 0 ∧ f.r 8 = .slice (some ⟨po,0,none⟩) t.gates.toNat t.gates.toNat ∧ f.r 28 = vint t.gates ∧ f.r 29 = vint (i : Nat)) ?_ (s := 0)
  (.inl ⟨rfl,by omega,by simp,rfl,rfl,rfl,rfl,rfl,rfl⟩)
 rintro i f H ⟨rfl,hi,hlo,hds,r1,r6,r8,r28,r29⟩ ok' hn'
 rw [s11_1]
 simp only [r1,r6,r8,r28,r29,hds]
 refine lssI (cndI (fun hlt => ?_) fun hge => fin _ _ _ SA (k5 h0 (by omega) hT fun j hj => hlo j (by omega)))
 refine good26 hJ (a := 0) (b := i) w3 c3 fine hR (by omega) (by omega) ?_
 refine fldI (x := vint (lostR t (bkR t (limA t 0)) 0 i).lo) rfl (geqI (cndI (fun hge => ?_) fun hlt2 => addI (by omega) ?_))
 ·have : ((i : Nat) : Int) = i := rfl
  exact fin i 0 _ SA (k4 h0 (by omega) hT i (by omega) hlo hge)
 ·refine ⟨i + 1,by dsimp only; omega,.inl ⟨rfl,by omega,fun j hj => ?_,hds,r1,r6,r8,r28,rfl⟩⟩
  by_cases e : j = i
  ·subst e
   omega
  ·exact hlo j (by omega)
def dbt (R : Nat → Rng) : Nat → Nat × Int
 | 0 => (0,-1)
 | g + 1 => if (R g).hi - (R g).lo > (dbt R g).2 then (g,(R g).hi - (R g).lo) else dbt R g
theorem good12 (hJ : Closed prog main J) {v cv nv : Value} {t : Tal} (ht : TalAt h v t cv nv)
  (k1 : talErr t ≠ 0 → K (.tuple ⟨[vint 0,vint 0,vint (talErr t)]⟩) h) (k2 : talErr t = 0 → ¬ TruthIs t (limA t 0) → K (.tuple ⟨[vint 0,vint 0,vint 11]⟩) h)
  (k3 : talErr t = 0 → TruthIs t (limA t 0) → K (.tuple ⟨[vint ((dbt (bkR t (limA t 0)) t.gates.toNat).1 : Nat),vint (dbt (bkR t (limA t 0)) t.gates.toNat).2,vint 0]⟩) h) : Good prog J 12 [v] h K := by
 refine g12 hJ fun ok => ?_
 rw [e12,ht.val]
 have kc : kn1 cv = true ∧ kn1 nv = true := ⟨(sli_one ht.ch).2.2,(sli_one ht.co).2.2⟩
 refine qBox (tal_one ht) fun H1 p1 e1 S1 b1 l1 => ?_
 refine load_part (c := talCells t cv nv) b1 (by rw [cs_val]; omega) rfl (tal_kn kc.1 kc.2) ?_
 have t1 : TalAt H1 (.agg ⟨talCells t cv nv⟩) t cv nv := ⟨rfl,S1.sli ht.ch (by simp),S1.sli ht.co (by simp)⟩
 refine good24 hJ t1 fun H2 bw bm S2 a1 a2 a3 w hm => ext0 (ext1 ?_)
 have S12 := S1.trans S2
 have fin : ∀ (x y z : Int) (H : List AObj),SameX [] h H → K (.tuple ⟨[vint x,vint y,vint z]⟩) h → retL h.length K [] [vint x,vint y,vint z] H := fun x y z H S hk =>
  retX ok (Nat.le_refl _) S (by simp) (by simp [unk]) (by simp [pack,VOk,AOk,LOk]) hk
 refine neqI (cndI (fun hne => fin _ _ _ _ S12 (k1 hne)) fun heq => ?_)
 have h0 : talErr t = 0 := by omega
 have fine := talErr_fine h0
 have hg := fine.gates
 refine good25 hJ w a1 a2 a3 fine hm metOk_nil (fun hf H3 S3 => ext0 (ext1 (notI (cnd_true.2 ?_)))) (fun hT H3 po es' S3 h1 w3 hm3 met3 c3 => ext0 (ext1 (notI (cnd_false.2 ?_))))
 ·exact fin _ _ _ _ (S12.thru S3 (by simp; omega)) (k2 h0 hf)
 have SA : SameX [] h H3 := S12.thru S3 (by simp; omega)
 have hR := bk_rsm fine hT
 rw [lenS]
 have hSA := SA.1
 refine l12_1 hJ (fun i : Nat => t.gates.toNat - i) (fun i f H => SameX [] H3 H ∧ i ≤ t.gates.toNat ∧ f.ds = [] ∧ f.r 9 = vint ((dbt (bkR t (limA t 0)) i).1 : Nat) ∧ f.r 10 = vint (dbt (bkR t (limA t 0)) i).2 ∧ f.r 29 = .slice (some ⟨po,0,none⟩) t.gates.toNat t.gates.toNat ∧ f.r 30 = vint t.gates.toNat ∧ f.r 31 = vint (i : Nat)) ?_ (s := 0)
  (.inl ⟨SameX.refl,by omega,rfl,rfl,rfl,rfl,rfl,rfl⟩)
 rintro i f H ⟨S,hi,hds,r9,r10,r29,r30,r31⟩ ok' hn'
 rw [s12_1]
 simp only [r9,r10,r29,r30,r31,hds]
 refine lssI (cndI (fun hlt => ?_) fun hge => ?_)
 ·have hri := hR i (by omega)
  refine idxI ⟨by omega,by omega⟩ ?_
  rw [Int.toNat_natCast,Nat.zero_add]
  refine load_part (c := (bkR t (limA t 0) i).cells) (S.get c3 (by simp)) (by rw [rngsC_len]; omega) (rngsC_get _ (by omega)) rfl ?_
  refine qAl fun H4 p4 e4 S4 c4 l4 => qStA (c := (bkR t (limA t 0) i).cells) c4 rfl rfl rfl fun H5 S5 c5 l5 => ?_
  have S35 : SameX [] H3 H5 := (S.trans S4).thru S5 (by simp; have := S.1; omega)
  refine offI (ldI (v := vint (bkR t (limA t 0) i).hi) c5 rfl rfl (offI (ldI (v := vint (bkR t (limA t 0) i).lo) c5 rfl rfl (subI (by omega) (gtrI (cndI (fun hgt => addI (by omega) ?_) fun hle => addI (by omega) ?_))))))
  ·refine ⟨i + 1,by dsimp only; omega,.inl ⟨S35,by omega,hds,?_,?_,r29,r30,rfl⟩⟩
   ·show vint (i : Nat) = _
    rw [dbt,if_pos hgt]
   ·show vint _ = _
    rw [dbt,if_pos hgt]
  ·refine ⟨i + 1,by dsimp only; omega,.inl ⟨S35,by omega,hds,?_,?_,r29,r30,rfl⟩⟩
   ·show f.r 9 = _
    rw [r9,dbt,if_neg hle]
   ·show f.r 10 = _
    rw [r10,dbt,if_neg hle]
 ·have : i = t.gates.toNat := by omega
  subst this
  exact fin _ _ _ _ (SA.trans S) (k3 h0 hT)
end
instance (r : Rng) (n : Int) : Decidable (r.has n) := inferInstanceAs (Decidable (_ ∧ _))
def AllP (t : Tal) (g : Int) (n : Int) : Prop := ∀ c ∈ t.counts,c.gate = g → (rd c).has n
def befLo (t : Tal) (g : Nat) (n : Int) : Int := max 0 (n - ((t.changes[g]?).getD ⟨0,0⟩).hi)
def befHi (t : Tal) (g : Nat) (n : Int) : Int := min 540 (n - ((t.changes[g]?).getD ⟨0,0⟩).lo + t.most)
def Ch (t : Tal) : Nat → Int → Prop
 | 0,n => t.first.has n ∧ AllP t (0 : Nat) n
 | g + 1,n => (0 ≤ n ∧ n ≤ 540) ∧ (∃ m,befLo t g n ≤ m ∧ m ≤ befHi t g n ∧ Ch t g m) ∧ AllP t (g + 1 : Nat) n
section
variable {main : Bool} {J : JT} {h h0 H : List AObj} {K : Value → List AObj → Prop} {KV : Value → Prop} {n0 : Nat}
noncomputable instance (t : Tal) (g n : Int) : Decidable (AllP t g n) := Classical.propDecidable _
noncomputable instance (t : Tal) (g : Nat) (n : Int) : Decidable (Ch t g n) := Classical.propDecidable _
end
noncomputable def toldP (t : Tal) (gate number : Int) : Int × Int :=
 open Classical in
 if talErr t ≠ 0 then (0,talErr t) else if ¬ (0 ≤ gate ∧ gate ≤ t.gates - 1) then (0,3) else if number < 0 then (0,1) else if ¬ TruthIs t (limA t 0) then (0,11) else (verdict (bkR t (limA t 0) gate.toNat) number,0)
noncomputable def trulyE (t : Tal) : Int :=
 open Classical in
 if talErr t ≠ 0 then talErr t else if ¬ TruthIs t (limA t 0) then 11 else 0
noncomputable def trulyO (t : Tal) : List Rng :=
 open Classical in
 if talErr t ≠ 0 then [] else if ¬ TruthIs t (limA t 0) then [] else trulyL t
section
variable {main : Bool} {J : JT} {h H : List AObj} {K : Value → List AObj → Prop} {n0 : Nat} {v cv nv : Value} {t : Tal} {gate number : Int}
theorem told_all (P : Value → Prop) (hK : P (.tuple ⟨[vint (toldP t gate number).1,vint (toldP t gate number).2]⟩)) :
  (talErr t ≠ 0 → P (.tuple ⟨[vint 0,vint (talErr t)]⟩)) ∧ (talErr t = 0 → ¬ (0 ≤ gate ∧ gate ≤ t.gates - 1) → P (.tuple ⟨[vint 0,vint 3]⟩)) ∧
  (talErr t = 0 → 0 ≤ gate → gate ≤ t.gates - 1 → number < 0 → P (.tuple ⟨[vint 0,vint 1]⟩)) ∧
  (talErr t = 0 → 0 ≤ gate → gate ≤ t.gates - 1 → 0 ≤ number → ¬ TruthIs t (limA t 0) → P (.tuple ⟨[vint 0,vint 11]⟩)) ∧
  (talErr t = 0 → 0 ≤ gate → gate ≤ t.gates - 1 → 0 ≤ number → TruthIs t (limA t 0) → P (.tuple ⟨[vint (verdict (bkR t (limA t 0) gate.toNat) number),vint 0]⟩)) := by
 have go : ∀ x,toldP t gate number = x → P (.tuple ⟨[vint x.1,vint x.2]⟩) := fun x hx => by rw [← hx]; exact hK
 refine ⟨fun h0 => go (0,talErr t) ?_,fun h0 hg => go (0,3) ?_,fun h0 h1 h2 h3 => go (0,1) ?_,fun h0 h1 h2 h3 hT => go (0,11) ?_,fun h0 h1 h2 h3 hT => go (verdict (bkR t (limA t 0) gate.toNat) number,0) ?_⟩
 ·unfold toldP
  rw [if_pos h0]
 ·unfold toldP
  rw [if_neg (not_not_intro h0),if_pos hg]
 ·unfold toldP
  rw [if_neg (not_not_intro h0),if_neg (not_not_intro ⟨h1,h2⟩),if_pos h3]
 ·unfold toldP
  rw [if_neg (not_not_intro h0),if_neg (not_not_intro ⟨h1,h2⟩),if_neg (show ¬ number < 0 by omega),if_pos hT]
 ·unfold toldP
  rw [if_neg (not_not_intro h0),if_neg (not_not_intro ⟨h1,h2⟩),if_neg (show ¬ number < 0 by omega),if_neg (not_not_intro hT)]
theorem good8' (hJ : Closed prog main J) (ht : TalAt h v t cv nv) (hK : K (.tuple ⟨[vint (toldP t gate number).1,vint (toldP t gate number).2]⟩) h) : Good prog J 8 [v,vint gate,vint number] h K := by
 obtain ⟨k1,k2,k3,k4,k5⟩ := told_all (fun x => K x h) hK
 exact good8 hJ ht k1 k2 k3 k4 k5
theorem sliE_nil {α : Type} {s : Nat} {enc : α → List Value} : SliE h (.slice none 0 0) s enc ([] : List α) := ⟨none,0,rfl,⟨by simp,rfl⟩,.inl ⟨rfl,rfl⟩⟩
theorem truly_all (hK : ∀ v H,SameX [] h H → SliE H v 2 Rng.cells (trulyO t) → K (.tuple ⟨[v,vint (trulyE t)]⟩) H) :
  (talErr t ≠ 0 → K (.tuple ⟨[.slice none 0 0,vint (talErr t)]⟩) h) ∧ (talErr t = 0 → ¬ TruthIs t (limA t 0) → K (.tuple ⟨[.slice none 0 0,vint 11]⟩) h) ∧
  (talErr t = 0 → TruthIs t (limA t 0) → ∀ v H,SameX [] h H → SliE H v 2 Rng.cells (trulyL t) → K (.tuple ⟨[v,vint 0]⟩) H) := by
 have go : ∀ x y v H,trulyE t = x → trulyO t = y → SameX [] h H → SliE H v 2 Rng.cells y → K (.tuple ⟨[v,vint x]⟩) H := fun x y v H hx hy S hs => by
  subst hx hy
  exact hK v H S hs
 refine ⟨fun h0 => go _ [] _ _ ?_ ?_ SameX.refl sliE_nil,fun h0 hT => go _ [] _ _ ?_ ?_ SameX.refl sliE_nil,fun h0 hT v H S hs => go _ _ v H ?_ ?_ S hs⟩
 ·unfold trulyE
  rw [if_pos h0]
 ·unfold trulyO
  rw [if_pos h0]
 ·unfold trulyE
  rw [if_neg (not_not_intro h0),if_pos hT]
 ·unfold trulyO
  rw [if_neg (not_not_intro h0),if_pos hT]
 ·unfold trulyE
  rw [if_neg (not_not_intro h0),if_neg (not_not_intro hT)]
 ·unfold trulyO
  rw [if_neg (not_not_intro h0),if_neg (not_not_intro hT)]
theorem good9' (hJ : Closed prog main J) (ht : TalAt h v t cv nv) (hK : ∀ v H,SameX [] h H → SliE H v 2 Rng.cells (trulyO t) → K (.tuple ⟨[v,vint (trulyE t)]⟩) H) : Good prog J 9 [v] h K := by
 obtain ⟨k1,k2,k3⟩ := truly_all hK
 refine good9 hJ ht k1 k2 fun h0 hT c sz => ?_
 have hg := (talErr_fine h0).gates
 refine k3 h0 hT _ _ SameX.refl.app ?_
 rw [← trulyL_len]
 have hf := flatR (trulyL t)
 exact ⟨_,_,rfl,hf,.inr ⟨_,_,rfl,.inr ⟨(trulyL t).flatMap Rng.cells,true,sz,by simp,by rw [List.drop_zero,List.take_of_length_le (by rw [hf.1]; exact Nat.le_refl _)]⟩⟩⟩
end
def OwnL (n : Nat) (H : List AObj) (v : Value) (ls : List (List Int)) (o : Option Nat) : Prop :=
 (∀ j,o = some j → n ≤ j) ∧ ∃ cs,OwnX H 1 cs ls.length v o ∧ ∀ (i : Nat) l,ls[i]? = some l → ∃ lv b,cs[i]? = some lv ∧ OwnX H 1 (l.map vint) l.length lv b ∧ ∀ j,b = some j → some j ≠ o ∧ n ≤ j
theorem OwnL.keep {n : Nat} {H H' : List AObj} {v : Value} {ls : List (List Int)} {o : Option Nat} (a : OwnL n H v ls o) (S : SameX [] H H') : OwnL n H' v ls o := by
 obtain ⟨h1,cs,O,he⟩ := a
 refine ⟨h1,cs,ownX_keep O S (by simp),fun i l hl => ?_⟩
 obtain ⟨lv,b,e1,e2,e3⟩ := he i l hl
 exact ⟨lv,b,e1,ownX_keep e2 S (by simp),e3⟩
section
variable {h H : List AObj} {K : Value → List AObj → Prop} {KV : Value → Prop} {HL : List AObj → Prop} {n0 : Nat}
theorem fill_one {m : List Value} {o s : Nat} {v : Value} {l : List Value} {ps : List (Nat × Nat × Value)} {KL : List Value → Prop} (hv : v.cells.toList = l) (hs : l.length = s) (ho : l.all one = true) (hl : o + s ≤ m.length) (hk : aFill (wrAt m o l) ps KL) : aFill m ((o,s,v) :: ps) KL := by
 subst hv
 exact ⟨hs,ho,hl,hk⟩
theorem OwnL.get {n i : Nat} {v : Value} {ls : List (List Int)} {o : Option Nat} (a : OwnL n H v ls o) {l : List Int} (hl : ls[i]? = some l) {K2 : Value → Value → Prop} (hK : ∀ p lv b,OwnX H 1 (l.map vint) l.length lv b → (∀ j,b = some j → n ≤ j) → K2 p lv) : aIdx 1 v (vint (i : Nat)) fun p => aLoad false 1 p H (K2 p) := by
 obtain ⟨h1,cs,O,he⟩ := a
 obtain ⟨lv,b,e1,e2,e3⟩ := he i l hl
 have hi := (List.getElem?_eq_some_iff.1 hl).1
 exact idx_load (ownX_sli O) ⟨by omega,by omega⟩ (by rw [Int.toNat_natCast]; exact e1) fun p => hK p lv b e2 fun j hj => (e3 j hj).2
theorem OwnL.more {lo : Nat} {H : List AObj} {ls : List (List Int)} {o : Option Nat} {v y wv : Value} {l : List Int} {bf : Nat} {K : Value → List AObj → Prop}
  (L : OwnL lo H v ls o) (hlo : lo ≤ H.length) (hpl : ls.length < 900) (Of : OwnX H 1 (l.map vint) l.length wv (some bf)) (hbf : lo ≤ bf) (hne : some bf ≠ o) (hyv : Sli H y 1 1 [wv])
  (hK : ∀ v' H' o',SameX o.toList H H' → OwnL lo H' v' (ls ++ [l]) (some o') → H.length ≤ o' → v' ≠ unk → K v' H') : aApp 1 v y H K := by
 obtain ⟨hl0,cs,Oc,he⟩ := L
 have bfl := ownX_lt Of bf rfl
 refine ownX_more Oc (by omega) (by omega) hyv fun v' Hh ph eh Oh Sh => ?_
 have hno : ∀ j,some j ≠ o → j ∉ o.toList := fun j hj hm => hj (by rw [Option.mem_toList.1 hm])
 refine hK v' Hh ph Sh ⟨fun j hj => by cases hj; omega,cs ++ [wv],by rw [List.length_append]; exact Oh,fun m l' hl => ?_⟩ (by omega) ?_
 ·have hcl : cs.length = ls.length := by have := Oc.1; omega
  rcases Nat.lt_or_ge m ls.length with hm | hm
  ·rw [List.getElem?_append_left hm] at hl
   obtain ⟨lv2,b2,e2,e3,e4⟩ := he m l' hl
   refine ⟨lv2,b2,by rw [List.getElem?_append_left (by omega)]; exact e2,ownX_keep e3 Sh fun j hj => hno j (e4 j hj).1,fun j hj => ⟨?_,(e4 j hj).2⟩⟩
   have := ownX_lt e3 j hj
   intro e
   injection e with e
   omega
  ·rw [List.getElem?_append_right hm] at hl
   have hm0 : m - ls.length = 0 := by
    have := (List.getElem?_eq_some_iff.1 hl).1
    simp at this
    omega
   rw [hm0] at hl
   have : l' = l := by simpa using hl.symm
   subst this
   refine ⟨wv,some bf,by rw [List.getElem?_append_right (by omega),hcl,hm0]; rfl,ownX_keep Of Sh fun j hj => ?_,fun j hj => ?_⟩
   ·cases hj
    exact hno _ hne
   ·cases hj
    refine ⟨fun e => ?_,hbf⟩
    injection e with e
    omega
 ·have := (ownX_val Oh).2.2
  intro e
  rw [e] at this
  cases this
theorem OwnL.nil {lo : Nat} : OwnL lo H (.slice none 0 0) [] none := ⟨by simp,[],⟨rfl,rfl,.inl ⟨rfl,rfl,rfl⟩⟩,by simp⟩
theorem OwnL.lo {n m : Nat} {v : Value} {ls : List (List Int)} {o : Option Nat} (a : OwnL n H v ls o) (h : m ≤ n) : OwnL m H v ls o := by
 obtain ⟨a1,cs,a2,a3⟩ := a
 exact ⟨fun j hj => by have := a1 j hj; omega,cs,a2,fun i l hl => by
  obtain ⟨lv,b,q1,q2,q3⟩ := a3 i l hl
  exact ⟨lv,b,q1,q2,fun j hj => ⟨(q3 j hj).1,by have := (q3 j hj).2; omega⟩⟩⟩
theorem OwnL.keepX {n : Nat} {H' : List AObj} {X : List Nat} {v : Value} {ls : List (List Int)} {o : Option Nat} (a : OwnL n H v ls o) (S : SameX X H H') (hX : ∀ x ∈ X,x < n) : OwnL n H' v ls o := by
 obtain ⟨h1,cs,O,he⟩ := a
 refine ⟨h1,cs,ownX_keep O S fun i hi hm => ?_,fun i l hl => ?_⟩
 ·have := h1 i hi
  have := hX i hm
  omega
 ·obtain ⟨lv,b,e1,e2,e3⟩ := he i l hl
  exact ⟨lv,b,e1,ownX_keep e2 S fun j hj hm => by have := (e3 j hj).2; have := hX j hm; omega,e3⟩
theorem OwnL.lt {n : Nat} {v : Value} {ls : List (List Int)} {o : Option Nat} (a : OwnL n H v ls o) : ∀ j,o = some j → n ≤ j ∧ j < H.length := fun j hj => ⟨a.1 j hj,ownX_lt a.2.choose_spec.1 j hj⟩
theorem OwnL.sli {n : Nat} {v : Value} {ls : List (List Int)} {o : Option Nat} (a : OwnL n H v ls o) : ∃ cs,Sli H v 1 ls.length cs := ⟨_,ownX_sli a.2.choose_spec.1⟩
end
def firstN {α : Type} (f : Nat → Option α) : Nat → Option α
 | 0 => none
 | n + 1 => (firstN f n).or (f n)
theorem firstN_none {α : Type} {f : Nat → Option α} : ∀ {n : Nat},(∀ i,i < n → f i = none) → firstN f n = none
 | 0,_ => rfl
 | n + 1,h => by
  unfold firstN
  rw [firstN_none fun i hi => h i (by omega),h n (by omega)]
  rfl
theorem firstN_some {α : Type} {f : Nat → Option α} {k : Nat} {r : α} : ∀ {n : Nat},k < n → (∀ i,i < k → f i = none) → f k = some r → firstN f n = some r
 | 0,h,_,_ => absurd h (Nat.not_lt_zero _)
 | n + 1,h,h0,hr => by
  unfold firstN
  by_cases e : k = n
  ·subst e
   rw [firstN_none h0,hr]
   rfl
  ·rw [firstN_some (by omega) h0 hr]
   rfl
theorem firstN_range {α : Type} {f : Nat → Option α} : ∀ n,firstN f n = (List.range n).findSome? f
 | 0 => rfl
 | n + 1 => by
  rw [List.range_succ,List.findSome?_append,← firstN_range n]
  show (firstN f n).or (f n) = _
  cases h : f n <;> simp [List.findSome?,h]
theorem firstN_more {α : Type} {f : Nat → Option α} {n : Nat} : ∀ {m : Nat},n ≤ m → (∀ i,n ≤ i → i < m → f i = none) → firstN f m = firstN f n
 | 0,h,_ => by rw [show n = 0 from by omega]
 | m + 1,h,h0 => by
  rcases Nat.lt_or_ge m n with x | x
  ·rw [show n = m + 1 from by omega]
  ·show (firstN f m).or (f m) = firstN f n
   rw [firstN_more x fun i h1 h2 => h0 i h1 (by omega),h0 m x (by omega)]
   cases firstN f n <;> rfl
def andU (a b : Int) : Int := IntKind.u64.wrap (BitVec.ofInt 64 a &&& ~~~ BitVec.ofInt 64 b).toNat
def orU (a b : Int) : Int := IntKind.u64.wrap (BitVec.ofInt 64 a ||| BitVec.ofInt 64 b).toNat
def shU (i : Int) : Int := IntKind.u64.wrap (1 * 2 ^ min i.toNat 64)
def setF (s : Int) (l : List Int) : Int := l.foldl (fun s i => orU s (shU i)) s
def picksR (n : Nat) : Nat → Nat → List (List Int)
 | 0,_ => [[]]
 | m + 1,a => (List.range (n - a)).flatMap fun k => (picksR n m (a + k + 1)).map (((a + k : Nat) : Int) :: ·)
theorem picksR_few {n : Nat} : ∀ {m a : Nat},n - a < m → picksR n m a = []
 | 0,a,h => by omega
 | m + 1,a,h => by
  unfold picksR
  rw [List.flatMap_eq_nil_iff]
  intro k hk
  have hk := List.mem_range.1 hk
  rw [picksR_few (by omega)]
  rfl
theorem picksR_mem {n : Nat} : ∀ {m a : Nat} {l : List Int},l ∈ picksR n m a → l.length = m ∧ ∀ x ∈ l,(a : Int) ≤ x ∧ x < n
 | 0,a,l,h => by
  have : l = [] := by simpa [picksR] using h
  subst this
  simp
 | m + 1,a,l,h => by
  unfold picksR at h
  obtain ⟨k,hk,h⟩ := List.mem_flatMap.1 h
  obtain ⟨u,hu,rfl⟩ := List.mem_map.1 h
  have hk := List.mem_range.1 hk
  obtain ⟨h1,h2⟩ := picksR_mem hu
  refine ⟨by simp [h1],fun x hx => ?_⟩
  rcases List.mem_cons.1 hx with rfl | hx
  ·omega
  ·have := h2 x hx
   omega
def fromL (l : List Int) : Nat := match l.getLast? with
 | some x => x.toNat + 1
 | none => 0
theorem fromL_snoc {l : List Int} {k : Nat} : fromL (l ++ [(k : Int)]) = k + 1 := by
 unfold fromL
 rw [List.getLast?_concat]
 show (k : Int).toNat + 1 = _
 omega
def growP (Pu : Int → Bool) (n : Nat) : Nat → List Int → Int → Option (List Int)
 | 0,l,s => bif Pu s then some l else none
 | m + 1,l,s => firstN (fun k => growP Pu n m (l ++ [((fromL l + k : Nat) : Int)]) (orU s (shU ((fromL l + k : Nat) : Int)))) (n - m - fromL l)
def pickP (Pu : Int → Bool) (n : Nat) : Option (List Int) := firstN (fun m => growP Pu n m [] 0) (n + 1)
theorem growP_find {Pu : Int → Bool} {n : Nat} : ∀ (m : Nat) (l : List Int) (s : Int),growP Pu n m l s = ((picksR n m (fromL l)).find? fun r => Pu (setF s r)).map (l ++ ·)
 | 0,l,s => by
  unfold growP picksR
  show _ = Option.map _ (List.find? _ [[]])
  cases h : Pu s <;> simp [List.find?,setF,h]
 | m + 1,l,s => by
  unfold growP picksR
  rw [← firstN_more (m := n - fromL l) (by omega) fun k h1 h2 => ?_,firstN_range,List.find?_flatMap,List.map_findSome?]
  ·congr 1
   funext k
   rw [growP_find m,fromL_snoc]
   show _ = Option.map _ (List.find? _ (List.map _ _))
   rw [List.find?_map,Option.map_map]
   have : (fun r => Pu (setF s r)) ∘ (fun x => ((fromL l + k : Nat) : Int) :: x) = fun r => Pu (setF (orU s (shU ((fromL l + k : Nat) : Int))) r) := rfl
   rw [this]
   congr 1
   funext r
   simp
  ·rw [growP_find m,fromL_snoc,picksR_few (by omega)]
   rfl
theorem pickP_find {Pu : Int → Bool} {n : Nat} : pickP Pu n = firstN (fun m => (picksR n m 0).find? fun r => Pu (setF 0 r)) (n + 1) := by
 unfold pickP
 congr 1
 funext m
 rw [growP_find]
 show Option.map _ ((picksR n m 0).find? _) = _
 cases (picksR n m 0).find? fun r => Pu (setF 0 r) <;> rfl
noncomputable def truthS (t : Tal) (u : Int) : Bool := decide (TruthIs t (limN u t.counts t.counts.length))
noncomputable def clashO (t : Tal) : Option (List Int) := pickP (fun s => !truthS t (andU 127 s)) t.counts.length
noncomputable def wrongO (t : Tal) : Option (List Int) := pickP (truthS t) t.counts.length
def ClipAt (H : List AObj) (v : Value) (l : List Int) : Prop := (l = [] ∧ v = .slice none 0 0) ∨ ∃ i sz,v = .slice (some ⟨i,0,none⟩) l.length l.length ∧ H[i]? = some (.cells (l.map vint) true sz)
theorem ClipAt.keep {H H' : List AObj} {v : Value} {l : List Int} (a : ClipAt H v l) (S : SameX [] H H') : ClipAt H' v l := by
 rcases a with a | ⟨i,sz,h1,h2⟩
 ·exact .inl a
 ·exact .inr ⟨i,sz,h1,S.get h2 (by simp)⟩
theorem kn_vint (l : List Int) : kn (l.map vint) = true := by simp [kn]; exact fun _ _ => rfl
def growV (pp pn pg : Nat) : Value := .func (.func 46) ⟨[]⟩ ⟨[ptr pp 0,ptr pn 0,ptr pg 0]⟩
structure Pass (J : JT) (X : List Nat) (I : List AObj → Prop) (Pu : Int → Bool) (fv : Value) : Prop where
 call : ∀ {H : List AObj} {s : Int} {Kf : Value → List AObj → Prop},I H → (∀ H',SameX X H H' → I H' → Kf (.bool (Pu s)) H') → callV prog (Good prog J) fv [.int .u64 s] H Kf
 keep : ∀ {H H' : List AObj},I H → SameX [] H H' → I H'
 kn : kn1 fv = true
 val : fv.cells = #[fv] ∧ one fv = true
section
variable {main : Bool} {J : JT} {h H : List AObj} {K : Value → List AObj → Prop} {KV : Value → Prop} {HL : List AObj → Prop} {n0 : Nat}
theorem u_shlI {i : Int} {t : TypeId} (h0 : 0 ≤ i) (hk : KV (.int .u64 (shU i))) : aBin prog .shl t (.int .u64 1) (.int .u64 i) KV := ⟨h0,hk⟩
theorem u_orI {a b : Int} {t : TypeId} (hk : KV (.int .u64 (orU a b))) : aBin prog .or t (.int .u64 a) (.int .u64 b) KV := ⟨rfl,hk⟩
theorem u_andNotI {a b : Int} {t : TypeId} (hk : KV (.int .u64 (andU a b))) : aBin prog .andNot t (.int .u64 a) (.int .u64 b) KV := ⟨rfl,hk⟩
theorem good47 (hJ : Closed prog main J) {v : Value} {l : List Int} {o : Option Nat} (O : OwnX H 1 (l.map vint) l.length v o) (hl : l.length ≤ 100) (hK : ∀ v',ClipAt H v' l → K v' H) : Good prog J 47 [v] H K := by
 have hfz : (1000 : Nat) < fz := by decide
 have hrm : (2000 : Nat) < room := by decide
 refine g47 hJ fun ok => ?_
 rw [e47]
 refine lenI (ownX_sli O) (lenI (ownX_sli O) ?_)
 obtain ⟨_,_,⟨h0,rfl,_⟩ | ⟨i,c,sz,_,rfl,hb,hc⟩⟩ := id O
 ·have : l = [] := List.length_eq_zero_iff.1 h0
  subst this
  refine ⟨Int.le_refl _,⟨Int.le_refl _,by decide⟩,⟨fun _ => Int.le_refl _,fun hx => absurd hx (by decide)⟩,retL_same (by simp [unk]) (hK _ (.inl ⟨rfl,rfl⟩))⟩
 ·refine ⟨by omega,⟨Int.le_refl _,by omega⟩,⟨fun hx => ?_,fun hx => ?_⟩,?_⟩
  ·rcases hc with ⟨rfl,_⟩ | rfl
   ·exact absurd hx (by omega)
   ·exact Int.le_refl _
  ·rcases hc with ⟨rfl,rfl⟩ | rfl
   ·show (match H[i]? with
     | some (.cells cs _ sz) => fz = fz ∧ sz ≠ 0 ∧ 0 = 0 ∧ ((l.length : Nat) : Int).toNat * sz ≤ cs.length
     | _ => False)
    rw [hb]
    exact ⟨rfl,by decide,rfl,by simp⟩
   ·omega
  ·refine retL_same (by simp [unk]) (hK _ (.inr ⟨i,sz,?_,hb⟩))
   show Value.slice _ ((l.length : Nat) : Int).toNat ((l.length : Nat) : Int).toNat = _
   rw [Int.toNat_natCast]
theorem clip_app {v y : Value} {l : List Int} {x : Int} (a : ClipAt H v l) (hl : l.length ≤ 100) (hy : Sli H y 1 1 [vint x])
  (hK : ∀ v' H',SameX [] H H' → OwnX H' 1 ((l ++ [x]).map vint) (l ++ [x]).length v' (some H.length) → K v' H') : aApp 1 v y H K := by
 have hr : room = 1073741824 := rfl
 rcases a with ⟨rfl,rfl⟩ | ⟨i,sz,rfl,hb⟩
 ·refine app_nil (by decide) hy (by omega) (fun e => absurd e (by decide)) fun _ => hK _ _ SameX.refl.app ?_
  exact ⟨rfl,rfl,.inr ⟨H.length,fz,1,rfl,rfl,by simp,.inl ⟨rfl,rfl⟩⟩⟩
 ·refine app_copy (cs := l.map vint) hb (by simp) (by rw [List.drop_zero,List.take_of_length_le (by simp)]; exact kn_vint l) (by omega) (by decide) hy (by omega) ?_
  refine hK _ _ SameX.refl.app ⟨by simp,kn_vint _,.inr ⟨H.length,fz,1,rfl,by simp,?_,.inl ⟨rfl,rfl⟩⟩⟩
  rw [List.getElem?_append_right (by omega)]
  simp
  exact List.take_of_length_le (by simp)
theorem callC {g : FuncId} {args cap : List Value} (hg : Nat.blt g prog.funcs.size = true) (hk : Good prog J g (args ++ cap) H K) : callV prog (Good prog J) (.func (.func g) ⟨[]⟩ ⟨cap⟩) args H K := by
 show (bif Nat.blt g prog.funcs.size then Good prog J g ([] ++ args ++ cap) H K else False)
 rw [hg,cond_true,List.nil_append]
 exact hk
theorem nu2 {a b : Value} (ha : a ≠ unk) (hb : b ≠ unk) : ∀ v ∈ [a,b],v ≠ unk := by
 intro v hv
 rcases List.mem_cons.1 hv with rfl | hv
 ·exact ha
 ·rw [List.mem_singleton.1 hv]
  exact hb
theorem good46 (hJ : Closed prog main J) {X : List Nat} {I : List AObj → Prop} {Pu : Int → Bool} {fv : Value} {n lo pp pn pg : Nat} (P : Pass J X I Pu fv) (hn : n ≤ 60) (hX : ∀ x ∈ X,x < lo) (hpp : lo ≤ pp) (hpn : lo ≤ pn) (hpg : lo ≤ pg) :
  ∀ (m : Nat) (l : List Int) (s : Int) {H : List AObj} {K : Value → List AObj → Prop} {lv : Value} {o : Option Nat},H[pp]? = some (.cells [fv] true 0) → H[pn]? = some (.cells [vint (n : Nat)] true 0) → H[pg]? = some (.cells [growV pp pn pg] true 0) → I H →
   OwnX H 1 (l.map vint) l.length lv o → (∀ j,o = some j → lo ≤ j) → l.length + m ≤ 100 → (∀ x ∈ l,0 ≤ x ∧ x < n) →
   (∀ H' v,SameX X H H' → I H' → v ≠ unk → (∀ r,growP Pu n m l s = some r → ∃ b,OwnX H' 1 (r.map vint) r.length v b ∧ ∀ j,b = some j → lo ≤ j) → K (.tuple ⟨[v,.bool (growP Pu n m l s).isSome]⟩) H') →
   Good prog J 46 [lv,.int .u64 s,vint (m : Nat),ptr pp 0,ptr pn 0,ptr pg 0] H K
 | 0,l,s,H,K,lv,o,cp,cn,cg,hI,O,ho,hlm,hlb,hK => by
  refine g46 hJ fun ok => ?_
  rw [e46]
  refine eqlI (cndI (fun _ => ldI (v := fv) cp rfl P.kn (P.call hI fun H' S I' => ?_)) fun hx => absurd rfl hx)
  have nu : lv ≠ unk := by
   have := (ownX_val O).2.2
   intro e
   rw [e] at this
   cases this
  have O' := ownX_keep O S (fun i hi hm => by have := ho i hi; have := hX i hm; omega)
  have fin := hK H' lv S I' nu fun r hr => ?_
  ·refine retL_same (nu2 nu (by simp [unk])) ?_
   have e : (growP Pu n 0 l s).isSome = Pu s := by
    unfold growP
    cases Pu s <;> rfl
   rw [e] at fin
   exact fin
  ·unfold growP at hr
   cases hp : Pu s with
   | false => rw [hp] at hr; cases hr
   | true =>
    rw [hp] at hr
    have hr : some l = some r := hr
    injection hr with hr
    subst hr
    exact ⟨o,O',ho⟩
 | m + 1,l,s,H,K,lv,o,cp,cn,cg,hI,O,ho,hlm,hlb,hK => by
  refine g46 hJ fun ok => ?_
  rw [e46]
  -- the loop
  have loop : ∀ {F : RG},F.ds = [] → F.r 0 = lv → F.r 1 = .int .u64 s → F.r 2 = vint ((m + 1 : Nat) : Int) → F.r 3 = ptr pp 0 → F.r 4 = ptr pn 0 → F.r 5 = ptr pg 0 → F.r 11 = vint (fromL l : Nat) →
    W prog J 58 H.length 46 (subC [1,1,1,1] (codeOf f46)) F H (contX pl46 prog J 58 H.length 46 ct46 [1,1,1,1] (codeOf f46) [] (RetQ prog [.tmp 9,.tmp 10] H.length K)) := by
   intro F ds r0 r1 r2 r3 r4 r5 r11
   rw [s46_1,r11]
   refine l46_2 hJ (fun k : Nat => n - m - fromL l - k) (fun k F H' => SameX X H H' ∧ I H' ∧ k ≤ n - m - fromL l ∧ (∀ i,i < k → growP Pu n m (l ++ [((fromL l + i : Nat) : Int)]) (orU s (shU ((fromL l + i : Nat) : Int))) = none) ∧ F.ds = [] ∧ F.r 0 = lv ∧ F.r 1 = .int .u64 s ∧ F.r 2 = vint ((m + 1 : Nat) : Int) ∧ F.r 3 = ptr pp 0 ∧ F.r 4 = ptr pn 0 ∧ F.r 5 = ptr pg 0 ∧ F.r 12 = vint ((fromL l + k : Nat) : Int)) ?_ (s := 0)
    (.inl ⟨SameX.refl,hI,by omega,fun i hi => absurd hi (Nat.not_lt_zero _),ds,r0,r1,r2,r3,r4,r5,rfl⟩)
   rintro k F H' ⟨S,I',hk,hno,ds,r0,r1,r2,r3,r4,r5,r12⟩ okc hnc
   have hfl : fromL l ≤ n := by
    unfold fromL
    cases hl : l.getLast? with
    | none => exact Nat.zero_le _
    | some x =>
     have := hlb x (List.mem_of_getLast? hl)
     show x.toNat + 1 ≤ n
     omega
   have nX : ∀ {p},lo ≤ p → p ∉ X := fun h hm => by have := hX _ hm; omega
   have cp' := S.get cp (nX hpp)
   have cn' := S.get cn (nX hpn)
   have cg' := S.get cg (nX hpg)
   have O' := ownX_keep O S (fun i hi => nX (ho i hi))
   have lg := lt_of_get cg'
   rw [s46_2,r0,r1,r2,r4,r5,r12,ds]
   refine ldI (v := vint (n : Nat)) cn' rfl rfl (subI (by omega) (leqI (cndI (fun hle => ?_) fun hgt => ?_)))
   rotate_left
   ·have hke : k = n - m - fromL l := by omega
    refine retL_same (by simp [unk]) ?_
    have e : growP Pu n (m + 1) l s = none := by
     unfold growP
     exact firstN_none fun i hi => hno i (by omega)
    have := hK H' (.slice none 0 0) S I' (by simp [unk]) fun r hr => by rw [e] at hr; cases hr
    rw [e] at this
    exact this
   have hkl : k < n - m - fromL l := by omega
   have hsb : ∀ {H2},SameX [] H' H2 → SameB (some [pg]) H' H2 := fun S2 x hx => S2.2 x (by simp at hx; omega) (by simp)
   have e8 : ((m + 1 : Nat) : Int) - 1 = (m : Nat) := by omega
   -- behind the call
   have post : ∀ {H2 : List AObj} {wv : Value} {q : Nat} {F2 : Value → Value → Value → RG},SameX [] H' H2 → OwnX H2 1 ((l ++ [((fromL l + k : Nat) : Int)]).map vint) (l ++ [((fromL l + k : Nat) : Int)]).length wv (some q) → H'.length ≤ q →
     (∀ a b c,(F2 a b c).ds = [] ∧ (F2 a b c).r 0 = lv ∧ (F2 a b c).r 1 = .int .u64 s ∧ (F2 a b c).r 2 = vint ((m + 1 : Nat) : Int) ∧ (F2 a b c).r 3 = ptr pp 0 ∧ (F2 a b c).r 4 = ptr pn 0 ∧ (F2 a b c).r 5 = ptr pg 0 ∧ (F2 a b c).r 12 = vint ((fromL l + k : Nat) : Int) ∧ (F2 a b c).r 13 = b ∧ (F2 a b c).r 14 = c) →
     callV prog (Good prog J) (growV pp pn pg) [wv,.int .u64 (orU s (shU ((fromL l + k : Nat) : Int))),vint (m : Nat)] H2 fun v16 h17 => aExt v16 0 fun v18 => aExt v16 1 fun v19 => Hold (W prog J 58 H.length 46 (subC yp14 (codeOf f46)) (F2 v16 v18 v19) h17 (contX pl46 prog J 58 H.length 46 ct46 yp14 (codeOf f46) [Nx H.length (fun k : Nat => n - m - fromL l - k) (fun k F H' => SameX X H H' ∧ I H' ∧ k ≤ n - m - fromL l ∧ (∀ i,i < k → growP Pu n m (l ++ [((fromL l + i : Nat) : Int)]) (orU s (shU ((fromL l + i : Nat) : Int))) = none) ∧ F.ds = [] ∧ F.r 0 = lv ∧ F.r 1 = .int .u64 s ∧ F.r 2 = vint ((m + 1 : Nat) : Int) ∧ F.r 3 = ptr pp 0 ∧ F.r 4 = ptr pn 0 ∧ F.r 5 = ptr pg 0 ∧ F.r 12 = vint ((fromL l + k : Nat) : Int)) k] (RetQ prog [.tmp 9,.tmp 10] H.length K))) := by
    intro H2 wv q F2 S2 O2 hlt hF
    refine callC (by kernel_rfl) ?_
    have hSl := S.1
    have hpgl := lt_of_get cg
    refine good46 hJ P hn hX hpp hpn hpg m (l ++ [((fromL l + k : Nat) : Int)]) (orU s (shU ((fromL l + k : Nat) : Int))) (S2.get cp' (by simp)) (S2.get cn' (by simp)) (S2.get cg' (by simp)) (P.keep I' S2) O2 (fun j hj => by cases hj; omega) (by simp; omega) (fun x hx => ?_) fun H3 v S3 I3 nu hr => ext0 (ext1 (hold.2 ?_))
    ·rcases List.mem_append.1 hx with hx | hx
     ·exact hlb x hx
     ·have hx : x = ((fromL l + k : Nat) : Int) := by simpa using hx
      omega
    generalize hB : (growP Pu n m (l ++ [((fromL l + k : Nat) : Int)]) (orU s (shU ((fromL l + k : Nat) : Int)))).isSome = bb
    obtain ⟨f0,f1,f2,f3,f4,f5,f6,f7,f8,f9⟩ := hF (.tuple ⟨[v,.bool bb]⟩) v (.bool bb)
    have S13 : SameX X H H3 := (S.trans S2.weak0).trans S3
    rw [s46_3,f7,f8,f9,f0]
    cases bb with
    | true =>
     obtain ⟨r,hg⟩ := Option.isSome_iff_exists.1 hB
     have e : growP Pu n (m + 1) l s = some r := by
      unfold growP
      exact firstN_some hkl hno hg
     refine cnd_true.2 (retL_same (nu2 nu (by simp [unk])) ?_)
     have := hK H3 v S13 I3 nu fun r' hr' => by
      rw [e] at hr'
      injection hr' with hr'
      subst hr'
      exact hr _ hg
     rw [e] at this
     exact this
    | false =>
     have hg : growP Pu n m (l ++ [((fromL l + k : Nat) : Int)]) (orU s (shU ((fromL l + k : Nat) : Int))) = none := Option.isSome_eq_false_iff.1 hB |> Option.isNone_iff_eq_none.1
     refine cnd_false.2 (addI (by omega) ⟨k + 1,by dsimp only; omega,.inl ⟨S13,I3,by omega,fun i hi => ?_,f0,f1,f2,f3,f4,f5,f6,by show vint _ = vint _; congr 1⟩⟩)
     by_cases e : i = k
     ·rw [e]
      exact hg
     ·exact hno i (by omega)
   refine ⟨[pg],ldI (v := growV pp pn pg) cg' rfl rfl ⟨by simp [RdOk,ptr,ptrBlk],convI (by omega) (by omega) (u_shlI (by omega) (u_orI (subI (by omega) ?_)))⟩⟩
   rw [e8]
   refine ⟨?_,?_⟩
   ·refine good47 hJ O' (by omega) fun v' C => ⟨fun _ _ => rfl,by decide,fill_one (l := [vint ((fromL l + k : Nat) : Int)]) rfl rfl rfl (by decide) (fillI (qNew fun H1 p1 e1 S1 c1 l1 => ⟨hsb S1,by decide,?_⟩))⟩
    have c1 : H1[p1]? = some (.cells [vint ((fromL l + k : Nat) : Int)] true 0) := c1
    refine clip_app (C.keep S1) (by omega) (ownX_sli (ownX_new (s := 1) (n := 1) (l := [vint ((fromL l + k : Nat) : Int)]) c1 rfl rfl)) fun w H2 S2 O2 => ⟨hsb (S1.trans S2),?_⟩
    have hS1 := S1.1
    exact post (S1.trans S2) O2 hS1 fun a b c => ⟨ds,r0,r1,r2,r3,r4,r5,r12,rfl,rfl⟩
   ·refine ⟨by decide,fill_one (l := [vint ((fromL l + k : Nat) : Int)]) rfl rfl rfl (by decide) (fillI (qNew fun H1 p1 e1 S1 c1 l1 => ⟨hsb S1,?_⟩))⟩
    have c1 : H1[p1]? = some (.cells [vint ((fromL l + k : Nat) : Int)] true 0) := c1
    refine good47 hJ (ownX_keep O' S1 (by simp)) (by omega) fun v' C => ⟨hsb S1,by decide,?_⟩
    refine clip_app C (by omega) (ownX_sli (ownX_new (s := 1) (n := 1) (l := [vint ((fromL l + k : Nat) : Int)]) c1 rfl rfl)) fun w H2 S2 O2 => ⟨hsb (S1.trans S2),?_⟩
    have hS1 := S1.1
    exact post (S1.trans S2) O2 hS1 fun a b c => ⟨ds,r0,r1,r2,r3,r4,r5,r12,rfl,rfl⟩
  refine eqlI (cndI (fun hx => absurd hx (by omega)) fun _ => lenI (ownX_sli O) (gtrI (cndI (fun hpos => lenI (ownX_sli O) (subI (by omega) ?_)) fun h0 => hold.2 ?_)))
  ·have hll : l.length - 1 < l.length := by omega
   have ei : ((l.length : Nat) : Int) - 1 = ((l.length - 1 : Nat) : Int) := by omega
   have hx := List.getElem?_eq_getElem hll
   have hb := hlb _ (List.getElem_mem hll)
   rw [ei]
   refine idx_load (ownX_sli O) ⟨by omega,by omega⟩ (x := vint l[l.length - 1]) (by rw [Int.toNat_natCast,List.getElem?_map,hx]; rfl) fun p => addI (by omega) (hold.2 (loop rfl rfl rfl rfl rfl rfl rfl ?_))
   show vint _ = vint _
   congr 1
   unfold fromL
   rw [List.getLast?_eq_getElem?,hx]
   show l[l.length - 1] + 1 = ((l[l.length - 1].toNat + 1 : Nat) : Int)
   omega
  ·have : l = [] := List.length_eq_zero_iff.1 (by omega)
   refine loop rfl rfl rfl rfl rfl rfl rfl ?_
   rw [this]
   rfl
theorem good28 (hJ : Closed prog main J) {X : List Nat} {I : List AObj → Prop} {Pu : Int → Bool} {fv : Value} {n : Nat} (P : Pass J X I Pu fv) (hn : n ≤ 60) (hX : ∀ x ∈ X,x < H.length) (hI : I H)
  (hK : ∀ H' v,SameX X H H' → I H' → (∃ b,OwnX H' 1 (((pickP Pu n).getD []).map vint) ((pickP Pu n).getD []).length v b) → K (.tuple ⟨[v,.bool (pickP Pu n).isSome]⟩) H') : Good prog J 28 [vint (n : Nat),fv] H K := by
 refine g28 hJ fun ok => ?_
 rw [e28]
 refine qBox1 rfl rfl fun H1 pn e1 S1 c1 l1 => qBox1 P.val.1 P.val.2 fun H2 pp e2 S2 c2 l2 => qAl fun H3 pg e3 S3 c3 l3 => ⟨rfl,qSt c3 (by simp) rfl rfl fun H4 S4 c4 l4 => ?_⟩
 have c4 : H4[pg]? = some (.cells [growV pp pn pg] true 0) := c4
 have T24 : SameX [] H2 H4 := S3.thru S4 (by simp; omega)
 have T14 : SameX [] H1 H4 := S2.trans T24
 have T4 : SameX [] H H4 := S1.trans T14
 have n4 := T14.get c1 (by simp)
 have p4 := T24.get c2 (by simp)
 have hS1 := S1.1
 have hS2 := S2.1
 have hS3 := S3.1
 have nX : ∀ {p},H.length ≤ p → p ∉ X := fun h hm => by have := hX _ hm; omega
 refine ldI (v := vint (n : Nat)) n4 rfl rfl (addI (by omega) ?_)
 refine l28_1 hJ (fun m : Nat => n + 1 - m) (fun m F H' => SameX X H4 H' ∧ I H' ∧ m ≤ n + 1 ∧ (∀ i,i < m → growP Pu n i [] 0 = none) ∧ F.ds = [] ∧ F.r 6 = ptr pg 0 ∧ F.r 12 = vint ((n : Int) + 1) ∧ F.r 13 = vint (m : Nat)) ?_ (s := 0)
  (.inl ⟨SameX.refl,P.keep hI T4,by omega,fun i hi => absurd hi (Nat.not_lt_zero _),rfl,rfl,rfl,rfl⟩)
 rintro m F H' ⟨S,I',hm,hno,ds,r6,r12,r13⟩ okc hnc
 have T' : SameX X H H' := T4.weak0.trans S
 rw [s28_1,r6,r12,r13,ds]
 refine lssI (cndI (fun hlt => ?_) fun hge => ?_)
 ·refine ldI (v := growV pp pn pg) (S.get c4 (nX (by omega))) rfl rfl (callC (by kernel_rfl) ?_)
  refine good46 (lo := H.length) hJ P hn hX (by omega) (by omega) (by omega) m [] 0 (S.get p4 (nX (by omega))) (S.get n4 (nX (by omega))) (S.get c4 (nX (by omega))) I' ⟨rfl,rfl,.inl ⟨rfl,rfl,rfl⟩⟩ (by simp) (by simp; omega) (by simp) fun H5 v S5 I5 nu hr => ext0 (ext1 ?_)
  generalize hB : (growP Pu n m [] 0).isSome = bb
  cases bb with
  | true =>
   obtain ⟨r,hg⟩ := Option.isSome_iff_exists.1 hB
   have e : pickP Pu n = some r := firstN_some (k := m) (by omega) hno hg
   refine cnd_true.2 (retL_same (nu2 nu (by simp [unk])) ?_)
   obtain ⟨b,Ob,_⟩ := hr r hg
   have := hK H5 v (T'.trans S5) I5 (by rw [e]; exact ⟨b,Ob⟩)
   rw [e] at this
   exact this
  | false =>
   have hg : growP Pu n m [] 0 = none := Option.isNone_iff_eq_none.1 (Option.isSome_eq_false_iff.1 hB)
   refine cnd_false.2 (addI (by omega) ⟨m + 1,by dsimp only; omega,.inl ⟨S.trans S5,I5,by omega,fun i hi => ?_,ds,r6,r12,by show vint _ = vint _; congr 1⟩⟩)
   by_cases e : i = m
   ·rw [e]
    exact hg
   ·exact hno i (by omega)
 ·have e : pickP Pu n = none := firstN_none fun i hi => hno i (by omega)
  have := hK H' (.slice none 0 0) T' I' (by rw [e]; exact ⟨none,rfl,rfl,.inl ⟨rfl,rfl,rfl⟩⟩)
  rw [e] at this
  exact retL_same (by simp [unk]) this
theorem callB {g : FuncId} {first args : List Value} (hg : Nat.blt g prog.funcs.size = true) (hk : Good prog J g (first ++ args) H K) : callV prog (Good prog J) (.func (.func g) ⟨first⟩ ⟨[]⟩) args H K := by
 show (bif Nat.blt g prog.funcs.size then Good prog J g (first ++ args ++ []) H K else False)
 rw [hg,cond_true,List.append_nil]
 exact hk
def Wk (h0 : List AObj) (bw bm : Nat) (t : Tal) (cv nv : Value) (H : List AObj) : Prop := ∃ u es,WorkIn h0 H bw t cv nv u (.map (some bm)) ∧ H[bm]? = some (.map es true) ∧ MetOk t es
theorem Wk.keep {h0 H' : List AObj} {bw bm : Nat} {t : Tal} {cv nv : Value} (a : Wk h0 bw bm t cv nv H) (S : SameX [] H H') : Wk h0 bw bm t cv nv H' := by
 obtain ⟨u,es,w,hm,met⟩ := a
 exact ⟨u,es,w.same S (by simp) (by simp),S.get hm (by simp),met⟩
theorem truthX (hJ : Closed prog main J) {h0 : List AObj} {bw bm : Nat} {t : Tal} {cv nv : Value} {u' : Int} (fine : TalFine t) (hbw : h0.length ≤ bw) (hbm : h0.length ≤ bm) (hne : bw ≠ bm) (a : Wk h0 bw bm t cv nv H)
  (hK : ∀ H',SameX [bw,bm] H H' → Wk h0 bw bm t cv nv H' → K (.bool (truthS t u')) H') : Good prog J 27 [ptr bw 0,.int .u64 u'] H K := by
 obtain ⟨u,es,w,hm,met⟩ := a
 exact good27 hJ w hbw hbm hne fine hm met fun H' es' S w' hm' met' => hK H' S ⟨u',es',w',hm',met'⟩
theorem passC (hJ : Closed prog main J) {h0 : List AObj} {bw bm pw : Nat} {t : Tal} {cv nv : Value} (fine : TalFine t) (hbw : h0.length ≤ bw) (hbm : h0.length ≤ bm) (hne : bw ≠ bm) (hp1 : pw ≠ bw) (hp2 : pw ≠ bm) :
  Pass J [bw,bm] (fun H => Wk h0 bw bm t cv nv H ∧ H[pw]? = some (.cells [ptr bw 0] true 0)) (fun s => !truthS t (andU 127 s)) (.func (.func 29) ⟨[]⟩ ⟨[ptr pw 0]⟩) where
 call := fun {H s Kf} hI hk => by
  refine callC (by kernel_rfl) (g29 hJ fun ok => ?_)
  rw [e29]
  refine ldI (v := ptr bw 0) hI.2 rfl rfl (u_andNotI (truthX hJ fine hbw hbm hne hI.1 fun H' S w' => notI (retL_same (by simp [unk]) ?_)))
  exact hk H' S ⟨w',S.get hI.2 (by simp; exact ⟨hp1,hp2⟩)⟩
 keep := fun hI S => ⟨hI.1.keep S,S.get hI.2 (by simp)⟩
 kn := rfl
 val := ⟨rfl,rfl⟩
theorem passW (hJ : Closed prog main J) {h0 : List AObj} {bw bm : Nat} {t : Tal} {cv nv : Value} (fine : TalFine t) (hbw : h0.length ≤ bw) (hbm : h0.length ≤ bm) (hne : bw ≠ bm) :
  Pass J [bw,bm] (Wk h0 bw bm t cv nv) (truthS t) (.func (.func 27) ⟨[ptr bw 0]⟩ ⟨[]⟩) where
 call := fun {H s Kf} hI hk => callB (by kernel_rfl) (truthX hJ fine hbw hbm hne hI hk)
 keep := fun hI S => hI.keep S
 kn := rfl
 val := ⟨rfl,rfl⟩
noncomputable def clashE (t : Tal) : Int := if talErr t ≠ 0 then talErr t else bif truthS t 0 then 11 else 0
noncomputable def clashL (t : Tal) : List Int := if clashE t = 0 then (clashO t).getD [] else []
noncomputable def wrongE (t : Tal) : Int := if talErr t ≠ 0 then talErr t else bif truthS t 127 then 0 else 11
noncomputable def wrongL (t : Tal) : List Int := if wrongE t = 0 then (wrongO t).getD [] else []
theorem good14 (hJ : Closed prog main J) {v cv nv : Value} {t : Tal} (ht : TalAt H v t cv nv) (hK : ∀ H' w,SameX [] H H' → Sli H' w 1 (clashL t).length ((clashL t).map vint) → K (.tuple ⟨[w,vint (clashE t)]⟩) H') : Good prog J 14 [v] H K := by
 refine g14 hJ fun ok => ?_
 rw [e14,ht.val]
 have kn : kn1 nv = true := (sli_one ht.co).2.2
 refine qBox (tal_one ht) fun H1 p1 e1 S1 c1 l1 => ?_
 have t1 : TalAt H1 (.agg ⟨talCells t cv nv⟩) t cv nv := ⟨rfl,S1.sli ht.ch (by simp),S1.sli ht.co (by simp)⟩
 refine load_part (c := talCells t cv nv) c1 (by rw [cs_val]; omega) rfl (talAt_kc t1) ?_
 refine good24 hJ t1 fun H2 bw bm S2 hbw hbm hne w hm => ext0 (ext1 ?_)
 refine qAl fun H3 p3 e3 S3 c3 l3 => qSt c3 (by simp) rfl rfl fun H4 S4 c4 l4 => ?_
 have c4 : H4[p3]? = some (.cells [ptr bw 0] true 0) := c4
 have S24 : SameX [] H2 H4 := S3.thru S4 (by simp; omega)
 have T4 : SameX [] H H4 := (S1.trans S2).trans S24
 have nil : ∀ {H' : List AObj} {e : Int},SameX [] H H' → clashE t = e → e ≠ 0 → retL H.length K [] [.slice none 0 0,vint e] H' := fun {H' e} S he h0 => by
  subst he
  refine retL_same (by simp [unk]) (hK H' _ S ?_)
  unfold clashL
  rw [if_neg h0]
  exact ownX_sli (o := none) ⟨rfl,rfl,.inl ⟨rfl,rfl,rfl⟩⟩
 refine neqI (cndI (fun h1 => nil T4 (by unfold clashE; rw [if_pos h1]) h1) fun h1 => ?_)
 have he0 : talErr t = 0 := Decidable.not_not.1 h1
 have fine := talErr_fine he0
 have wbl := lt_of_get w.at_
 have wml := lt_of_get hm
 have hS1 := S1.1
 have hS2 := S2.1
 have W4 : Wk H1 bw bm t cv nv H4 := ⟨0,[],w.same S24 (by simp) (by simp),S24.get hm (by simp),metOk_nil⟩
 refine ldI (v := ptr bw 0) c4 rfl rfl (truthX hJ fine hbw hbm hne W4 fun H5 S5 W5 => ?_)
 have T5 : SameX [] H H5 := T4.thru S5 (by simp; omega)
 have c15 := S5.get (S24.get (S2.get c1 (by simp)) (by simp)) (by simp; omega)
 have c45 := S5.get c4 (by simp; omega)
 have hS5 := S5.1
 have hS24 := S24.1
 cases h2 : truthS t 0 with
 | true =>
  exact cnd_true.2 (nil T5 (by unfold clashE; rw [if_neg h1,h2]; rfl) (by decide))
 | false =>
  have eE : clashE t = 0 := by unfold clashE; rw [if_neg h1,h2]; rfl
  refine cnd_false.2 (offI (ldI (v := nv) c15 rfl kn (lenI (T5.sli ht.co (by simp)) ⟨rfl,?_⟩)))
  have few := fine.few
  refine good28 hJ (passC hJ fine hbw hbm hne (pw := p3) (by omega) (by omega)) (by omega) (by simp; omega) ⟨W5,c45⟩ fun H6 v6 S6 _ hO => ext0 (ext1 ?_)
  obtain ⟨b,O⟩ := hO
  have nu : v6 ≠ unk := by
   have := (ownX_val O).2.2
   intro e
   rw [e] at this
   cases this
  refine retL_same (nu2 nu (by simp [unk])) ?_
  have := hK H6 v6 (T5.thru S6 (by simp; omega)) (by
   unfold clashL
   rw [if_pos eE]
   exact ownX_sli O)
  rw [eE] at this
  exact this
theorem good13 (hJ : Closed prog main J) {v cv nv : Value} {t : Tal} (ht : TalAt H v t cv nv) (hK : ∀ H' w,SameX [] H H' → Sli H' w 1 (wrongL t).length ((wrongL t).map vint) → K (.tuple ⟨[w,vint (wrongE t)]⟩) H') : Good prog J 13 [v] H K := by
 refine g13 hJ fun ok => ?_
 rw [e13,ht.val]
 have kn : kn1 nv = true := (sli_one ht.co).2.2
 refine qBox (tal_one ht) fun H1 p1 e1 S1 c1 l1 => ?_
 have t1 : TalAt H1 (.agg ⟨talCells t cv nv⟩) t cv nv := ⟨rfl,S1.sli ht.ch (by simp),S1.sli ht.co (by simp)⟩
 refine load_part (c := talCells t cv nv) c1 (by rw [cs_val]; omega) rfl (talAt_kc t1) ?_
 refine good24 hJ t1 fun H2 bw bm S2 hbw hbm hne w hm => ext0 (ext1 ?_)
 have T2 : SameX [] H H2 := S1.trans S2
 have nil : ∀ {H' : List AObj} {e : Int},SameX [] H H' → wrongE t = e → e ≠ 0 → retL H.length K [] [.slice none 0 0,vint e] H' := fun {H' e} S he h0 => by
  subst he
  refine retL_same (by simp [unk]) (hK H' _ S ?_)
  unfold wrongL
  rw [if_neg h0]
  exact ownX_sli (o := none) ⟨rfl,rfl,.inl ⟨rfl,rfl,rfl⟩⟩
 refine neqI (cndI (fun h1 => nil T2 (by unfold wrongE; rw [if_pos h1]) h1) fun h1 => ?_)
 have he0 : talErr t = 0 := Decidable.not_not.1 h1
 have fine := talErr_fine he0
 have wbl := lt_of_get w.at_
 have wml := lt_of_get hm
 have hS1 := S1.1
 have W2 : Wk H1 bw bm t cv nv H2 := ⟨0,[],w,hm,metOk_nil⟩
 refine truthX hJ fine hbw hbm hne W2 fun H5 S5 W5 => notI ?_
 have T5 : SameX [] H H5 := T2.thru S5 (by simp; omega)
 have c15 := S5.get (S2.get c1 (by simp)) (by simp; omega)
 have hS5 := S5.1
 cases h2 : truthS t 127 with
 | false =>
  exact cnd_true.2 (nil T5 (by unfold wrongE; rw [if_neg h1,h2]; rfl) (by decide))
 | true =>
  have eE : wrongE t = 0 := by unfold wrongE; rw [if_neg h1,h2]; rfl
  refine cnd_false.2 (offI (ldI (v := nv) c15 rfl kn (lenI (T5.sli ht.co (by simp)) ⟨rfl,?_⟩)))
  have few := fine.few
  refine good28 hJ (passW hJ fine hbw hbm hne) (by omega) (by simp; omega) W5 fun H6 v6 S6 _ hO => ext0 (ext1 ?_)
  obtain ⟨b,O⟩ := hO
  have nu : v6 ≠ unk := by
   have := (ownX_val O).2.2
   intro e
   rw [e] at this
   cases this
  refine retL_same (nu2 nu (by simp [unk])) ?_
  have := hK H6 v6 (T5.thru S6 (by simp; omega)) (by
   unfold wrongL
   rw [if_pos eE]
   exact ownX_sli O)
  rw [eE] at this
  exact this
end
section
variable {σ : Type}
def runTo (f : Nat → σ → σ × Bool) : Nat → σ → σ × Bool
 | 0,a => (a,false)
 | i + 1,a => bif (runTo f i a).2 then runTo f i a else f i (runTo f i a).1
def okTo (f : Nat → σ → σ × Bool) (g : Nat → σ → Bool) : Nat → σ → Bool
 | 0,_ => true
 | i + 1,a => okTo f g i a && ((runTo f i a).2 || g i (runTo f i a).1)
theorem runTo_stay {f : Nat → σ → σ × Bool} {a : σ} {k : Nat} (h : (runTo f k a).2 = true) : ∀ d,runTo f (k + d) a = runTo f k a
 | 0 => rfl
 | d + 1 => by
  have ih := runTo_stay h d
  show (bif (runTo f (k + d) a).2 then runTo f (k + d) a else f (k + d) (runTo f (k + d) a).1) = _
  rw [ih,h]
  rfl
theorem runTo_end {f : Nat → σ → σ × Bool} {a : σ} {k n : Nat} (hk : k ≤ n) (h : (runTo f k a).2 = true) : runTo f n a = runTo f k a := by
 have := runTo_stay h (n - k)
 rwa [show k + (n - k) = n from by omega] at this
theorem runTo_next {f : Nat → σ → σ × Bool} {a : σ} {k : Nat} (h : (runTo f k a).2 = false) : runTo f (k + 1) a = f k (runTo f k a).1 := by
 show (bif (runTo f k a).2 then runTo f k a else f k (runTo f k a).1) = _
 rw [h]
 rfl
theorem okTo_at {f : Nat → σ → σ × Bool} {g : Nat → σ → Bool} {a : σ} {k : Nat} : ∀ {n : Nat},okTo f g n a = true → k < n → (runTo f k a).2 = false → g k (runTo f k a).1 = true
 | 0,_,hk,_ => by omega
 | n + 1,h,hk,hf => by
  have h : (okTo f g n a && ((runTo f n a).2 || g n (runTo f n a).1)) = true := h
  rw [Bool.and_eq_true,Bool.or_eq_true] at h
  by_cases e : k = n
  ·subst e
   rcases h.2 with h2 | h2
   ·rw [hf] at h2; cases h2
   ·exact h2
  ·exact okTo_at h.1 (by omega) hf
def runS (st : σ → Int → σ) (Pu : Int → Bool) (n : Nat) : Nat → List Int → Int → σ → σ × Bool
 | 0,_,s,a => (st a s,Pu s)
 | m + 1,l,s,a => runTo (fun k a => runS st Pu n m (l ++ [((fromL l + k : Nat) : Int)]) (orU s (shU ((fromL l + k : Nat) : Int))) a) (n - m - fromL l) a
def allS (Bd : σ → Bool) (st : σ → Int → σ) (Pu : Int → Bool) (n : Nat) : Nat → List Int → Int → σ → Bool
 | 0,_,_,a => Bd a
 | m + 1,l,s,a => okTo (fun k a => runS st Pu n m (l ++ [((fromL l + k : Nat) : Int)]) (orU s (shU ((fromL l + k : Nat) : Int))) a) (fun k a => allS Bd st Pu n m (l ++ [((fromL l + k : Nat) : Int)]) (orU s (shU ((fromL l + k : Nat) : Int))) a) (n - m - fromL l) a
def pickS (st : σ → Int → σ) (Pu : Int → Bool) (n : Nat) (a : σ) : σ × Bool := runTo (fun m a => runS st Pu n m [] 0 a) (n + 1) a
def pickOk (Bd : σ → Bool) (st : σ → Int → σ) (Pu : Int → Bool) (n : Nat) (a : σ) : Bool := okTo (fun m a => runS st Pu n m [] 0 a) (fun m a => allS Bd st Pu n m [] 0 a) (n + 1) a
end
def Mv (X : List Nat) (o : Option Nat) (H H' : List AObj) (o' : Option Nat) : Prop := SameX (X ++ o.toList) H H' ∧ (o' = o ∨ ∃ j,o' = some j ∧ H.length ≤ j)
section
variable {X : List Nat} {o o1 o2 : Option Nat} {H H1 H2 : List AObj} {p : Nat}
theorem Mv.refl : Mv X o H H o := ⟨SameX.refl,.inl rfl⟩
theorem Mv.more (S : SameX [] H H1) : Mv X o H H1 o := ⟨S.weak0,.inl rfl⟩
theorem Mv.same (a : Mv X o H H1 o1) (hp : p < H.length) (h1 : p ∉ X) (h2 : o ≠ some p) : H1[p]? = H[p]? := a.1.2 p hp (by
 simp only [List.mem_append,Option.mem_toList,not_or]
 exact ⟨h1,fun e => h2 e⟩)
theorem Mv.get {x : AObj} (a : Mv X o H H1 o1) (hx : H[p]? = some x) (h1 : p ∉ X) (h2 : o ≠ some p) : H1[p]? = some x := by
 rw [a.same (lt_of_get hx) h1 h2]
 exact hx
theorem Mv.free (a : Mv X o H H1 o1) (hp : p < H.length) (h2 : o ≠ some p) : o1 ≠ some p := by
 rcases a.2 with e | ⟨j,e,hj⟩
 ·rw [e]
  exact h2
 ·rw [e]
  intro h
  cases h
  omega
theorem Mv.trans (a : Mv X o H H1 o1) (b : Mv X o1 H1 H2 o2) : Mv X o H H2 o2 := by
 have h1 := a.1.1
 refine ⟨⟨Nat.le_trans h1 b.1.1,fun p hp hx => ?_⟩,?_⟩
 ·simp only [List.mem_append,Option.mem_toList,not_or] at hx
  have hn : o ≠ some p := fun e => hx.2 e
  rw [b.same (by omega) hx.1 (a.free hp hn),a.same hp hx.1 hn]
 ·rcases b.2 with e | ⟨j,e,hj⟩
  ·rw [e]
   exact a.2
  ·exact .inr ⟨j,e,by omega⟩
theorem Mv.own {s len : Nat} {cs : List Value} {v : Value} {q : Option Nat} (a : Mv X o H H1 o1) (O : OwnX H s cs len v q) (h : ∀ j,q = some j → j ∉ X ∧ o ≠ some j) : OwnX H1 s cs len v q := ownX_keep O a.1 fun i hi => by
 simp only [List.mem_append,Option.mem_toList,not_or]
 exact ⟨(h i hi).1,fun e => (h i hi).2 e⟩
end
structure PassS {σ : Type} (J : JT) (X : List Nat) (I : σ → Option Nat → List AObj → Prop) (st : σ → Int → σ) (Pu : Int → Bool) (Bd : σ → Bool) (fv : Value) : Prop where
 call : ∀ {H : List AObj} {s : Int} {a : σ} {o : Option Nat} {Kf : Value → List AObj → Prop},Bd a = true → I a o H → (∀ H' o',Mv X o H H' o' → I (st a s) o' H' → Kf (.bool (Pu s)) H') → callV prog (Good prog J) fv [.int .u64 s] H Kf
 keep : ∀ {H H' : List AObj} {a : σ} {o : Option Nat},I a o H → SameX [] H H' → I a o H'
 lt : ∀ {H : List AObj} {a : σ} {o : Option Nat},I a o H → ∀ j,o = some j → j < H.length
 kn : kn1 fv = true
 val : fv.cells = #[fv] ∧ one fv = true
section
variable {main : Bool} {J : JT} {h H : List AObj} {K : Value → List AObj → Prop} {KV : Value → Prop} {HL : List AObj → Prop} {n0 : Nat} {σ : Type} {st : σ → Int → σ} {Pu : Int → Bool} {Bd : σ → Bool}
theorem good105S (hJ : Closed prog main J) {X : List Nat} {I : σ → Option Nat → List AObj → Prop} {fv : Value} {n pp pn pg : Nat} (P : PassS J X I st Pu Bd fv) (hn : n ≤ 60) :
  ∀ (m : Nat) (l : List Int) (s : Int) {a : σ} {oo : Option Nat} {H : List AObj} {K : Value → List AObj → Prop} {lv : Value} {o : Option Nat},H[pp]? = some (.cells [fv] true 0) → H[pn]? = some (.cells [vint (n : Nat)] true 0) → H[pg]? = some (.cells [growV pp pn pg] true 0) → I a oo H → (∀ x ∈ X,x < H.length) →
   OwnX H 1 (l.map vint) l.length lv o → (∀ j,o = some j → j ∉ X ∧ oo ≠ some j) → (∀ p ∈ [pp,pn,pg],p ∉ X ∧ oo ≠ some p) → l.length + m ≤ 100 → (∀ x ∈ l,0 ≤ x ∧ x < n) → allS Bd st Pu n m l s a = true →
   (∀ H' v o',Mv X oo H H' o' → I (runS st Pu n m l s a).1 o' H' → v ≠ unk → K (.tuple ⟨[v,.bool (runS st Pu n m l s a).2]⟩) H') →
   Good prog J 46 [lv,.int .u64 s,vint (m : Nat),ptr pp 0,ptr pn 0,ptr pg 0] H K
 | 0,l,s,a,oo,H,K,lv,o,cp,cn,cg,hI,hX,O,ho,hM,hlm,hlb,hB,hK => by
  refine g46 hJ fun ok => ?_
  rw [e46]
  refine eqlI (cndI (fun _ => ldI (v := fv) cp rfl P.kn (P.call hB hI fun H' o' M I' => ?_)) fun hx => absurd rfl hx)
  have nu : lv ≠ unk := by
   have := (ownX_val O).2.2
   intro e
   rw [e] at this
   cases this
  exact retL_same (nu2 nu (by simp [unk])) (hK H' lv o' M I' nu)
 | m + 1,l,s,a,oo,H,K,lv,o,cp,cn,cg,hI,hX,O,ho,hM,hlm,hlb,hB,hK => by
  refine g46 hJ fun ok => ?_
  rw [e46]
  generalize hf : (fun k a => runS st Pu n m (l ++ [((fromL l + k : Nat) : Int)]) (orU s (shU ((fromL l + k : Nat) : Int))) a) = f
  have hR : runS st Pu n (m + 1) l s a = runTo f (n - m - fromL l) a := by rw [← hf]; rfl
  have hf' : ∀ k a,runS st Pu n m (l ++ [((fromL l + k : Nat) : Int)]) (orU s (shU ((fromL l + k : Nat) : Int))) a = f k a := fun k a => by rw [← hf]
  have hB' : okTo f (fun k a => allS Bd st Pu n m (l ++ [((fromL l + k : Nat) : Int)]) (orU s (shU ((fromL l + k : Nat) : Int))) a) (n - m - fromL l) a = true := by rw [← hf]; exact hB
  have lpp := lt_of_get cp
  have lpn := lt_of_get cn
  have lpg := lt_of_get cg
  have lo := ownX_lt O
  have mp := hM pp (by simp)
  have mn := hM pn (by simp)
  have mg := hM pg (by simp)
  -- the loop
  have loop : ∀ {F : RG},F.ds = [] → F.r 0 = lv → F.r 1 = .int .u64 s → F.r 2 = vint ((m + 1 : Nat) : Int) → F.r 3 = ptr pp 0 → F.r 4 = ptr pn 0 → F.r 5 = ptr pg 0 → F.r 11 = vint (fromL l : Nat) →
    W prog J 58 H.length 46 (subC [1,1,1,1] (codeOf f46)) F H (contX pl46 prog J 58 H.length 46 ct46 [1,1,1,1] (codeOf f46) [] (RetQ prog [.tmp 9,.tmp 10] H.length K)) := by
   intro F ds r0 r1 r2 r3 r4 r5 r11
   rw [s46_1,r11]
   refine l46_2 hJ (fun k : Nat => n - m - fromL l - k) (fun k F H' => (∃ o',Mv X oo H H' o' ∧ I (runTo f k a).1 o' H') ∧ k ≤ n - m - fromL l ∧ (runTo f k a).2 = false ∧ F.ds = [] ∧ F.r 0 = lv ∧ F.r 1 = .int .u64 s ∧ F.r 2 = vint ((m + 1 : Nat) : Int) ∧ F.r 3 = ptr pp 0 ∧ F.r 4 = ptr pn 0 ∧ F.r 5 = ptr pg 0 ∧ F.r 12 = vint ((fromL l + k : Nat) : Int)) ?_ (s := 0)
    (.inl ⟨⟨oo,Mv.refl,hI⟩,by omega,rfl,ds,r0,r1,r2,r3,r4,r5,rfl⟩)
   rintro k F H' ⟨⟨o',M,I'⟩,hk,hno,ds,r0,r1,r2,r3,r4,r5,r12⟩ okc hnc
   have hfl : fromL l ≤ n := by
    unfold fromL
    cases hl : l.getLast? with
    | none => exact Nat.zero_le _
    | some x =>
     have := hlb x (List.mem_of_getLast? hl)
     show x.toNat + 1 ≤ n
     omega
   have cp' := M.get cp mp.1 mp.2
   have cn' := M.get cn mn.1 mn.2
   have cg' := M.get cg mg.1 mg.2
   have O' := M.own O ho
   have lg := lt_of_get cg'
   have hM' : ∀ p ∈ [pp,pn,pg],p ∉ X ∧ o' ≠ some p := fun p hp => ⟨(hM p hp).1,M.free (by simp at hp; omega) (hM p hp).2⟩
   rw [s46_2,r0,r1,r2,r4,r5,r12,ds]
   refine ldI (v := vint (n : Nat)) cn' rfl rfl (subI (by omega) (leqI (cndI (fun hle => ?_) fun hgt => ?_)))
   rotate_left
   ·have hke : k = n - m - fromL l := by omega
    refine retL_same (by simp [unk]) ?_
    have e : runS st Pu n (m + 1) l s a = runTo f k a := by rw [hR,hke]
    have := hK H' (.slice none 0 0) o' M (by rw [e]; exact I') (by simp [unk])
    rw [e,hno] at this
    exact this
   have hkl : k < n - m - fromL l := by omega
   have hBk := okTo_at hB' hkl hno
   have hsb : ∀ {H2},SameX [] H' H2 → SameB (some [pg]) H' H2 := fun S2 x hx => S2.2 x (by simp at hx; omega) (by simp)
   have e8 : ((m + 1 : Nat) : Int) - 1 = (m : Nat) := by omega
   -- behind the call
   have post : ∀ {H2 : List AObj} {wv : Value} {q : Nat} {F2 : Value → Value → Value → RG},SameX [] H' H2 → OwnX H2 1 ((l ++ [((fromL l + k : Nat) : Int)]).map vint) (l ++ [((fromL l + k : Nat) : Int)]).length wv (some q) → H'.length ≤ q → q ∉ X → o' ≠ some q →
     (∀ a b c,(F2 a b c).ds = [] ∧ (F2 a b c).r 0 = lv ∧ (F2 a b c).r 1 = .int .u64 s ∧ (F2 a b c).r 2 = vint ((m + 1 : Nat) : Int) ∧ (F2 a b c).r 3 = ptr pp 0 ∧ (F2 a b c).r 4 = ptr pn 0 ∧ (F2 a b c).r 5 = ptr pg 0 ∧ (F2 a b c).r 12 = vint ((fromL l + k : Nat) : Int) ∧ (F2 a b c).r 13 = b ∧ (F2 a b c).r 14 = c) →
     callV prog (Good prog J) (growV pp pn pg) [wv,.int .u64 (orU s (shU ((fromL l + k : Nat) : Int))),vint (m : Nat)] H2 fun v16 h17 => aExt v16 0 fun v18 => aExt v16 1 fun v19 => Hold (W prog J 58 H.length 46 (subC yp14 (codeOf f46)) (F2 v16 v18 v19) h17 (contX pl46 prog J 58 H.length 46 ct46 yp14 (codeOf f46) [Nx H.length (fun k : Nat => n - m - fromL l - k) (fun k F H' => (∃ o',Mv X oo H H' o' ∧ I (runTo f k a).1 o' H') ∧ k ≤ n - m - fromL l ∧ (runTo f k a).2 = false ∧ F.ds = [] ∧ F.r 0 = lv ∧ F.r 1 = .int .u64 s ∧ F.r 2 = vint ((m + 1 : Nat) : Int) ∧ F.r 3 = ptr pp 0 ∧ F.r 4 = ptr pn 0 ∧ F.r 5 = ptr pg 0 ∧ F.r 12 = vint ((fromL l + k : Nat) : Int)) k] (RetQ prog [.tmp 9,.tmp 10] H.length K))) := by
    intro H2 wv q F2 S2 O2 hlt hqX hqo hF
    refine callC (by kernel_rfl) ?_
    refine good105S hJ P hn m (l ++ [((fromL l + k : Nat) : Int)]) (orU s (shU ((fromL l + k : Nat) : Int))) (S2.get cp' (by simp)) (S2.get cn' (by simp)) (S2.get cg' (by simp)) (P.keep I' S2) (fun x hx => by have := hX x hx; have := M.1.1; have := S2.1; omega) O2 (fun j hj => by cases hj; exact ⟨hqX,hqo⟩) hM' (by simp; omega) (fun x hx => ?_) hBk fun H3 v o3 M3 I3 nu => ext0 (ext1 (hold.2 ?_))
    ·rcases List.mem_append.1 hx with hx | hx
     ·exact hlb x hx
     ·have hx : x = ((fromL l + k : Nat) : Int) := by simpa using hx
      omega
    rw [hf'] at I3 ⊢
    have hnx := runTo_next hno
    rw [← hnx] at I3 ⊢
    generalize hBB : (runTo f (k + 1) a).2 = bb
    obtain ⟨f0,f1,f2,f3,f4,f5,f6,f7,f8,f9⟩ := hF (.tuple ⟨[v,.bool bb]⟩) v (.bool bb)
    have S13 : Mv X oo H H3 o3 := (M.trans (Mv.more S2)).trans M3
    rw [s46_3,f7,f8,f9,f0]
    cases bb with
    | true =>
     have e : runS st Pu n (m + 1) l s a = runTo f (k + 1) a := by rw [hR,runTo_end (by omega) hBB]
     refine cnd_true.2 (retL_same (nu2 nu (by simp [unk])) ?_)
     have := hK H3 v o3 S13 (by rw [e]; exact I3) nu
     rw [e,hBB] at this
     exact this
    | false =>
     exact cnd_false.2 (addI (by omega) ⟨k + 1,by dsimp only; omega,.inl ⟨⟨o3,S13,I3⟩,by omega,hBB,f0,f1,f2,f3,f4,f5,f6,by show vint _ = vint _; congr 1⟩⟩)
   -- new blocks are nobody's
   have hXn : ∀ {q : Nat},H'.length ≤ q → q ∉ X ∧ o' ≠ some q := fun hq => ⟨fun hm => by have := hX _ hm; have := M.1.1; omega,fun e => by have := P.lt I' _ e; omega⟩
   refine ⟨[pg],ldI (v := growV pp pn pg) cg' rfl rfl ⟨by simp [RdOk,ptr,ptrBlk],convI (by omega) (by omega) (u_shlI (by omega) (u_orI (subI (by omega) ?_)))⟩⟩
   rw [e8]
   refine ⟨?_,?_⟩
   ·refine good47 hJ O' (by omega) fun v' C => ⟨fun _ _ => rfl,by decide,fill_one (l := [vint ((fromL l + k : Nat) : Int)]) rfl rfl rfl (by decide) (fillI (qNew fun H1 p1 e1 S1 c1 l1 => ⟨hsb S1,by decide,?_⟩))⟩
    have c1 : H1[p1]? = some (.cells [vint ((fromL l + k : Nat) : Int)] true 0) := c1
    refine clip_app (C.keep S1) (by omega) (ownX_sli (ownX_new (s := 1) (n := 1) (l := [vint ((fromL l + k : Nat) : Int)]) c1 rfl rfl)) fun w H2 S2 O2 => ⟨hsb (S1.trans S2),?_⟩
    have hS1 := S1.1
    exact post (S1.trans S2) O2 hS1 (hXn hS1).1 (hXn hS1).2 fun a b c => ⟨ds,r0,r1,r2,r3,r4,r5,r12,rfl,rfl⟩
   ·refine ⟨by decide,fill_one (l := [vint ((fromL l + k : Nat) : Int)]) rfl rfl rfl (by decide) (fillI (qNew fun H1 p1 e1 S1 c1 l1 => ⟨hsb S1,?_⟩))⟩
    have c1 : H1[p1]? = some (.cells [vint ((fromL l + k : Nat) : Int)] true 0) := c1
    refine good47 hJ (ownX_keep O' S1 (by simp)) (by omega) fun v' C => ⟨hsb S1,by decide,?_⟩
    refine clip_app C (by omega) (ownX_sli (ownX_new (s := 1) (n := 1) (l := [vint ((fromL l + k : Nat) : Int)]) c1 rfl rfl)) fun w H2 S2 O2 => ⟨hsb (S1.trans S2),?_⟩
    have hS1 := S1.1
    exact post (S1.trans S2) O2 hS1 (hXn hS1).1 (hXn hS1).2 fun a b c => ⟨ds,r0,r1,r2,r3,r4,r5,r12,rfl,rfl⟩
  refine eqlI (cndI (fun hx => absurd hx (by omega)) fun _ => lenI (ownX_sli O) (gtrI (cndI (fun hpos => lenI (ownX_sli O) (subI (by omega) ?_)) fun h0 => hold.2 ?_)))
  ·have hll : l.length - 1 < l.length := by omega
   have ei : ((l.length : Nat) : Int) - 1 = ((l.length - 1 : Nat) : Int) := by omega
   have hx := List.getElem?_eq_getElem hll
   have hb := hlb _ (List.getElem_mem hll)
   rw [ei]
   refine idx_load (ownX_sli O) ⟨by omega,by omega⟩ (x := vint l[l.length - 1]) (by rw [Int.toNat_natCast,List.getElem?_map,hx]; rfl) fun p => addI (by omega) (hold.2 (loop rfl rfl rfl rfl rfl rfl rfl ?_))
   show vint _ = vint _
   congr 1
   unfold fromL
   rw [List.getLast?_eq_getElem?,hx]
   show l[l.length - 1] + 1 = ((l[l.length - 1].toNat + 1 : Nat) : Int)
   omega
  ·have : l = [] := List.length_eq_zero_iff.1 (by omega)
   refine loop rfl rfl rfl rfl rfl rfl rfl ?_
   rw [this]
   rfl
theorem good75S (hJ : Closed prog main J) {X : List Nat} {I : σ → Option Nat → List AObj → Prop} {fv : Value} {n : Nat} {a : σ} {oo : Option Nat} (P : PassS J X I st Pu Bd fv) (hn : n ≤ 60) (hX : ∀ x ∈ X,x < H.length) (hI : I a oo H) (hB : pickOk Bd st Pu n a = true)
  (hK : ∀ H' v o',Mv X oo H H' o' → I (pickS st Pu n a).1 o' H' → K v H') : Good prog J 28 [vint (n : Nat),fv] H K := by
 refine g28 hJ fun ok => ?_
 rw [e28]
 generalize hf : (fun m a => runS st Pu n m [] 0 a) = f
 have hf' : ∀ m a,runS st Pu n m [] 0 a = f m a := fun m a => by rw [← hf]
 have hR : pickS st Pu n a = runTo f (n + 1) a := by rw [← hf]; rfl
 have hB' : okTo f (fun m a => allS Bd st Pu n m [] 0 a) (n + 1) a = true := by rw [← hf]; exact hB
 refine qBox1 rfl rfl fun H1 pn e1 S1 c1 l1 => qBox1 P.val.1 P.val.2 fun H2 pp e2 S2 c2 l2 => qAl fun H3 pg e3 S3 c3 l3 => ⟨rfl,qSt c3 (by simp) rfl rfl fun H4 S4 c4 l4 => ?_⟩
 have c4 : H4[pg]? = some (.cells [growV pp pn pg] true 0) := c4
 have T24 : SameX [] H2 H4 := S3.thru S4 (by simp; omega)
 have T14 : SameX [] H1 H4 := S2.trans T24
 have T4 : SameX [] H H4 := S1.trans T14
 have n4 := T14.get c1 (by simp)
 have p4 := T24.get c2 (by simp)
 have hS1 := S1.1
 have hS2 := S2.1
 have hS3 := S3.1
 have lo := P.lt hI
 have hM : ∀ p,H.length ≤ p → p ∉ X ∧ oo ≠ some p := fun p hp => ⟨fun hm => by have := hX _ hm; omega,fun e => by have := lo _ e; omega⟩
 refine ldI (v := vint (n : Nat)) n4 rfl rfl (addI (by omega) ?_)
 refine l28_1 hJ (fun m : Nat => n + 1 - m) (fun m F H' => (∃ o',Mv X oo H4 H' o' ∧ I (runTo f m a).1 o' H') ∧ m ≤ n + 1 ∧ (runTo f m a).2 = false ∧ F.ds = [] ∧ F.r 6 = ptr pg 0 ∧ F.r 12 = vint ((n : Int) + 1) ∧ F.r 13 = vint (m : Nat)) ?_ (s := 0)
  (.inl ⟨⟨oo,Mv.refl,P.keep hI T4⟩,by omega,rfl,rfl,rfl,rfl,rfl⟩)
 rintro m F H' ⟨⟨o',M,I'⟩,hm,hno,ds,r6,r12,r13⟩ okc hnc
 rw [s28_1,r6,r12,r13,ds]
 have MM : Mv X oo H H' o' := (Mv.more T4).trans M
 refine lssI (cndI (fun hlt => ?_) fun hge => ?_)
 ·have hBm := okTo_at hB' (show m < n + 1 by omega) hno
  have m1 := hM pg (by omega)
  have m2 := hM pp (by omega)
  have m3 := hM pn (by omega)
  refine ldI (v := growV pp pn pg) (M.get c4 m1.1 m1.2) rfl rfl (callC (by kernel_rfl) ?_)
  have l4p := lt_of_get p4
  have l4n := lt_of_get n4
  have l4g := lt_of_get c4
  refine good105S hJ P hn m [] 0 (M.get p4 m2.1 m2.2) (M.get n4 m3.1 m3.2) (M.get c4 m1.1 m1.2) I' (fun x hx => by have := hX x hx; have := MM.1.1; omega) ⟨rfl,rfl,.inl ⟨rfl,rfl,rfl⟩⟩ (by simp) (fun p hp => ?_) (by simp; omega) (by simp) hBm fun H5 v o5 M5 I5 nu => ext0 (ext1 ?_)
  ·have hp3 : p = pp ∨ p = pn ∨ p = pg := by simpa using hp
   rcases hp3 with rfl | rfl | rfl
   ·exact ⟨m2.1,M.free l4p m2.2⟩
   ·exact ⟨m3.1,M.free l4n m3.2⟩
   ·exact ⟨m1.1,M.free l4g m1.2⟩
  rw [hf',← runTo_next hno] at I5 ⊢
  generalize hBB : (runTo f (m + 1) a).2 = bb
  cases bb with
  | true =>
   refine cnd_true.2 (retL_same (nu2 nu (by simp [unk])) (hK H5 _ o5 (MM.trans M5) ?_))
   rw [hR,runTo_end (by omega) hBB]
   exact I5
  | false => exact cnd_false.2 (addI (by omega) ⟨m + 1,by dsimp only; omega,.inl ⟨⟨o5,M.trans M5,I5⟩,by omega,hBB,ds,r6,r12,by show vint _ = vint _; congr 1⟩⟩)
 ·have hmn : m = n + 1 := by omega
  subst hmn
  refine retL_same (by simp [unk]) (hK H' _ o' MM ?_)
  rw [hR]
  exact I'
end
theorem gtrU {a b : Int} {t : TypeId} {KV : Value → Prop} (hk : KV (.bool (decide (a > b)))) : aBin prog .gtr t (.int .u64 a) (.int .u64 b) KV := by rw [b_gtr]; exact hk
theorem own_nunk {H : List AObj} {s len : Nat} {cs : List Value} {v : Value} {o : Option Nat} (O : OwnX H s cs len v o) : v ≠ unk := by
 have := (ownX_val O).2.2
 intro e
 rw [e] at this
 cases this
theorem OwnL.moreB {lo : Nat} {H : List AObj} {ls : List (List Int)} {o : Option Nat} {v y wv : Value} {l : List Int} {b : Option Nat} {K : Value → List AObj → Prop}
  (L : OwnL lo H v ls o) (hlo : lo ≤ H.length) (hpl : ls.length < 900) (Of : OwnX H 1 (l.map vint) l.length wv b) (hb : ∀ j,b = some j → some j ≠ o ∧ lo ≤ j) (hyv : Sli H y 1 1 [wv])
  (hK : ∀ v' H' o',SameX o.toList H H' → OwnL lo H' v' (ls ++ [l]) (some o') → H.length ≤ o' → v' ≠ unk → K v' H') : aApp 1 v y H K := by
 obtain ⟨hl0,cs,Oc,he⟩ := L
 have bfl := ownX_lt Of
 refine ownX_more Oc (by omega) (by omega) hyv fun v' Hh ph eh Oh Sh => ?_
 have hno : ∀ j,some j ≠ o → j ∉ o.toList := fun j hj hm => hj (by rw [Option.mem_toList.1 hm])
 refine hK v' Hh ph Sh ⟨fun j hj => by cases hj; omega,cs ++ [wv],by rw [List.length_append]; exact Oh,fun m l' hl => ?_⟩ (by omega) (own_nunk Oh)
 have hcl : cs.length = ls.length := by have := Oc.1; omega
 rcases Nat.lt_or_ge m ls.length with hm | hm
 ·rw [List.getElem?_append_left hm] at hl
  obtain ⟨lv2,b2,e2,e3,e4⟩ := he m l' hl
  refine ⟨lv2,b2,by rw [List.getElem?_append_left (by omega)]; exact e2,ownX_keep e3 Sh fun j hj => hno j (e4 j hj).1,fun j hj => ⟨?_,(e4 j hj).2⟩⟩
  have := ownX_lt e3 j hj
  intro e
  injection e with e
  omega
 ·rw [List.getElem?_append_right hm] at hl
  have hm0 : m - ls.length = 0 := by
   have := (List.getElem?_eq_some_iff.1 hl).1
   simp at this
   omega
  rw [hm0] at hl
  have : l' = l := by simpa using hl.symm
  subst this
  refine ⟨wv,b,by rw [List.getElem?_append_right (by omega),hcl,hm0]; rfl,ownX_keep Of Sh fun j hj => hno j (hb j hj).1,fun j hj => ⟨fun e => ?_,(hb j hj).2⟩⟩
  have := bfl j hj
  injection e with e
  omega
def hitB (u : Int) (i : Nat) : Bool := decide (IntKind.u64.wrap (BitVec.ofInt 64 (u.fdiv (2 ^ min i 64)) &&& BitVec.ofInt 64 1).toNat = 1)
def bitsN (n : Nat) (s : Int) : List Int := ((List.range n).filter (hitB s)).map Int.ofNat
theorem bitsN_succ (n : Nat) (s : Int) : bitsN (n + 1) s = bitsN n s ++ (bif hitB s n then [(n : Int)] else []) := by
 unfold bitsN
 rw [List.range_succ,List.filter_append,List.map_append]
 congr 1
 cases h : hitB s n <;> simp [h]
theorem bitsN_le (n : Nat) (s : Int) : (bitsN n s).length ≤ n := by
 unfold bitsN
 rw [List.length_map]
 exact Nat.le_trans (List.length_filter_le _ _) (by simp)
def stM (n many : Nat) (a : List (List Int)) (s : Int) : List (List Int) := bif decide ((bitsN n s).length = many) then a ++ [bitsN n s] else a
def puM (n many : Nat) (s : Int) : Bool := decide ((bitsN n s).length > many)
def bdM (a : List (List Int)) : Bool := decide (a.length < 800)
structure IM (lo pw pm pl : Nat) (wv : Value) (many : Nat) (a : List (List Int)) (o : Option Nat) (H : List AObj) : Prop where
 hw : H[pw]? = some (.cells [wv] true 0)
 hm : H[pm]? = some (.cells [vint (many : Nat)] true 0)
 hl : ∃ lv,H[pl]? = some (.cells [lv] true 0) ∧ OwnL lo H lv a o
 lo : lo ≤ H.length
section
variable {main : Bool} {J : JT} {h H : List AObj} {K : Value → List AObj → Prop} {n0 : Nat}
theorem pass91 (hJ : Closed prog main J) {lo pw pm pl n many : Nat} {wv : Value} (hwv : ∀ KV : Value → Prop,KV (vint (n : Nat)) → aLenS wv KV) (kwv : kn1 wv = true) (hn : n ≤ 60) (hmy : many ≤ 1000) (h1 : pw < lo) (h2 : pm < lo) (h3 : pl < lo) (d1 : pw ≠ pl) (d2 : pm ≠ pl) :
  PassS J [pl] (IM lo pw pm pl wv many) (stM n many) (puM n many) bdM (.func (.func 31) ⟨[]⟩ ⟨[ptr pw 0,ptr pm 0,ptr pl 0]⟩) where
 call := fun {H s a o Kf} hB hI hk => by
  refine callC (by kernel_rfl) (g31 hJ fun ok => ?_)
  have e0 : ([.int .u64 s] ++ [ptr pw 0,ptr pm 0,ptr pl 0] : List Value) = [.int .u64 s,ptr pw 0,ptr pm 0,ptr pl 0] := rfl
  show W prog J 36 H.length 31 (codeOf f31) (RG.mk (regs [.int .u64 s,ptr pw 0,ptr pm 0,ptr pl 0]) []) H (RetQ prog [.tmp 5] H.length Kf)
  rw [e31]
  refine ldI hI.hw rfl kwv (hwv _ ?_)
  refine l31_1 hJ (fun i : Nat => n - i) (fun i f H' => SameX [] H H' ∧ i ≤ n ∧ (∃ ol,OwnX H' 1 ((bitsN i s).map vint) (bitsN i s).length (f.r 6) ol ∧ ∀ j,ol = some j → H.length ≤ j) ∧ f.ds = [] ∧ f.r 0 = .int .u64 s ∧ f.r 2 = ptr pm 0 ∧ f.r 3 = ptr pl 0 ∧ f.r 9 = vint (n : Nat) ∧ f.r 10 = vint (i : Nat)) ?_ (s := 0)
   (.inl ⟨SameX.refl,by omega,⟨none,ownX_nil,by simp⟩,rfl,rfl,rfl,rfl,rfl,rfl⟩)
  rintro i f H' ⟨S,hi,⟨ol,Ol,hol⟩,ds,r0,r2,r3,r9,r10⟩ okc hnc
  generalize hlv : f.r 6 = lv at Ol
  rw [s31_1,r0,r2,r3,r9,r10,hlv,ds]
  have hble := bitsN_le i s
  refine lssI (cndI (fun hlt => ?_) fun hge => ?_)
  ·refine convI (by omega) (by omega) (u_shrI (u_andI (eqlU ?_)))
   have hb := bitsN_succ i s
   refine cndI (fun hh => ⟨by decide,fill1 rfl rfl (by decide) (fillI (qNew fun H1 p1 e1 S1 c1 l1 => ⟨by decide,?_⟩))⟩) fun hh => ?_
   ·have hit : hitB s i = true := decide_eq_true hh
    rw [hit] at hb
    refine ownX_more (ownX_keep Ol S1 (by simp)) (by omega) (by omega) (ownX_sli (ownX_new (n := 1) (l := [vint (i : Nat)]) c1 rfl rfl)) fun v' H2 p2 e2 O2 S2 => addI (by omega) ⟨i + 1,by dsimp only; omega,.inl ⟨(S.trans S1).thru S2 ?_,by omega,⟨some p2,?_,fun j hj => ?_⟩,ds,r0,r2,r3,r9,by show vint _ = vint _; congr 1⟩⟩
    ·intro y hy
     rw [Option.mem_toList] at hy
     exact .inr (hol y hy)
    ·rw [hb]
     show OwnX H2 1 ((bitsN i s ++ [(i : Int)]).map vint) (bitsN i s ++ [(i : Int)]).length v' (some p2)
     rw [List.map_append,List.length_append]
     exact O2
    ·cases hj
     have := S.1
     have := S1.1
     omega
   ·have hit : hitB s i = false := decide_eq_false hh
    rw [hit,cond_false,List.append_nil] at hb
    refine addI (by omega) ⟨i + 1,by dsimp only; omega,.inl ⟨S,by omega,⟨ol,?_,hol⟩,ds,r0,r2,r3,r9,by show vint _ = vint _; congr 1⟩⟩
    rw [hb]
    show OwnX H' 1 _ _ (f.r 6) ol
    rw [hlv]
    exact Ol
  ·have hin : i = n := by omega
   subst hin
   have cm := S.get hI.hm (by simp)
   obtain ⟨llv,cl,LL⟩ := hI.hl
   have cl' := S.get cl (by simp)
   have LL' := LL.keep S
   have hlo := hI.lo
   have hS := S.1
   refine lenI (ownX_sli Ol) (ldI (v := vint (many : Nat)) cm rfl rfl (eqlI (cndI (fun he => ?_) fun hne => ?_)))
   ·have he' : (bitsN i s).length = many := by omega
    have hst : stM i many a s = a ++ [bitsN i s] := by unfold stM; rw [decide_eq_true he']; rfl
    have hB' : a.length < 800 := of_decide_eq_true hB
    have kl := (ownX_val LL'.2.choose_spec.1)
    refine ldI cl' rfl kl.2.2 ⟨by decide,fill1 (ownX_val Ol).1 (ownX_val Ol).2.1 (by decide) (fillI (qNew fun H1 p1 e1 S1 c1 l1 => ⟨by decide,?_⟩))⟩
    have hS1 := S1.1
    refine (LL'.keep S1).moreB (b := ol) (by omega) (by omega) (ownX_keep Ol S1 (by simp)) (fun j hj => ⟨fun e => ?_,by have := hol j hj; omega⟩) (ownX_sli (ownX_new (n := 1) (l := [lv]) c1 rfl (by
     unfold kn
     simp [(ownX_val Ol).2.2]))) fun v' H2 o2 S2 L2 ho2 nu => ?_
    ·have h5 := hol j hj
     have h6 := (LL.lt j e.symm).2
     omega
    have cl1 := S1.get cl' (by simp)
    have hno : ∀ {x : Nat},x < lo → x ∉ o.toList := fun hx hm => by
     have := LL.1 _ (Option.mem_toList.1 hm)
     omega
    have cl2 := S2.get cl1 (hno h3)
    have kv := ownX_val L2.2.choose_spec.1
    have cm2 := S2.get (S1.get cm (by simp)) (hno h2)
    refine qSt cl2 (by simp) kv.1 kv.2.1 fun H3 S3 c3 l3 => lenI (ownX_sli Ol) (ldI (v := vint (many : Nat)) (S3.get cm2 (by simpa using d2)) rfl rfl (gtrI ?_))
    have M : Mv [pl] o H H3 (some o2) := by
     refine ⟨((S.trans S1).weak0.trans (S2.weak fun y hy => List.mem_append_right _ hy)).trans (S3.weak fun y hy => List.mem_append_left _ hy),.inr ⟨o2,rfl,by omega⟩⟩
    refine retL_same (by simp [unk]) ?_
    have := hk H3 (some o2) M (by
     rw [hst]
     refine ⟨M.get hI.hw (by simpa using d1) (fun e => hno h1 (Option.mem_toList.2 e)),M.get hI.hm (by simpa using d2) (fun e => hno h2 (Option.mem_toList.2 e)),⟨v',by rw [c3]; rfl,?_⟩,by have := M.1.1; omega⟩
     exact L2.keepX S3 (by simp; exact h3))
    have e : decide (((bitsN i s).length : Int) > (many : Int)) = puM i many s := by
     unfold puM
     rw [decide_eq_decide]
     omega
    rw [e]
    exact this
   ·have hne' : (bitsN i s).length ≠ many := by omega
    have hst : stM i many a s = a := by unfold stM; rw [decide_eq_false hne']; rfl
    refine lenI (ownX_sli Ol) (ldI (v := vint (many : Nat)) cm rfl rfl (gtrI (retL_same (by simp [unk]) ?_)))
    have := hk H' o (Mv.more S) (by
     rw [hst]
     exact ⟨S.get hI.hw (by simp),cm,⟨llv,cl',LL'⟩,by omega⟩)
    have e : decide (((bitsN i s).length : Int) > (many : Int)) = puM i many s := by
     unfold puM
     rw [decide_eq_decide]
     omega
    rw [e]
    exact this
 keep := fun hI S => ⟨S.get hI.hw (by simp),S.get hI.hm (by simp),by
  obtain ⟨lv,h1,h2⟩ := hI.hl
  exact ⟨lv,S.get h1 (by simp),h2.keep S⟩,Nat.le_trans hI.lo S.1⟩
 lt := fun hI j hj => by
  obtain ⟨lv,_,h2⟩ := hI.hl
  exact (h2.lt j hj).2
 kn := rfl
 val := ⟨rfl,rfl⟩
def setM (t : Tal) (m : Int) : Nat → Int
 | 0 => 0
 | k + 1 => if ((t.counts[k]?).getD ⟨0,0,0,0⟩).man = m then orU (setM t m k) (shU (k : Nat)) else setM t m k
def setA (t : Tal) (m : Int) : Int := setM t m t.counts.length
def menTo (t : Tal) (n : Nat) : List Int := ((List.range n).map fun k => ((k + 1 : Nat) : Int)).filter fun m => decide (setA t m > 0)
theorem menTo_succ (t : Tal) (n : Nat) : menTo t (n + 1) = menTo t n ++ (bif decide (setA t ((n + 1 : Nat) : Int) > 0) then [((n + 1 : Nat) : Int)] else []) := by
 unfold menTo
 rw [List.range_succ,List.map_append,List.filter_append]
 congr 1
theorem menTo_le (t : Tal) (n : Nat) : (menTo t n).length ≤ n := by
 unfold menTo
 exact Nat.le_trans (List.length_filter_le _ _) (by simp)
def menR (t : Tal) : List Int := menTo t 9
def setsR (t : Tal) : List Int := (menR t).map (setA t)
theorem good30 (hJ : Closed prog main J) {v cv nv : Value} {t : Tal} (ta : TalAt H v t cv nv) (hl : t.counts.length < 60)
  (hK : ∀ H' wv kv ow,SameX [] H H' → OwnX H' 1 ((menR t).map vint) (menR t).length wv ow → (∀ j,ow = some j → H.length ≤ j) → Sli H' kv 1 (setsR t).length ((setsR t).map fun n => .int .u64 n) → K (.tuple ⟨[wv,kv]⟩) H') : Good prog J 30 [v] H K := by
 refine g30 hJ fun ok => ?_
 rw [e30,ta.val]
 refine qBox (tal_one ta) fun H1 p1 e1 S1 c1 l1 => ?_
 have t1 : TalAt H1 (.agg ⟨talCells t cv nv⟩) t cv nv := ⟨rfl,S1.sli ta.ch (by simp),S1.sli ta.co (by simp)⟩
 have kn : kn1 nv = true := (sli_one t1.co).2.2
 refine l30_1 hJ (fun m : Nat => 9 - m) (fun m f H' => SameX [] H1 H' ∧ m ≤ 9 ∧ (∃ ow os,OwnX H' 1 ((menTo t m).map vint) (menTo t m).length (f.r 4) ow ∧ OwnX H' 1 (((menTo t m).map (setA t)).map fun n => .int .u64 n) ((menTo t m).map (setA t)).length (f.r 5) os ∧ (∀ j,ow = some j → H1.length ≤ j ∧ os ≠ some j) ∧ ∀ j,os = some j → H1.length ≤ j) ∧ f.ds = [] ∧ f.r 1 = ptr p1 0 ∧ f.r 6 = vint ((m + 1 : Nat) : Int)) ?_ (s := 0)
  (.inl ⟨SameX.refl,by omega,⟨none,none,ownX_nil,ownX_nil,by simp,by simp⟩,rfl,rfl,rfl⟩)
 rintro m f H' ⟨S,hm,⟨ow,os,Ow,Os,how,hos⟩,ds,r1,r6⟩ okc hnc
 generalize hwv : f.r 4 = wv at Ow
 generalize hkv : f.r 5 = kv at Os
 have c1' := S.get c1 (by simp)
 have t' := talAt_same t1 S (by simp)
 rw [s30_1,r1,r6,hwv,hkv,ds]
 have hml := menTo_le t m
 refine leqI (cndI (fun hle => ?_) fun hgt => ?_)
 ·refine offI (ldI (v := nv) c1' rfl kn (lenI t'.co ?_))
  refine l30_2 hJ (fun i : Nat => t.counts.length - i) (fun i f H2 => SameX [] H' H2 ∧ i ≤ t.counts.length ∧ f.ds = [] ∧ f.r 1 = ptr p1 0 ∧ f.r 4 = wv ∧ f.r 5 = kv ∧ f.r 6 = vint ((m + 1 : Nat) : Int) ∧ f.r 7 = .int .u64 (setM t ((m + 1 : Nat) : Int) i) ∧ f.r 15 = nv ∧ f.r 16 = vint (t.counts.length : Nat) ∧ f.r 17 = vint (i : Nat)) ?_ (s := 0)
   (.inl ⟨SameX.refl,by omega,ds,r1,hwv,hkv,r6,rfl,rfl,rfl,rfl⟩)
  clear okc hnc
  rintro i f2 H2 ⟨S2,hi,ds2,q1,q4,q5,q6,q7,q15,q16,q17⟩ okc hnc
  have t2 := talAt_same t' S2 (by simp)
  rw [s30_2,q4,q5,q6,q7,q15,q16,q17]
  refine lssI (cndI (fun hlt => ?_) fun hge => ?_)
  ·have hil : i < t.counts.length := by omega
   obtain ⟨b2,o2,cs2,w2,z2,hx2,hb2,hle2,hp2,hk2⟩ := sliE_elem cnt_len (by omega) t2.co hil
   have hget : (t.counts[i]?).getD ⟨0,0,0,0⟩ = t.counts[i] := by rw [List.getElem?_eq_getElem hil]; rfl
   refine hx2 _ (load_part hb2 hle2 hp2 hk2 (qAl fun H3 p9 e3 S3 c3 l3 => qStA (c := t.counts[i].cells) c3 rfl rfl rfl fun H4 S4 c4 l4 => ?_))
   have T4 : SameX [] H' H4 := (S2.trans S3).thru S4 (by have := S2.1; simp; omega)
   refine offI (ldI (v := vint t.counts[i].man) c4 rfl rfl (eqlI (cndI (fun he => convI (by omega) (by omega) (u_shlI (by omega) (u_orI (addI (by omega) ⟨i + 1,by dsimp only; omega,.inl ⟨T4,by omega,ds2,q1,q4,q5,q6,?_,q15,q16,by show vint _ = vint _; congr 1⟩⟩)))) fun hne => addI (by omega) ⟨i + 1,by dsimp only; omega,.inl ⟨T4,by omega,ds2,q1,q4,q5,q6,?_,q15,q16,by show vint _ = vint _; congr 1⟩⟩)))
   ·show Value.int .u64 _ = _
    conv => rhs; rw [setM,hget,if_pos he]
   ·show f2.r 7 = _
    rw [q7]
    conv => rhs; rw [setM,hget,if_neg hne]
  ·have hin : i = t.counts.length := by omega
   subst hin
   have hS : setM t ((m + 1 : Nat) : Int) t.counts.length = setA t ((m + 1 : Nat) : Int) := rfl
   rw [hS]
   have hsu := menTo_succ t m
   refine gtrU (cndI (fun hpos => ⟨by decide,fill1 rfl rfl (by decide) (fillI (qNew fun H3 p3 e3 S3 c3 l3 => ⟨by decide,?_⟩))⟩) fun hno => ?_)
   ·rw [decide_eq_true hpos,cond_true] at hsu
    have T3 := S2.trans S3
    refine ownX_more (ownX_keep Ow T3 (by simp)) (by omega) (by omega) (ownX_sli (ownX_new (n := 1) (l := [vint ((m + 1 : Nat) : Int)]) c3 rfl rfl)) fun v' H4 p4 e4 O4 S4 => ⟨by decide,fill1 rfl rfl (by decide) (fillI (qNew fun H5 p5 e5 S5 c5 l5 => ⟨by decide,?_⟩))⟩
    have Os4 := ownX_keep (ownX_keep Os T3 (by simp)) S4 (fun j hj hm => by
     rw [Option.mem_toList] at hm
     exact (how j hm).2 hj)
    have lo4 := ownX_lt O4
    refine ownX_more (ownX_keep Os4 S5 (by simp)) (by omega) (by rw [List.length_map]; omega) (ownX_sli (ownX_new (n := 1) (l := [.int .u64 (setA t ((m + 1 : Nat) : Int))]) c5 rfl rfl)) fun v6 H6 p6 e6 O6 S6 => addI (by omega) ⟨m + 1,by dsimp only; omega,.inl ⟨?_,by omega,⟨some p4,some p6,?_,?_,fun j hj => ?_,fun j hj => ?_⟩,ds2,q1,by show vint _ = vint _; congr 1⟩⟩
    ·refine ((((S.trans T3).thru S4 fun y hy => ?_).trans S5).thru S6 fun y hy => ?_)
     ·rw [Option.mem_toList] at hy
      exact .inr (how y hy).1
     ·rw [Option.mem_toList] at hy
      exact .inr (hos y hy)
    ·rw [hsu,List.map_append,List.length_append]
     refine ownX_keep (ownX_keep O4 S5 (by simp)) S6 fun j hj hm => ?_
     rw [Option.mem_toList] at hm
     cases hj
     have := (ownX_lt Os4) _ hm
     have := (ownX_lt (ownX_keep Os T3 (by simp))) _ hm
     omega
    ·rw [hsu,List.map_append,List.map_append,List.length_append]
     exact O6
    ·cases hj
     have := S.1
     have := T3.1
     refine ⟨by omega,fun e => ?_⟩
     cases e
     have := lo4 _ rfl
     have := S5.1
     omega
    ·cases hj
     have := S.1
     have := T3.1
     have := S4.1
     have := S5.1
     omega
   ·rw [decide_eq_false hno,cond_false,List.append_nil] at hsu
    refine addI (by omega) ⟨m + 1,by dsimp only; omega,.inl ⟨S.trans S2,by omega,⟨ow,os,?_,?_,how,hos⟩,ds2,q1,by show vint _ = vint _; congr 1⟩⟩
    ·show OwnX H2 1 _ _ (f2.r 4) ow
     rw [q4,hsu]
     exact ownX_keep Ow S2 (by simp)
    ·show OwnX H2 1 _ _ (f2.r 5) os
     rw [q5,hsu]
     exact ownX_keep Os S2 (by simp)
 ·have hm9 : m = 9 := by omega
  subst hm9
  refine retL_same (nu2 (own_nunk Ow) (own_nunk Os)) (hK H' wv kv ow (S1.trans S) Ow (fun j hj => ?_) (ownX_sli Os))
  have := (how j hj).1
  have := S1.1
  omega
end
end Go.Proofs.YtaceckiodofdkaaDoor
namespace Go.Proofs.YtaceckiodofdkaaDoor
open Go.Conc Go.Proofs.Tryd
set_option maxRecDepth 100000
set_option maxHeartbeats 4000000
set_option linter.unusedVariables false
section
variable {main : Bool} {J : JT} {n0 : Nat} {h : List AObj} {K : Value → List AObj → Prop}
section
variable {Sx : RG → List AObj → Prop}
theorem at32 : prog.funcs[32]? = some f32 := by kernel_rfl
theorem body32 : f32.body = some (codeOf f32) := by kernel_rfl
def pl32 : Plans := [(1,false,.take 1 (.take 2 (.alt 0 true (.alt 3 false (.last 4 true (.last 5 true (.take 6 (.fin)))) (.last 4 true (.alt 3 false (.last 5 true (.take 6 (.fin))) (.last 5 true (.last 3 false (.take 6 (.fin))))))) (.alt 3 false (.alt 0 true (.last 4 true (.last 5 true (.take 6 (.fin)))) (.last 4 true (.last 0 true (.last 5 true (.take 6 (.fin)))))) (.last 4 true (.alt 0 true (.alt 3 false (.last 5 true (.take 6 (.fin))) (.last 5 true (.last 3 false (.take 6 (.fin))))) (.last 3 false (.last 0 true (.last 5 true (.take 6 (.fin)))))))))))]
def ct32 : Cuts := .go
theorem pok32 : plansOk prog pl32 (trunc 2 (codeOf f32)) = true := by kernel_rfl
theorem e32 {a0 a1 a2 : Value} : W prog J 50 h.length 32 (trunc 2 (codeOf f32)) (RG.mk (regs [a0,a1,a2]) []) h (thenK Sx (RetQ prog [.tmp 6] h.length K)) =
(aBox a0 h fun v1 h2 =>
 aBox a2 h2 fun v3 h4 =>
(∃ B,aLenS a1 fun v5 =>
 RdOk (some B) (mapBlk a1) ∧ ((((8 : Nat) ≤ 1024 ∧ aMkC (vint 0) h4 fun v6 h7 =>
 SameB (some B) h4 h7 ∧ ((((8 : Nat) ≤ 1024 ∧ aMkC v5 h7 fun v8 h9 =>
 aAlloc [(Value.chan none)] h9 fun v10 h11 =>
 SameB (some B) h4 h11 ∧ (aStore 1 v10 v6 h11 fun h12 =>
 SameB (some B) h4 h12 ∧ (Sx (RG.p (RG.p (RG.p (RG.p (RG.p (RG.p (RG.p (RG.p (RG.p (RG.mk (regs [a0,a1,a2]) []) 3 v1) 5 v3) 6 (vint 0)) 15 a1) 16 v5) 14 v6) 17 v8) 7 v10) 8 v8) h12)))) ∧ (aAlloc [(Value.chan none)] h7 fun v13 h14 =>
 SameB (some B) h4 h14 ∧ ((((8 : Nat) ≤ 1024 ∧ aMkC v5 h14 fun v15 h16 =>
 aStore 1 v13 v6 h16 fun h17 =>
 SameB (some B) h4 h17 ∧ (Sx (RG.p (RG.p (RG.p (RG.p (RG.p (RG.p (RG.p (RG.p (RG.p (RG.mk (regs [a0,a1,a2]) []) 3 v1) 5 v3) 6 (vint 0)) 15 a1) 16 v5) 14 v6) 7 v13) 17 v15) 8 v15) h17))) ∧ (aStore 1 v13 v6 h14 fun h18 =>
 SameB (some B) h4 h18 ∧ (((8 : Nat) ≤ 1024 ∧ aMkC v5 h18 fun v19 h20 =>
 Sx (RG.p (RG.p (RG.p (RG.p (RG.p (RG.p (RG.p (RG.p (RG.p (RG.mk (regs [a0,a1,a2]) []) 3 v1) 5 v3) 6 (vint 0)) 15 a1) 16 v5) 14 v6) 7 v13) 17 v19) 8 v19) h20)))))))) ∧ (((8 : Nat) ≤ 1024 ∧ aMkC v5 h4 fun v21 h22 =>
(((8 : Nat) ≤ 1024 ∧ aMkC (vint 0) h22 fun v23 h24 =>
 SameB (some B) h4 h24 ∧ (aAlloc [(Value.chan none)] h24 fun v25 h26 =>
 SameB (some B) h4 h26 ∧ (aStore 1 v25 v23 h26 fun h27 =>
 SameB (some B) h4 h27 ∧ (Sx (RG.p (RG.p (RG.p (RG.p (RG.p (RG.p (RG.p (RG.p (RG.p (RG.mk (regs [a0,a1,a2]) []) 3 v1) 5 v3) 6 (vint 0)) 15 a1) 16 v5) 17 v21) 14 v23) 7 v25) 8 v21) h27))))) ∧ (aAlloc [(Value.chan none)] h22 fun v28 h29 =>
 SameB (some B) h4 h29 ∧ (((8 : Nat) ≤ 1024 ∧ aMkC (vint 0) h29 fun v30 h31 =>
 SameB (some B) h4 h31 ∧ (aStore 1 v28 v30 h31 fun h32 =>
 SameB (some B) h4 h32 ∧ (Sx (RG.p (RG.p (RG.p (RG.p (RG.p (RG.p (RG.p (RG.p (RG.p (RG.mk (regs [a0,a1,a2]) []) 3 v1) 5 v3) 6 (vint 0)) 15 a1) 16 v5) 17 v21) 7 v28) 14 v30) 8 v21) h32))))))) ∧ (aAlloc [(Value.chan none)] h4 fun v33 h34 =>
 SameB (some B) h4 h34 ∧ ((((8 : Nat) ≤ 1024 ∧ aMkC (vint 0) h34 fun v35 h36 =>
 SameB (some B) h4 h36 ∧ ((((8 : Nat) ≤ 1024 ∧ aMkC v5 h36 fun v37 h38 =>
 aStore 1 v33 v35 h38 fun h39 =>
 SameB (some B) h4 h39 ∧ (Sx (RG.p (RG.p (RG.p (RG.p (RG.p (RG.p (RG.p (RG.p (RG.p (RG.mk (regs [a0,a1,a2]) []) 3 v1) 5 v3) 6 (vint 0)) 15 a1) 16 v5) 7 v33) 14 v35) 17 v37) 8 v37) h39))) ∧ (aStore 1 v33 v35 h36 fun h40 =>
 SameB (some B) h4 h40 ∧ (((8 : Nat) ≤ 1024 ∧ aMkC v5 h40 fun v41 h42 =>
 Sx (RG.p (RG.p (RG.p (RG.p (RG.p (RG.p (RG.p (RG.p (RG.p (RG.mk (regs [a0,a1,a2]) []) 3 v1) 5 v3) 6 (vint 0)) 15 a1) 16 v5) 7 v33) 14 v35) 17 v41) 8 v41) h42)))))) ∧ (((8 : Nat) ≤ 1024 ∧ aMkC v5 h34 fun v43 h44 =>
((8 : Nat) ≤ 1024 ∧ aMkC (vint 0) h44 fun v45 h46 =>
 SameB (some B) h4 h46 ∧ (aStore 1 v33 v45 h46 fun h47 =>
 SameB (some B) h4 h47 ∧ (Sx (RG.p (RG.p (RG.p (RG.p (RG.p (RG.p (RG.p (RG.p (RG.p (RG.mk (regs [a0,a1,a2]) []) 3 v1) 5 v3) 6 (vint 0)) 15 a1) 16 v5) 7 v33) 17 v43) 14 v45) 8 v43) h47)))))))))) := top_eq pok32 ct32 (by kernel_rfl)
end
theorem q32_1 {f : RG} {fr : FuncId} {Q : QT} : W prog J 50 n0 fr (subC [1,1,0,0] (codeOf f32)) f h Q =
(aLenS (f.r 1) fun v1 =>
 Q .normal (RG.p (RG.p (RG.p f 18 (f.r 1)) 19 v1) 20 (vint 0)) h) := by kernel_rfl
theorem q32_2 {f : RG} {fr : FuncId} {Q : QT} : W prog J 50 n0 fr (subC [1,1,0,1,0,0,0] (codeOf f32)) f h Q =
(aBin prog .lss 3 (f.r 20) (f.r 19) fun v1 =>
 Q .normal (RG.p f 21 v1) h) := by kernel_rfl
theorem q32_3 {f : RG} {fr : FuncId} {Q : QT} : W prog J 50 n0 fr (subC [1,1,0,1,0,0,1,0] (codeOf f32)) f h Q =
(cnd (f.r 21)
(Q .normal f h)
(Q (.exit 0) f h)) := by kernel_rfl
theorem q32_4 {f : RG} {fr : FuncId} {Q : QT} : W prog J 50 n0 fr (subC [1,1,0,1,0,0,1,1,0,0,0] (codeOf f32)) f h Q =
(aIdx 1 (f.r 18) (f.r 20) fun v1 =>
 aLoad false 1 v1 h fun v2 =>
 aAlloc [(vint 0)] h fun v3 h4 =>
 aAlloc [(Value.slice none 0 0)] h4 fun v5 h6 =>
 aStore 1 v3 (f.r 20) h6 fun h7 =>
 aStore 1 v5 v2 h7 fun h8 =>
 Q .normal (RG.p (RG.p (RG.p (RG.p (RG.p f 22 (f.r 20)) 23 v1) 24 v2) 9 v3) 10 v5) h8) := by kernel_rfl
theorem q32_5 {f : RG} {fr : FuncId} {Q : QT} : W prog J 50 n0 fr (subC [1,1,0,1,0,0,1,1,1] (codeOf f32)) f h Q =
(aBin prog .add 3 (f.r 20) (vint 1) fun v1 =>
 Q .normal (RG.p (RG.p f 26 v1) 20 v1) h) := by kernel_rfl
theorem q32_6 {f : RG} {fr : FuncId} {Q : QT} : W prog J 50 n0 fr (subC [1,1,1,0,0] (codeOf f32)) f h Q =
(aLenS (f.r 1) fun v1 =>
 Q .normal (RG.p (RG.p (RG.p f 27 (f.r 1)) 28 v1) 29 (vint 0)) h) := by kernel_rfl
theorem q32_7 {f : RG} {fr : FuncId} {Q : QT} : W prog J 50 n0 fr (subC [1,1,1,0,1,0,0,0] (codeOf f32)) f h Q =
(aBin prog .lss 3 (f.r 29) (f.r 28) fun v1 =>
 Q .normal (RG.p f 30 v1) h) := by kernel_rfl
theorem q32_8 {f : RG} {fr : FuncId} {Q : QT} : W prog J 50 n0 fr (subC [1,1,1,0,1,0,0,1,0] (codeOf f32)) f h Q =
(cnd (f.r 30)
(Q .normal f h)
(Q (.exit 2) f h)) := by kernel_rfl
theorem q32_9 {f : RG} {fr : FuncId} {Q : QT} : W prog J 50 n0 fr (subC [1,1,1,0,1,0,0,1,1,0,0,1,0] (codeOf f32)) f h Q =
(aBin prog .geq 3 (f.r 11) (vint 0) fun v1 =>
 Q .normal (RG.p (RG.p f 33 (f.r 11)) 34 v1) h) := by kernel_rfl
theorem q32_10 {f : RG} {fr : FuncId} {Q : QT} : W prog J 50 n0 fr (subC [1,1,1,0,1,0,0,1,1,1] (codeOf f32)) f h Q =
(aBin prog .add 3 (f.r 29) (vint 1) fun v1 =>
 Q .normal (RG.p (RG.p f 37 v1) 29 v1) h) := by kernel_rfl
theorem q32_11 {f : RG} {fr : FuncId} {Q : QT} : W prog J 50 n0 fr (subC [1,1,1,1,1,0] (codeOf f32)) f h Q =
(aLenS (f.r 1) fun v1 =>
 Q .normal (RG.p (RG.p (RG.p f 39 (f.r 1)) 40 v1) 12 v1) h) := by kernel_rfl
theorem q32_12 {f : RG} {fr : FuncId} {Q : QT} : W prog J 50 n0 fr (subC [1,1,1,1,1,1,0,0] (codeOf f32)) f h Q =
(Q .normal (RG.p f 41 (f.r 8)) h) := by kernel_rfl
theorem q32_13 {f : RG} {fr : FuncId} {Q : QT} : W prog J 50 n0 fr (subC [1,1,1,1,1,1,0,1,0,0,1,0] (codeOf f32)) f h Q =
(cnd (f.r 43)
(Q .normal f h)
(Q (.exit 4) f h)) := by kernel_rfl
theorem q32_14 {f : RG} {fr : FuncId} {Q : QT} : W prog J 50 n0 fr (subC [1,1,1,1,1,1,0,1,0,0,1,1] (codeOf f32)) f h Q =
(aExt (f.r 42) 0 fun v1 =>
(((1 * 1 : Nat) ≤ 16777216 ∧ (1 : Nat) ≤ 16777216 ∧ List.length [(vint 0)] = 1) ∧ aFill (zrep [(vint 0)] 1) [(0,1,v1)] fun c2 =>
 aNewS 1 c2 h fun v3 h4 =>
 Good prog J 44 [(f.r 12),v3] h4 fun v5 h6 =>
 Q .normal (RG.p (RG.p (RG.p (RG.p (RG.p (RG.p (RG.p f 44 v1) 13 v1) 45 (f.r 12)) 46 v1) 47 v3) 48 v5) 12 v5) h6)) := by kernel_rfl
noncomputable def ops32_1 : Array Oper := opsAt [1,1,0,1,0,0,1,1,0,0,1] (codeOf f32)
theorem z32_1 : ops32_1.size = 2 := by kernel_rfl
noncomputable def p32_1_0 : Oper := opGet ops32_1 0
theorem o32_1_0 {J : JT} : ops32_1[0]? = some p32_1_0 ∧ p32_1_0.dst = some 25 ∧ dstOk 50 p32_1_0 = true ∧ (∀ r,gd ops32_1 p32_1_0 r = some true) ∧ (∀ (f : RG) (h : List AObj) (H : Value → List AObj → Prop),opW prog (Good prog J) p32_1_0 f.r h H = (aMkF 48 [] [(f.r 10),(f.r 5),(f.r 3),(f.r 7),(f.r 9)] fun v1 =>
 H v1 h)) := ⟨by kernel_rfl,by kernel_rfl,by kernel_rfl,fun _ => by kernel_rfl,fun _ _ _ => by kernel_rfl⟩
noncomputable def p32_1_1 : Oper := opGet ops32_1 1
theorem o32_1_1 {J : JT} : ops32_1[1]? = some p32_1_1 ∧ p32_1_1.dst = none ∧ dstOk 50 p32_1_1 = true ∧ (∀ r,gd ops32_1 p32_1_1 r = some true) ∧ (p32_1_1.op = (Go.Op.go { callee := (Go.Callee.value (Go.Operand.tmp 25)),args := #[],argTypes := #[] })) := ⟨by kernel_rfl,by kernel_rfl,by kernel_rfl,fun _ => by kernel_rfl,by kernel_rfl⟩
noncomputable def ops32_2 : Array Oper := opsAt [1,1,1,0,1,0,0,1,1,0,0,0] (codeOf f32)
theorem z32_2 : ops32_2.size = 3 := by kernel_rfl
noncomputable def p32_2_0 : Oper := opGet ops32_2 0
theorem o32_2_0 {J : JT} : ops32_2[0]? = some p32_2_0 ∧ p32_2_0.dst = some 31 ∧ dstOk 50 p32_2_0 = true ∧ (∀ r,gd ops32_2 p32_2_0 r = some true) ∧ (∀ (f : RG) (h : List AObj) (H : Value → List AObj → Prop),opW prog (Good prog J) p32_2_0 f.r h H = (aLoad false 1 (f.r 7) h fun v1 =>
 H v1 h)) := ⟨by kernel_rfl,by kernel_rfl,by kernel_rfl,fun _ => by kernel_rfl,fun _ _ _ => by kernel_rfl⟩
noncomputable def p32_2_1 : Oper := opGet ops32_2 1
theorem o32_2_1 {J : JT} : ops32_2[1]? = some p32_2_1 ∧ p32_2_1.dst = some 32 ∧ dstOk 50 p32_2_1 = true ∧ (∀ r,gd ops32_2 p32_2_1 r = some true) ∧ (p32_2_1.op = (Go.Op.recv 95 (Go.Operand.tmp 31) false)) := ⟨by kernel_rfl,by kernel_rfl,by kernel_rfl,fun _ => by kernel_rfl,by kernel_rfl⟩
noncomputable def p32_2_2 : Oper := opGet ops32_2 2
theorem o32_2_2 {J : JT} : ops32_2[2]? = some p32_2_2 ∧ p32_2_2.dst = some 11 ∧ dstOk 50 p32_2_2 = true ∧ (∀ r,gd ops32_2 p32_2_2 r = some true) ∧ (∀ (f : RG) (h : List AObj) (H : Value → List AObj → Prop),opW prog (Good prog J) p32_2_2 f.r h H = (H (f.r 32) h)) := ⟨by kernel_rfl,by kernel_rfl,by kernel_rfl,fun _ => by kernel_rfl,fun _ _ _ => by kernel_rfl⟩
noncomputable def ops32_3 : Array Oper := opsAt [1,1,1,0,1,0,0,1,1,0,0,1,1,0] (codeOf f32)
theorem z32_3 : ops32_3.size = 3 := by kernel_rfl
noncomputable def p32_3_0 : Oper := opGet ops32_3 0
theorem o32_3_0 {J : JT} : ops32_3[0]? = some p32_3_0 ∧ p32_3_0.dst = some 35 ∧ dstOk 50 p32_3_0 = true ∧ (∀ r,gd ops32_3 p32_3_0 r = some true) ∧ (∀ (f : RG) (h : List AObj) (H : Value → List AObj → Prop),opW prog (Good prog J) p32_3_0 f.r h H = (H (f.r 8) h)) := ⟨by kernel_rfl,by kernel_rfl,by kernel_rfl,fun _ => by kernel_rfl,fun _ _ _ => by kernel_rfl⟩
noncomputable def p32_3_1 : Oper := opGet ops32_3 1
theorem o32_3_1 {J : JT} : ops32_3[1]? = some p32_3_1 ∧ p32_3_1.dst = some 36 ∧ dstOk 50 p32_3_1 = true ∧ (∀ r,gd ops32_3 p32_3_1 r = some true) ∧ (∀ (f : RG) (h : List AObj) (H : Value → List AObj → Prop),opW prog (Good prog J) p32_3_1 f.r h H = (H (f.r 11) h)) := ⟨by kernel_rfl,by kernel_rfl,by kernel_rfl,fun _ => by kernel_rfl,fun _ _ _ => by kernel_rfl⟩
noncomputable def p32_3_2 : Oper := opGet ops32_3 2
theorem o32_3_2 {J : JT} : ops32_3[2]? = some p32_3_2 ∧ p32_3_2.dst = none ∧ dstOk 50 p32_3_2 = true ∧ (∀ r,gd ops32_3 p32_3_2 r = some true) ∧ (p32_3_2.op = (Go.Op.send (Go.Operand.tmp 35) (Go.Operand.tmp 36))) := ⟨by kernel_rfl,by kernel_rfl,by kernel_rfl,fun _ => by kernel_rfl,by kernel_rfl⟩
noncomputable def ops32_4 : Array Oper := opsAt [1,1,1,1,0] (codeOf f32)
theorem z32_4 : ops32_4.size = 2 := by kernel_rfl
noncomputable def p32_4_0 : Oper := opGet ops32_4 0
theorem o32_4_0 {J : JT} : ops32_4[0]? = some p32_4_0 ∧ p32_4_0.dst = some 38 ∧ dstOk 50 p32_4_0 = true ∧ (∀ r,gd ops32_4 p32_4_0 r = some true) ∧ (∀ (f : RG) (h : List AObj) (H : Value → List AObj → Prop),opW prog (Good prog J) p32_4_0 f.r h H = (H (f.r 8) h)) := ⟨by kernel_rfl,by kernel_rfl,by kernel_rfl,fun _ => by kernel_rfl,fun _ _ _ => by kernel_rfl⟩
noncomputable def p32_4_1 : Oper := opGet ops32_4 1
theorem o32_4_1 {J : JT} : ops32_4[1]? = some p32_4_1 ∧ p32_4_1.dst = none ∧ dstOk 50 p32_4_1 = true ∧ (∀ r,gd ops32_4 p32_4_1 r = some true) ∧ (p32_4_1.op = (Go.Op.call { callee := (Go.Callee.builtin Go.Builtin.close),args := #[(Go.Operand.tmp 38)],argTypes := #[95] })) := ⟨by kernel_rfl,by kernel_rfl,by kernel_rfl,fun _ => by kernel_rfl,by kernel_rfl⟩
noncomputable def ops32_5 : Array Oper := opsAt [1,1,1,1,1,1,0,1,0,0,0] (codeOf f32)
theorem z32_5 : ops32_5.size = 2 := by kernel_rfl
noncomputable def p32_5_0 : Oper := opGet ops32_5 0
theorem o32_5_0 {J : JT} : ops32_5[0]? = some p32_5_0 ∧ p32_5_0.dst = some 42 ∧ dstOk 50 p32_5_0 = true ∧ (∀ r,gd ops32_5 p32_5_0 r = some true) ∧ (p32_5_0.op = (Go.Op.recv 95 (Go.Operand.tmp 41) true)) := ⟨by kernel_rfl,by kernel_rfl,by kernel_rfl,fun _ => by kernel_rfl,by kernel_rfl⟩
noncomputable def p32_5_1 : Oper := opGet ops32_5 1
theorem o32_5_1 {J : JT} : ops32_5[1]? = some p32_5_1 ∧ p32_5_1.dst = some 43 ∧ dstOk 50 p32_5_1 = true ∧ (∀ r,gd ops32_5 p32_5_1 r = some true) ∧ (∀ (f : RG) (h : List AObj) (H : Value → List AObj → Prop),opW prog (Good prog J) p32_5_1 f.r h H = (aExt (f.r 42) 1 fun v1 =>
 H v1 h)) := ⟨by kernel_rfl,by kernel_rfl,by kernel_rfl,fun _ => by kernel_rfl,fun _ _ _ => by kernel_rfl⟩
def pl32t : Plans := [(1,false,.take 1 (.take 2 (.alt 0 true (.alt 3 false (.last 4 true (.last 5 true (.take 6 (.fin)))) (.last 4 true (.alt 3 false (.last 5 true (.take 6 (.fin))) (.last 5 true (.last 3 false (.take 6 (.fin))))))) (.alt 3 false (.alt 0 true (.last 4 true (.last 5 true (.take 6 (.fin)))) (.last 4 true (.last 0 true (.last 5 true (.take 6 (.fin)))))) (.last 4 true (.alt 0 true (.alt 3 false (.last 5 true (.take 6 (.fin))) (.last 5 true (.last 3 false (.take 6 (.fin))))) (.last 3 false (.last 0 true (.last 5 true (.take 6 (.fin)))))))))))]
def ct32t : Cuts := .bin (.go) (.bin (.go) (.bin (.go) (.bin (.go) (.bin (.go) (.bin (.go) (.bin (.go) (.cut (.go))))))))
theorem pok32t : plansOk prog pl32t (codeOf f32) = true := by kernel_rfl
theorem s32t_1 {f : RG} : W prog J 50 n0 32 (subC yp16 (codeOf f32)) f h (contX pl32t prog J 50 n0 32 ct32t yp16 (codeOf f32) [] (RetQ prog [.tmp 6] n0 K)) =
(retL n0 K f.ds [(f.r 12)] h) := sub_eq pok32t ct32t (by kernel_rfl)
end
section
variable {main : Bool} {J : JT} {n0 : Nat} {h : List AObj} {K : Value → List AObj → Prop}
theorem at48 : prog.funcs[48]? = some f48 := by kernel_rfl
theorem body48 : f48.body = some (codeOf f48) := by kernel_rfl
theorem q48_1 {f : RG} {fr : FuncId} {Q : QT} : W prog J 28 n0 fr (subC [0] (codeOf f48)) f h Q =
(Q .normal (RG.p f 5 (Value.int .u64 0)) h) := by kernel_rfl
theorem q48_2 {f : RG} {fr : FuncId} {Q : QT} : W prog J 28 n0 fr (subC [1,0,0] (codeOf f48)) f h Q =
(aLoad false 1 (f.r 0) h fun v1 =>
 aLenS v1 fun v2 =>
 Q .normal (RG.p (RG.p (RG.p f 8 v1) 9 v2) 10 (vint 0)) h) := by kernel_rfl
theorem q48_3 {f : RG} {fr : FuncId} {Q : QT} : W prog J 28 n0 fr (subC [1,0,1,0,0,0] (codeOf f48)) f h Q =
(aBin prog .lss 3 (f.r 10) (f.r 9) fun v1 =>
 Q .normal (RG.p f 11 v1) h) := by kernel_rfl
theorem q48_4 {f : RG} {fr : FuncId} {Q : QT} : W prog J 28 n0 fr (subC [1,0,1,0,0,1,0] (codeOf f48)) f h Q =
(cnd (f.r 11)
(Q .normal f h)
(Q (.exit 0) f h)) := by kernel_rfl
theorem q48_5 {f : RG} {fr : FuncId} {Q : QT} : W prog J 28 n0 fr (subC [1,0,1,0,0,1,1,0] (codeOf f48)) f h Q =
(aIdx 1 (f.r 8) (f.r 10) fun v1 =>
 aLoad false 1 v1 h fun v2 =>
 aLoad false 1 (f.r 1) h fun v3 =>
 aIdx 1 v3 v2 fun v4 =>
 aLoad false 1 v4 h fun v5 =>
 aBin prog .or 65 (f.r 5) v5 fun v6 =>
 Q .normal (RG.p (RG.p (RG.p (RG.p (RG.p (RG.p (RG.p (RG.p (RG.p (RG.p f 12 v1) 13 v2) 7 v2) 14 (f.r 5)) 15 v3) 16 v2) 17 v4) 18 v5) 19 v6) 5 v6) h) := by kernel_rfl
theorem q48_6 {f : RG} {fr : FuncId} {Q : QT} : W prog J 28 n0 fr (subC [1,0,1,0,0,1,1,1] (codeOf f48)) f h Q =
(aBin prog .add 3 (f.r 10) (vint 1) fun v1 =>
 Q .normal (RG.p (RG.p f 20 v1) 10 v1) h) := by kernel_rfl
theorem q48_7 {f : RG} {fr : FuncId} {Q : QT} : W prog J 28 n0 fr (subC [1,1,0] (codeOf f48)) f h Q =
(aLoad true 6 (f.r 2) h fun v1 =>
 Good prog J 36 [v1] h fun v2 h3 =>
 Good prog J 27 [v2,(f.r 5)] h3 fun v4 h5 =>
 Q .normal (RG.p (RG.p (RG.p (RG.p f 21 v1) 22 v2) 23 (f.r 5)) 24 v4) h5) := by kernel_rfl
noncomputable def ops48_1 : Array Oper := opsAt [1,1,1,0] (codeOf f48)
theorem r48_1 : subC [1,1,1,0] (codeOf f48) = .region 7 ops48_1 false := by kernel_rfl
theorem z48_1 : ops48_1.size = 3 := by kernel_rfl
noncomputable def p48_1_0 : Oper := opGet ops48_1 0
theorem o48_1_0 {J : JT} : ops48_1[0]? = some p48_1_0 ∧ p48_1_0.dst = some 25 ∧ dstOk 28 p48_1_0 = true ∧ (∀ r,gd ops48_1 p48_1_0 r = some true) ∧ (∀ (f : RG) (h : List AObj) (H : Value → List AObj → Prop),opW prog (Good prog J) p48_1_0 f.r h H = (aLoad false 1 (f.r 3) h fun v1 =>
 H v1 h)) := ⟨by kernel_rfl,by kernel_rfl,by kernel_rfl,fun _ => by kernel_rfl,fun _ _ _ => by kernel_rfl⟩
noncomputable def p48_1_1 : Oper := opGet ops48_1 1
theorem o48_1_1 {J : JT} : ops48_1[1]? = some p48_1_1 ∧ p48_1_1.dst = some 26 ∧ dstOk 28 p48_1_1 = true ∧ (∀ r,gd ops48_1 p48_1_1 r = some true) ∧ (∀ (f : RG) (h : List AObj) (H : Value → List AObj → Prop),opW prog (Good prog J) p48_1_1 f.r h H = (aLoad false 1 (f.r 4) h fun v1 =>
 H v1 h)) := ⟨by kernel_rfl,by kernel_rfl,by kernel_rfl,fun _ => by kernel_rfl,fun _ _ _ => by kernel_rfl⟩
noncomputable def p48_1_2 : Oper := opGet ops48_1 2
theorem o48_1_2 {J : JT} : ops48_1[2]? = some p48_1_2 ∧ p48_1_2.dst = none ∧ dstOk 28 p48_1_2 = true ∧ (∀ r,gd ops48_1 p48_1_2 r = some true) ∧ (p48_1_2.op = (Go.Op.send (Go.Operand.tmp 25) (Go.Operand.tmp 26))) := ⟨by kernel_rfl,by kernel_rfl,by kernel_rfl,fun _ => by kernel_rfl,by kernel_rfl⟩
noncomputable def ops48_2 : Array Oper := opsAt [1,1,1,1] (codeOf f48)
theorem r48_2 : subC [1,1,1,1] (codeOf f48) = .region 8 ops48_2 false := by kernel_rfl
theorem z48_2 : ops48_2.size = 2 := by kernel_rfl
noncomputable def p48_2_0 : Oper := opGet ops48_2 0
theorem o48_2_0 {J : JT} : ops48_2[0]? = some p48_2_0 ∧ p48_2_0.dst = some 27 ∧ dstOk 28 p48_2_0 = true ∧ (∀ r,gd ops48_2 p48_2_0 r = some true) ∧ (∀ (f : RG) (h : List AObj) (H : Value → List AObj → Prop),opW prog (Good prog J) p48_2_0 f.r h H = (aLoad false 1 (f.r 3) h fun v1 =>
 H v1 h)) := ⟨by kernel_rfl,by kernel_rfl,by kernel_rfl,fun _ => by kernel_rfl,fun _ _ _ => by kernel_rfl⟩
noncomputable def p48_2_1 : Oper := opGet ops48_2 1
theorem o48_2_1 {J : JT} : ops48_2[1]? = some p48_2_1 ∧ p48_2_1.dst = none ∧ dstOk 28 p48_2_1 = true ∧ (∀ r,gd ops48_2 p48_2_1 r = some true) ∧ (p48_2_1.op = (Go.Op.send (Go.Operand.tmp 27) (Go.Operand.const (Go.Value.int Go.IntKind.i64 (-1))))) := ⟨by kernel_rfl,by kernel_rfl,by kernel_rfl,fun _ => by kernel_rfl,by kernel_rfl⟩
end
end Go.Proofs.YtaceckiodofdkaaDoor
namespace Go.Proofs.YtaceckiodofdkaaDoor
open Go.Conc
def putAt {X : Type} (f : Nat → X) (i : Nat) (x : X) : Nat → X := fun j => if j = i then x else f j
theorem putAt_self {X : Type} (f : Nat → X) (i : Nat) (x : X) : putAt f i x i = x := by simp [putAt]
theorem putAt_ne {X : Type} (f : Nat → X) {i j : Nat} (x : X) (h : j ≠ i) : putAt f i x j = f j := by simp [putAt,h]
def Less {X : Type} (r : X → X → Prop) (n : Nat) (f' f : Nat → X) : Prop := ∃ i,i < n ∧ r (f' i) (f i) ∧ ∀ j,j ≠ i → f' j = f j
theorem less_acc {X : Type} (r : X → X → Prop) : ∀ (n : Nat) (f : Nat → X),(∀ i,i < n → Acc r (f i)) → Acc (Less r n) f
 | 0,f,_ => ⟨f,fun _ h => by obtain ⟨i,hi,_⟩ := h; omega⟩
 | n + 1,f,h => by
  have key : ∀ a,Acc r a → ∀ g : Nat → X,Acc (Less r n) g → Acc (Less r (n + 1)) (putAt g n a) := by
   intro a ha
   induction ha with
   | intro a _ iha =>
    intro g hg
    induction hg with
    | intro g hgs ihg =>
     refine ⟨_,fun y hy => ?_⟩
     obtain ⟨i,hi,hr,ho⟩ := hy
     by_cases hin : i = n
     ·subst hin
      rw [putAt_self] at hr
      have : y = putAt g i (y i) := by
       funext j
       by_cases hj : j = i
       ·subst hj; rw [putAt_self]
       ·rw [putAt_ne _ _ hj,ho j hj,putAt_ne _ _ hj]
      rw [this]
      exact iha (y i) hr g ⟨g,hgs⟩
     ·rw [putAt_ne _ _ hin] at hr
      have : y = putAt (putAt g i (y i)) n a := by
       funext j
       by_cases hj : j = n
       ·subst hj
        rw [putAt_self,ho j (fun e => hin e.symm),putAt_self]
       ·rw [putAt_ne _ _ hj]
        by_cases hji : j = i
        ·subst hji; rw [putAt_self]
        ·rw [putAt_ne _ _ hji,ho j hji,putAt_ne _ _ hj]
      rw [this]
      refine ihg _ ⟨i,by omega,by rw [putAt_self]; exact hr,fun j hj => putAt_ne _ _ hj⟩
  have e : f = putAt f n (f n) := by
   funext j
   by_cases hj : j = n
   ·subst hj; rw [putAt_self]
   ·rw [putAt_ne _ _ hj]
  rw [e]
  exact key (f n) (h n (by omega)) f (less_acc r n f fun i hi => h i (by omega))
inductive Toward (P : Program) (Stop : JT) : Goroutine → World → Foot → Prop where
 | stop {g : Goroutine} {w : World} {ft : Foot} : g.status = .running → (∀ w₁,RelyW ft w w₁ → Stop g w₁ ft) → Toward P Stop g w ft
 | step {g : Goroutine} {w : World} {ft : Foot} : g.status = .running → (∀ w₁,RelyW ft w w₁ → ∃ g' w' es,stepG P false g w₁ = .go g' w' es ∧ g'.status = .running ∧ GuarW ft w₁ w' es) →
  (∀ w₁ g' w' es,RelyW ft w w₁ → stepG P false g w₁ = .go g' w' es → Toward P Stop g' w' (ft.ext w₁.heap.size w'.heap.size)) → Toward P Stop g w ft
theorem Toward.running {P : Program} {Stop : JT} {g : Goroutine} {w : World} {ft : Foot} (h : Toward P Stop g w ft) : g.status = .running := by
 cases h with
 | stop h _ => exact h
 | step h _ _ => exact h
theorem Toward.rely {P : Program} {Stop : JT} {g : Goroutine} {w w₁ : World} {ft : Foot} (h : Toward P Stop g w ft) (hr : RelyW ft w w₁) : Toward P Stop g w₁ ft := by
 cases h with
 | stop h1 h2 => exact .stop h1 fun w₂ h₂ => h2 w₂ (hr.trans h₂)
 | step h1 h2 h3 => exact .step h1 (fun w₂ h₂ => h2 w₂ (hr.trans h₂)) fun w₂ g' w' es h₂ hs => h3 w₂ g' w' es (hr.trans h₂) hs
theorem Toward.closed (P : Program) (Stop : JT) : Closed P false (Toward P Stop) where
 rely := fun h hr => h.rely hr
 step := fun hrun h => .step hrun (fun w₁ h₁ => by
  obtain ⟨g',w',es,a,b,c,_⟩ := h w₁ h₁
  exact ⟨g',w',es,a,b,c⟩) fun w₁ g' w' es h₁ hs => by
  obtain ⟨g2,w2,es2,a,b,c,d⟩ := h w₁ h₁
  rw [hs] at a
  cases a
  exact d
inductive WS where
 | quit (n : Nat)
 | way (w : World) (ft : Foot)
 | park
inductive WLt (P : Program) : Goroutine × WS → Goroutine × WS → Prop where
 | step {g g' : Goroutine} {w w₁ w' : World} {ft : Foot} {es : Array Event} : RelyW ft w w₁ → stepG P false g w₁ = .go g' w' es → WLt P (g',.way w' (ft.ext w₁.heap.size w'.heap.size)) (g,.way w ft)
 | quit {g g' : Goroutine} {w : World} {ft : Foot} {n : Nat} : WLt P (g',.quit n) (g,.way w ft)
 | park {g g' : Goroutine} {w : World} {ft : Foot} : WLt P (g',.park) (g,.way w ft)
 | out {g g' : Goroutine} {n : Nat} : WLt P (g',.quit n) (g,.park)
 | less {g g' : Goroutine} {n m : Nat} : n < m → WLt P (g',.quit n) (g,.quit m)
theorem acc_quit (P : Program) : ∀ (n : Nat) (g : Goroutine),Acc (WLt P) (g,.quit n) := by
 intro n
 induction n using Nat.strongRecOn with
 | ind n ih =>
  intro g
  refine ⟨_,fun y hy => ?_⟩
  cases hy with
  | less h => exact ih _ h _
theorem acc_park (P : Program) (g : Goroutine) : Acc (WLt P) (g,.park) :=
 ⟨_,fun y hy => by cases hy with | out => exact acc_quit P _ _⟩
def Halts (P : Program) (Stop : JT) : Prop := ∀ g w ft g' w' es,Stop g w ft → stepG P false g w ≠ .go g' w' es
theorem acc_way {P : Program} {Stop : JT} (hS : Halts P Stop) {g : Goroutine} {w : World} {ft : Foot} (h : Toward P Stop g w ft) : Acc (WLt P) (g,.way w ft) := by
 induction h with
 | stop h1 h2 =>
  refine ⟨_,fun y hy => ?_⟩
  cases hy with
  | step hr hs => exact absurd hs (hS _ _ _ _ _ _ (h2 _ hr))
  | quit => exact acc_quit P _ _
  | park => exact acc_park P _
 | step h1 h2 _ ih =>
  refine ⟨_,fun y hy => ?_⟩
  cases hy with
  | step hr hs => exact ih _ _ _ _ hr hs
  | quit => exact acc_quit P _ _
  | park => exact acc_park P _
def locBlk : Loc → Option Nat
 | .cell a => some a.block
 | .obj r => some r
 | _ => none
def KnowsOk (t : Trace) (x : Nat) (ft : Foot) : Prop :=
 ∀ i a,touchAt t i = some a → a.loc.isMemory = true → Knows t x i ∨ ∀ b,locBlk a.loc = some b → ¬ ft.wr b ∧ (a.write = true → ¬ ft.rd b)
theorem evOk_touch {ft : Foot} {e : Event} {a : Touch} (he : EvOk ft e) (ha : (MemAct.ofEvent e).touch? = some a) : ∃ b,locBlk a.loc = some b ∧ ft.rd b ∧ (a.write = true → ft.wr b) := by
 obtain ⟨loc,wr,sync⟩ := e
 unfold EvOk at he
 cases loc with
 | cell x =>
  simp only at he
  simp only [MemAct.ofEvent,MemAct.touch?,Option.some.injEq] at ha
  subst ha
  exact ⟨_,rfl,he.2.1,he.2.2⟩
 | obj r =>
  obtain ⟨rfl,h1,h2⟩ := he
  cases wr <;> (simp only [MemAct.ofEvent,MemAct.touch?,Option.some.injEq] at ha; subst ha; exact ⟨_,rfl,h1,h2⟩)
 | mark m => cases m <;> first | exact he.elim | (simp [MemAct.ofEvent,MemAct.touch?] at ha)
 | output => exact he.elim
 | goroutines => exact he.elim
theorem touch_low {x : MemAct} {a : Touch} {n b : Nat} (hl : x.low n) (ha : x.touch? = some a) (hb : locBlk a.loc = some b) : b < n := by
 cases x with
 | access e =>
  obtain ⟨loc,wr,sy⟩ := e
  simp only [MemAct.touch?,Option.some.injEq] at ha
  subst ha
  cases loc with
  | cell x => injection hb with hb; subst hb; exact hl
  | obj x => injection hb with hb; subst hb; exact hl
  | _ => cases hb
 | mark mk =>
  cases mk with
  | read x => injection ha with ha; subst ha; injection hb with hb; subst hb; exact hl
  | write x => injection ha with ha; subst ha; injection hb with hb; subst hb; exact hl
  | _ => cases ha
 | _ => cases ha
theorem touch_app {t u : Trace} {i : Nat} {a : Touch} (h : touchAt (t ++ u) i = some a) : (i < t.size ∧ touchAt t i = some a) ∨ ∃ op ∈ u,(t ++ u)[i]? = some op ∧ op.act.touch? = some a := by
 obtain ⟨x,hx,hxa⟩ := touch_of h
 rcases getElem?_append_cases hx with ⟨hi,hx'⟩ | ⟨_,hxu⟩
 ·exact .inl ⟨hi,by rw [touchAt_of hx']; exact hxa⟩
 ·exact .inr ⟨x,hxu,hx,hxa⟩
theorem conf_blk {said : Bool} {a b : Touch} (h : a.conflicts said b) : locBlk a.loc = locBlk b.loc ∧ a.loc.isMemory = true ∧ (a.write = true ∨ b.write = true) := ⟨by rw [h.1],h.2.1,h.2.2.1⟩
section
variable {t u : Trace} {x y : Nat} {ft fy : Foot} {fn : FuncId} {pos : String} {es : Array Event}
theorem KnowsOk.noRace {said : Bool} (hc : ¬ Race said t) (hk : KnowsOk t x ft) (he : ∀ e ∈ es,EvOk ft e) : ¬ Race said (t ++ MemOp.ofEvents x fn pos es) := by
 refine noRace_append hc (fun op hop => mem_g hop) fun i a ha op hop b hb hcf => ?_
 obtain ⟨e,hee,rfl⟩ := Go.Conc.mem_ofEvents hop
 obtain ⟨bl,h1,h2,h3⟩ := evOk_touch (he e hee) hb
 obtain ⟨c1,c2,c3⟩ := conf_blk hcf
 rcases hk i a ha c2 with h | h
 ·exact h
 ·obtain ⟨n1,n2⟩ := h bl (by rw [c1]; exact h1)
  rcases c3 with c | c
  ·exact absurd h2 (n2 c)
  ·exact absurd (h3 c) n1
theorem KnowsOk.mute (hk : KnowsOk t y fy) (hu : ∀ op ∈ u,op.act.touch? = none) : KnowsOk (t ++ u) y fy := by
 intro i a ha hm
 rcases touch_app ha with ⟨hi,h⟩ | ⟨op,hop,_,h⟩
 ·exact (hk i a h hm).imp (·.app u) id
 ·rw [hu op hop] at h; cases h
theorem KnowsOk.other (hk : KnowsOk t y fy) (he : ∀ e ∈ es,EvOk ft e) (d1 : ∀ b,ft.wr b → ¬ fy.rd b) (d2 : ∀ b,fy.wr b → ¬ ft.rd b) : KnowsOk (t ++ MemOp.ofEvents x fn pos es) y fy := by
 intro i a ha hm
 rcases touch_app ha with ⟨hi,h⟩ | ⟨op,hop,_,h⟩
 ·exact (hk i a h hm).imp (·.app _) id
 ·obtain ⟨e,hee,rfl⟩ := Go.Conc.mem_ofEvents hop
  obtain ⟨bl,h1,h2,h3⟩ := evOk_touch (he e hee) h
  refine .inr fun b hb => ?_
  rw [h1] at hb
  cases hb
  exact ⟨fun hw => d2 _ hw h2,fun hw => d1 _ (h3 hw)⟩
theorem KnowsOk.own {n m : Nat} (hk : KnowsOk t x ft) (_he : ∀ e ∈ es,EvOk ft e) (hs : ∀ op ∈ t,op.act.low n) : KnowsOk (t ++ MemOp.ofEvents x fn pos es) x (ft.ext n m) := by
 intro i a ha hm
 rcases touch_app ha with ⟨hi,h⟩ | ⟨op,hop,hg,h⟩
 ·rcases hk i a h hm with hh | hh
  ·exact .inl (hh.app _)
  ·refine .inr fun b hb => ?_
   obtain ⟨n1,n2⟩ := hh b hb
   have hlow : b < n := by
    obtain ⟨z,hz,hza⟩ := touch_of h
    exact touch_low (hs z (Array.mem_of_getElem? hz)) hza hb
   exact ⟨fun hw => hw.elim n1 (fun e => by omega),fun hw hr => hr.elim (n2 hw) fun e => by omega⟩
 ·have := knows_own hg
  rw [mem_g hop] at this
  exact .inl this
theorem KnowsOk.less {f' : Foot} (hk : KnowsOk t x ft) (h1 : ∀ b,f'.rd b → ft.rd b) (h2 : ∀ b,f'.wr b → ft.wr b) : KnowsOk t x f' := fun i a ha hm =>
 (hk i a ha hm).imp id fun hh b hb => ⟨fun hw => (hh b hb).1 (h2 b hw),fun hw hr => (hh b hb).2 hw (h1 b hr)⟩
theorem low_events {n : Nat} (he : ∀ e ∈ es,EvOk ft e) (hb : ∀ b,ft.rd b → b < n) : ∀ op ∈ MemOp.ofEvents x fn pos es,op.act.low n := fun op hop => by
 obtain ⟨e,hee,rfl⟩ := Go.Conc.mem_ofEvents hop
 exact (evL_of (he e hee) hb).2.2.2
end
structure Crew where
 ch : Nat → Option (Nat × Array Value × Bool)
 c : Nat
 pend : List Nat
 phi : Nat → Value → Prop
def AtSend (P : Program) (c : Nat) (Φ : Value → Prop) : JT := fun g w _ =>
 ∃ g₂ v z,stepG P false g w = .comm g₂ #[scase c v z] true .send w #[] ∧ Φ v ∧ ∃ n,QuitsD P n 0 (Conc.served g₂ undef)
theorem atSend_halts (P : Program) (c : Nat) (Φ : Value → Prop) : Halts P (AtSend P c Φ) := fun g w ft g' w' es h e => by
 obtain ⟨g₂,v,z,h,_⟩ := h
 rw [h] at e
 cases e
structure WayOk (P : Program) (T : Crew) (t : Trace) (i k : Nat) (ft : Foot) (w : World) (g : Goroutine) (wi : World) (fi : Foot) : Prop where
 way : Toward P (AtSend P T.c (T.phi k)) g wi fi
 rely : RelyW fi wi w
 lt : ∀ b,fi.rd b → b < w.heap.size
 sub : ∀ b,fi.wr b → fi.rd b
 ch : ∀ b x,T.ch b = some x → ¬ fi.rd b
 d1 : ∀ b,fi.wr b → ¬ ft.rd b
 d2 : ∀ b,ft.wr b → ¬ fi.rd b
 know : KnowsOk t i fi
def ParkOk (P : Program) (T : Crew) (k : Nat) (g : Goroutine) : Prop := ∃ g₂ v z,g = parked g₂ #[scase T.c v z] .send ∧ T.phi k v ∧ ∃ n,QuitsD P n 0 (Conc.served g₂ undef)
structure Inv (P : Program) (W0 : World) (T : Crew) (ft : Foot) (gs : Array Goroutine) (w : World) (t : Trace) (st : Nat → WS) (ix : Nat → Nat) : Prop where
 base : Base W0 w
 lt : ∀ b,ft.rd b → b < w.heap.size
 sub : ∀ b,ft.wr b → ft.rd b
 chan : ∀ b x,T.ch b = some x → ∃ s r tm,w.heap[b]? = some (.chan x.1 x.2.1 x.2.2 s r tm)
 cnt : ∀ b x s r tm,T.ch b = some x → w.heap[b]? = some (.chan x.1 x.2.1 x.2.2 s r tm) → s = r + x.2.1.size
 chft : ∀ b x,T.ch b = some x → ¬ ft.rd b
 own : T.pend ≠ [] → T.ch T.c = some (0,#[],false)
 nd : T.pend.Nodup
 ixr : ∀ k ∈ T.pend,0 < ix k ∧ ix k < gs.size
 inj : ∀ k ∈ T.pend,∀ l ∈ T.pend,ix k = ix l → k = l
 pnd : ∀ k ∈ T.pend,∃ g,gs[ix k]? = some g ∧ Deaf t (ix k) = 0 ∧ ((∃ wi fi,st (ix k) = .way wi fi ∧ WayOk P T t (ix k) k ft w g wi fi) ∨ (st (ix k) = .park ∧ ParkOk P T k g))
 old : ∀ i g,0 < i → gs[i]? = some g → (∀ k ∈ T.pend,ix k ≠ i) → ∃ n,st i = .quit n ∧ QuitsD P n (Deaf t i) g
 disj : ∀ k ∈ T.pend,∀ l ∈ T.pend,k ≠ l → ∀ wk fk wl fl,st (ix k) = .way wk fk → st (ix l) = .way wl fl → ∀ b,fk.wr b → ¬ fl.rd b
 above : ∀ j,gs.size ≤ j → Deaf t j = 0
 hears : Deaf t 0 = 0
 clean : ∀ said,¬ Race said t
 known : KnowsOk t 0 ft
 done : ∀ i a,touchAt t i = some a → a.loc.isMemory = true → Knows t 0 i ∨ ∃ k ∈ T.pend,t.g? i = some (ix k)
 seen : ∀ op ∈ t,op.act.low w.heap.size
def MainOk (T : Crew) (g : Goroutine) : Prop := g.status = .running ∨ ∃ g₂ z sh,g = parked g₂ #[rcase T.c z] sh ∧ T.ch T.c = some (0,#[],false)
def JC (P : Program) (W0 : World) (Post : Value → World → Prop) (T : Crew) (g : Goroutine) (w : World) (ft : Foot) : Prop :=
 ∀ (gs : Array Goroutine) (w₁ : World) (sl : Option (Nat × Nat)) (t : Trace) (st : Nat → WS) (ix : Nat → Nat),RelyW ft w w₁ → gs[0]? = some g → Inv P W0 T ft gs w₁ t st ix → Ends P Post (crowd gs w₁ sl) t
section
variable {P : Program} {W0 : World} {Post : Value → World → Prop} {T : Crew} {g : Goroutine} {w w₁ w' : World} {ft : Foot} {gs : Array Goroutine} {t : Trace} {st : Nat → WS} {ix : Nat → Nat} {i : Nat} {sl : Option (Nat × Nat)}
theorem Inv.at (I : Inv P W0 T ft gs w t st ix) (d : Nat) : Inv P W0 T ft gs (w.at d) t st ix where
 base := ⟨I.base.tape,I.base.os,I.base.output,I.base.size⟩
 lt := I.lt
 sub := I.sub
 chan := I.chan
 cnt := I.cnt
 chft := I.chft
 own := I.own
 nd := I.nd
 ixr := I.ixr
 inj := I.inj
 pnd := fun k hk => by
  obtain ⟨g,h1,h2,h3⟩ := I.pnd k hk
  refine ⟨g,h1,h2,h3.imp (fun ⟨wi,fi,e,W⟩ => ⟨wi,fi,e,?_⟩) id⟩
  exact ⟨W.way,W.rely.trans (relyW_at fi w d),W.lt,W.sub,W.ch,W.d1,W.d2,W.know⟩
 old := I.old
 disj := I.disj
 above := I.above
 hears := I.hears
 clean := I.clean
 known := I.known
 done := I.done
 seen := I.seen
theorem moved_get {f : Goroutine → Goroutine} {g' : Goroutine} {j : Nat} {y : Goroutine} (hne : i ≠ j) (h : ((gs.map f).setIfInBounds i g')[j]? = some y) : ∃ z,gs[j]? = some z ∧ y = f z := by
 rw [Array.getElem?_setIfInBounds_ne hne,Array.getElem?_map] at h
 obtain ⟨z,hz,e⟩ := Option.map_eq_some_iff.1 h
 exact ⟨z,hz,e.symm⟩
theorem moved_put {f : Goroutine → Goroutine} {g' : Goroutine} {j : Nat} {z : Goroutine} (hne : i ≠ j) (h : gs[j]? = some z) (e : f z = z) : ((gs.map f).setIfInBounds i g')[j]? = some z := by
 rw [Array.getElem?_setIfInBounds_ne hne,Array.getElem?_map,h]
 simp [e]
theorem moved_own {f : Goroutine → Goroutine} {g g' : Goroutine} (h : gs[i]? = some g) : ((gs.map f).setIfInBounds i g')[i]? = some g' := by
 have hlt := (Array.getElem?_eq_some_iff.1 h).1
 rw [Array.getElem?_setIfInBounds_self_of_lt (by simpa using hlt)]
theorem main_still {x g' : Goroutine} (hm : MainOk T g) (hc : T.ch T.c = some (0,#[],false) → ∃ s r tm,w'.heap[T.c]? = some (.chan 0 #[] false s r tm)) : woken P x g' w' g = g := by
 rcases hm with h | ⟨g₂,z,sh,rfl,h⟩
 ·exact woken_run h
 ·obtain ⟨s,r,tm,h⟩ := hc h
  exact woken_recv_open _ _ h
theorem pend_still {x g' y : Goroutine} {k : Nat} (_hc : T.ch T.c = some (0,#[],false)) (hch : ∃ s r tm,w'.heap[T.c]? = some (.chan 0 #[] false s r tm)) (h : (∃ wi fi,WayOk P T t i k ft w y wi fi) ∨ ParkOk P T k y) : woken P x g' w' y = y := by
 rcases h with ⟨wi,fi,W⟩ | ⟨g₂,v,z,rfl,_⟩
 ·exact woken_run W.way.running
 ·obtain ⟨s,r,tm,h⟩ := hch
  exact woken_send_open _ _ h
theorem deaf_evs {fi : Foot} {fn : FuncId} {pos : String} {es : Array Event} {n : Nat} (he : ∀ e ∈ es,EvOk fi e) (hb : ∀ b,fi.rd b → b < n) (j : Nat) : Deaf (t ++ MemOp.ofEvents i fn pos es) j = Deaf t j := by
 by_cases h : i = j
 ·subst h
  rw [Deaf_own]
  exact deafBehind_still (fun e hm => ⟨(evL_of (he e hm) hb).2.1,(evL_of (he e hm) hb).2.2.1⟩) _
 ·rw [Deaf_other t h _ (fun op hop => mem_g hop)]
theorem g_app {u : Trace} {j : Nat} {y : Nat} (h : t.g? j = some y) : (t ++ u).g? j = some y := by
 unfold Trace.g? at h ⊢
 obtain ⟨z,hz,e⟩ := Option.map_eq_some_iff.1 h
 rw [getElem?_append_old (lt_size_of_getElem? hz),hz]
 simp [e]
theorem done_mute {u : Trace} (hd : ∀ i a,touchAt t i = some a → a.loc.isMemory = true → Knows t 0 i ∨ ∃ k ∈ T.pend,t.g? i = some (ix k)) (hu : ∀ op ∈ u,op.act.touch? = none) :
  ∀ i a,touchAt (t ++ u) i = some a → a.loc.isMemory = true → Knows (t ++ u) 0 i ∨ ∃ k ∈ T.pend,(t ++ u).g? i = some (ix k) := by
 intro i a ha hm
 rcases touch_app ha with ⟨_,h⟩ | ⟨op,hop,_,h⟩
 ·exact (hd i a h hm).imp (·.app u) fun ⟨k,hk,e⟩ => ⟨k,hk,g_app e⟩
 ·rw [hu op hop] at h; cases h
theorem Inv.quit (I : Inv P W0 T ft gs w t st ix) {x g' : Goroutine} {es : Array Event} {m : Nat} (hpos : 0 < i) (hi : gs[i]? = some x) (hn : ∀ k ∈ T.pend,ix k ≠ i) (hm : ∀ e ∈ es,Event.mute e = true)
  (hq : QuitsD P m (deafBehind (Deaf t i) es) g') : Inv P W0 T ft ((gs.map (woken P x g' w)).setIfInBounds i g') w (t ++ MemOp.ofEvents i x.frame.fn x.frame.place es) (putAt st i (.quit m)) ix := by
 have htn : ∀ op ∈ MemOp.ofEvents i x.frame.fn x.frame.place es,op.act.touch? = none := fun op hop => by
  obtain ⟨e,he,rfl⟩ := Go.Conc.mem_ofEvents hop
  exact touch_mute (hm e he)
 have hdo : ∀ j,i ≠ j → Deaf (t ++ MemOp.ofEvents i x.frame.fn x.frame.place es) j = Deaf t j := fun j hj => Deaf_other t hj _ (fun op hop => mem_g hop)
 have hlt : i < gs.size := (Array.getElem?_eq_some_iff.1 hi).1
 refine { base := I.base,lt := I.lt,sub := I.sub,chan := I.chan,cnt := I.cnt,chft := I.chft,own := I.own,nd := I.nd,ixr := fun k hk => ?_,inj := I.inj,pnd := fun k hk => ?_,old := fun j y hj hy hnj => ?_,disj := fun k hk l hl hkl wk fk wl fl e1 e2 => ?_,above := fun j hj => ?_,hears := ?_,clean := fun said => ?_,known := I.known.mute htn,done := done_mute I.done htn,seen := ?_ }
 ·simpa using I.ixr k hk
 ·obtain ⟨y,h1,h2,h3⟩ := I.pnd k hk
  have hne : i ≠ ix k := fun e => hn k hk e.symm
  have hown := I.own (List.ne_nil_of_mem hk)
  have hst : woken P x g' w y = y := pend_still (t := t) (i := ix k) (ft := ft) (w := w) hown (I.chan _ _ hown) (h3.imp (fun ⟨a,b,_,c⟩ => ⟨a,b,c⟩) fun h => h.2)
  refine ⟨y,moved_put hne h1 hst,by rw [hdo _ hne]; exact h2,?_⟩
  rw [putAt_ne _ _ (Ne.symm hne)]
  refine h3.imp (fun ⟨wi,fi,e,W⟩ => ⟨wi,fi,e,W.way,W.rely,W.lt,W.sub,W.ch,W.d1,W.d2,W.know.mute htn⟩) id
 ·by_cases hji : i = j
  ·subst hji
   rw [moved_own hi] at hy
   cases hy
   exact ⟨m,putAt_self _ _ _,by rw [Deaf_own]; exact hq⟩
  ·obtain ⟨z,hz,rfl⟩ := moved_get hji hy
   obtain ⟨n,e,hqz⟩ := I.old j z hj hz hnj
   refine ⟨n,by rw [putAt_ne _ _ (Ne.symm hji)]; exact e,?_⟩
   rw [woken_quitsD hqz,hdo _ hji]
   exact hqz
 ·rw [putAt_ne _ _ (hn k hk)] at e1
  rw [putAt_ne _ _ (hn l hl)] at e2
  exact I.disj k hk l hl hkl wk fk wl fl e1 e2
 ·have : i ≠ j := by simp at hj; omega
  rw [hdo _ this]
  exact I.above j (by simpa using hj)
 ·rw [hdo _ (by omega)]
  exact I.hears
 ·exact noRace_append (I.clean said) (fun op hop => mem_g hop) fun _ _ _ op hop b hb _ => by rw [htn op hop] at hb; cases hb
 ·exact seen_app I.seen fun op hop => by
   obtain ⟨e,he,rfl⟩ := Go.Conc.mem_ofEvents hop
   exact low_mute (hm e he) _
theorem Inv.walk (I : Inv P W0 T ft gs w t st ix) {k : Nat} (hk : k ∈ T.pend) {x g' : Goroutine} {es : Array Event} {wi : World} {fi : Foot} (hi : gs[ix k]? = some x) (hst : st (ix k) = .way wi fi) (W : WayOk P T t (ix k) k ft w x wi fi)
  (hgu : GuarW fi w w' es) (hto : Toward P (AtSend P T.c (T.phi k)) g' w' (fi.ext w.heap.size w'.heap.size)) :
  Inv P W0 T ft ((gs.map (woken P x g' w')).setIfInBounds (ix k) g') w' (t ++ MemOp.ofEvents (ix k) x.frame.fn x.frame.place es) (putAt st (ix k) (.way w' (fi.ext w.heap.size w'.heap.size))) ix := by
 have hsz := hgu.size
 have hdf := fun j => deaf_evs (t := t) (i := ix k) (fn := x.frame.fn) (pos := x.frame.place) hgu.evs W.lt j
 have hch : ∀ b y,T.ch b = some y → ∃ s r tm,w'.heap[b]? = some (.chan y.1 y.2.1 y.2.2 s r tm) := fun b y hb => by
  obtain ⟨s,r,tm,e⟩ := I.chan b y hb
  have hlt : b < w.heap.size := (Array.getElem?_eq_some_iff.1 e).1
  exact ⟨s,r,tm,by rw [hgu.heap b hlt fun hw => W.ch b y hb (W.sub b hw)]; exact e⟩
 have hcnt : ∀ b y s r tm,T.ch b = some y → w'.heap[b]? = some (.chan y.1 y.2.1 y.2.2 s r tm) → s = r + y.2.1.size := fun b y s r tm hb hw' => by
  obtain ⟨s',r',tm',e⟩ := I.chan b y hb
  have hlt : b < w.heap.size := (Array.getElem?_eq_some_iff.1 e).1
  rw [hgu.heap b hlt fun hw => W.ch b y hb (W.sub b hw)] at hw'
  exact I.cnt b y s r tm hb hw'
 have hown := I.own (List.ne_nil_of_mem hk)
 have other : ∀ {fy : Foot},(∀ b,fi.wr b → ¬ fy.rd b) → (∀ b,fy.rd b → b < w.heap.size) → ∀ b,fy.rd b → w'.heap[b]? = w.heap[b]? := fun hd hl b hb => hgu.heap b (hl b hb) fun hw => hd b hw hb
 refine { base := ⟨hgu.tape.trans I.base.tape,hgu.os.trans I.base.os,hgu.output.trans I.base.output,Nat.le_trans I.base.size hsz⟩,lt := fun b hb => Nat.lt_of_lt_of_le (I.lt b hb) hsz,sub := I.sub,chan := hch,cnt := hcnt,chft := I.chft,own := I.own,nd := I.nd,ixr := fun l hl => ?_,inj := I.inj,pnd := fun l hl => ?_,old := fun j y hj hy hnj => ?_,disj := fun a ha b hb hab wa fa wb fb e1 e2 => ?_,above := fun j hj => ?_,hears := ?_,clean := fun said => W.know.noRace (I.clean said) hgu.evs,known := I.known.other hgu.evs W.d1 W.d2,done := fun j a ha hm => ?_,seen := ?_ }
 ·simpa using I.ixr l hl
 ·by_cases hlk : l = k
  ·subst hlk
   refine ⟨g',moved_own hi,by rw [hdf]; obtain ⟨_,_,h2,_⟩ := I.pnd l hk; exact h2,.inl ⟨w',_,putAt_self _ _ _,?_⟩⟩
   refine ⟨hto,RelyW.refl _ _,fun b hb => ?_,fun b hb => ?_,fun b y hb hr => ?_,fun b hb hr => ?_,fun b hb hr => ?_,W.know.own hgu.evs I.seen⟩
   ·rcases hb with hb | hb
    ·exact Nat.lt_of_lt_of_le (W.lt b hb) hsz
    ·exact hb.2
   ·rcases hb with hb | hb
    ·exact .inl (W.sub b hb)
    ·exact .inr hb
   ·rcases hr with hr | hr
    ·exact W.ch b y hb hr
    ·obtain ⟨s,r,tm,e⟩ := I.chan b y hb
     have hlt : b < w.heap.size := (Array.getElem?_eq_some_iff.1 e).1
     omega
   ·rcases hb with hb | hb
    ·exact W.d1 b hb hr
    ·have := I.lt b hr
     omega
   ·rcases hr with hr | hr
    ·exact W.d2 b hb hr
    ·have := I.lt b (I.sub b hb)
     omega
  ·obtain ⟨y,h1,h2,h3⟩ := I.pnd l hl
   have hne : ix k ≠ ix l := fun e => hlk (I.inj k hk l hl e).symm
   have hst' : woken P x g' w' y = y := pend_still (t := t) (i := ix l) (ft := ft) (w := w) hown (hch _ _ hown) (h3.imp (fun ⟨a,b,_,c⟩ => ⟨a,b,c⟩) fun h => h.2)
   refine ⟨y,moved_put hne h1 hst',by rw [hdf]; exact h2,?_⟩
   rw [putAt_ne _ _ (Ne.symm hne)]
   refine h3.imp (fun ⟨wl,fl,e,V⟩ => ⟨wl,fl,e,?_⟩) id
   have hd := I.disj k hk l hl (fun e => hlk e.symm) wi fi wl fl hst e
   have hd' := I.disj l hl k hk hlk wl fl wi fi e hst
   exact ⟨V.way,V.rely.trans ⟨fun b hb => other hd V.lt b hb,hsz,hgu.tape,hgu.os,hgu.output⟩,fun b hb => Nat.lt_of_lt_of_le (V.lt b hb) hsz,V.sub,V.ch,V.d1,V.d2,V.know.other hgu.evs hd hd'⟩
 ·by_cases hji : ix k = j
  ·exact absurd hji (hnj k hk)
  ·obtain ⟨z,hz,rfl⟩ := moved_get hji hy
   obtain ⟨n,e,hqz⟩ := I.old j z hj hz hnj
   refine ⟨n,by rw [putAt_ne _ _ (Ne.symm hji)]; exact e,?_⟩
   rw [woken_quitsD hqz,hdf]
   exact hqz
 ·have low : ∀ l,l ∈ T.pend → ∀ wl fl,st (ix l) = .way wl fl → ∀ b,fl.rd b → b < w.heap.size := fun l hl wl fl e => by
   obtain ⟨y,_,_,h3⟩ := I.pnd l hl
   rcases h3 with ⟨_,_,e',V⟩ | ⟨e',_⟩
   ·rw [e] at e'
    cases e'
    exact V.lt
   ·rw [e] at e'
    cases e'
  have sub : ∀ l,l ∈ T.pend → ∀ wl fl,st (ix l) = .way wl fl → ∀ b,fl.wr b → fl.rd b := fun l hl wl fl e => by
   obtain ⟨y,_,_,h3⟩ := I.pnd l hl
   rcases h3 with ⟨_,_,e',V⟩ | ⟨e',_⟩
   ·rw [e] at e'
    cases e'
    exact V.sub
   ·rw [e] at e'
    cases e'
  by_cases hak : a = k
  ·subst hak
   rw [putAt_self] at e1
   cases e1
   have hne : ix b ≠ ix a := fun e => hab (I.inj b hb a ha e).symm
   rw [putAt_ne _ _ hne] at e2
   intro y hy hr
   rcases hy with hy | hy
   ·exact I.disj a ha b hb hab wi fi wb fb hst e2 y hy hr
   ·have := low b hb wb fb e2 y hr
    omega
  ·have hne : ix a ≠ ix k := fun e => hak (I.inj a ha k hk e)
   rw [putAt_ne _ _ hne] at e1
   by_cases hbk : b = k
   ·subst hbk
    rw [putAt_self] at e2
    cases e2
    intro y hy hr
    rcases hr with hr | hr
    ·exact I.disj a ha b hb hab wa fa wi fi e1 hst y hy hr
    ·have := low a ha wa fa e1 y (sub a ha wa fa e1 y hy)
     omega
   ·have hne' : ix b ≠ ix k := fun e => hbk (I.inj b hb k hk e)
    rw [putAt_ne _ _ hne'] at e2
    exact I.disj a ha b hb hab wa fa wb fb e1 e2
 ·rw [hdf]
  exact I.above j (by simpa using hj)
 ·rw [hdf]
  exact I.hears
 ·rcases touch_app ha with ⟨_,h⟩ | ⟨op,hop,hg,h⟩
  ·exact (I.done j a h hm).imp (·.app _) fun ⟨l,hl,e⟩ => ⟨l,hl,g_app e⟩
  ·refine .inr ⟨k,hk,?_⟩
   unfold Trace.g?
   rw [hg]
   simp [mem_g hop]
 ·exact seen_app (fun op hop => MemAct.low_mono hsz (I.seen op hop)) fun op hop => MemAct.low_mono hsz (low_events hgu.evs W.lt op hop)
end
def Crew.less (T : Crew) (k : Nat) : Crew := { T with pend := T.pend.erase k }
def meas (gs : Array Goroutine) (st : Nat → WS) : Nat → Goroutine × WS := fun i => if i = 0 then (default,.quit 0) else (gs.getD i default,st i)
section
variable {P : Program} {W0 : World} {Post : Value → World → Prop} {T : Crew} {g g0 : Goroutine} {w w₁ w' : World} {ft : Foot} {gs gs' : Array Goroutine} {t : Trace} {st st' : Nat → WS} {ix : Nat → Nat} {i k : Nat} {sl : Option (Nat × Nat)}
theorem meas_acc (I : Inv P W0 T ft gs w t st ix) : Acc (Less (WLt P) gs.size) (meas gs st) := by
 refine less_acc _ _ _ fun j hj => ?_
 by_cases h0 : j = 0
 ·have e : meas gs st j = (default,.quit 0) := if_pos h0
  rw [e]
  exact acc_quit P _ _
 ·have e : meas gs st j = (gs.getD j default,st j) := if_neg h0
  rw [e]
  clear e
  have hg : gs[j]? = some gs[j] := Array.getElem?_eq_getElem hj
  have hd : gs.getD j default = gs[j] := by rw [Array.getD_eq_getD_getElem?,hg]; rfl
  rw [hd]
  by_cases hp : ∃ k ∈ T.pend,ix k = j
  ·obtain ⟨k,hk,rfl⟩ := hp
   obtain ⟨y,h1,_,h3⟩ := I.pnd k hk
   rw [hg] at h1
   cases h1
   rcases h3 with ⟨wi,fi,e,W⟩ | ⟨e,_⟩
   ·rw [e]
    exact acc_way (atSend_halts P _ _) W.way
   ·rw [e]
    exact acc_park P _
  ·obtain ⟨n,e,_⟩ := I.old j gs[j] (by omega) hg fun k hk e => hp ⟨k,hk,e⟩
   rw [e]
   exact acc_quit P _ _
theorem meas_less (hi : i < gs.size) (h0 : 0 < i) (_hs : gs'.size = gs.size) {x y : Goroutine} {a b : WS} (hx : gs[i]? = some x) (hy : gs'[i]? = some y) (ha : st i = a) (hb : st' i = b) (hr : WLt P (y,b) (x,a))
  (ho : ∀ j,0 < j → j ≠ i → gs'[j]? = gs[j]? ∧ st' j = st j) : Less (WLt P) gs.size (meas gs' st') (meas gs st) := by
 refine ⟨i,hi,?_,fun j hj => ?_⟩
 ·have h0' : ¬ i = 0 := by omega
  unfold meas
  rw [if_neg h0',if_neg h0',Array.getD_eq_getD_getElem?,Array.getD_eq_getD_getElem?,hx,hy,ha,hb]
  exact hr
 ·by_cases hj0 : j = 0
  ·have e1 : meas gs' st' j = (default,.quit 0) := if_pos hj0
   have e2 : meas gs st j = (default,.quit 0) := if_pos hj0
   rw [e1,e2]
  ·obtain ⟨e1,e2⟩ := ho j (by omega) hj
   have x1 : meas gs' st' j = (gs'.getD j default,st' j) := if_neg hj0
   have x2 : meas gs st j = (gs.getD j default,st j) := if_neg hj0
   rw [x1,x2,Array.getD_eq_getD_getElem?,Array.getD_eq_getD_getElem?,e1,e2]
theorem Inv.still (I : Inv P W0 T ft gs w t st ix) {x g' : Goroutine} (hc : ∀ b y,T.ch b = some y → ∃ s r tm,w'.heap[b]? = some (.chan y.1 y.2.1 y.2.2 s r tm)) : ∀ (j : Nat) (y : Goroutine),0 < j → gs[j]? = some y → woken P x g' w' y = y := by
 intro j y hj hy
 by_cases hp : ∃ k ∈ T.pend,ix k = j
 ·obtain ⟨k,hk,rfl⟩ := hp
  obtain ⟨z,h1,_,h3⟩ := I.pnd k hk
  rw [hy] at h1
  cases h1
  have hown := I.own (List.ne_nil_of_mem hk)
  exact pend_still (t := t) (i := ix k) (ft := ft) (w := w) hown (hc _ _ hown) (h3.imp (fun ⟨a,b,_,c⟩ => ⟨a,b,c⟩) fun h => h.2)
 ·obtain ⟨n,_,hq⟩ := I.old j y hj hy fun k hk e => hp ⟨k,hk,e⟩
  exact woken_quitsD hq
theorem moved_same (I : Inv P W0 T ft gs w t st ix) {x g' : Goroutine} (hc : ∀ b y,T.ch b = some y → ∃ s r tm,w'.heap[b]? = some (.chan y.1 y.2.1 y.2.2 s r tm)) {j : Nat} (h0 : 0 < j) (hj : j ≠ i) : ((gs.map (woken P x g' w')).setIfInBounds i g')[j]? = gs[j]? := by
 rw [Array.getElem?_setIfInBounds_ne (Ne.symm hj),Array.getElem?_map]
 cases e : gs[j]? with
 | none => rfl
 | some y => rw [Option.map_some,I.still hc j y h0 e]
theorem park_put {a : WS} (h : a ≠ .park) : ∀ j,putAt st i a j = .park → st j = .park := fun j e => by
 by_cases hj : j = i
 ·subst hj
  rw [putAt_self] at e
  exact absurd e h
 ·rwa [putAt_ne _ _ hj] at e
theorem Inv.other (I : Inv P W0 T ft gs w t st ix) (hm : MainOk T g0) (h0 : gs[0]? = some g0) (hpos : 0 < i) {x : Goroutine} (hi : gs[i]? = some x) (hrun : x.status = .running) :
  (∃ gs' w' ops st',runT P (crowd gs w sl) i = (.next (crowd gs' w' sl),ops) ∧ gs'.size = gs.size ∧ gs'[0]? = some g0 ∧ RelyW ft w w' ∧ Inv P W0 T ft gs' w' (t ++ ops) st' ix ∧ Less (WLt P) gs.size (meas gs' st') (meas gs st) ∧ ∀ j,st' j = .park → st j = .park) ∨
  (∃ k wi fi,k ∈ T.pend ∧ ix k = i ∧ st i = .way wi fi ∧ AtSend P T.c (T.phi k) x w fi) := by
 have hi0 : (i == 0) = false := by simp; omega
 have hlt : i < gs.size := (Array.getElem?_eq_some_iff.1 hi).1
 by_cases hp : ∃ k ∈ T.pend,ix k = i
 ·obtain ⟨k,hk,rfl⟩ := hp
  obtain ⟨y,h1,_,h3⟩ := I.pnd k hk
  rw [hi] at h1
  cases h1
  rcases h3 with ⟨wi,fi,e,W⟩ | ⟨_,g₂,v,z,rfl,_⟩
  ·cases hw : W.way with
   | stop _ hs => exact .inr ⟨k,wi,fi,hk,rfl,e,hs w W.rely⟩
   | step _ h2 h3 =>
    obtain ⟨g',w',es,hgo,hr',hgu⟩ := h2 w W.rely
    have hto := h3 w g' w' es W.rely hgo
    have hI := I.walk hk hi e W hgu hto
    have hch := hI.chan
    have hrel : RelyW ft w w' := ⟨fun b hb => hgu.heap b (I.lt b hb) fun hwr => W.d1 b hwr hb,hgu.size,hgu.tape,hgu.os,hgu.output⟩
    refine .inl ⟨_,w',_,_,runT_crowd_go (P := P) (sl := sl) hi (by rw [hi0]; exact hgo),by simp,?_,hrel,hI,?_,park_put (by simp)⟩
    ·exact moved_put (by omega) h0 (main_still hm fun h => hch _ _ h)
    ·exact meas_less hlt hpos (by simp) hi (moved_own hi) e (putAt_self _ _ _) (.step W.rely hgo) fun j hj hji => ⟨moved_same I hch hj hji,putAt_ne _ _ hji⟩
  ·cases hrun
 ·have hn : ∀ k ∈ T.pend,ix k ≠ i := fun k hk e => hp ⟨k,hk,e⟩
  obtain ⟨n,e,hq⟩ := I.old i x hpos hi hn
  cases n with
  | zero => rw [hq.1] at hrun; cases hrun
  | succ m =>
   rcases hq with ⟨hf,_⟩ | ⟨_,g',es,hmu,hst,hq'⟩
   ·rw [hf] at hrun; cases hrun
   have hI := I.quit hpos hi hn hmu hq'
   refine .inl ⟨_,w,_,_,runT_crowd_go (P := P) (sl := sl) hi (by rw [hi0]; exact hst w),by simp,?_,RelyW.refl _ _,hI,?_,park_put (by simp)⟩
   ·exact moved_put (by omega) h0 (main_still hm fun h => I.chan _ _ h)
   ·exact meas_less hlt hpos (by simp) hi (moved_own hi) e (putAt_self _ _ _) (.less (Nat.lt_succ_self m)) fun j hj hji => ⟨moved_same I I.chan hj hji,putAt_ne _ _ hji⟩
theorem Inv.awake (I : Inv P W0 T ft gs w t st ix) (h0 : gs[0]? = some g0) (hm : MainOk T g0) : ∀ g ∈ gs,awake g := by
 intro y hy
 obtain ⟨j,hj,rfl⟩ := Array.mem_iff_getElem.1 hy
 have hg : gs[j]? = some gs[j] := Array.getElem?_eq_getElem hj
 rcases Nat.eq_zero_or_pos j with rfl | hpos
 ·have : gs[0] = g0 := by rw [hg] at h0; exact Option.some.inj h0
  rw [this]
  rcases hm with h | ⟨g₂,z,sh,rfl,_⟩
  ·exact awake_of (.inl h)
  ·exact awake_of (.inr (.inl rfl))
 ·by_cases hp : ∃ k ∈ T.pend,ix k = j
  ·obtain ⟨k,hk,rfl⟩ := hp
   obtain ⟨z,h1,_,h3⟩ := I.pnd k hk
   rw [hg] at h1
   cases h1
   rcases h3 with ⟨_,_,_,W⟩ | ⟨_,g₂,v,z,e,_⟩
   ·exact awake_of (.inl W.way.running)
   ·rw [e]
    exact awake_of (.inr (.inl rfl))
  ·obtain ⟨n,_,hq⟩ := I.old j _ hpos hg fun k hk e => hp ⟨k,hk,e⟩
   exact awake_of (hq.status.elim .inl fun x => .inr (.inr x))
theorem Inv.noRecv (I : Inv P W0 T ft gs w t st ix) {j : Nat} {y : Goroutine} (hj : 0 < j) (hy : gs[j]? = some y) (c : Nat) : offersAt y c false = [] := by
 by_cases hp : ∃ k ∈ T.pend,ix k = j
 ·obtain ⟨k,hk,rfl⟩ := hp
  obtain ⟨z,h1,_,h3⟩ := I.pnd k hk
  rw [hy] at h1
  cases h1
  rcases h3 with ⟨_,_,_,W⟩ | ⟨_,g₂,v,z,rfl,_⟩
  ·exact offersAt_of_not_blocked (by rw [W.way.running]; simp) _ _
  ·exact offersAt_parked_send' _ _ _ _ _ _
 ·obtain ⟨n,_,hq⟩ := I.old j _ hj hy fun k hk e => hp ⟨k,hk,e⟩
  exact offersAt_of_not_blocked (by rcases hq.status with h | h <;> rw [h] <;> simp) _ _
theorem Inv.parks (I : Inv P W0 T ft gs w t st ix) (hk : k ∈ T.pend) {g₂ : Goroutine} {v z : Value} (hv : T.phi k v) (hq : ∃ n,QuitsD P n 0 (Conc.served g₂ undef)) :
  Inv P W0 T ft (gs.setIfInBounds (ix k) (parked g₂ #[scase T.c v z] .send)) w t (putAt st (ix k) .park) ix := by
 have hlt := I.ixr k hk
 refine { base := I.base,lt := I.lt,sub := I.sub,chan := I.chan,cnt := I.cnt,chft := I.chft,own := I.own,nd := I.nd,ixr := fun l hl => by simpa using I.ixr l hl,inj := I.inj,pnd := fun l hl => ?_,old := fun j y hj hy hnj => ?_,disj := fun a ha b hb hab wa fa wb fb e1 e2 => ?_,above := fun j hj => I.above j (by simpa using hj),hears := I.hears,clean := I.clean,known := I.known,done := I.done,seen := I.seen }
 ·by_cases hlk : l = k
  ·subst hlk
   obtain ⟨_,_,h2,_⟩ := I.pnd l hl
   exact ⟨_,Array.getElem?_setIfInBounds_self_of_lt hlt.2,h2,.inr ⟨putAt_self _ _ _,g₂,v,z,rfl,hv,hq⟩⟩
  ·have hne : ix k ≠ ix l := fun e => hlk (I.inj k hk l hl e).symm
   obtain ⟨y,h1,h2,h3⟩ := I.pnd l hl
   exact ⟨y,by rw [Array.getElem?_setIfInBounds_ne hne]; exact h1,h2,by rw [putAt_ne _ _ (Ne.symm hne)]; exact h3⟩
 ·have hne : ix k ≠ j := hnj k hk
  rw [Array.getElem?_setIfInBounds_ne hne] at hy
  rw [putAt_ne _ _ (Ne.symm hne)]
  exact I.old j y hj hy hnj
 ·by_cases hak : ix a = ix k
  ·rw [hak,putAt_self] at e1; cases e1
  ·by_cases hbk : ix b = ix k
   ·rw [hbk,putAt_self] at e2; cases e2
   ·rw [putAt_ne _ _ hak] at e1
    rw [putAt_ne _ _ hbk] at e2
    exact I.disj a ha b hb hab wa fa wb fb e1 e2
end
section
variable {P : Program} {W0 : World} {Post : Value → World → Prop} {T : Crew} {g g0 : Goroutine} {w w₁ w' : World} {ft : Foot} {gs gs' : Array Goroutine} {t : Trace} {st st' : Nat → WS} {ix : Nat → Nat} {i k : Nat} {sl : Option (Nat × Nat)}
theorem evs_nil (t : Trace) (i : Nat) (fn : FuncId) (pos : String) : t ++ MemOp.ofEvents i fn pos #[] = t := by
 rw [ofEvents_eq]
 simp
theorem JC.main (hrun : g.status = .running) (h : ∀ gs w₁ sl t st ix,RelyW ft w w₁ → gs[0]? = some g → Inv P W0 T ft gs w₁ t st ix → ∃ m' ops,runT P (crowd gs w₁ sl) 0 = (.next m',ops) ∧ Ends P Post m' (t ++ ops)) : JC P W0 Post T g w ft := by
 intro gs w₁ sl t st ix hrel h0 I
 have hacc := meas_acc I
 generalize hM : meas gs st = M at hacc
 generalize hn : gs.size = n at hacc
 induction hacc generalizing gs w₁ sl t st with
 | intro M _ ih =>
  obtain ⟨i,x,d,sl',hi,hx,hst⟩ := crowd_pick (P := P) (w := w₁) (sl := sl) (I.awake h0 (.inl hrun)) ⟨0,g,h0,hrun⟩
  rcases Nat.eq_zero_or_pos i with rfl | hpos
  ·obtain rfl : x = g := by rw [h0] at hi; exact (Option.some.inj hi).symm
   obtain ⟨m',ops,hr,he⟩ := h gs (w₁.at d) sl' t st ix (hrel.trans (relyW_at ft w₁ d)) h0 (I.at d)
   exact Ends.next (hst.trans hr) he
  ·have hi0 : (i == 0) = false := by simp; omega
   rcases (I.at d).other (sl := sl') (.inl hrun) h0 hpos hi hx with ⟨gs',w',ops,st',hr,hs,h0',hrel',I',hl,_⟩ | ⟨k,wi,fi,hk,rfl,e,g₂,v,z,hgo,hv,hq⟩
   ·subst hM hn
    exact Ends.next (hst.trans hr) (ih _ hl gs' w' sl' _ st' ((hrel.trans (relyW_at ft w₁ d)).trans hrel') h0' I' rfl hs)
   ·subst hM hn
    have hown := I.own (List.ne_nil_of_mem hk)
    obtain ⟨s,r,tm,hc⟩ := I.chan _ _ hown
    have hr := crowd_waits (P := P) (sl := sl') (gs := gs) (w := w₁.at d) hi (show stepG P (ix k == 0) x (w₁.at d) = _ from by rw [hi0]; exact hgo) fun cc hcc => by
     obtain rfl : cc = scase T.c v z := by simpa using hcc
     refine ways_send_none (w₁ := w₁.at d) hc (Nat.zero_le _) (partners_nil fun j y hy => ?_)
     rcases getElem?_stand _ _ _ _ hy with ⟨_,rfl⟩ | ⟨_,hy⟩
     ·rfl
     ·rcases Nat.eq_zero_or_pos j with rfl | hj
      ·rw [h0] at hy
       cases hy
       exact offersAt_of_not_blocked (by rw [hrun]; simp) _ _
      ·exact I.noRecv hj hy _
    refine Ends.next (hst.trans hr) ?_
    rw [evs_nil]
    have hlt := I.ixr k hk
    refine ih _ ?_ (gs.setIfInBounds (ix k) (parked g₂ #[scase T.c v z] .send)) (w₁.at d) sl' t (putAt st (ix k) .park) (hrel.trans (relyW_at ft w₁ d)) (by rw [Array.getElem?_setIfInBounds_ne (by omega)]; exact h0) ((I.at d).parks hk hv hq) rfl (by simp)
    exact meas_less hlt.2 hpos (by simp) hi (Array.getElem?_setIfInBounds_self_of_lt hlt.2) e (putAt_self _ _ _) .park fun j hj hji => ⟨Array.getElem?_setIfInBounds_ne (Ne.symm hji),putAt_ne _ _ hji⟩
theorem Inv.main (I : Inv P W0 T ft gs w t st ix) (_h0 : gs[0]? = some g) {g' : Goroutine} {es : Array Event} (hgu : GuarW ft w w' es) :
  Inv P W0 T (ft.ext w.heap.size w'.heap.size) ((gs.map (woken P g g' w')).setIfInBounds 0 g') w' (t ++ MemOp.ofEvents 0 g.frame.fn g.frame.place es) st ix := by
 have hsz := hgu.size
 have hdf := fun j => deaf_evs (t := t) (i := 0) (fn := g.frame.fn) (pos := g.frame.place) hgu.evs I.lt j
 have heap : ∀ b y,T.ch b = some y → w'.heap[b]? = w.heap[b]? := fun b y hb => by
  obtain ⟨s,r,tm,e⟩ := I.chan b y hb
  exact hgu.heap b (Array.getElem?_eq_some_iff.1 e).1 fun hw => I.chft b y hb (I.sub b hw)
 have hch : ∀ b y,T.ch b = some y → ∃ s r tm,w'.heap[b]? = some (.chan y.1 y.2.1 y.2.2 s r tm) := fun b y hb => by
  rw [heap b y hb]
  exact I.chan b y hb
 refine { base := ⟨hgu.tape.trans I.base.tape,hgu.os.trans I.base.os,hgu.output.trans I.base.output,Nat.le_trans I.base.size hsz⟩,lt := fun b hb => ?_,sub := fun b hb => ?_,chan := hch,cnt := fun b y s r tm hb hw => I.cnt b y s r tm hb (by rw [← heap b y hb]; exact hw),chft := fun b y hb hr => ?_,own := I.own,nd := I.nd,ixr := fun l hl => by simpa using I.ixr l hl,inj := I.inj,pnd := fun l hl => ?_,old := fun j y hj hy hnj => ?_,disj := I.disj,above := fun j hj => ?_,hears := by rw [hdf]; exact I.hears,clean := fun said => I.known.noRace (I.clean said) hgu.evs,known := I.known.own hgu.evs I.seen,done := fun j a ha hm => ?_,seen := ?_ }
 ·rcases hb with hb | hb
  ·exact Nat.lt_of_lt_of_le (I.lt b hb) hsz
  ·exact hb.2
 ·rcases hb with hb | hb
  ·exact .inl (I.sub b hb)
  ·exact .inr hb
 ·rcases hr with hr | hr
  ·exact I.chft b y hb hr
  ·obtain ⟨s,r,tm,e⟩ := I.chan b y hb
   have hlt : b < w.heap.size := (Array.getElem?_eq_some_iff.1 e).1
   omega
 ·obtain ⟨y,h1,h2,h3⟩ := I.pnd l hl
  have hpos := (I.ixr l hl).1
  refine ⟨y,moved_put (by omega) h1 (I.still hch _ _ hpos h1),by rw [hdf]; exact h2,h3.imp (fun ⟨wl,fl,e,V⟩ => ⟨wl,fl,e,?_⟩) id⟩
  have heq : ∀ b,fl.rd b → w'.heap[b]? = w.heap[b]? := fun b hb => hgu.heap b (V.lt b hb) fun hw => V.d2 b hw hb
  refine ⟨V.way,V.rely.trans ⟨heq,hsz,hgu.tape,hgu.os,hgu.output⟩,fun b hb => Nat.lt_of_lt_of_le (V.lt b hb) hsz,V.sub,V.ch,fun b hb hr => ?_,fun b hb hr => ?_,V.know.other hgu.evs V.d2 V.d1⟩
  ·rcases hr with hr | hr
   ·exact V.d1 b hb hr
   ·have := V.lt b (V.sub b hb)
    omega
  ·rcases hb with hb | hb
   ·exact V.d2 b hb hr
   ·have := V.lt b hr
    omega
 ·obtain ⟨z,hz,rfl⟩ := moved_get (by omega) hy
  obtain ⟨n,e,hqz⟩ := I.old j z hj hz hnj
  refine ⟨n,e,?_⟩
  rw [woken_quitsD hqz,hdf]
  exact hqz
 ·rw [hdf]
  exact I.above j (by simpa using hj)
 ·rcases touch_app ha with ⟨_,h⟩ | ⟨op,hop,hg,h⟩
  ·exact (I.done j a h hm).imp (·.app _) fun ⟨l,hl,e⟩ => ⟨l,hl,g_app e⟩
  ·have := knows_own hg
   rw [mem_g hop] at this
   exact .inl this
 ·exact seen_app (fun op hop => MemAct.low_mono hsz (I.seen op hop)) fun op hop => MemAct.low_mono hsz (low_events hgu.evs I.lt op hop)
theorem JC.closed (P : Program) (W0 : World) (Post : Value → World → Prop) (T : Crew) : Closed P true (JC P W0 Post T) where
 rely := fun h hr gs w₂ sl t st ix hrel h0 I => h gs w₂ sl t st ix (hr.trans hrel) h0 I
 step := fun hrun h => JC.main hrun fun gs w₁ sl t st ix hrel h0 I => by
  obtain ⟨g',w',es,hgo,hr',hgu,hJ⟩ := h w₁ hrel
  refine ⟨_,_,runT_crowd_go (P := P) (sl := sl) (i := 0) h0 (show stepG P (0 == 0) _ w₁ = _ from hgo),?_⟩
  exact hJ _ w' sl _ st ix (RelyW.refl _ _) (moved_own h0) (I.main h0 hgu)
theorem JC.last {f' : Foot} (hp : T.pend = []) (hrd : ∀ b,f'.rd b → ft.rd b ∨ (T.ch b).isSome = true) (hsub : ∀ b,f'.wr b → f'.rd b)
  (h : ∀ w₂,RelyW ft w w₂ → (∀ b,(T.ch b).isSome = true → b < w₂.heap.size) → J1 P W0 Post g w₂ f') : JC P W0 Post T g w ft := by
 intro gs w₁ sl t st ix hrel h0 I
 have hchl : ∀ b,(T.ch b).isSome = true → b < w₁.heap.size := fun b hb => by
  obtain ⟨x,hx⟩ := Option.isSome_iff_exists.1 hb
  obtain ⟨s,r,tm,e⟩ := I.chan b x hx
  exact (Array.getElem?_eq_some_iff.1 e).1
 refine h w₁ hrel hchl gs w₁ sl t (fun i => match st i with | .quit n => n | _ => 0) (fun b hb => (hrd b hb).elim (I.lt b) (hchl b)) hsub (RelyW.refl _ _) I.base h0 ⟨fun j y hj hy => ?_,I.above⟩ ?_
 ·obtain ⟨n,e,hq⟩ := I.old j y hj hy (by rw [hp]; simp)
  rw [e]
  exact hq
 ·have kn : ∀ i a,touchAt t i = some a → a.loc.isMemory = true → Knows t 0 i := fun i a ha hm => by
   rcases I.done i a ha hm with h | ⟨k,hk,_⟩
   ·exact h
   ·rw [hp] at hk
    cases hk
  refine ⟨I.clean,fun i a ha hm => .inl (kn i a ha hm),fun i x hx hne hc => ?_,I.hears,I.seen⟩
  obtain ⟨a,ha,hm,_⟩ := hc
  obtain ⟨q,z,h1,h2,h3⟩ := kn i a ha hm
  rcases h3 with rfl | h3
  ·unfold Trace.g? at hx
   rw [h1] at hx
   simp at hx
   omega
  ·exact ⟨q,by unfold Trace.g?; rw [h1]; simp [h2],h3⟩
end
def Crew.more (T : Crew) (k : Nat) : Crew := { T with pend := T.pend ++ [k] }
def Foot.lend (ft : Foot) : Foot := ⟨ft.rd,fun _ => False,ft.tag⟩
section
variable {P : Program} {W0 : World} {Post : Value → World → Prop} {T : Crew} {g g0 : Goroutine} {w w₁ w' : World} {ft : Foot} {gs gs' : Array Goroutine} {t : Trace} {st st' : Nat → WS} {ix : Nat → Nat} {i k : Nat} {sl : Option (Nat × Nat)}
def hired (c : Nat) (f0 : FuncId) (p0 : String) (f1 : FuncId) (p1 : String) : Trace := #[{ g := 0,fn := f0,pos := p0,act := .go c },{ g := c,fn := f1,pos := p1,act := .start }]
theorem hired_quiet (c : Nat) (f0 : FuncId) (p0 : String) (f1 : FuncId) (p1 : String) (g : Nat) : ∀ op ∈ hired c f0 p0 f1 p1,∀ d,deafStep g d op = d := by
 intro op hop d
 simp only [hired,List.mem_toArray,List.mem_cons,List.not_mem_nil,or_false] at hop
 rcases hop with rfl | rfl <;> rfl
theorem hired_mute (c : Nat) (f0 : FuncId) (p0 : String) (f1 : FuncId) (p1 : String) : ∀ op ∈ hired c f0 p0 f1 p1,op.act.touch? = none := by
 intro op hop
 simp only [hired,List.mem_toArray,List.mem_cons,List.not_mem_nil,or_false] at hop
 rcases hop with rfl | rfl <;> rfl
theorem hired_low (c : Nat) (f0 : FuncId) (p0 : String) (f1 : FuncId) (p1 : String) (n : Nat) : ∀ op ∈ hired c f0 p0 f1 p1,op.act.low n := by
 intro op hop
 simp only [hired,List.mem_toArray,List.mem_cons,List.not_mem_nil,or_false] at hop
 rcases hop with rfl | rfl <;> trivial
theorem Inv.hire (I : Inv P W0 T ft gs w t st ix) (hlt0 : 0 < gs.size) (hk : k ∉ T.pend) (hown : T.ch T.c = some (0,#[],false)) {g' child : Goroutine} (hto : Toward P (AtSend P T.c (T.phi k)) child w ft.lend) (f0 : FuncId) (p0 : String) (f1 : FuncId) (p1 : String) :
  Inv P W0 (T.more k) ft.lend ((gs.setIfInBounds 0 g').push child) w (t ++ hired gs.size f0 p0 f1 p1) (putAt st gs.size (.way w ft.lend)) (putAt ix k gs.size) := by
 have hd := fun j => Deaf_quiet (t := t) (hired_quiet gs.size f0 p0 f1 p1 j)
 have hmu := hired_mute gs.size f0 p0 f1 p1
 have hix : ∀ l ∈ T.pend,putAt ix k gs.size l = ix l := fun l hl => putAt_ne _ _ fun e => hk (e ▸ hl)
 have hmem : ∀ {l},l ∈ (T.more k).pend → l ∈ T.pend ∨ l = k := fun hl => by simpa [Crew.more] using hl
 have hget : ∀ l ∈ T.pend,((gs.setIfInBounds 0 g').push child)[ix l]? = gs[ix l]? := fun l hl => by
  have := I.ixr l hl
  rw [Array.getElem?_push_lt (by simpa using this.2),Array.getElem_setIfInBounds (by simpa using this.2),if_neg (by omega),Array.getElem?_eq_getElem this.2]
 have hst : ∀ l ∈ T.pend,putAt st gs.size (.way w ft.lend) (ix l) = st (ix l) := fun l hl => putAt_ne _ _ (by have := I.ixr l hl; omega)
 have hkn : putAt ix k gs.size k = gs.size := putAt_self _ _ _
 have e0 : (t ++ hired gs.size f0 p0 f1 p1)[t.size]? = some { g := 0,fn := f0,pos := p0,act := .go gs.size } := by simp [hired]
 have e1 : (t ++ hired gs.size f0 p0 f1 p1)[t.size + 1]? = some { g := gs.size,fn := f1,pos := p1,act := .start } := by simp [hired]
 have edge : HappensBefore (t ++ hired gs.size f0 p0 f1 p1) t.size (t.size + 1) :=
  Relation.TransGen.single (.inr ⟨.spawn (act?_of e0) (act?_of e1) (g?_of e1),⟨0,g?_of e0,by rw [deaf_old (Nat.le_refl _)]; exact I.hears⟩,⟨gs.size,g?_of e1,by rw [deaf_quiet (hired_quiet gs.size f0 p0 f1 p1 gs.size) 1 (by simp [hired])]; exact I.above _ (Nat.le_refl _)⟩⟩)
 refine { base := I.base,lt := I.lt,sub := fun _ h => h.elim,chan := I.chan,cnt := I.cnt,chft := I.chft,own := fun _ => hown,nd := ?_,ixr := fun l hl => ?_,inj := fun a ha b hb e => ?_,pnd := fun l hl => ?_,old := fun j y hj hy hnj => ?_,disj := fun a ha b hb hab wa fa wb fb x1 x2 => ?_,above := fun j hj => ?_,hears := by rw [hd]; exact I.hears,clean := fun said => noRace_appendMute (I.clean said) hmu,known := (I.known.less (f' := ft.lend) (fun _ h => h) (fun _ h => h.elim)).mute hmu,done := fun j a ha hm => ?_,seen := seen_app I.seen (hired_low _ _ _ _ _ _) }
 ·show (T.pend ++ [k]).Nodup
  rw [List.nodup_append]
  exact ⟨I.nd,by simp,fun a ha b hb => by simp at hb; subst hb; exact fun e => hk (e ▸ ha)⟩
 ·rcases hmem hl with h | rfl
  ·rw [hix l h]
   have := I.ixr l h
   exact ⟨this.1,by simp; omega⟩
  ·rw [hkn]
   exact ⟨hlt0,by simp⟩
 ·rcases hmem ha with h | rfl <;> rcases hmem hb with h' | rfl
  ·rw [hix a h,hix b h'] at e
   exact I.inj a h b h' e
  ·rw [hix a h,hkn] at e
   have := I.ixr a h
   omega
  ·rw [hix b h',hkn] at e
   have := I.ixr b h'
   omega
  ·rfl
 ·rcases hmem hl with h | rfl
  ·rw [hix l h,hget l h,hst l h,hd]
   obtain ⟨y,h1,h2,h3⟩ := I.pnd l h
   exact ⟨y,h1,h2,h3.imp (fun ⟨wl,fl,e,V⟩ => ⟨wl,fl,e,V.way,V.rely,V.lt,V.sub,V.ch,V.d1,fun _ h => h.elim,V.know.mute hmu⟩) id⟩
  ·rw [hkn,hd,putAt_self]
   refine ⟨child,by rw [Array.getElem?_push,if_pos (by simp)],I.above _ (Nat.le_refl _),.inl ⟨w,_,rfl,hto,RelyW.refl _ _,I.lt,fun _ h => h.elim,I.chft,fun _ h => h.elim,fun _ h => h.elim,fun j a ha hm => ?_⟩⟩
   rcases touch_app ha with ⟨_,h⟩ | ⟨op,hop,_,h⟩
   ·rcases I.known j a h hm with hh | hh
    ·exact .inl ⟨t.size + 1,_,e1,rfl,.inr ((hh.hb_new (Nat.le_refl _) e0 rfl).trans edge)⟩
    ·exact .inr fun b hb => ⟨fun h => h.elim,(hh b hb).2⟩
   ·rw [hmu op hop] at h; cases h
 ·have hjs : j ≠ gs.size := fun e => hnj k (by simp [Crew.more]) (by rw [hkn]; exact e.symm)
  have hlt : j < gs.size := by
   have := (Array.getElem?_eq_some_iff.1 hy).1
   simp at this
   omega
  rw [Array.getElem?_push_lt (by simpa using hlt),Array.getElem_setIfInBounds (by simpa using hlt),if_neg (by omega),← Array.getElem?_eq_getElem hlt] at hy
  obtain ⟨n,e,hq⟩ := I.old j y hj hy fun l hl e => hnj l (by simp [Crew.more,hl]) (by rw [hix l hl]; exact e)
  exact ⟨n,by rw [putAt_ne _ _ hjs]; exact e,by rw [hd]; exact hq⟩
 ·rcases hmem ha with h | rfl <;> rcases hmem hb with h' | rfl
  ·rw [hix a h,hst a h] at x1
   rw [hix b h',hst b h'] at x2
   exact I.disj a h b h' hab wa fa wb fb x1 x2
  ·rw [hix a h,hst a h] at x1
   rw [hkn,putAt_self] at x2
   cases x2
   obtain ⟨y,_,_,h3⟩ := I.pnd a h
   rcases h3 with ⟨wl,fl,e,V⟩ | ⟨e,_⟩
   ·rw [e] at x1
    cases x1
    exact V.d1
   ·rw [e] at x1
    cases x1
  ·rw [hkn,putAt_self] at x1
   cases x1
   exact fun _ h => h.elim
  ·exact absurd rfl hab
 ·rw [hd]
  exact I.above j (by simp at hj; omega)
 ·rcases done_mute (ix := ix) I.done hmu j a ha hm with h | ⟨l,hl,e⟩
  ·exact .inl h
  ·exact .inr ⟨l,by simp [Crew.more,hl],by rw [hix l hl]; exact e⟩
theorem JC.spawn (hrun : g.status = .running) (hk : k ∉ T.pend) (hown : T.ch T.c = some (0,#[],false))
  (h : ∀ w₁,RelyW ft w w₁ → ∃ g' child,stepG P true g w₁ = .spawn g' child w₁ #[] ∧ Toward P (AtSend P T.c (T.phi k)) child w₁ ft.lend ∧ JC P W0 Post (T.more k) g' w₁ ft.lend) : JC P W0 Post T g w ft :=
 JC.main hrun fun gs w₁ sl t st ix hrel h0 I => by
  obtain ⟨g',child,hgo,hto,hJ⟩ := h w₁ hrel
  have hlt0 : 0 < gs.size := (Array.getElem?_eq_some_iff.1 h0).1
  refine ⟨_,_,runT_crowd_spawn (P := P) (sl := sl) (i := 0) h0 (show stepG P (0 == 0) _ w₁ = _ from hgo),?_⟩
  have e : t ++ ((MemOp.ofEvents 0 g.frame.fn g.frame.place #[]).push { g := 0,fn := g.frame.fn,pos := g.frame.place,act := .go gs.size } |>.push { g := gs.size,fn := child.frame.fn,pos := g.frame.place,act := .start }) = t ++ hired gs.size g.frame.fn g.frame.place child.frame.fn g.frame.place := by
   rw [ofEvents_eq]
   simp [hired]
  rw [e]
  refine hJ _ w₁ sl _ _ _ (RelyW.refl _ _) ?_ (I.hire hlt0 hk hown hto _ _ _ _)
  rw [Array.getElem?_push_lt (by simpa using hlt0),Array.getElem_setIfInBounds (by simpa using hlt0)]
  simp
end
section
variable {P : Program} {W0 : World} {Post : Value → World → Prop} {T : Crew} {g g0 : Goroutine} {w w₁ w' : World} {ft : Foot} {gs gs' : Array Goroutine} {t : Trace} {st st' : Nat → WS} {ix : Nat → Nat} {i k : Nat} {sl : Option (Nat × Nat)}
theorem mem_less {l : Nat} (h : l ∈ (T.less k).pend) : l ∈ T.pend := List.mem_of_mem_erase h
theorem ne_less {l : Nat} (hn : T.pend.Nodup) (h : l ∈ (T.less k).pend) : l ≠ k := fun e => by
 subst e
 exact (hn.not_mem_erase) h
theorem less_mem {l : Nat} (h : l ∈ T.pend) (hne : l ≠ k) : l ∈ (T.less k).pend := (List.mem_erase_of_ne hne).2 h
theorem passed_heap (w : World) (c s r : Nat) (tm : Bool) (b : Nat) : (w.setChan c 0 #[] false s r tm).heap[b]? = if b = c ∧ c < w.heap.size then some (.chan 0 #[] false s r tm) else w.heap[b]? := by
 unfold World.setChan
 by_cases h : c = b
 ·subst h
  by_cases hl : c < w.heap.size
  ·simp [hl]
  ·simp [hl]
 ·rw [if_neg (fun e => h e.1.symm)]
  simp [Array.getElem?_setIfInBounds_ne h]
theorem Inv.handed (I : Inv P W0 T ft gs w t st ix) (hk : k ∈ T.pend) {s r : Nat} {tm : Bool} (hc : w.heap[T.c]? = some (.chan 0 #[] false s r tm)) (hs : gs'.size = gs.size) {y : Goroutine} {n : Nat} (hy : gs'[ix k]? = some y) (hq : QuitsD P n 0 y)
  (ho : ∀ j,0 < j → j ≠ ix k → gs'[j]? = gs[j]?) (d : Nat) (fh : FuncId) (ph : String) (fj : FuncId) (pj : String) :
  Inv P W0 (T.less k) ft gs' ((w.at d).setChan T.c 0 #[] false (s + 1) (r + 1) tm) (t ++ met (ix k) 0 fh ph fj pj T.c s 0) (putAt st (ix k) (.quit n)) ix := by
 have hown := I.own (List.ne_nil_of_mem hk)
 have hsr : s = r := by have := I.cnt _ _ s r tm hown hc; simpa using this
 have hclt : T.c < w.heap.size := (Array.getElem?_eq_some_iff.1 hc).1
 have hd := fun j => Deaf_quiet (t := t) (met_quiet (ix k) 0 fh ph fj pj T.c s 0 j)
 have hmu := met_mute (ix k) 0 fh ph fj pj T.c s 0
 have hpas := fun b => passed_heap (w.at d) T.c (s + 1) (r + 1) tm b
 have hpos := (I.ixr k hk).1
 have e0 : (t ++ met (ix k) 0 fh ph fj pj T.c s 0)[t.size]? = some { g := ix k,fn := fh,pos := ph,act := .send T.c s } := by simp [met]
 have e3 : (t ++ met (ix k) 0 fh ph fj pj T.c s 0)[t.size + 3]? = some { g := 0,fn := fj,pos := pj,act := .recvDone T.c s } := by simp [met]
 have hdk : Deaf t (ix k) = 0 := by
  obtain ⟨_,_,h2,_⟩ := I.pnd k hk
  exact h2
 have edge : HappensBefore (t ++ met (ix k) 0 fh ph fj pj T.c s 0) t.size (t.size + 3) :=
  Relation.TransGen.single (.inr ⟨.handOver (act?_of e0) (act?_of e3),⟨ix k,g?_of e0,by rw [deaf_old (Nat.le_refl _)]; exact hdk⟩,⟨0,g?_of e3,by rw [deaf_quiet (met_quiet (ix k) 0 fh ph fj pj T.c s 0 0) 3 (by simp [met])]; exact I.hears⟩⟩)
 have heap : ∀ b,b ≠ T.c → ((w.at d).setChan T.c 0 #[] false (s + 1) (r + 1) tm).heap[b]? = w.heap[b]? := fun b hb => by
  rw [hpas,if_neg (fun e => hb e.1)]
  rfl
 have rel : ∀ {f : Foot},¬ f.rd T.c → RelyW f w ((w.at d).setChan T.c 0 #[] false (s + 1) (r + 1) tm) := fun hn =>
  ⟨fun b hb => heap b fun e => hn (e ▸ hb),by simp [World.setChan,World.at],rfl,rfl,rfl⟩
 have hsz : ((w.at d).setChan T.c 0 #[] false (s + 1) (r + 1) tm).heap.size = w.heap.size := by simp [World.setChan,World.at]
 have hst : ∀ l ∈ (T.less k).pend,putAt st (ix k) (.quit n) (ix l) = st (ix l) := fun l hl => putAt_ne _ _ fun e => ne_less I.nd hl (I.inj l (mem_less hl) k hk e)
 refine { base := ⟨I.base.tape,I.base.os,I.base.output,by rw [hsz]; exact I.base.size⟩,lt := fun b hb => by rw [hsz]; exact I.lt b hb,sub := I.sub,chan := fun b x hb => ?_,cnt := fun b x s' r' tm' hb hw => ?_,chft := I.chft,own := fun _ => hown,nd := I.nd.erase _,ixr := fun l hl => by rw [hs]; exact I.ixr l (mem_less hl),inj := fun a ha b hb e => I.inj a (mem_less ha) b (mem_less hb) e,pnd := fun l hl => ?_,old := fun j z hj hz hnj => ?_,disj := fun a ha b hb hab wa fa wb fb x1 x2 => ?_,above := fun j hj => by rw [hd]; exact I.above j (by omega),hears := by rw [hd]; exact I.hears,clean := fun said => noRace_appendMute (I.clean said) hmu,known := I.known.mute hmu,done := fun j a ha hm => ?_,seen := ?_ }
 ·by_cases hbc : b = T.c
  ·subst hbc
   rw [show (T.less k).ch T.c = T.ch T.c from rfl,hown] at hb
   cases hb
   exact ⟨_,_,_,by rw [hpas,if_pos ⟨rfl,hclt⟩]⟩
  ·rw [heap b hbc]
   exact I.chan b x hb
 ·by_cases hbc : b = T.c
  ·subst hbc
   rw [show (T.less k).ch T.c = T.ch T.c from rfl,hown] at hb
   cases hb
   rw [hpas,if_pos ⟨rfl,hclt⟩] at hw
   simp only [Option.some.injEq,Obj.chan.injEq] at hw
   obtain ⟨_,_,_,rfl,rfl,_⟩ := hw
   simp [hsr]
  ·rw [heap b hbc] at hw
   exact I.cnt b x s' r' tm' hb hw
 ·obtain ⟨z,h1,h2,h3⟩ := I.pnd l (mem_less hl)
  have hne : ix l ≠ ix k := fun e => ne_less I.nd hl (I.inj l (mem_less hl) k hk e)
  refine ⟨z,by rw [ho _ (I.ixr l (mem_less hl)).1 hne]; exact h1,by rw [hd]; exact h2,?_⟩
  rw [hst l hl]
  refine h3.imp (fun ⟨wl,fl,e,V⟩ => ⟨wl,fl,e,V.way,V.rely.trans (rel (V.ch _ _ hown)),fun b hb => by rw [hsz]; exact V.lt b hb,V.sub,V.ch,V.d1,V.d2,V.know.mute hmu⟩) id
 ·by_cases hjk : j = ix k
  ·subst hjk
   rw [hy] at hz
   cases hz
   exact ⟨n,putAt_self _ _ _,by rw [hd,hdk]; exact hq⟩
  ·rw [ho j hj hjk] at hz
   rw [putAt_ne _ _ hjk,hd]
   exact I.old j z hj hz fun l hl e => by
    by_cases hlk : l = k
    ·subst hlk
     exact hjk e.symm
    ·exact hnj l (less_mem hl hlk) e
 ·rw [hst a ha] at x1
  rw [hst b hb] at x2
  exact I.disj a (mem_less ha) b (mem_less hb) hab wa fa wb fb x1 x2
 ·rcases touch_app ha with ⟨_,h⟩ | ⟨op,hop,_,h⟩
  ·rcases I.done j a h hm with h | ⟨l,hl,e⟩
   ·exact .inl (h.app _)
   ·by_cases hlk : l = k
    ·subst hlk
     obtain ⟨z,hz,hzg⟩ := Option.map_eq_some_iff.1 e
     have hkn : Knows t (ix l) j := by
      have := knows_own hz
      rwa [hzg] at this
     exact .inl ⟨t.size + 3,_,e3,rfl,.inr ((hkn.hb_new (Nat.le_refl _) e0 rfl).trans edge)⟩
    ·exact .inr ⟨l,less_mem hl hlk,g_app e⟩
  ·rw [hmu op hop] at h; cases h
 ·rw [hsz]
  refine seen_app I.seen fun op hop => ?_
  simp only [met,List.mem_toArray,List.mem_cons,List.not_mem_nil,or_false] at hop
  rcases hop with rfl | rfl | rfl | rfl <;> exact hclt
theorem passed_rely {f : Foot} {c s r d : Nat} {tm : Bool} (hn : ¬ f.rd c) : RelyW f w ((w.at d).setChan c 0 #[] false s r tm) :=
 ⟨fun b hb => by
  have hne : b ≠ c := fun e => hn (e ▸ hb)
  rw [passed_heap,if_neg (fun e => hne e.1)]
  rfl,by simp [World.setChan,World.at],rfl,rfl,rfl⟩
theorem evs_front (u : Trace) (i : Nat) (fn : FuncId) (pos : String) : MemOp.ofEvents i fn pos #[] ++ u = u := by
 rw [ofEvents_eq]
 simp
theorem Inv.front (I : Inv P W0 T ft gs w t st ix) (hs : gs'.size = gs.size) (ho : ∀ j,0 < j → gs'[j]? = gs[j]?) : Inv P W0 T ft gs' w t st ix where
 base := I.base
 lt := I.lt
 sub := I.sub
 chan := I.chan
 cnt := I.cnt
 chft := I.chft
 own := I.own
 nd := I.nd
 ixr := fun k hk => by rw [hs]; exact I.ixr k hk
 inj := I.inj
 pnd := fun k hk => by
  rw [ho _ (I.ixr k hk).1]
  exact I.pnd k hk
 old := fun i g hi hg hn => I.old i g hi (by rw [← ho i hi]; exact hg) hn
 disj := I.disj
 above := fun j hj => I.above j (by omega)
 hears := I.hears
 clean := I.clean
 known := I.known
 done := I.done
 seen := I.seen
theorem finish_recv {g₂ : Goroutine} {cs : Array CommCase} {ok : Bool} {v : Value} : g₂.finishComm P cs (.recv ok) 0 v true = Conc.served g₂ (recvd ok v true) := finishComm_recv P g₂ cs ok 0 v true
theorem park_ends {g₂ : Goroutine} {z : Value} {ok : Bool} (hp : T.pend ≠ []) (hN : ∀ k ∈ T.pend,∀ v,T.phi k v → JC P W0 Post (T.less k) (Conc.served g₂ (recvd ok v true)) w ft) (h0 : gs[0]? = some (parked g₂ #[rcase T.c z] (.recv ok))) (hrel : RelyW ft w w₁)
  (I : Inv P W0 T ft gs w₁ t st ix) (hnp : ∀ k ∈ T.pend,st (ix k) ≠ .park) : Ends P Post (crowd gs w₁ sl) t := by
 have hown := I.own hp
 have hm : MainOk T (parked g₂ #[rcase T.c z] (.recv ok)) := .inr ⟨g₂,z,_,rfl,hown⟩
 have hacc := meas_acc I
 generalize hM : meas gs st = M at hacc
 generalize hn : gs.size = n at hacc
 induction hacc generalizing gs w₁ sl t st with
 | intro M _ ih =>
  obtain ⟨l,hl⟩ := List.exists_mem_of_ne_nil _ hp
  obtain ⟨y,hy,_,h3⟩ := I.pnd l hl
  have hyr : y.status = .running := by
   rcases h3 with ⟨_,_,_,V⟩ | ⟨e,_⟩
   ·exact V.way.running
   ·exact absurd e (hnp l hl)
  obtain ⟨i,x,d,sl',hi,hx,hst⟩ := crowd_pick (P := P) (w := w₁) (sl := sl) (I.awake h0 hm) ⟨ix l,y,hy,hyr⟩
  have hpos : 0 < i := by
   rcases Nat.eq_zero_or_pos i with rfl | h
   ·rw [h0] at hi
    cases hi
    cases hx
   ·exact h
  have hi0 : (i == 0) = false := by simp; omega
  rcases (I.at d).other (sl := sl') hm h0 hpos hi hx with ⟨gs',w',ops,st',hr,hs,h0',hrel',I',hl',hpk⟩ | ⟨k,wi,fi,hk,rfl,e,gk,v,zk,hgo,hv,n,hq⟩
  ·subst hM hn
   exact Ends.next (hst.trans hr) (ih _ hl' h0' ((hrel.trans (relyW_at ft w₁ d)).trans hrel') I' (fun k hk e => hnp k hk (hpk _ e)) rfl hs)
  ·obtain ⟨s,r,tm,hc⟩ := I.chan _ _ hown
   have hlt := I.ixr k hk
   have hmem : ∀ j b,(j,b) ∈ partners (gs.setIfInBounds (ix k) ph) T.c false → j = 0 ∧ b = 0 := fun j b hjb => by
    obtain ⟨y,hy,hb⟩ := mem_partners.1 hjb
    rcases getElem?_stand _ _ _ _ hy with ⟨_,rfl⟩ | ⟨_,hy⟩
    ·cases hb
    ·rcases Nat.eq_zero_or_pos j with rfl | hj
     ·rw [h0] at hy
      cases hy
      rw [offersAt_parked_recv,if_pos rfl] at hb
      exact ⟨rfl,by simpa using hb⟩
     ·rw [I.noRecv hj hy] at hb
      cases hb
   have h0k : (gs.setIfInBounds (ix k) ph)[0]? = some (parked g₂ #[rcase T.c z] (.recv ok)) := by rw [Array.getElem?_setIfInBounds_ne (by omega)]; exact h0
   obtain ⟨j,gj,zj,shj,d2,hij,hgj,hr⟩ := crowd_send_meets_some (P := P) (sl := sl') (gs := gs) (w := w₁.at d) (w₁ := w₁.at d) hi (show stepG P (ix k == 0) x (w₁.at d) = _ from by rw [hi0]; exact hgo) (show (w₁.at d).heap[T.c]? = _ from hc)
    (fun e => by
     have : (0,0) ∈ partners (gs.setIfInBounds (ix k) ph) T.c false := mem_partners.2 ⟨_,h0k,by rw [offersAt_parked_recv,if_pos rfl]; simp⟩
     rw [e] at this
     cases this)
    (fun j b hjb => by
     obtain ⟨rfl,rfl⟩ := hmem j b hjb
     exact ⟨rfl,by omega,g₂,z,_,h0⟩)
   have hj0 : j = 0 := by
    rcases Nat.eq_zero_or_pos j with h | h
    ·exact h
    ·have := I.noRecv h hgj T.c
     rw [offersAt_parked_recv,if_pos rfl] at this
     cases this
   subst hj0
   rw [h0] at hgj
   have hpe : parked g₂ #[rcase T.c z] (.recv ok) = parked gj #[rcase T.c zj] shj := Option.some.inj hgj
   have hoff := congrArg Goroutine.offers hpe
   simp only [parked,rcase,Option.some.injEq,Prod.mk.injEq] at hoff
   obtain ⟨ho1,rfl⟩ := hoff
   have hz : z = zj := by simpa using ho1
   subst hz
   have hgeq : gj.finishComm P #[rcase T.c z] (.recv ok) 0 v true = Conc.served g₂ (recvd ok v true) := by
    rw [← finish_recv (P := P) (cs := #[rcase T.c z]),← finishComm_parked P gj _ #[rcase T.c z] _ (.recv ok),← hpe,finishComm_parked]
   have hsr : s = r := by have := I.cnt _ _ s r tm hown hc; simpa using this
   subst hsr
   subst hM hn
   rw [hgeq,finishComm_send] at hr
   refine Ends.next (hst.trans hr) ?_
   rw [evs_front]
   exact hN k hk v hv _ _ sl' _ _ ix (hrel.trans ((relyW_at ft w₁ d).trans (passed_rely (I.chft _ _ hown)))) (by rw [Array.getElem?_setIfInBounds_ne (by omega),Array.getElem?_setIfInBounds_self_of_lt (by omega)])
    ((I.at d).handed (n := n) (y := Conc.served gk undef) hk hc (by simp) (Array.getElem?_setIfInBounds_self_of_lt (by simpa using hlt.2)) hq
     (fun j h1 h2 => by rw [Array.getElem?_setIfInBounds_ne (Ne.symm h2),Array.getElem?_setIfInBounds_ne (by omega)]) d2 gk.frame.fn gk.frame.place gj.frame.fn gj.frame.place)
theorem Inv.sends (I : Inv P W0 T ft gs w t st ix) {j b : Nat} {y : Goroutine} (hj : 0 < j) (hy : gs[j]? = some y) (hb : b ∈ offersAt y T.c true) : ∃ k ∈ T.pend,ix k = j ∧ b = 0 ∧ ParkOk P T k y := by
 by_cases hp : ∃ k ∈ T.pend,ix k = j
 ·obtain ⟨k,hk,rfl⟩ := hp
  obtain ⟨z,h1,_,h3⟩ := I.pnd k hk
  rw [hy] at h1
  cases h1
  rcases h3 with ⟨_,_,_,W⟩ | ⟨_,hpk⟩
  ·rw [offersAt_of_not_blocked (by rw [W.way.running]; simp)] at hb
   cases hb
  ·refine ⟨k,hk,rfl,?_,hpk⟩
   obtain ⟨g₂,v,z,rfl,_⟩ := hpk
   rw [offersAt_parked_send,if_pos rfl] at hb
   simpa using hb
 ·obtain ⟨n,_,hq⟩ := I.old j _ hj hy fun k hk e => hp ⟨k,hk,e⟩
  rw [offersAt_of_not_blocked (by rcases hq.status with h | h <;> rw [h] <;> simp)] at hb
  cases hb
theorem JC.recv (hrun : g.status = .running) (hp : T.pend ≠ []) {ok : Bool}
  (h : ∀ w₁,RelyW ft w w₁ → ∃ g₂ z,stepG P true g w₁ = .comm g₂ #[rcase T.c z] true (.recv ok) w₁ #[] ∧ ∀ k ∈ T.pend,∀ v,T.phi k v → JC P W0 Post (T.less k) (Conc.served g₂ (recvd ok v true)) w₁ ft) : JC P W0 Post T g w ft :=
 JC.main hrun fun gs w₁ sl t st ix hrel h0 I => by
  obtain ⟨g₂,z,hgo,hN⟩ := h w₁ hrel
  have hown := I.own hp
  obtain ⟨s,r,tm,hc⟩ := I.chan _ _ hown
  have hlt0 : 0 < gs.size := (Array.getElem?_eq_some_iff.1 h0).1
  have hsr : s = r := by have := I.cnt _ _ s r tm hown hc; simpa using this
  subst hsr
  by_cases hpk : ∃ k ∈ T.pend,st (ix k) = .park
  ·obtain ⟨k0,hk0,e0⟩ := hpk
   obtain ⟨y0,hy0,_,h3⟩ := I.pnd k0 hk0
   have hpar : ParkOk P T k0 y0 := by
    rcases h3 with ⟨_,_,e,_⟩ | ⟨_,hpk⟩
    ·rw [e0] at e; cases e
    ·exact hpk
   have hpos0 := (I.ixr k0 hk0).1
   obtain ⟨j,gj,vj,zj,shj,d,hij,hgj,hr⟩ := crowd_recv_meets_some (P := P) (sl := sl) (gs := gs) (w := w₁) (w₁ := w₁) (i := 0) h0 (show stepG P (0 == 0) _ w₁ = _ from hgo) hc
    (fun e => by
     obtain ⟨gp,vp,zp,rfl,_⟩ := hpar
     have : (ix k0,0) ∈ partners (gs.setIfInBounds 0 ph) T.c true := mem_partners.2 ⟨_,by rw [Array.getElem?_setIfInBounds_ne (by omega)]; exact hy0,by rw [offersAt_parked_send,if_pos rfl]; simp⟩
     rw [e] at this
     cases this)
    (fun j b hjb => by
     obtain ⟨y,hy,hb⟩ := mem_partners.1 hjb
     rcases getElem?_stand _ _ _ _ hy with ⟨_,rfl⟩ | ⟨hj0,hy⟩
     ·cases hb
     ·obtain ⟨k,hk,rfl,rfl,gp,vp,zp,rfl,_⟩ := I.sends (by omega) hy hb
      exact ⟨rfl,hj0,gp,vp,zp,_,hy⟩)
   obtain ⟨k,hk,rfl,_,gp,vp,zp,hpe,hv,n,hq⟩ := I.sends (b := 0) (Nat.pos_of_ne_zero hij) hgj (by rw [offersAt_parked_send,if_pos rfl]; simp)
   have hoff := congrArg Goroutine.offers hpe
   simp only [parked,scase,Option.some.injEq,Prod.mk.injEq] at hoff
   obtain ⟨ho1,rfl⟩ := hoff
   have hz : vj = vp ∧ zj = zp := by simpa using ho1
   obtain ⟨rfl,rfl⟩ := hz
   have hgeq : gj.finishComm P #[scase T.c vj zj] .send 0 undef false = Conc.served gp undef := by
    rw [← finishComm_send P gp #[scase T.c vj zj] 0 undef false,← finishComm_parked P gj _ #[scase T.c vj zj] _ .send,hpe,finishComm_parked]
   refine ⟨_,_,hr,?_⟩
   rw [hgeq,finish_recv,evs_front]
   have hlt := I.ixr k hk
   exact hN k hk vj hv _ _ sl _ _ ix (passed_rely (I.chft _ _ hown)) (Array.getElem?_setIfInBounds_self_of_lt (by simpa using hlt0))
    (I.handed (n := n) (y := Conc.served gp undef) hk hc (by simp) (by rw [Array.getElem?_setIfInBounds_ne (by omega)]; exact Array.getElem?_setIfInBounds_self_of_lt hlt.2) hq
     (fun j h1 h2 => by rw [Array.getElem?_setIfInBounds_ne (by omega),Array.getElem?_setIfInBounds_ne (Ne.symm h2)]) d gj.frame.fn gj.frame.place g₂.frame.fn g₂.frame.place)
  ·have hr := crowd_waits (P := P) (sl := sl) (gs := gs) (w := w₁) (i := 0) h0 (show stepG P (0 == 0) _ w₁ = _ from hgo) fun cc hcc => by
    obtain rfl : cc = rcase T.c z := by simpa using hcc
    refine ways_recv_none hc (partners_nil fun j y hy => ?_)
    rcases getElem?_stand _ _ _ _ hy with ⟨_,rfl⟩ | ⟨hj0,hy⟩
    ·rfl
    ·cases e : offersAt y T.c true with
     | nil => rfl
     | cons b l =>
      obtain ⟨k,hk,rfl,rfl,gp,vp,zp,rfl,_⟩ := I.sends (b := b) (by omega) hy (by rw [e]; simp)
      exfalso
      obtain ⟨z',h1,_,h3⟩ := I.pnd k hk
      rw [hy] at h1
      cases h1
      rcases h3 with ⟨_,_,_,W⟩ | ⟨e',_⟩
      ·have := W.way.running
       cases this
      ·exact hpk ⟨k,hk,e'⟩
   refine ⟨_,_,hr,?_⟩
   rw [evs_nil]
   have h0' : (gs.setIfInBounds 0 (parked g₂ #[rcase T.c z] (.recv ok)))[0]? = some (parked g₂ #[rcase T.c z] (.recv ok)) := Array.getElem?_setIfInBounds_self_of_lt hlt0
   refine park_ends hp hN h0' (RelyW.refl _ _) (I.front (by simp) fun j hj => Array.getElem?_setIfInBounds_ne (by omega)) fun k hk e => hpk ⟨k,hk,e⟩
end
section
variable {P : Program} {W0 : World} {Post : Value → World → Prop} {T : Crew} {g : Goroutine} {w w₁ w' : World} {ft f' : Foot}
theorem J1.crew (hp : T.pend = []) (hch : ∀ b x,T.ch b = some x → ft.rd b ∧ x.2 = (#[],false) ∧ w.heap[b]? = some (.chan x.1 #[] false 0 0 false))
  (hrd : ∀ b,f'.rd b → ft.rd b ∧ T.ch b = none) (hwr : ∀ b,f'.wr b → ft.wr b ∧ f'.rd b) (h : JC P W0 Post T g w f') : J1 P W0 Post g w ft := by
 intro gs w₁ sl t q hbd hsub hrel hbase h0 hL hP
 have heap : ∀ b x,T.ch b = some x → w₁.heap[b]? = some (.chan x.1 x.2.1 x.2.2 0 0 false) := fun b x hb => by
  obtain ⟨h1,h2,h3⟩ := hch b x hb
  rw [hrel.heap b h1,h3,h2]
 have no : ∀ k,k ∉ T.pend := fun k hk => by rw [hp] at hk; cases hk
 refine h gs w₁ sl t (fun i => .quit (q i)) (fun _ => 0) ⟨fun b hb => hrel.heap b (hrd b hb).1,hrel.size,hrel.tape,hrel.os,hrel.output⟩ h0
  { base := hbase,lt := fun b hb => hbd b (hrd b hb).1,sub := fun b hb => (hwr b hb).2,chan := fun b x hb => ⟨0,0,false,heap b x hb⟩,cnt := fun b x s r tm hb hw => ?_,chft := fun b x hb hr => ?_,own := fun hne => absurd hp hne,nd := by rw [hp]; exact List.nodup_nil,ixr := fun k hk => absurd hk (no k),inj := fun k hk => absurd hk (no k),pnd := fun k hk => absurd hk (no k),old := fun i y hi hy _ => ⟨q i,rfl,hL.old i y hi hy⟩,disj := fun k hk => absurd hk (no k),above := hL.above,hears := hP.hears,clean := hP.clean,known := fun i a ha hm => .inl ((hP.known i a ha hm).resolve_right fun x => x.1),done := fun i a ha hm => .inl ((hP.known i a ha hm).resolve_right fun x => x.1),seen := hP.seen }
 ·rw [heap b x hb] at hw
  obtain ⟨_,h2,_⟩ := hch b x hb
  simp only [Option.some.injEq,Obj.chan.injEq] at hw
  obtain ⟨_,_,_,rfl,rfl,_⟩ := hw
  rw [h2]
  rfl
 ·have := (hrd b hr).2
  rw [hb] at this
  cases this
def base0 (P : Program) : Frame := { (default : Frame) with fn := P.funcs.size,defers := [],mode := .panicking [goexitEntry] }
theorem base_catches (P : Program) : (base0 P).catches P = false := by
 have e : (base0 P).todo = [] := rfl
 unfold Frame.catches
 rw [e]
 split
 ·rename_i h
  cases h
 ·rfl
theorem base_quits (hc : (base0 P).catches P = false) : QuitsD P 1 0 (G (base0 P) []) := by
 refine .inr ⟨rfl,{ frame := base0 P,callers := [],status := .finished,dying := none },#[],by simp,fun w => ?_,rfl,rfl⟩
 have e1 : (base0 P).defers = [] := rfl
 have e2 : (base0 P).mode = .panicking [goexitEntry] := rfl
 simp only [G,stepG,e2,unwind,e1,hc]
 simp [goexitEntry]
theorem quiet_run {α : Type} {s : Go.Sem α} {w : World} {Q : α → World → Prop} (h : RunsTo P (fun _ => False) s w Q) : ∃ v w',s.runT P w #[] = (.ok v w',#[]) ∧ Q v w' := by
 obtain ⟨v,w',es,hr,he,hq⟩ := h #[] (by simp)
 have hes : es = #[] := by
  apply Array.eq_empty_of_size_eq_zero
  cases hs : es.size with
  | zero => rfl
  | succ n => exact (he es[0] (Array.getElem_mem (by omega))).elim
 subst hes
 exact ⟨v,w',hr,hq⟩
variable {b : FB} {a : Act} {cs : List Frame} {ops : Array Oper} {fn : Func}
theorem worker_quits (hk : b.kind = .deferred) (hr : b.ro = none) (hbd : b.dfs = []) (hd : a.defers = []) (hf : P.funcs[b.fn]? = some fn) (hres : fn.results = #[]) (hc : (base0 P).catches P = false) :
  QuitsD P 4 0 (G (b.at a [.inRegion ops []]) [base0 P]) := by
 obtain ⟨bf,bk,br,bd⟩ := b
 simp only at hk hr hf hbd
 subst hk hr hbd
 refine .ctl (g' := G (FB.at ⟨bf,.deferred,none,[]⟩ a []) [base0 P]) rfl (fun w => by simp [G,stepG,stepG.exec,FB.at]) ?_
 refine .ctl (g' := G { FB.at ⟨bf,.deferred,none,[]⟩ a [] with mode := .returning } [base0 P]) rfl (fun w => by simp [G,stepG,stepG.exec,FB.at]) ?_
 refine .ctl (g' := G (base0 P) []) rfl (fun w => ?_) (base_quits hc)
 have he : (results fn a.tmps).runT P w #[] = (.ok (.tuple #[]) w,#[]) := by
  have hrun : RunsTo P (fun _ => False) (results fn a.tmps) w fun v w' => v = .tuple #[] ∧ w' = w := by
   unfold results
   rw [hres,Array.mapM_eq_mapM_toList]
   exact RunsTo.bind (RunsTo.map (RunsTo.pure (RunsTo.pure ⟨by simp,rfl⟩)))
  obtain ⟨v,w',hr,rfl,rfl⟩ := quiet_run hrun
  exact hr
 simp only [G,stepG,FB.at,unwind,hd,hf,he,List.append_nil]
 simp [doReturn,base0,goexitEntry,GStep.after,seen]
theorem born_toward {Stop : JT} {d : Deferred} {g : FuncId} {caps : List Value} (hd : d = { target := .fn (.func g) ⟨caps⟩,args := #[] }) (hcl : callable P g = true)
  (h : Toward P Stop (G (Frame.enter P g ⟨caps⟩ .deferred) [base0 P]) w ft) : Toward P Stop (born P d) w ft := by
 subst hd
 refine (Toward.closed P Stop).step rfl fun w₁ h₁ => ?_
 have hrun : RunsTo P (EvOk ft) (invoke (.fn (.func g) ⟨caps⟩) #[]) w₁ fun nx w' => nx = .enter g ⟨caps⟩ ∧ w' = w₁ := by
  unfold invoke
  simp only
  refine callFunc_run hcl ⟨?_,rfl⟩
  congr 1
  apply Array.ext'
  simp
 obtain ⟨nx,w',es,hr,he,rfl,rfl⟩ := hrun #[] (by simp)
 have hes : ∀ e ∈ seen P P.funcs.size es,EvOk ft e := fun e hm => he e (mem_seen hm)
 refine ⟨G (Frame.enter P g ⟨caps⟩ .deferred) [base0 P],w',seen P P.funcs.size es,?_,rfl,(Stays.refl ft w').guar hes,?_⟩
 ·simp only [stepG,born,unwind,callDeferred,hr]
  simp [GStep.after,G,base0]
 ·rw [Foot.ext_self]
  exact h.rely h₁
end
section
variable {P : Program} {main : Bool} {W0 : World} {Post : Value → World → Prop} {T : Crew} {w w₁ w' : World} {ft : Foot} {ρ : Env} {h : List AObj} {FC : Frm} {N : Nat} {f : RG} {b : FB} {a : Act} {cs : List Frame} {K : List Item} {ops : Array Oper} {i : Nat} {rest : List Nat} {o : Oper}
theorem stepG_go (hk : b.kind ≠ .early) (ho : ops[i]? = some o) (hg : gd ops o f.r = some true) (A : ActRel h.length ρ N f a) {x : Operand} {ats : Array TypeId} (hop : o.op = .go { callee := .value x,args := #[],argTypes := ats })
  {g : FuncId} {cap : List Value} (hx : ev f.r x = .func (.func g) ⟨[]⟩ ⟨cap⟩) (w : World) :
  stepG P main (G (b.at a (.inRegion ops (i :: rest) :: K)) cs) w = .spawn (G (b.at (a.put o.dst undef) (.inRegion ops rest :: K)) cs) (born P { target := .fn (.func g) ⟨cap.map (ren ρ)⟩,args := #[] }) w #[] := by
 have hw := gd_wanted A hg
 have hnd : ∀ c,o.op ≠ .defer c := fun c e => by rw [hop] at e; cases e
 have hk' : (b.kind == CallKind.early) = false := by simpa using hk
 obtain ⟨hok,hv⟩ := (ev_rel A.regs x).val (by rw [hx]; simp [unk])
 rw [hx] at hv
 simp only [ren,renFn,renA,renL_eq,List.map_nil] at hv
 have hr : (execOp a.eval o).runT P w #[] = (.ok (.spawn { target := .fn (.func g) ⟨cap.map (ren ρ)⟩,args := #[] }) w,#[]) := by
  have hrun : RunsTo P (fun _ => False) (execOp a.eval o) w fun nx w' => nx = .spawn { target := .fn (.func g) ⟨cap.map (ren ρ)⟩,args := #[] } ∧ w' = w := by
   unfold execOp
   rw [hop]
   simp only [resolve,hv,Deferred.ofValue]
   refine RunsTo.bind (RunsTo.pure (RunsTo.pure ⟨?_,rfl⟩))
   congr 2
   simp
  obtain ⟨v,w',hr,rfl,rfl⟩ := quiet_run hrun
  exact hr
 have hf := FB.finish_at b a ops i rest K undef
 rw [ho] at hf
 simp only [Option.bind_some] at hf
 rw [stepG_op ho hw hnd,← hf]
 simp only [stepG.apply,hr,if_true]
 simp [FB.at,hk',GStep.after,G,born,seen]
theorem stepG_recv (hk : b.kind ≠ .early) (ho : ops[i]? = some o) (hg : gd ops o f.r = some true) (A : ActRel h.length ρ N f a) {x : Operand} {t : TypeId} {ok : Bool} (hop : o.op = .recv t x ok)
  {dir : ChanDir} {e : TypeId} (hu : P.underlying t = some (.chan dir e)) {ie : TypeInfo} (hi : P.info? e = some ie) {z : Value} (hz : ie.zero = some z) {c : Nat} (hx : ev f.r x = .chan (some c)) (w : World) :
  stepG P main (G (b.at a (.inRegion ops (i :: rest) :: K)) cs) w = .comm (G (b.at a (.inRegion ops (i :: rest) :: K)) cs) #[rcase (ρ.blk c) z] true (.recv ok) w #[] := by
 have hw := gd_wanted A hg
 have hnd : ∀ c,o.op ≠ .defer c := fun c e => by rw [hop] at e; cases e
 have hk' : (b.kind == CallKind.early) = false := by simpa using hk
 obtain ⟨hok,hv⟩ := (ev_rel A.regs x).val (by rw [hx]; simp [unk])
 rw [hx] at hv
 simp only [ren] at hv
 have hrun : RunsTo P (fun _ => False) (execOp a.eval o) w fun nx w' => nx = .comm #[rcase (ρ.blk c) z] true (.recv ok) ∧ w' = w := by
  unfold execOp
  rw [hop]
  simp only
  refine RunsTo.bind (RunsTo.underlying hu ?_)
  simp only
  refine RunsTo.bind (RunsTo.zeroValue hi hz (RunsTo.pure ⟨?_,rfl⟩))
  rw [hv]
  rfl
 obtain ⟨nx,w',hr,rfl,rfl⟩ := quiet_run hrun
 rw [stepG_op ho hw hnd]
 simp only [stepG.apply,hr,if_true]
 simp [FB.at,hk',GStep.after,G,seen]
theorem stepG_send (hk : b.kind ≠ .early) (ho : ops[i]? = some o) (hg : gd ops o f.r = some true) (A : ActRel h.length ρ N f a) {x y : Operand} (hop : o.op = .send x y) {c : Nat} (hx : ev f.r x = .chan (some c)) {v : Value} (hy : ev f.r y = v) (hv : v ≠ unk) (w : World) :
  stepG P main (G (b.at a (.inRegion ops (i :: rest) :: K)) cs) w = .comm (G (b.at a (.inRegion ops (i :: rest) :: K)) cs) #[scase (ρ.blk c) (ren ρ v) (.tuple #[])] true .send w #[] := by
 have hw := gd_wanted A hg
 have hnd : ∀ c,o.op ≠ .defer c := fun c e => by rw [hop] at e; cases e
 have hk' : (b.kind == CallKind.early) = false := by simpa using hk
 have hxv := ((ev_rel A.regs x).val (by rw [hx]; simp [unk])).2
 have hyv := ((ev_rel A.regs y).val (by rw [hy]; exact hv)).2
 rw [hx] at hxv
 rw [hy] at hyv
 simp only [ren] at hxv
 have hr : (execOp a.eval o).runT P w #[] = (.ok (.comm #[scase (ρ.blk c) (ren ρ v) (.tuple #[])] true .send) w,#[]) := by
  unfold execOp
  rw [hop]
  simp only [hxv,hyv]
  rfl
 rw [stepG_op ho hw hnd]
 simp only [stepG.apply,hr,if_true]
 simp [FB.at,hk',GStep.after,G,seen]
theorem served_at (v : Value) : Conc.served (G (b.at a (.inRegion ops (i :: rest) :: K)) cs) v = G (b.at (a.put ((ops[i]?).bind (·.dst)) v) (.inRegion ops rest :: K)) cs := by
 rw [← FB.finish_at]
 rfl
theorem go_step (hk : b.kind ≠ .early) (ho : ops[i]? = some o) (hg : gd ops o f.r = some true) (A : ActRel h.length ρ N f a) {x : Operand} {ats : Array TypeId} (hop : o.op = .go { callee := .value x,args := #[],argTypes := ats })
  {g : FuncId} {cap : List Value} (hx : ev f.r x = .func (.func g) ⟨[]⟩ ⟨cap⟩) (hcl : callable P g = true) {k : Nat} (hkp : k ∉ T.pend) (hown : T.ch T.c = some (0,#[],false))
  (hto : ∀ w₁,RelyW ft w w₁ → Toward P (AtSend P T.c (T.phi k)) (G (Frame.enter P g ⟨cap.map (ren ρ)⟩ .deferred) [base0 P]) w₁ ft.lend)
  (hJ : ∀ w₁,RelyW ft w w₁ → JC P W0 Post (T.more k) (G (b.at (a.put o.dst undef) (.inRegion ops rest :: K)) cs) w₁ ft.lend) :
  JC P W0 Post T (G (b.at a (.inRegion ops (i :: rest) :: K)) cs) w ft :=
 JC.spawn rfl hkp hown fun w₁ h₁ => ⟨_,_,stepG_go hk ho hg A hop hx w₁,born_toward rfl hcl (hto w₁ h₁),hJ w₁ h₁⟩
theorem recv_step (hk : b.kind ≠ .early) (ho : ops[i]? = some o) (hg : gd ops o f.r = some true) (A : ActRel h.length ρ N f a) {x : Operand} {t : TypeId} {ok : Bool} (hop : o.op = .recv t x ok)
  {dir : ChanDir} {e : TypeId} (hu : P.underlying t = some (.chan dir e)) {ie : TypeInfo} (hi : P.info? e = some ie) {z : Value} (hz : ie.zero = some z) {c : Nat} (hx : ev f.r x = .chan (some c)) (hc : ρ.blk c = T.c) (hp : T.pend ≠ [])
  (hN : ∀ k ∈ T.pend,∀ v,T.phi k v → ∀ w₁,RelyW ft w w₁ → JC P W0 Post (T.less k) (G (b.at (a.put o.dst (recvd ok v true)) (.inRegion ops rest :: K)) cs) w₁ ft) :
  JC P W0 Post T (G (b.at a (.inRegion ops (i :: rest) :: K)) cs) w ft :=
 JC.recv rfl hp fun w₁ h₁ => ⟨_,z,by rw [← hc]; exact stepG_recv hk ho hg A hop hu hi hz hx w₁,fun k hk v hv => by
  rw [served_at,ho]
  exact hN k hk v hv w₁ h₁⟩
theorem send_stop (hk : b.kind = .deferred) (hr : b.ro = none) (hbd : b.dfs = []) (ho : ops[i]? = some o) (hg : gd ops o f.r = some true) (A : ActRel h.length ρ N f a) (hds : f.ds = []) {x y : Operand} (hop : o.op = .send x y) (hdst : o.dst = none) {c : Nat} (hx : ev f.r x = .chan (some c)) (hc : ρ.blk c = T.c) {v : Value} (hy : ev f.r y = v) (hv : v ≠ unk)
  {k : Nat} (hphi : T.phi k (ren ρ v)) {fn : Func} (hf : P.funcs[b.fn]? = some fn) (hres : fn.results = #[]) (hca : (base0 P).catches P = false) :
  Toward P (AtSend P T.c (T.phi k)) (G (b.at a [.inRegion ops [i]]) [base0 P]) w ft :=
 .stop rfl fun w₁ _ => ⟨_,_,_,by rw [← hc]; exact stepG_send (by rw [hk]; simp) ho hg A hop hx hy hv w₁,hphi,4,by
  rw [served_at,ho]
  simp only [Option.bind_some,hdst]
  exact worker_quits hk hr hbd (by simp [Act.put,A.defers,hds]) hf hres hca⟩
end
end Go.Proofs.YtaceckiodofdkaaDoor
