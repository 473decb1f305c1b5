/- TallyAll answers true at every input, and its argument reads behind the call as it read before. No conditions. -/
import Derived.Test.YtdgpacdknpahnaaK2
import Derived.Test.YtdgpacdknpahnaaK4
import Derived.Test.YtdgpacdknpahnaaK3
import Derived.Conc.Holds
import Derived.Conc.Beside
import Derived.Below
import Derived.Test.YtdgpacdknpahnaaRows
import Derived.Conc.LeavingOf
import Derived.ChangeSlices
import Derived.OpenShut
import Derived.Carry

namespace Go.Proofs.Ytdgpacdknpahnaa
open Go.Conc Go.Proofs.Try
set_option maxRecDepth 100000
def ownL (t : Tal) (g : Nat) (n m : Int) : Rng := ⟨max 0 (n + ((t.changes[g]?).getD ⟨0, 0⟩).lo - m), min t.most (n + ((t.changes[g]?).getD ⟨0, 0⟩).hi - m)⟩
def mixL (acc s o : Rng) : Rng := if s.lo ≤ s.hi ∧ o.lo ≤ o.hi then ⟨min acc.lo (s.plus o).lo, max acc.hi (s.plus o).hi⟩ else acc
def accL (t : Tal) (g : Nat) (lo : Int) (prev : Nat → Rng) (m : Int) : Nat → Rng
  | 0 => ⟨1048576, -1⟩
  | i + 1 => mixL (accL t g lo prev m i) (prev i) (ownL t g (lo + i) m)
def wid (r : Rng) : Nat := (r.hi - r.lo + 1).toNat
def lossL (t : Tal) (R : Nat → Rng) (a : Nat) : Nat → Nat → Rng
  | 0, _ => ⟨0, 0⟩
  | d + 1, k => accL t (a + d) (R (a + d)).lo (lossL t R a d) ((R (a + d + 1)).lo + k) (wid (R (a + d)))
def hullL (f : Nat → Rng) : Nat → Rng
  | 0 => f 0
  | n + 1 => ⟨min (hullL f n).lo (f n).lo, max (hullL f n).hi (f n).hi⟩
def lostR (t : Tal) (R : Nat → Rng) (a b : Nat) : Rng := hullL (lossL t R a (b - a)) (wid (R b))

def RSm (R : Nat → Rng) (G : Nat) : Prop := ∀ g, g < G → 0 ≤ (R g).lo ∧ (R g).lo ≤ (R g).hi ∧ (R g).hi ≤ 600

def Rng.lm (r : Rng) (B : Int) : Prop := 0 ≤ r.lo ∧ r.lo ≤ 1048576 ∧ -1 ≤ r.hi ∧ r.hi ≤ B
theorem mixL_lm {acc s o : Rng} {B : Int} (h1 : acc.lm (B + 60)) (h2 : s.lm B) (h3 : 0 ≤ o.lo ∧ o.hi ≤ 60) (hB : 0 ≤ B ∧ B ≤ 10000) : (mixL acc s o).lm (B + 60) := by
  obtain ⟨_, _, _, _⟩ := h1
  obtain ⟨_, _, _, _⟩ := h2
  unfold mixL
  split
  · unfold Rng.plus Rng.lm
    dsimp only
    omega
  · unfold Rng.lm
    omega
theorem ownL_sm {t : Tal} (h : TalFine t) (g : Nat) {n m : Int} (hn : 0 ≤ n ∧ n ≤ 600) (hm : 0 ≤ m ∧ m ≤ 600) : (ownL t g n m).sm 2000 := by
  have h1 := h.most
  unfold ownL
  cases e : t.changes[g]? with
  | none =>
    unfold Rng.sm
    dsimp only [Option.getD]
    omega
  | some r =>
    have := h.ch r (List.mem_of_getElem? e)
    unfold Rng.sm
    dsimp only [Option.getD]
    omega
theorem accL_lm {t : Tal} (h : TalFine t) (g : Nat) {lo m B : Int} {prev : Nat → Rng} {w : Nat} (hB : 0 ≤ B ∧ B ≤ 10000) (hp : ∀ i, i < w → (prev i).lm B) : ∀ i, i ≤ w → (accL t g lo prev m i).lm (B + 60)
  | 0, _ => by
    show Rng.lm ⟨1048576, -1⟩ _
    unfold Rng.lm
    dsimp only
    omega
  | i + 1, hi => by
    have ih := accL_lm h g (lo := lo) (m := m) hB hp i (by omega)
    have hm := h.most
    refine mixL_lm ih (hp i (by omega)) ?_ hB
    unfold ownL
    dsimp only
    omega
theorem lossL_lm {t : Tal} (h : TalFine t) {R : Nat → Rng} {a : Nat} : ∀ d, d ≤ 10 → ∀ k, (lossL t R a d k).lm (60 * d)
  | 0, _, k => by
    show Rng.lm ⟨0, 0⟩ _
    unfold Rng.lm
    dsimp only
    omega
  | d + 1, hd, k => by
    have ih := lossL_lm (a := a) (R := R) h d (by omega)
    have h1 := accL_lm h (a + d) (lo := (R (a + d)).lo) (m := (R (a + d + 1)).lo + k) (B := 60 * d) (prev := lossL t R a d) (w := wid (R (a + d))) (by omega) (fun i _ => ih i) _ (Nat.le_refl _)
    have e : (60 : Int) * ((d + 1 : Nat) : Int) = 60 * d + 60 := by omega
    rw [e]
    exact h1

structure St73 (h0 H : List AObj) (bw p5 po : Nat) (t : Tal) (cv nv : Value) (u : Int) (m : Value) (R : Nat → Rng) : Prop where
  w : WorkIn h0 H bw t cv nv u m
  l5 : H[p5]? = some (.cells [.slice (some ⟨po, 0, none⟩) t.gates.toNat t.gates.toNat] true 0)
  lo : H[po]? = some (.cells (rngsC R t.gates.toNat) true 0)
  b0 : h0.length ≤ p5
  b1 : bw < p5
  b2 : po < p5
theorem St73.same {h0 H H' : List AObj} {bw p5 po : Nat} {t : Tal} {cv nv : Value} {u : Int} {m : Value} {R : Nat → Rng} {X : List Nat} (s : St73 h0 H bw p5 po t cv nv u m R) (S : SameX X H H') (hX : ∀ x ∈ X, p5 < x) : St73 h0 H' bw p5 po t cv nv u m R := by
  have b0 := s.b0
  have b1 := s.b1
  have b2 := s.b2
  exact ⟨s.w.same S (fun x hx => by have := hX x hx; omega) (fun hx => by have := hX _ hx; omega), S.get s.l5 (fun hx => by have := hX _ hx; omega), S.get s.lo (fun hx => by have := hX _ hx; omega), b0, b1, b2⟩

def keep73 : List Nat := [0, 3, 5, 8, 9, 10, 11, 12, 13, 14, 39, 40, 55, 56]

section
variable {main : Bool} {J : JT} {h h0 H : List AObj} {K : Value → List AObj → Prop} {KV : Value → Prop} {n0 : Nat}
theorem good102 (hJ : Closed prog main J) {p5 po G i : Nat} {R : Nat → Rng} (l5 : h[p5]? = some (.cells [.slice (some ⟨po, 0, none⟩) G G] true 0)) (lo : h[po]? = some (.cells (rngsC R G) true 0)) (hi : i < G) (hR : RSm R G) (hK : K (vint (wid (R i) : Nat)) h) : Good prog J 102 [vint i, ptr p5 0] h K := by
  refine g102 hJ fun ok => ?_
  rw [e102]
  have hr := hR i hi
  have hg := rngsC_get R hi
  refine ldI l5 rfl rfl (idxI ⟨by omega, by omega⟩ (offI ?_))
  rw [Int.toNat_natCast, Nat.zero_add]
  refine ldI lo (part_get (j := 1) hg rfl) rfl (ldI l5 rfl rfl (idxI ⟨by omega, by omega⟩ (offI ?_)))
  rw [Int.toNat_natCast, Nat.zero_add]
  refine ldI lo (part_get (j := 0) hg rfl) rfl (subI (by omega) (addI (by omega) (retL_same (by simp [unk]) ?_)))
  have e : (R i).hi - (R i).lo + 1 = (wid (R i) : Nat) := by unfold wid; omega
  rw [e]
  exact hK

theorem good103 (hJ : Closed prog main J) {a b : Int} {p c : Nat} (hp : h[p]? = some (.cells [vint b] true 0)) (hK : K (vint (min a b)) h) : Good prog J 103 [vint a, .slice (some ⟨p, 0, none⟩) 1 c] h K := by
  refine g103 hJ fun ok => ?_
  rw [e103, lenS]
  refine l103_1 hJ (fun i : Nat => 1 - i) (fun i f H => H = h ∧ i ≤ 1 ∧ f.ds = [] ∧ f.r 0 = vint (if i = 0 then a else min a b) ∧ f.r 7 = .slice (some ⟨p, 0, none⟩) 1 c ∧ f.r 8 = vint (1 : Nat) ∧ f.r 9 = vint (i : Nat)) ?_ (s := 0) (.inl ⟨rfl, by omega, rfl, rfl, rfl, rfl, rfl⟩)
  rintro i f H ⟨rfl, hi, hds, r0, r7, r8, r9⟩ ok' hn'
  rw [s103_1]
  simp only [r0, r7, r8, r9, hds]
  refine lssI (cndI (fun hlt => ?_) fun hge => ?_)
  · have : i = 0 := by omega
    subst this
    refine idxI ⟨by omega, by omega⟩ (ldI (v := vint b) hp rfl rfl (minI (addI (by omega) ?_)))
    exact ⟨1, by dsimp only; omega, .inl ⟨rfl, by omega, hds, rfl, r7, r8, rfl⟩⟩
  · have : i = 1 := by omega
    subst this
    exact retL_same (by simp [unk]) hK

theorem in73 (hJ : Closed prog main J) {bw p5 po pn pk g k i w w' : Nat} {t : Tal} {cv nv : Value} {u mm : Int} {m : Value} {R P Nx' : Nat → Rng} {f : RG} {nx0 nx1 nx2 : RG → List AObj → Prop} (s : St73 h0 H bw p5 po t cv nv u m R) (fine : TalFine t) (hR : RSm R t.gates.toNat)
    (hg : g + 1 < t.gates.toNat) (hi : i < w) (hw : w = wid (R g)) (hk : k < w') (hm : 0 ≤ mm ∧ mm ≤ 600) (hPs : (P i).lm 1000)
    (zn : H[pn]? = some (.cells (rngsC P w) true 0)) (zk : H[pk]? = some (.cells (rngsC Nx' w') true 0)) (hnk : pn ≠ pk) (bn : p5 < pn) (bk : p5 < pk)
    (r0 : f.r 0 = ptr bw 0) (r5 : f.r 5 = ptr p5 0) (r11 : f.r 11 = vint g) (r12 : f.r 12 = .slice (some ⟨pk, 0, none⟩) w' w') (r13 : f.r 13 = vint k) (r14 : f.r 14 = vint mm) (r55 : f.r 55 = .slice (some ⟨pn, 0, none⟩) w w) (r56 : f.r 56 = vint w) (r57 : f.r 57 = vint i)
    (hx : ∀ H' f', SameX [pk] H H' → H'[pk]? = some (.cells (rngsC (fun j => if j = k then mixL (Nx' k) (P i) (ownL t g ((R g).lo + i) mm) else Nx' j) w') true 0) → (∀ j ∈ keep73, f'.r j = f.r j) → f'.ds = f.ds → f'.r 57 = vint ((i : Int) + 1) → nx2 f' H') :
    W prog J 162 n0 73 (subC [1, 1, 1, 0, 1, 0, 0, 1, 0, 0, 1, 0, 1, 0, 0, 1, 1, 0, 0, 1, 1, 1, 1, 0, 0] (codeOf f73)) f H (thenK nx2 (contQ prog J 162 n0 73 [1, 1, 1, 0, 1, 0, 0, 1, 0, 0, 1, 0, 1, 0, 0, 1, 1, 0, 0, 1, 1, 1, 1, 0] (codeOf f73) [nx0, nx1] (RetQ prog [.cell 8 98] n0 K))) := by
  have hgt := fine.gates
  have hch := fine.chl
  have hmo := fine.most
  have hb1 := s.b1
  have hb2 := s.b2
  have hrg := hR g (by omega)
  have hww : (wid (R g) : Int) = (R g).hi - (R g).lo + 1 := by unfold wid; omega
  rw [s73_4]
  simp only [r0, r5, r11, r12, r13, r14, r55, r56, r57]
  refine lssI (cndI (fun hlt => ?_) fun hge => absurd (by omega) hge)
  refine idxI ⟨by omega, by omega⟩ ?_
  rw [Int.toNat_natCast, Nat.zero_add]
  refine load_part (c := (P i).cells) zn (by rw [rngsC_len]; omega) (rngsC_get _ hi) rfl ?_
  refine qAl fun H1 p16 e1 S1 c1 l1 => qStA (c := (P i).cells) c1 rfl rfl rfl fun H2 S2 c2 l2 => ?_
  have S12 : SameX [p16] H H2 := S1.weak0.trans S2
  have hlen := lt_of_get zk
  have hlen5 := lt_of_get s.l5
  have s2 := s.same S12 (by simp; omega)
  refine ldI s2.l5 rfl rfl (idxI ⟨by omega, by omega⟩ (offI ?_))
  rw [Int.toNat_natCast, Nat.zero_add]
  refine ldI s2.lo (part_get (j := 0) (rngsC_get R (by omega)) rfl) rfl (addI (by omega) ?_)
  have hj : g < t.changes.length := by omega
  have hcb := fine.ch _ (List.getElem_mem hj)
  have hcg : (t.changes[g]?).getD ⟨0, 0⟩ = t.changes[g] := by rw [List.getElem?_eq_getElem hj]; rfl
  have kc := s2.w.work.kc
  obtain ⟨b2, o2, cs2, wr2, sz2, hidx, hb, hle, hpart, hkn⟩ := sliE_elem rng_len (by omega) s2.w.work.ch hj
  have hb2l := lt_of_get hb
  -- the common rest: what may be lost here is reckoned
  have post : ∀ (H5 : List AObj) (p18 : Nat) (F : RG), SameX [p16] H H5 → H5[p16]? = some (.cells (P i).cells true 0) → H5[p18]? = some (.cells (ownL t g ((R g).lo + i) mm).cells true 0) → H.length ≤ p18 → p18 ≠ p16 → F.r 16 = ptr p16 0 → F.r 18 = ptr p18 0 → (∀ j ∈ keep73, F.r j = f.r j) → F.ds = f.ds → F.r 57 = vint i →
      W prog J 162 n0 73 (subC [1, 1, 1, 0, 1, 0, 0, 1, 0, 0, 1, 0, 1, 0, 0, 1, 1, 0, 0, 1, 1, 1, 1, 0, 0, 1, 1, 0, 0, 1, 1, 1] (codeOf f73)) F H5 (contQ prog J 162 n0 73 [1, 1, 1, 0, 1, 0, 0, 1, 0, 0, 1, 0, 1, 0, 0, 1, 1, 0, 0, 1, 1, 1, 1, 0, 0, 1, 1, 0, 0, 1, 1, 1] (codeOf f73) [nx0, nx1, nx2] (RetQ prog [.cell 8 98] n0 K)) := by
    intro H5 p18 F S5 z16 z18 b18 n18 q16 q18 hkeep hds q57
    have hown := ownL_sm fine g (n := (R g).lo + i) (m := mm) (by omega) hm
    have q12 := (hkeep 12 (by simp [keep73])).trans r12
    have q13 := (hkeep 13 (by simp [keep73])).trans r13
    generalize ownL t g ((R g).lo + i) mm = o at *
    have zk5 := S5.get zk (by simp; omega)
    -- nothing to be mixed
    have skip : ∀ F' : RG, mixL (Nx' k) (P i) o = Nx' k → F'.r 111 = .bool false → (∀ j ∈ keep73, F'.r j = f.r j) → F'.ds = f.ds → F'.r 57 = vint i →
        W prog J 162 n0 73 (subC [1, 1, 1, 0, 1, 0, 0, 1, 0, 0, 1, 0, 1, 0, 0, 1, 1, 0, 0, 1, 1, 1, 1, 0, 0, 1, 1, 0, 0, 1, 1, 1, 1] (codeOf f73)) F' H5 (contQ prog J 162 n0 73 [1, 1, 1, 0, 1, 0, 0, 1, 0, 0, 1, 0, 1, 0, 0, 1, 1, 0, 0, 1, 1, 1, 1, 0, 0, 1, 1, 0, 0, 1, 1, 1, 1] (codeOf f73) [nx0, nx1, nx2] (RetQ prog [.cell 8 98] n0 K)) := by
      intro F' hmx t111 tk tds t57
      rw [s73_6, t111, t57]
      refine cnd_false.2 (addI (by omega) (hx H5 _ (SameX.refl.thru S5 (by simp; omega) |>.weak0) ?_ ?_ tds rfl))
      · rw [zk5]
        congr 2
        refine rngsC_congr fun j _ => ?_
        split
        · rename_i e
          rw [e, hmx]
        · rfl
      · exact (fun j hj => by have hh := tk j hj; simp only [keep73, List.mem_cons, List.not_mem_nil, or_false] at hj; rcases hj with rfl | rfl | rfl | rfl | rfl | rfl | rfl | rfl | rfl | rfl | rfl | rfl | rfl | rfl <;> exact hh)
    -- mixed
    have mixd : ∀ F' : RG, mixL (Nx' k) (P i) o = ⟨min (Nx' k).lo ((P i).plus o).lo, max (Nx' k).hi ((P i).plus o).hi⟩ → (P i).lo ≤ (P i).hi → o.lo ≤ o.hi → F'.r 111 = .bool true → F'.r 16 = ptr p16 0 → F'.r 18 = ptr p18 0 → (∀ j ∈ keep73, F'.r j = f.r j) → F'.ds = f.ds → F'.r 57 = vint i →
        W prog J 162 n0 73 (subC [1, 1, 1, 0, 1, 0, 0, 1, 0, 0, 1, 0, 1, 0, 0, 1, 1, 0, 0, 1, 1, 1, 1, 0, 0, 1, 1, 0, 0, 1, 1, 1, 1] (codeOf f73)) F' H5 (contQ prog J 162 n0 73 [1, 1, 1, 0, 1, 0, 0, 1, 0, 0, 1, 0, 1, 0, 0, 1, 1, 0, 0, 1, 1, 1, 1, 0, 0, 1, 1, 0, 0, 1, 1, 1, 1] (codeOf f73) [nx0, nx1, nx2] (RetQ prog [.cell 8 98] n0 K)) := by
      intro F' hm1 hle1 hle2 t111 t16 t18 tk tds t57
      have t12 := (tk 12 (by simp [keep73])).trans r12
      have t13 := (tk 13 (by simp [keep73])).trans r13
      rw [s73_6]
      simp only [t111, t16, t18, t12, t13, t57]
      refine cnd_true.2 ?_
      refine load_part (c := (P i).cells) z16 (by simp [Rng.cells]) rfl rfl ?_
      refine load_part (c := o.cells) z18 (by simp [Rng.cells]) rfl rfl ?_
      refine good100 hJ (r := P i) (q := o) (by obtain ⟨_, _, _, _⟩ := hPs; unfold Rng.sm; omega) (Rng.sm_le hown (by omega)) ?_
      refine qStA (c := ((P i).plus o).cells) z16 rfl rfl rfl fun H6 S6 z6 l6 => ?_
      have zk6 := S6.get zk5 (by simp; omega)
      have hgk := rngsC_get Nx' hk
      refine ⟨[pk, p16], idxI ⟨by omega, by omega⟩ (offI ?_)⟩
      rw [Int.toNat_natCast, Nat.zero_add]
      refine ldI zk6 (part_get (j := 0) hgk rfl) rfl ⟨by simp [RdOk, ptrBlk, ptr], offI (ldI (v := vint ((P i).plus o).lo) z6 rfl rfl ⟨by simp [RdOk, ptrBlk, ptr], idxI ⟨by omega, by omega⟩ (offI ?_)⟩)⟩
      rw [Int.toNat_natCast, Nat.zero_add]
      refine ldI zk6 (part_get (j := 1) hgk rfl) rfl ⟨by simp [RdOk, ptrBlk, ptr], offI (ldI (v := vint ((P i).plus o).hi) z6 rfl rfl ⟨by simp [RdOk, ptrBlk, ptr], maxI ?_⟩)⟩
      have h6l := S6.1
      have h5l := S5.1
      have hzl := lt_of_get z16
      have sb6 : ∀ {Hx : List AObj}, SameX [] H6 Hx → SameB (some [pk, p16]) H6 Hx := fun S b hb => by
        simp at hb
        rcases hb with rfl | rfl
        · exact S.2 _ (by omega) (by simp)
        · exact S.2 _ (by omega) (by simp)
      refine ⟨by decide, fill1 rfl rfl (by decide) (fillI (qNew fun H7 p7 e7 S7 c7 l7 => ⟨sb6 S7, good103 hJ c7 ⟨sb6 S7, fill1 rfl rfl (by decide) (fill1 rfl rfl (by simp) (fillI (idxI ⟨by omega, by omega⟩ ?_)))⟩⟩))⟩
      rw [Int.toNat_natCast, Nat.zero_add]
      refine qSt2 (S7.get zk6 (by simp)) (by rw [rngsC_len]; omega) rfl rfl fun H8 S8 c8 l8 => ?_
      have e8 := rngsC_set Nx' ⟨min (Nx' k).lo ((P i).plus o).lo, max (Nx' k).hi ((P i).plus o).hi⟩ hk
      rw [e8] at c8
      refine addI (by omega) (hx H8 _ ?_ ?_ (fun j hj => by have hh := tk j hj; simp only [keep73, List.mem_cons, List.not_mem_nil, or_false] at hj; rcases hj with rfl | rfl | rfl | rfl | rfl | rfl | rfl | rfl | rfl | rfl | rfl | rfl | rfl | rfl <;> exact hh) tds rfl)
      · have S58 : SameX [pk, p16] H5 H8 := ((S6.weak (Y := [pk, p16]) (by simp)).thru S7 (by simp)).trans (S8.weak (by simp))
        exact (SameX.thru (X := [pk]) SameX.refl ((S5.weak (Y := [pk, p16]) (by simp)).trans S58) (by simp; omega))
      · rw [c8, hm1]
    rw [s73_5, q16, q18]
    refine load_part (c := (P i).cells) z16 (by simp [Rng.cells]) rfl rfl (good104 hJ ?_)
    rw [u_not, cnd_ndec]
    refine ⟨fun hle1 => ?_, fun hgt1 => ?_⟩
    · refine load_part (c := o.cells) z18 (by simp [Rng.cells]) rfl rfl (good104 hJ ?_)
      rw [u_not]
      by_cases hle2 : o.lo ≤ o.hi
      · -- mixed
        have hm1 : mixL (Nx' k) (P i) o = ⟨min (Nx' k).lo ((P i).plus o).lo, max (Nx' k).hi ((P i).plus o).hi⟩ := by
          unfold mixL
          rw [if_pos ⟨by omega, hle2⟩]
        have hd : (decide (o.lo > o.hi)) = false := decide_eq_false (by omega)
        refine mixd _ hm1 (by omega) hle2 ?_ q16 q18 (fun j hj => by have hh := hkeep j hj; simp only [keep73, List.mem_cons, List.not_mem_nil, or_false] at hj; rcases hj with rfl | rfl | rfl | rfl | rfl | rfl | rfl | rfl | rfl | rfl | rfl | rfl | rfl | rfl <;> exact hh) hds q57
        show Value.bool (!decide (o.lo > o.hi)) = .bool true
        rw [hd]
        rfl
      · have hm1 : mixL (Nx' k) (P i) o = Nx' k := by
          unfold mixL
          rw [if_neg (by omega)]
        have hd : (decide (o.lo > o.hi)) = true := decide_eq_true (by omega)
        refine skip _ hm1 ?_ (fun j hj => by have hh := hkeep j hj; simp only [keep73, List.mem_cons, List.not_mem_nil, or_false] at hj; rcases hj with rfl | rfl | rfl | rfl | rfl | rfl | rfl | rfl | rfl | rfl | rfl | rfl | rfl | rfl <;> exact hh) hds q57
        show Value.bool (!decide (o.lo > o.hi)) = .bool false
        rw [hd]
        rfl
    · have hm1 : mixL (Nx' k) (P i) o = Nx' k := by
        unfold mixL
        rw [if_neg (by omega)]
      exact skip _ hm1 rfl (fun j hj => by have hh := hkeep j hj; simp only [keep73, List.mem_cons, List.not_mem_nil, or_false] at hj; rcases hj with rfl | rfl | rfl | rfl | rfl | rfl | rfl | rfl | rfl | rfl | rfl | rfl | rfl | rfl <;> exact hh) hds q57
  have eo : ownL t g ((R g).lo + i) mm = ⟨max 0 ((R g).lo + i + t.changes[g].lo - mm), min t.most ((R g).lo + i + t.changes[g].hi - mm)⟩ := by
    unfold ownL
    rw [hcg]
  rw [eo] at post
  have sb : ∀ {H' : List AObj}, SameX [] H2 H' → SameB (some [bw, b2]) H2 H' := fun S b hb => by
    simp at hb
    have hbw := lt_of_get s2.w.at_
    rcases hb with rfl | rfl
    · exact S.2 _ hbw (by simp)
    · exact S.2 _ hb2l (by simp)
  refine ⟨[bw, b2], nilI (offI (offI (ldI (v := cv) s2.w.at_ rfl kc.1 ⟨by simp [RdOk, ptrBlk, ptr], ?_⟩)))⟩
  refine hidx _ (offI (ldI hb (part_get (j := 0) hpart rfl) rfl ⟨by simp [RdOk, ptrBlk, ptr], addI (by omega) (subI (by omega) (maxI ?_))⟩))
  refine nilI (offI (offI (ldI (v := vint t.most) s2.w.at_ rfl rfl ⟨by simp [RdOk, ptrBlk, ptr], nilI (offI (offI (ldI (v := cv) s2.w.at_ rfl kc.1 ⟨by simp [RdOk, ptrBlk, ptr], ?_⟩)))⟩)))
  refine hidx _ (offI (ldI hb (part_get (j := 1) hpart rfl) rfl ⟨by simp [RdOk, ptrBlk, ptr], addI (by omega) (subI (by omega) ?_)⟩))
  have lH : H.length + 1 = H2.length := by omega
  refine ⟨⟨by decide, fill1 rfl rfl (by decide) (fillI (qNew fun H3 p3 e3 S3 c3 l3 => ⟨sb S3, ⟨good103 hJ c3 ⟨sb S3, fill1 rfl rfl (by decide) (fill1 rfl rfl (by simp) (fillI (qAl fun H4 p4 e4 S4 c4 l4 => ⟨sb (S3.trans S4), ?_⟩)))⟩, qAl fun H4 p4 e4 S4 c4 l4 => ⟨sb (S3.trans S4), ?_⟩⟩⟩))⟩, qAl fun H3 p3 e3 S3 c3 l3 => ⟨sb S3, ⟨by decide, fill1 rfl rfl (by decide) (fillI (qNew fun H4 p4 e4 S4 c4 l4 => ⟨sb (S3.trans S4), ?_⟩))⟩⟩⟩
  · refine qStA c4 rfl rfl rfl fun H5 S5 c5 l5 => ?_
    have S25 : SameX [p4] H2 H5 := ((S3.weak0 (Y := [p4])).trans S4.weak0).trans S5
    refine post H5 p4 _ ?_ (S25.get c2 (by simp; omega)) c5 (by omega) (by omega) rfl rfl (fun j hj => by simp only [keep73, List.mem_cons, List.not_mem_nil, or_false] at hj; rcases hj with rfl | rfl | rfl | rfl | rfl | rfl | rfl | rfl | rfl | rfl | rfl | rfl | rfl | rfl <;> rfl) rfl r57
    exact S12.thru S25 (by simp; omega)
  · refine good103 hJ (S4.get c3 (by simp)) ⟨sb (S3.trans S4), fill1 rfl rfl (by decide) (fill1 rfl rfl (by simp) (fillI ?_))⟩
    refine qStA c4 rfl rfl rfl fun H5 S5 c5 l5 => ?_
    have S25 : SameX [p4] H2 H5 := ((S3.weak0 (Y := [p4])).trans S4.weak0).trans S5
    refine post H5 p4 _ ?_ (S25.get c2 (by simp; omega)) c5 (by omega) (by omega) rfl rfl (fun j hj => by simp only [keep73, List.mem_cons, List.not_mem_nil, or_false] at hj; rcases hj with rfl | rfl | rfl | rfl | rfl | rfl | rfl | rfl | rfl | rfl | rfl | rfl | rfl | rfl <;> rfl) rfl r57
    exact S12.thru S25 (by simp; omega)
  · refine good103 hJ c4 ⟨sb (S3.trans S4), fill1 rfl rfl (by decide) (fill1 rfl rfl (by simp) (fillI ?_))⟩
    refine qStA (S4.get c3 (by simp)) rfl rfl rfl fun H5 S5 c5 l5 => ?_
    have S25 : SameX [p3] H2 H5 := ((S3.weak0 (Y := [p3])).trans S4.weak0).trans S5
    refine post H5 p3 _ ?_ (S25.get c2 (by simp; omega)) c5 (by omega) (by omega) rfl rfl (fun j hj => by simp only [keep73, List.mem_cons, List.not_mem_nil, or_false] at hj; rcases hj with rfl | rfl | rfl | rfl | rfl | rfl | rfl | rfl | rfl | rfl | rfl | rfl | rfl | rfl <;> rfl) rfl r57
    exact S12.thru S25 (by simp; omega)

theorem loop73 (hJ : Closed prog main J) {bw p5 po pn pk g k w w' : Nat} {t : Tal} {cv nv : Value} {u mm : Int} {m : Value} {R P N : Nat → Rng} {F : RG} {nx0 nx1 : RG → List AObj → Prop} (s : St73 h0 H bw p5 po t cv nv u m R) (fine : TalFine t) (hR : RSm R t.gates.toNat)
    (hg : g + 1 < t.gates.toNat) (hw : w = wid (R g)) (hk : k < w') (hw' : w' < 1000) (hm : 0 ≤ mm ∧ mm ≤ 600) (hP : ∀ i, i < w → (P i).lm 1000)
    (zn : H[pn]? = some (.cells (rngsC P w) true 0)) (zk : H[pk]? = some (.cells (rngsC (fun j => if j = k then ⟨1048576, -1⟩ else N j) w') true 0)) (hnk : pn ≠ pk) (bn : p5 < pn) (bk : p5 < pk)
    (r0 : F.r 0 = ptr bw 0) (r5 : F.r 5 = ptr p5 0) (r11 : F.r 11 = vint g) (r12 : F.r 12 = .slice (some ⟨pk, 0, none⟩) w' w') (r13 : F.r 13 = vint k) (r14 : F.r 14 = vint mm) (r40 : F.r 40 = vint k) (r55 : F.r 55 = .slice (some ⟨pn, 0, none⟩) w w) (r56 : F.r 56 = vint w) (r57 : F.r 57 = vint (0 : Nat))
    (hx : ∀ H' f', SameX [pk] H H' → H'[pk]? = some (.cells (rngsC (fun j => if j = k then accL t g (R g).lo P mm w else N j) w') true 0) → (∀ j ∈ [0, 3, 5, 8, 9, 10, 11, 12, 39], f'.r j = F.r j) → f'.ds = F.ds → f'.r 40 = vint ((k : Int) + 1) → nx1 f' H') :
    Sem J 162 n0 73 (subC [1, 1, 1, 0, 1, 0, 0, 1, 0, 0, 1, 0, 1, 0, 0, 1, 1, 0, 0, 1, 1, 1, 1, 0] (codeOf f73)) F H (contQ prog J 162 n0 73 [1, 1, 1, 0, 1, 0, 0, 1, 0, 0, 1, 0, 1, 0, 0, 1, 1, 0, 0, 1, 1, 1, 1, 0] (codeOf f73) [nx0, nx1] (RetQ prog [.cell 8 98] n0 K)) := by
  subst hw
  refine l73_4 hJ (fun i : Nat => wid (R g) - i) (fun i f' H' => SameX [pk] H H' ∧ i ≤ wid (R g) ∧ H'[pk]? = some (.cells (rngsC (fun j => if j = k then accL t g (R g).lo P mm i else N j) w') true 0) ∧ (∀ j ∈ keep73, f'.r j = F.r j) ∧ f'.ds = F.ds ∧ f'.r 57 = vint (i : Nat)) ?_ (s := 0)
    (.inl ⟨SameX.refl, by omega, zk, fun _ _ => rfl, rfl, r57⟩)
  rintro i f' H' ⟨S, hi, zk', hkeep, hds, q57⟩ ok' hn'
  have kk : ∀ j, j ∈ keep73 → f'.r j = F.r j := hkeep
  have q0 := (kk 0 (by simp [keep73])).trans r0
  have q5 := (kk 5 (by simp [keep73])).trans r5
  have q11 := (kk 11 (by simp [keep73])).trans r11
  have q12 := (kk 12 (by simp [keep73])).trans r12
  have q13 := (kk 13 (by simp [keep73])).trans r13
  have q14 := (kk 14 (by simp [keep73])).trans r14
  have q40 := (kk 40 (by simp [keep73])).trans r40
  have q55 := (kk 55 (by simp [keep73])).trans r55
  have q56 := (kk 56 (by simp [keep73])).trans r56
  by_cases hlt : i < wid (R g)
  · refine in73 hJ (s.same S (by simp; omega)) fine hR hg hlt rfl hk hm (hP i hlt) (S.get zn (by simp; omega)) zk' hnk bn bk q0 q5 q11 q12 q13 q14 q55 q56 q57 fun H2 f2 S2 z2 hkeep2 hds2 t57 => ?_
    · refine ⟨i + 1, by dsimp only; omega, .inl ⟨S.trans S2, by omega, ?_, fun j hj => (hkeep2 j hj).trans (hkeep j hj), hds2.trans hds, t57⟩⟩
      rw [z2]
      congr 2
      refine rngsC_congr fun j _ => ?_
      by_cases e : j = k
      · subst e
        simp only [if_true]
        rfl
      · simp only [if_neg e]
  · have hiw : i = wid (R g) := by omega
    subst hiw
    rw [s73_4, q57, q56, q40]
    refine lssI (cndI (fun hlt => absurd hlt (by omega)) fun _ => addI (by omega) (hx H' _ S zk' (fun j hj => ?_) hds rfl))
    have hh : f'.r j = F.r j := hkeep j (by simp [keep73] at hj ⊢; omega)
    simp only [List.mem_cons, List.not_mem_nil, or_false] at hj
    rcases hj with rfl | rfl | rfl | rfl | rfl | rfl | rfl | rfl | rfl <;> exact hh

theorem row73 (hJ : Closed prog main J) {bw p5 po pn pk g w w' a d : Nat} {t : Tal} {cv nv : Value} {u : Int} {m : Value} {R : Nat → Rng} {F : RG} {nx0 : RG → List AObj → Prop} (s : St73 h0 H bw p5 po t cv nv u m R) (fine : TalFine t) (hR : RSm R t.gates.toNat)
    (hgd : g = a + d) (hg : g + 1 < t.gates.toNat) (hw : w = wid (R g)) (hw' : w' = wid (R (g + 1))) (hP : ∀ i, i < w → (lossL t R a d i).lm 1000)
    (zn : H[pn]? = some (.cells (rngsC (lossL t R a d) w) true 0)) (zk : H[pk]? = some (.cells (rngsC (fun _ => ⟨0, 0⟩) w') true 0)) (hnk : pn ≠ pk) (bn : p5 < pn) (bk : p5 < pk)
    (r0 : F.r 0 = ptr bw 0) (r5 : F.r 5 = ptr p5 0) (r10 : F.r 10 = .slice (some ⟨pn, 0, none⟩) w w) (r11 : F.r 11 = vint g) (r12 : F.r 12 = .slice (some ⟨pk, 0, none⟩) w' w') (r39 : F.r 39 = vint w') (r40 : F.r 40 = vint (0 : Nat))
    (hx : ∀ H' f', SameX [pk] H H' → H'[pk]? = some (.cells (rngsC (lossL t R a (d + 1)) w') true 0) → (∀ j ∈ [0, 3, 5, 8, 9], f'.r j = F.r j) → f'.ds = F.ds → f'.r 10 = .slice (some ⟨pk, 0, none⟩) w' w' → f'.r 11 = vint ((g : Int) + 1) → nx0 f' H') :
    Sem J 162 n0 73 (subC [1, 1, 1, 0, 1, 0, 0, 1, 0, 0, 1, 0, 1, 0] (codeOf f73)) F H (contQ prog J 162 n0 73 [1, 1, 1, 0, 1, 0, 0, 1, 0, 0, 1, 0, 1, 0] (codeOf f73) [nx0] (RetQ prog [.cell 8 98] n0 K)) := by
  have hgt := fine.gates
  have h2 := hR (g + 1) hg
  have hww : (wid (R (g + 1)) : Int) = (R (g + 1)).hi - (R (g + 1)).lo + 1 := by unfold wid; omega
  refine l73_2 hJ (fun k : Nat => w' - k) (fun k f' H' => SameX [pk] H H' ∧ k ≤ w' ∧ H'[pk]? = some (.cells (rngsC (fun j => if j < k then lossL t R a (d + 1) j else ⟨0, 0⟩) w') true 0) ∧ (∀ j ∈ [0, 3, 5, 8, 9, 10, 11, 12, 39], f'.r j = F.r j) ∧ f'.ds = F.ds ∧ f'.r 40 = vint (k : Nat)) ?_ (s := 0)
    (.inl ⟨SameX.refl, by omega, zk, fun _ _ => rfl, rfl, r40⟩)
  rintro k f' H' ⟨S, hk, zk', hkeep, hds, q40⟩ ok' hn'
  have q0 := (hkeep 0 (by simp)).trans r0
  have q5 := (hkeep 5 (by simp)).trans r5
  have q10 := (hkeep 10 (by simp)).trans r10
  have q11 := (hkeep 11 (by simp)).trans r11
  have q12 := (hkeep 12 (by simp)).trans r12
  have q39 := (hkeep 39 (by simp)).trans r39
  have s' := s.same S (by simp; omega)
  rw [s73_2]
  simp only [q5, q10, q11, q12, q39, q40]
  refine lssI (cndI (fun hlt => ?_) fun hge => ?_)
  · have hkw : k < w' := by omega
    refine fill1 rfl rfl (by decide) (fill1 rfl rfl (by simp) (fillI (idxI ⟨by omega, by omega⟩ ?_)))
    rw [Int.toNat_natCast, Nat.zero_add]
    refine qSt2 zk' (by rw [rngsC_len]; omega) rfl rfl fun H1 S1 c1 l1 => ?_
    have e1 := rngsC_set (fun j => if j < k then lossL t R a (d + 1) j else ⟨0, 0⟩) ⟨1048576, -1⟩ hkw
    rw [e1] at c1
    have s1 := s'.same S1 (by simp; omega)
    refine ldI s1.l5 rfl rfl (addI (by omega) ?_)
    rw [show (g : Int) + 1 = ((g + 1 : Nat) : Int) from by omega]
    refine idxI ⟨by omega, by omega⟩ (offI ?_)
    rw [Int.toNat_natCast, Nat.zero_add]
    refine ldI s1.lo (part_get (j := 0) (rngsC_get R hg) rfl) rfl (addI (by omega) ?_)
    rw [lenS]
    refine loop73 hJ (pn := pn) (pk := pk) (g := g) (k := k) (w := w) (w' := w') (mm := (R (g + 1)).lo + k) (P := lossL t R a d) (N := fun j => if j < k then lossL t R a (d + 1) j else ⟨0, 0⟩) s1 fine hR hg hw hkw (by omega) (by omega) hP ((S.trans S1).get zn (by simp; omega)) c1 hnk bn bk q0 q5 q11 q12 rfl rfl q40 rfl rfl rfl fun H2 f2 S2 z2 hkeep2 hds2 t40 => ?_
    refine ⟨k + 1, by dsimp only; omega, .inl ⟨(S.trans S1).trans S2, by omega, ?_, fun j hj => (hkeep2 j hj).trans ?_, hds2.trans hds, t40⟩⟩
    · rw [z2]
      congr 2
      refine rngsC_congr fun j _ => ?_
      by_cases e : j = k
      · subst e
        rw [if_pos rfl, if_pos (by omega)]
        subst hgd
        rw [hw]
        rfl
      · rw [if_neg e]
        by_cases e2 : j < k
        · rw [if_pos e2, if_pos (by omega)]
        · rw [if_neg e2, if_neg (by omega)]
    · have hh := hkeep j hj
      simp only [List.mem_cons, List.not_mem_nil, or_false] at hj
      rcases hj with rfl | rfl | rfl | rfl | rfl | rfl | rfl | rfl | rfl <;> exact hh
  · have hkw : k = w' := by omega
    subst hkw
    refine addI (by omega) (hx H' _ S ?_ (fun j hj => ?_) hds rfl rfl)
    · rw [zk']
      congr 2
      refine rngsC_congr fun j hj => ?_
      rw [if_pos hj]
    · have hh := hkeep j (by simp at hj ⊢; omega)
      simp only [List.mem_cons, List.not_mem_nil, or_false] at hj
      rcases hj with rfl | rfl | rfl | rfl | rfl <;> exact hh

theorem good73 (hJ : Closed prog main J) {bw po a b : Nat} {t : Tal} {cv nv : Value} {u : Int} {m : Value} {R : Nat → Rng} (w : WorkIn h0 h bw t cv nv u m) (lo : h[po]? = some (.cells (rngsC R t.gates.toNat) true 0)) (fine : TalFine t) (hR : RSm R t.gates.toNat) (hab : a ≤ b) (hb : b < t.gates.toNat)
    (hK : K (lostR t R a b).val h) : Good prog J 73 [ptr bw 0, .slice (some ⟨po, 0, none⟩) t.gates.toNat t.gates.toNat, vint a, vint b] h K := by
  refine g73 hJ fun ok => ?_
  rw [e73]
  have hgt := fine.gates
  have hbw := lt_of_get w.at_
  have hpo := lt_of_get lo
  have hpre : h0.length ≤ h.length := by
    obtain ⟨g, rfl⟩ := w.pre
    simp
  refine qBox1 rfl rfl fun H1 p5 e1 S1 c1 l1 => qAl fun H2 p8 e2 S2 c2 l2 => ⟨rfl, ?_⟩
  have S12 := S1.trans S2
  have s2 : St73 h0 H2 bw p5 po t cv nv u m R := ⟨w.same S12 (by simp) (by simp), S2.get c1 (by simp), S12.get lo (by simp), by omega, by omega, by omega⟩
  show Good prog J 102 [vint a, ptr p5 0] H2 _
  refine good102 hJ s2.l5 s2.lo (by omega) hR ⟨by decide, ?_⟩
  have hwa := hR a (by omega)
  have hwab : (wid (R a) : Int) = (R a).hi - (R a).lo + 1 := by unfold wid; omega
  refine qMk (by omega) fun H3 pn e3 S3 c3 l3 => ?_
  rw [rngsC_zero] at c3
  have z8 := S3.get c2 (by simp)
  have s3 := s2.same S3 (by simp)
  have SH3 : SameX [] h H3 := S12.trans S3
  refine l73_1 hJ (fun d : Nat => b - a - d) (fun d f' H' => ∃ pn, SameX [] h H' ∧ St73 h0 H' bw p5 po t cv nv u m R ∧ H'[p8]? = some (.cells [vint 0, vint 0] true 0) ∧ a + d ≤ b ∧ H'[pn]? = some (.cells (rngsC (lossL t R a d) (wid (R (a + d)))) true 0) ∧ p8 < pn ∧
      f'.ds = [] ∧ f'.r 0 = ptr bw 0 ∧ f'.r 3 = vint b ∧ f'.r 5 = ptr p5 0 ∧ f'.r 8 = ptr p8 0 ∧ f'.r 9 = .func (.func 102) ⟨[]⟩ ⟨[ptr p5 0]⟩ ∧ f'.r 10 = .slice (some ⟨pn, 0, none⟩) (wid (R (a + d))) (wid (R (a + d))) ∧ f'.r 11 = vint ((a + d : Nat) : Int)) ?_ (s := 0)
    (.inl ⟨pn, SH3, s3, z8, by omega, c3, by omega, rfl, rfl, rfl, rfl, rfl, rfl, rfl, rfl⟩)
  clear s3 c3 e3 l3 S3 z8 SH3 H3 pn
  rintro d f' H' ⟨pn, SH, s, z8, hd, zn, hpn, hds, r0, r3, r5, r8, r9, r10, r11⟩ ok' hn'
  rw [s73_1]
  simp only [r3, r8, r9, r10, r11]
  refine lssI (cndI (fun hlt => ?_) fun hge => ?_)
  · refine addI (by omega) ?_
    rw [show ((a + d : Nat) : Int) + 1 = ((a + d + 1 : Nat) : Int) from by omega]
    show Good prog J 102 [vint ((a + d + 1 : Nat) : Int), ptr p5 0] H' _
    refine good102 hJ s.l5 s.lo (by omega) hR ⟨by decide, ?_⟩
    have hw1 := hR (a + d + 1) (by omega)
    have hww1 : (wid (R (a + d + 1)) : Int) = (R (a + d + 1)).hi - (R (a + d + 1)).lo + 1 := by unfold wid; omega
    refine qMk (by omega) fun H4 pk e4 S4 c4 l4 => ?_
    rw [rngsC_zero] at c4
    rw [lenS]
    have hpnl := lt_of_get zn
    have hp8l := lt_of_get z8
    refine row73 hJ (pn := pn) (pk := pk) (a := a) (d := d) (s.same S4 (by simp)) fine hR rfl (by omega) rfl rfl (fun i _ => by have := lossL_lm (a := a) (R := R) fine d (by omega) i; unfold Rng.lm at *; omega) (S4.get zn (by simp)) c4 (by omega) (by omega) (by omega) r0 r5 r10 r11 rfl rfl rfl fun H5 f5 S5 z5 hkeep5 hds5 t10 t11 => ?_
    have hSH := SH.1
    refine ⟨d + 1, by dsimp only; omega, .inl ⟨pk, (SH.trans S4).thru S5 (by simp; omega), (s.same S4 (by simp)).same S5 (by simp; omega), S5.get (S4.get z8 (by simp)) (by simp; omega), by omega, z5, by omega, hds5.trans hds, (hkeep5 0 (by simp)).trans r0, (hkeep5 3 (by simp)).trans r3, (hkeep5 5 (by simp)).trans r5, (hkeep5 8 (by simp)).trans r8, (hkeep5 9 (by simp)).trans r9, t10, ?_⟩⟩
    rw [t11]
    congr 1
  · have hdb : a + d = b := by omega
    have e0 : b - a = d := by omega
    have hL : lostR t R a b = hullL (lossL t R a d) (wid (R (a + d))) := by
      unfold lostR
      rw [e0, hdb]
    rw [hL] at hK
    have hwd := hR (a + d) (by omega)
    have hwdd : (wid (R (a + d)) : Int) = (R (a + d)).hi - (R (a + d)).lo + 1 := by unfold wid; omega
    generalize hW : wid (R (a + d)) = w at *
    generalize hLL : lossL t R a d = L at *
    refine idxI ⟨by omega, by omega⟩ (load_part (c := (L 0).cells) zn (by rw [rngsC_len]; omega) (rngsC_get L (i := 0) (by omega)) rfl ?_)
    refine qAl fun H4 p19 e4 S4 c4 l4 => qStA (c := (L 0).cells) c4 rfl rfl rfl fun H5 S5 c5 l5 => ?_
    rw [lenS]
    have hpnl := lt_of_get zn
    have hp8l := lt_of_get z8
    have S45 : SameX [p19] H' H5 := S4.weak0.trans S5
    have hSH := SH.1
    refine l73_3 hJ (fun i : Nat => w - i) (fun i f'' H'' => SameX [p19] H' H'' ∧ i ≤ w ∧ H''[p19]? = some (.cells (hullL L i).cells true 0) ∧ f''.ds = [] ∧ f''.r 8 = ptr p8 0 ∧ f''.r 19 = ptr p19 0 ∧ f''.r 142 = .slice (some ⟨pn, 0, none⟩) w w ∧ f''.r 143 = vint w ∧ f''.r 144 = vint (i : Nat)) ?_ (s := 0)
      (.inl ⟨S45, by omega, c5, hds, r8, rfl, rfl, rfl, rfl⟩)
    rintro i f'' H'' ⟨S, hi, z19, hds2, q8, q19, q142, q143, q144⟩ ok'' hn''
    rw [s73_3]
    simp only [q8, q19, q142, q143, q144]
    refine lssI (cndI (fun hlt => ?_) fun hge => ?_)
    · have hiw : i < w := by omega
      refine idxI ⟨by omega, by omega⟩ ?_
      rw [Int.toNat_natCast, Nat.zero_add]
      refine load_part (c := (L i).cells) (S.get zn (by simp; omega)) (by rw [rngsC_len]; omega) (rngsC_get L hiw) rfl ?_
      have h19 := lt_of_get z19
      refine qAl fun H6 p21 e6 S6 c6 l6 => qStA (c := (L i).cells) c6 rfl rfl rfl fun H7 S7 c7 l7 => ?_
      have z19' := S7.get (S6.get z19 (by simp)) (by simp; omega)
      refine ⟨[p19, p21], offI (ldI (v := vint (hullL L i).lo) z19' rfl rfl ⟨by simp [RdOk, ptrBlk, ptr], offI (ldI (v := vint (L i).lo) c7 rfl rfl ⟨by simp [RdOk, ptrBlk, ptr], ?_⟩)⟩)⟩
      refine offI (ldI (v := vint (hullL L i).hi) z19' rfl rfl ⟨by simp [RdOk, ptrBlk, ptr], offI (ldI (v := vint (L i).hi) c7 rfl rfl ⟨by simp [RdOk, ptrBlk, ptr], maxI ?_⟩)⟩)
      have sb : ∀ {Hx : List AObj}, SameX [] H7 Hx → SameB (some [p19, p21]) H7 Hx := fun Sx b hb => by
        simp at hb
        have := lt_of_get c7
        rcases hb with e | e
        · rw [e]
          exact Sx.2 _ (by omega) (by simp)
        · rw [e]
          exact Sx.2 _ this (by simp)
      refine ⟨by decide, fill1 rfl rfl (by decide) (fillI (qNew fun H8 p8' e8 S8 c8 l8 => ⟨sb S8, good103 hJ c8 ⟨sb S8, fill1 rfl rfl (by decide) (fill1 rfl rfl (by simp) (fillI ?_))⟩⟩))⟩
      refine qStA (c := (hullL L (i + 1)).cells) (S8.get z19' (by simp)) rfl rfl rfl fun H9 S9 c9 l9 => addI (by omega) ?_
      have S69 : SameX [p19, p21] H'' H9 := ((S6.weak0 (Y := [p19, p21])).trans (S7.weak (by simp))).trans ((S8.weak0 (Y := [p19, p21])).trans (S9.weak (by simp)))
      exact ⟨i + 1, by dsimp only; omega, .inl ⟨S.thru S69 (by simp; have := S.1; omega), by omega, c9, hds2, q8, q19, q142, q143, rfl⟩⟩
    · have hiw : i = w := by omega
      subst hiw
      refine load_part (c := (hullL L i).cells) z19 (by simp [Rng.cells]) rfl rfl ?_
      refine qStA (c := (hullL L i).cells) (S.get z8 (by simp; omega)) rfl rfl rfl fun H6 S6 c6 l6 => ?_
      have SF : SameX [] h H6 := (SH.thru S (by simp; omega)).thru S6 (by simp; omega)
      obtain ⟨g, rfl⟩ := SF.app0 (by simp)
      obtain ⟨j, hj⟩ : ∃ j, p8 = h.length + j := ⟨p8 - h.length, by omega⟩
      subst hj
      refine ret_agg (i := j) hds2 ok (Nat.le_refl _) rfl (by kernel_rfl) q8 (by rw [back_get] at c6; exact c6) rfl rfl (by simp [VOk, AOk, LOk, Rng.cells]) hK
end
end Go.Proofs.Ytdgpacdknpahnaa

namespace Go.Proofs.Ytdgpacdknpahnaa
open Go.Conc Go.Proofs.Try
set_option maxRecDepth 100000
def Rng.has (r : Rng) (n : Int) : Prop := r.lo ≤ n ∧ n ≤ r.hi

structure Tru (t : Tal) (L : Nat → Rng) (ns : Nat → Int) : Prop where
  first : t.first.has (ns 0)
  lim : ∀ g, g < t.gates.toNat → (L g).has (ns g)
  step : ∀ g, g + 1 < t.gates.toNat → (stretchR t g).has (ns (g + 1) - ns g)

section
variable {t : Tal} {L : Nat → Rng} {ns : Nat → Int}
theorem Tru.fwd (h : Tru t L ns) : ∀ g, g < t.gates.toNat → (Go.Proofs.Ytdgpacdknpahnaa.fwd t L g).has (ns g)
  | 0, hg => by
    have h1 := h.first
    have h2 := h.lim 0 hg
    unfold Go.Proofs.Ytdgpacdknpahnaa.fwd Rng.meet Rng.has at *
    dsimp only
    omega
  | g + 1, hg => by
    have h1 := h.fwd g (by omega)
    have h2 := h.lim (g + 1) hg
    have h3 := h.step g hg
    show (((Go.Proofs.Ytdgpacdknpahnaa.fwd t L g).plus (stretchR t g)).meet (L (g + 1))).has _
    unfold Rng.meet Rng.plus Rng.has at *
    dsimp only
    omega
theorem Tru.bk (h : Tru t L ns) : ∀ d g, g + d + 1 = t.gates.toNat → (bkR t L g).has (ns g)
  | 0, g, hg => by
    rw [bkR_last (by omega)]
    exact h.fwd g (by omega)
  | d + 1, g, hg => by
    rw [bkR_step (by omega)]
    have h1 := h.bk d (g + 1) (by omega)
    have h2 := h.fwd g (by omega)
    have h3 := h.step g (by omega)
    unfold Rng.meet Rng.plus Rng.turn Rng.has at *
    dsimp only
    omega

theorem stretch_ok (f : TalFine t) (g : Nat) : (stretchR t g).lo ≤ (stretchR t g).hi := by
  have h1 := f.most
  unfold stretchR
  cases e : t.changes[g]? with
  | none =>
    unfold Rng.plus
    dsimp only [Option.getD]
    omega
  | some r =>
    have := f.ch r (List.mem_of_getElem? e)
    unfold Rng.plus
    dsimp only [Option.getD]
    omega

theorem fwd_prev (f : TalFine t) (hT : TruthIs t L) {g : Nat} (hg : g + 1 < t.gates.toNat) {n : Int} (hn : (fwd t L (g + 1)).has n) : ∃ n', (fwd t L g).has n' ∧ (stretchR t g).has (n - n') := by
  have h1 := hT g (by omega)
  have h2 := stretch_ok f g
  refine ⟨max (fwd t L g).lo (n - (stretchR t g).hi), ?_⟩
  change (((fwd t L g).plus (stretchR t g)).meet (L (g + 1))).has n at hn
  unfold Rng.meet Rng.plus Rng.has at *
  dsimp only at *
  omega
theorem fwd_lim {g : Nat} {n : Int} (hn : (fwd t L g).has n) : (L g).has n := by
  cases g with
  | zero =>
    unfold fwd Rng.meet Rng.has at *
    dsimp only at *
    omega
  | succ g =>
    change (((fwd t L g).plus (stretchR t g)).meet (L (g + 1))).has n at hn
    unfold Rng.meet Rng.plus Rng.has at *
    dsimp only at *
    omega
theorem bk_fwd {g : Nat} (hg : g < t.gates.toNat) {n : Int} (hn : (bkR t L g).has n) : (fwd t L g).has n := by
  by_cases h : t.gates.toNat = g + 1
  · rw [bkR_last h] at hn
    exact hn
  · rw [bkR_step (by omega)] at hn
    unfold Rng.meet Rng.has at *
    dsimp only at *
    omega
theorem bk_prev (f : TalFine t) (hT : TruthIs t L) {g : Nat} (hg : g + 1 < t.gates.toNat) {n : Int} (hn : (bkR t L (g + 1)).has n) : ∃ n', (bkR t L g).has n' ∧ (stretchR t g).has (n - n') := by
  obtain ⟨n', h1, h2⟩ := fwd_prev f hT hg (bk_fwd hg hn)
  refine ⟨n', ?_, h2⟩
  rw [bkR_step hg]
  unfold Rng.meet Rng.plus Rng.turn Rng.has at *
  dsimp only
  omega
theorem bk_ok (f : TalFine t) (hT : TruthIs t L) : ∀ d g, g + d + 1 = t.gates.toNat → (bkR t L g).lo ≤ (bkR t L g).hi
  | 0, g, hg => by
    rw [bkR_last (by omega)]
    exact hT g (by omega)
  | d + 1, g, hg => by
    have h1 := bk_ok f hT d (g + 1) (by omega)
    obtain ⟨n', h2, _⟩ := bk_prev f hT (g := g) (n := (bkR t L (g + 1)).lo) (by omega) ⟨Int.le_refl _, h1⟩
    unfold Rng.has at h2
    omega
theorem bk_next (f : TalFine t) (hT : TruthIs t L) {g : Nat} (hg : g + 1 < t.gates.toNat) {n : Int} (hn : (bkR t L g).has n) : ∃ n', (bkR t L (g + 1)).has n' ∧ (stretchR t g).has (n' - n) := by
  have h1 := bk_ok f hT (t.gates.toNat - 2 - g) (g + 1) (by omega)
  have h2 := stretch_ok f g
  rw [bkR_step hg] at hn
  refine ⟨max (bkR t L (g + 1)).lo (n + (stretchR t g).lo), ?_⟩
  unfold Rng.meet Rng.plus Rng.turn Rng.has at *
  dsimp only at *
  omega

theorem limN_base {u : Int} {cs : List Cnt} : ∀ i g, (limN u cs i g).sub ⟨0, 600⟩
  | 0, g => Rng.sub_refl _
  | i + 1, g => by
    have ih := limN_base (u := u) (cs := cs) i
    show Rng.sub ((match cs[i]? with
      | some c => bif keepB u i then updL (limN u cs i) c.gate.toNat ((limN u cs i c.gate.toNat).meet (rd c)) else limN u cs i
      | none => limN u cs i) g) _
    cases e : cs[i]? with
    | none => exact ih g
    | some c =>
      cases keepB u i with
      | false => exact ih g
      | true =>
        show Rng.sub (updL _ _ _ g) _
        unfold updL
        split
        · exact Rng.meet_left (ih _)
        · exact ih g

theorem bk_rsm (f : TalFine t) {u : Int} (hT : TruthIs t (limA t u)) : RSm (bkR t (limA t u)) t.gates.toNat := fun g hg => by
  have h1 := bk_ok f hT (t.gates.toNat - 1 - g) g (by omega)
  have h2 := fwd_lim (bk_fwd hg (n := (bkR t (limA t u) g).lo) ⟨Int.le_refl _, h1⟩)
  have h3 := fwd_lim (bk_fwd hg (n := (bkR t (limA t u) g).hi) ⟨h1, Int.le_refl _⟩)
  obtain ⟨h4, h5⟩ := limN_base (u := u) (cs := t.counts) t.counts.length g
  unfold limA Rng.has at *
  dsimp only at *
  omega
end
inductive Sum (t : Tal) (R : Nat → Rng) (a : Nat) : Nat → Int → Int → Prop
  | base {m : Int} : (R a).has m → Sum t R a 0 m 0
  | step {d : Nat} {n m s l : Int} : Sum t R a d n s → (R (a + d + 1)).has m → (ownL t (a + d) n m).has l → Sum t R a (d + 1) m (s + l)

section
variable {t : Tal} {R : Nat → Rng} {a : Nat}
theorem Sum.at {d : Nat} {m s : Int} (h : Sum t R a d m s) : (R (a + d)).has m := by
  cases h with
  | base h => exact h
  | step _ h _ => exact h
theorem own_bd {g : Nat} {n m l : Int} (h : (ownL t g n m).has l) : 0 ≤ l ∧ l ≤ t.most := by
  unfold ownL Rng.has at h
  dsimp only at h
  omega
theorem Sum.bd {d : Nat} {m s : Int} (h : Sum t R a d m s) : 0 ≤ s ∧ s ≤ t.most * d := by
  induction h with
  | base _ => simp
  | @step d n m s l _ _ h3 ih =>
    have := own_bd h3
    have e : t.most * ((d + 1 : Nat) : Int) = t.most * d + t.most := by
      rw [Int.natCast_add, Int.mul_add]
      simp
    omega
theorem Sum.zero {m s : Int} (h : Sum t R a 0 m s) : s = 0 := by
  cases h
  rfl

theorem acc_sem {d : Nat} (f : TalFine t) (hd : d ≤ 5) {m : Int} (hm : (R (a + d + 1)).has m) {prev : Nat → Rng} {w : Nat} (hw : w = wid (R (a + d)))
    (hp : ∀ i, i < w → (∀ s, Sum t R a d ((R (a + d)).lo + i) s → (prev i).has s) ∧ ((prev i).lo ≤ (prev i).hi → Sum t R a d ((R (a + d)).lo + i) (prev i).lo ∧ Sum t R a d ((R (a + d)).lo + i) (prev i).hi)) :
    ∀ i, i ≤ w → (∀ j s l, j < i → Sum t R a d ((R (a + d)).lo + j) s → (ownL t (a + d) ((R (a + d)).lo + j) m).has l → (accL t (a + d) (R (a + d)).lo prev m i).has (s + l)) ∧
      (accL t (a + d) (R (a + d)).lo prev m i = ⟨1048576, -1⟩ ∨ ((accL t (a + d) (R (a + d)).lo prev m i).lo ≤ (accL t (a + d) (R (a + d)).lo prev m i).hi ∧ Sum t R a (d + 1) m (accL t (a + d) (R (a + d)).lo prev m i).lo ∧ Sum t R a (d + 1) m (accL t (a + d) (R (a + d)).lo prev m i).hi))
  | 0, _ => ⟨fun j _ _ hj => absurd hj (by omega), .inl rfl⟩
  | i + 1, hi => by
    obtain ⟨h1, h2⟩ := acc_sem f hd hm hw hp i (by omega)
    obtain ⟨p1, p2⟩ := hp i (by omega)
    have hmo := f.most
    show (∀ j s l, j < i + 1 → _ → _ → (mixL (accL t (a + d) (R (a + d)).lo prev m i) (prev i) (ownL t (a + d) ((R (a + d)).lo + i) m)).has (s + l)) ∧ (mixL (accL t (a + d) (R (a + d)).lo prev m i) (prev i) (ownL t (a + d) ((R (a + d)).lo + i) m) = _ ∨ ((mixL (accL t (a + d) (R (a + d)).lo prev m i) (prev i) (ownL t (a + d) ((R (a + d)).lo + i) m)).lo ≤ (mixL (accL t (a + d) (R (a + d)).lo prev m i) (prev i) (ownL t (a + d) ((R (a + d)).lo + i) m)).hi ∧
      Sum t R a (d + 1) m (mixL (accL t (a + d) (R (a + d)).lo prev m i) (prev i) (ownL t (a + d) ((R (a + d)).lo + i) m)).lo ∧ Sum t R a (d + 1) m (mixL (accL t (a + d) (R (a + d)).lo prev m i) (prev i) (ownL t (a + d) ((R (a + d)).lo + i) m)).hi))
    generalize accL t (a + d) (R (a + d)).lo prev m i = A at *
    by_cases hne : (prev i).lo ≤ (prev i).hi ∧ (ownL t (a + d) ((R (a + d)).lo + i) m).lo ≤ (ownL t (a + d) ((R (a + d)).lo + i) m).hi
    · have hmx : mixL A (prev i) (ownL t (a + d) ((R (a + d)).lo + i) m) = ⟨min A.lo ((prev i).plus (ownL t (a + d) ((R (a + d)).lo + i) m)).lo, max A.hi ((prev i).plus (ownL t (a + d) ((R (a + d)).lo + i) m)).hi⟩ := by
        unfold mixL
        rw [if_pos hne]
      obtain ⟨q1, q2⟩ := p2 hne.1
      have s1 : Sum t R a (d + 1) m ((prev i).lo + (ownL t (a + d) ((R (a + d)).lo + i) m).lo) := .step q1 hm ⟨Int.le_refl _, hne.2⟩
      have s2 : Sum t R a (d + 1) m ((prev i).hi + (ownL t (a + d) ((R (a + d)).lo + i) m).hi) := .step q2 hm ⟨hne.2, Int.le_refl _⟩
      have b1 := s1.bd
      have b2 := s2.bd
      have b3 : t.most * ((d + 1 : Nat) : Int) ≤ 60 * 6 := Int.mul_le_mul hmo.2 (by omega) (by omega) (by omega)
      rw [hmx]
      have e1 : ((prev i).plus (ownL t (a + d) ((R (a + d)).lo + i) m)).lo = (prev i).lo + (ownL t (a + d) ((R (a + d)).lo + i) m).lo := rfl
      have e2 : ((prev i).plus (ownL t (a + d) ((R (a + d)).lo + i) m)).hi = (prev i).hi + (ownL t (a + d) ((R (a + d)).lo + i) m).hi := rfl
      rw [e1, e2]
      refine ⟨fun j s l hj hs hl => ?_, .inr ⟨?_, ?_, ?_⟩⟩
      · by_cases e : j = i
        · subst e
          have := p1 s hs
          unfold Rng.has at *
          dsimp only
          omega
        · have := h1 j s l (by omega) hs hl
          unfold Rng.has at *
          dsimp only
          omega
      · dsimp only
        omega
      · dsimp only
        rcases h2 with rfl | ⟨_, h3, _⟩
        · rw [Int.min_eq_right (by dsimp only; omega)]
          exact s1
        · rcases Int.le_total A.lo ((prev i).lo + (ownL t (a + d) ((R (a + d)).lo + i) m).lo) with x | x
          · rw [Int.min_eq_left x]; exact h3
          · rw [Int.min_eq_right x]; exact s1
      · dsimp only
        rcases h2 with rfl | ⟨_, _, h3⟩
        · rw [Int.max_eq_right (by dsimp only; omega)]
          exact s2
        · rcases Int.le_total A.hi ((prev i).hi + (ownL t (a + d) ((R (a + d)).lo + i) m).hi) with x | x
          · rw [Int.max_eq_right x]; exact s2
          · rw [Int.max_eq_left x]; exact h3
    · have hmx : mixL A (prev i) (ownL t (a + d) ((R (a + d)).lo + i) m) = A := by
        unfold mixL
        rw [if_neg hne]
      rw [hmx]
      refine ⟨fun j s l hj hs hl => ?_, h2⟩
      by_cases e : j = i
      · subst e
        have := p1 s hs
        exact absurd ⟨by unfold Rng.has at this; omega, by unfold Rng.has at hl; omega⟩ hne
      · exact h1 j s l (by omega) hs hl

theorem loss_sem (f : TalFine t) {G : Nat} (hG : G ≤ 5) (hR : RSm R G) : ∀ d, a + d < G → ∀ k, k < wid (R (a + d)) →
    (∀ s, Sum t R a d ((R (a + d)).lo + k) s → (lossL t R a d k).has s) ∧ ((lossL t R a d k).lo ≤ (lossL t R a d k).hi → Sum t R a d ((R (a + d)).lo + k) (lossL t R a d k).lo ∧ Sum t R a d ((R (a + d)).lo + k) (lossL t R a d k).hi)
  | 0, hd, k, hk => by
    have h1 := hR a (by omega)
    refine ⟨fun s hs => ?_, fun _ => ?_⟩
    · rw [hs.zero]
      exact ⟨Int.le_refl _, Int.le_refl _⟩
    · have : (R a).has ((R a).lo + k) := by
        have hk' : k < wid (R a) := hk
        unfold wid at hk'
        unfold Rng.has
        omega
      exact ⟨.base this, .base this⟩
  | d + 1, hd, k, hk => by
    have ih := loss_sem f hG hR d (by omega)
    have h1 := hR (a + d + 1) (by omega)
    have h0 := hR (a + d) (by omega)
    have hm : (R (a + d + 1)).has ((R (a + d + 1)).lo + k) := by
      have hk' : k < wid (R (a + d + 1)) := hk
      unfold wid at hk'
      unfold Rng.has
      omega
    obtain ⟨c1, c2⟩ := acc_sem (m := (R (a + d + 1)).lo + k) f (by omega) hm rfl ih _ (Nat.le_refl _)
    refine ⟨fun s hs => ?_, fun hne => ?_⟩
    · cases hs with
      | @step _ n _ s l hs1 _ hl =>
        have hn := hs1.at
        have e : (R (a + d)).lo + ((n - (R (a + d)).lo).toNat : Nat) = n := by
          unfold Rng.has at hn
          omega
        refine c1 (n - (R (a + d)).lo).toNat s l ?_ ?_ ?_
        · unfold wid
          unfold Rng.has at hn
          omega
        · rw [e]
          exact hs1
        · rw [e]
          exact hl
    · rcases c2 with c2 | ⟨_, c3, c4⟩
      · exfalso
        have e : lossL t R a (d + 1) k = ⟨1048576, -1⟩ := c2
        rw [e] at hne
        simp at hne
      · exact ⟨c3, c4⟩

theorem hull_has {f : Nat → Rng} : ∀ n i, i < n → (hullL f n).lo ≤ (f i).lo ∧ (f i).hi ≤ (hullL f n).hi
  | n + 1, i, hi => by
    show min (hullL f n).lo (f n).lo ≤ _ ∧ _ ≤ max (hullL f n).hi (f n).hi
    by_cases e : i = n
    · subst e
      omega
    · have := hull_has (f := f) n i (by omega)
      omega
theorem hull_ex {f : Nat → Rng} : ∀ n, 0 < n → (∃ i, i < n ∧ (hullL f n).lo = (f i).lo) ∧ (∃ i, i < n ∧ (hullL f n).hi = (f i).hi)
  | 1, _ => by
    show (∃ i, i < 1 ∧ min (f 0).lo (f 0).lo = (f i).lo) ∧ (∃ i, i < 1 ∧ max (f 0).hi (f 0).hi = (f i).hi)
    exact ⟨⟨0, by omega, by omega⟩, ⟨0, by omega, by omega⟩⟩
  | n + 2, _ => by
    obtain ⟨⟨i, hi, e1⟩, ⟨j, hj, e2⟩⟩ := hull_ex (f := f) (n + 1) (by omega)
    show (∃ i, i < n + 2 ∧ min (hullL f (n + 1)).lo (f (n + 1)).lo = (f i).lo) ∧ (∃ i, i < n + 2 ∧ max (hullL f (n + 1)).hi (f (n + 1)).hi = (f i).hi)
    refine ⟨?_, ?_⟩
    · rcases Int.le_total (hullL f (n + 1)).lo (f (n + 1)).lo with x | x
      · exact ⟨i, by omega, by rw [Int.min_eq_left x, e1]⟩
      · exact ⟨n + 1, by omega, by rw [Int.min_eq_right x]⟩
    · rcases Int.le_total (hullL f (n + 1)).hi (f (n + 1)).hi with x | x
      · exact ⟨n + 1, by omega, by rw [Int.max_eq_right x]⟩
      · exact ⟨j, by omega, by rw [Int.max_eq_left x, e2]⟩

theorem lost_sem (f : TalFine t) {G b : Nat} (hG : G ≤ 5) (hR : RSm R G) (hab : a ≤ b) (hb : b < G) (hall : ∀ m, (R b).has m → ∃ s, Sum t R a (b - a) m s) :
    (∀ m s, Sum t R a (b - a) m s → (lostR t R a b).has s) ∧ (∃ m, Sum t R a (b - a) m (lostR t R a b).lo) ∧ (∃ m, Sum t R a (b - a) m (lostR t R a b).hi) := by
  have hd : a + (b - a) = b := by omega
  have ls := loss_sem f hG hR (b - a) (a := a) (by omega)
  rw [hd] at ls
  have hwb := hR b hb
  have hw : 0 < wid (R b) := by unfold wid; omega
  have ne : ∀ k, k < wid (R b) → (lossL t R a (b - a) k).lo ≤ (lossL t R a (b - a) k).hi := fun k hk => by
    obtain ⟨s, hs⟩ := hall ((R b).lo + k) (by unfold Rng.has; unfold wid at hk; omega)
    have := (ls k hk).1 s hs
    unfold Rng.has at this
    omega
  refine ⟨fun m s hs => ?_, ?_, ?_⟩
  · have hm := hs.at
    rw [hd] at hm
    have e : (R b).lo + ((m - (R b).lo).toNat : Nat) = m := by
      unfold Rng.has at hm
      omega
    have hk : (m - (R b).lo).toNat < wid (R b) := by
      unfold wid
      unfold Rng.has at hm
      omega
    have h1 := (ls _ hk).1 s (by rw [e]; exact hs)
    have h2 := hull_has (f := lossL t R a (b - a)) _ _ hk
    unfold lostR
    unfold Rng.has at *
    omega
  · obtain ⟨⟨i, hi, e⟩, _⟩ := hull_ex (f := lossL t R a (b - a)) _ hw
    refine ⟨(R b).lo + i, ?_⟩
    unfold lostR
    rw [e]
    exact ((ls i hi).2 (ne i hi)).1
  · obtain ⟨_, ⟨i, hi, e⟩⟩ := hull_ex (f := lossL t R a (b - a)) _ hw
    refine ⟨(R b).lo + i, ?_⟩
    unfold lostR
    rw [e]
    exact ((ls i hi).2 (ne i hi)).2
end
end Go.Proofs.Ytdgpacdknpahnaa

namespace Go.Proofs.Ytdgpacdknpahnaa
open Go.Conc Go.Proofs.Try
set_option maxRecDepth 100000
section
variable {main : Bool} {J : JT} {h h0 H : List AObj} {K : Value → List AObj → Prop} {KV : Value → Prop} {n0 : Nat}
theorem ret_agg2 {rs : List ResultVar} {f : RG} {n t p x y : Nat} {c : List Value} {wr : Bool} {sz : Nat} {v : Value} (ds : f.ds = []) (ok : heapOk h) (hn : n0 ≤ h.length) (hrs : rs = [.cell x t, .tmp y]) (ht : tk prog t = some (true, n)) (S : SameX [] h H) (hr : f.r x = ptr p 0) (hb : H[p]? = some (.cells c wr sz)) (hl : c.length = n) (hkn : kn c = true)
    (hy : f.r y = v) (hu : v ≠ unk) (h1 : VOk h.length (.agg ⟨c⟩)) (h2 : VOk h.length v) (hk : K (.tuple ⟨[.agg ⟨c⟩, v]⟩) h) : RetQ prog rs n0 K .ret f H := by
  subst hrs
  obtain ⟨g, rfl⟩ := S.app0 (by simp)
  refine retQ_drop ds ok hn (resW_cell (gg := true) (s := n) ht ?_)
  rw [hr]
  refine load_part (c := c) hb (by omega) (by rw [List.drop_zero, List.take_of_length_le (by omega)]) hkn (resW_tmp (by rw [hy]; exact hu) (resW_nil ?_))
  rw [hy]
  refine ⟨?_, hk⟩
  simp only [pack, VOk, AOk, LOk] at h1 ⊢
  exact ⟨h1, h2, trivial⟩

theorem good31 (hJ : Closed prog main J) {v cv nv : Value} {t : Tal} {a b : Int} (ht : TalAt h v t cv nv)
    (k1 : talErr t ≠ 0 → K (.tuple ⟨[.agg ⟨[vint 0, vint 0]⟩, vint (talErr t)]⟩) h) (k2 : talErr t = 0 → ¬ ((0 ≤ a ∧ a ≤ t.gates - 1) ∧ (0 ≤ b ∧ b ≤ t.gates - 1)) → K (.tuple ⟨[.agg ⟨[vint 0, vint 0]⟩, vint 3]⟩) h)
    (k3 : talErr t = 0 → (0 ≤ a ∧ a ≤ t.gates - 1) → (0 ≤ b ∧ b ≤ t.gates - 1) → a ≥ b → K (.tuple ⟨[.agg ⟨[vint 0, vint 0]⟩, vint 5]⟩) h)
    (k4 : talErr t = 0 → (0 ≤ a ∧ a ≤ t.gates - 1) → (0 ≤ b ∧ b ≤ t.gates - 1) → a < b → ¬ TruthIs t (limA t 0) → K (.tuple ⟨[.agg ⟨[vint 0, vint 0]⟩, vint 11]⟩) h)
    (k5 : talErr t = 0 → (0 ≤ a ∧ a ≤ t.gates - 1) → (0 ≤ b ∧ b ≤ t.gates - 1) → a < b → TruthIs t (limA t 0) → K (.tuple ⟨[(lostR t (bkR t (limA t 0)) a.toNat b.toNat).val, vint 0]⟩) h) : Good prog J 31 [v, vint a, vint b] h K := by
  refine g31 hJ fun ok => ?_
  rw [e31, ht.val]
  have kc : kn1 cv = true ∧ kn1 nv = true := ⟨(sli_one ht.ch).2.2, (sli_one ht.co).2.2⟩
  refine qBox (tal_one ht) fun H1 p1 e1 S1 b1 l1 => qAl fun H2 p2 e2 S2 b2 l2 => ?_
  have b1' := S2.get b1 (by simp)
  have S12 := S1.trans S2
  refine load_part (c := talCells t cv nv) b1' (by rw [cs_val]; omega) rfl (tal_kn kc.1 kc.2) ?_
  have t2 : TalAt H2 (.agg ⟨talCells t cv nv⟩) t cv nv := ⟨rfl, S12.sli ht.ch (by simp), S12.sli ht.co (by simp)⟩
  refine good71 hJ t2 fun H3 bw bm S3 a1 a2 a3 w hm => ext0 (ext1 ?_)
  have S13 : SameX [] h H3 := S12.trans S3
  have b3 := S3.get b2 (by simp)
  have b13 := S3.get b1' (by simp)
  -- an error
  have err : ∀ (e : Int) (H : List AObj) (F : RG), SameX [] H3 H → F.ds = [] → F.r 6 = ptr p2 0 → F.r 7 = vint e → K (.tuple ⟨[.agg ⟨[vint 0, vint 0]⟩, vint e]⟩) h →
      ∀ F' : Value → RG, (∀ c, (F' c).ds = [] ∧ (F' c).r 6 = ptr p2 0 ∧ (F' c).r 7 = vint e) → aFill [vint 0, vint 0] [] fun c11 => aStore 2 (ptr p2 0) (.agg ⟨c11⟩) H fun h12 => RetQ prog [.cell 6 38, .tmp 7] h.length K .ret (F' (.agg ⟨c11⟩)) h12 := by
    intro e H F S _ _ _ hk F' hF
    refine fillI (qStA (S.get b3 (by simp)) rfl rfl rfl fun H4 S4 c4 l4 => ?_)
    exact ret_agg2 (hF _).1 ok (Nat.le_refl _) rfl (by kernel_rfl) ((S13.trans S).thru S4 (by simp; have := S12.1; omega)) (hF _).2.1 c4 rfl rfl (hF _).2.2 (by simp [unk]) (by simp [VOk, AOk, LOk]) (by simp [VOk]) hk
  have z : RG := ⟨fun _ => unk, []⟩
  refine neqI (cndI (fun hne => ?_) fun heq => ?_)
  · exact err (talErr t) H3 ⟨fun i => if i = 6 then ptr p2 0 else vint (talErr t), []⟩ SameX.refl rfl rfl rfl (k1 hne) (fun x => _) fun x => ⟨rfl, rfl, rfl⟩
  have h0 : talErr t = 0 := by omega
  have fine := talErr_fine h0
  have hg := fine.gates
  -- the rest
  have rest : (0 ≤ a ∧ a ≤ t.gates - 1) → (0 ≤ b ∧ b ≤ t.gates - 1) → a < b → ∀ F1 F2 : Value → Value → Value → Value → Value → RG, (∀ x1 x2 x3 x4 x5, (F1 x1 x2 x3 x4 x5).ds = [] ∧ (F1 x1 x2 x3 x4 x5).r 6 = ptr p2 0 ∧ (F1 x1 x2 x3 x4 x5).r 7 = vint 11) → (∀ x1 x2 x3 x4 x5, (F2 x1 x2 x3 x4 x5).ds = [] ∧ (F2 x1 x2 x3 x4 x5).r 6 = ptr p2 0 ∧ (F2 x1 x2 x3 x4 x5).r 7 = vint 0) →
      Good prog J 72 [ptr bw 0] H3 fun v24 h25 => aExt v24 0 fun v26 => aExt v24 1 fun v27 => aUn .not v27 fun v28 => cnd v28 (aFill [vint 0, vint 0] [] fun c29 => aStore 2 (ptr p2 0) (.agg ⟨c29⟩) h25 fun h30 => RetQ prog [.cell 6 38, .tmp 7] h.length K .ret (F1 v24 v26 v27 v28 (.agg ⟨c29⟩)) h30)
        (Good prog J 73 [ptr bw 0, v26, vint a, vint b] h25 fun v31 h32 => aStore 2 (ptr p2 0) v31 h32 fun h33 => RetQ prog [.cell 6 38, .tmp 7] h.length K .ret (F2 v24 v26 v27 v28 v31) h33) := by
    intro ha hb hab F1 F2 hF1 hF2
    refine good72 hJ w a1 a2 a3 fine hm metOk_nil (fun hf H4 S4 => ext0 (ext1 (notI (cnd_true.2 ?_)))) (fun hT H4 po es' S4 h1 w4 hm4 met4 c4 => ext0 (ext1 (notI (cnd_false.2 ?_))))
    · have S24 : SameX [] h H4 := S13.thru S4 (by simp; have := S12.1; omega)
      refine fillI (qStA (S4.get b3 (by simp; omega)) rfl rfl rfl fun H5 S5 c5 l5 => ?_)
      exact ret_agg2 (hF1 _ _ _ _ _).1 ok (Nat.le_refl _) rfl (by kernel_rfl) (S24.thru S5 (by simp; have := S12.1; omega)) (hF1 _ _ _ _ _).2.1 c5 rfl rfl (hF1 _ _ _ _ _).2.2 (by simp [unk]) (by simp [VOk, AOk, LOk]) (by simp [VOk]) (k4 h0 ha hb hab hf)
    · have S24 : SameX [] h H4 := S13.thru S4 (by simp; have := S12.1; omega)
      obtain ⟨a', rfl⟩ : ∃ a' : Nat, a = a' := ⟨a.toNat, by omega⟩
      obtain ⟨b', rfl⟩ : ∃ b' : Nat, b = b' := ⟨b.toNat, by omega⟩
      refine good73 hJ w4 c4 fine (bk_rsm fine hT) (by omega) (by omega) ?_
      refine qStA (c := (lostR t (bkR t (limA t 0)) a' b').cells) (S4.get b3 (by simp; omega)) rfl rfl rfl fun H5 S5 c5 l5 => ?_
      have := k5 h0 ha hb hab hT
      rw [Int.toNat_natCast, Int.toNat_natCast] at this
      exact ret_agg2 (hF2 _ _ _ _ _).1 ok (Nat.le_refl _) rfl (by kernel_rfl) (S24.thru S5 (by simp; have := S12.1; omega)) (hF2 _ _ _ _ _).2.1 c5 rfl rfl (hF2 _ _ _ _ _).2.2 (by simp [unk]) (by simp [VOk, AOk, LOk, Rng.cells]) (by simp [VOk]) this
  refine offI (ldI (v := vint t.gates) b13 rfl rfl (subI (by omega) (good67 hJ (notI (cndN (fun hn => ?_) fun hin => ?_)))))
  · refine cnd_true.2 ?_
    exact err 3 H3 ⟨fun i => if i = 6 then ptr p2 0 else vint 3, []⟩ SameX.refl rfl rfl rfl (k2 h0 (fun x => hn x.1)) (fun x => _) fun x => ⟨rfl, rfl, rfl⟩
  · refine offI (ldI (v := vint t.gates) b13 rfl rfl (subI (by omega) (good67 hJ (notI (cndN (fun hn => ?_) fun hin2 => ?_)))))
    · exact err 3 H3 ⟨fun i => if i = 6 then ptr p2 0 else vint 3, []⟩ SameX.refl rfl rfl rfl (k2 h0 (fun x => hn x.2)) (fun x => _) fun x => ⟨rfl, rfl, rfl⟩
    · refine geqI (cndI (fun hge => ?_) fun hlt => ?_)
      · exact err 5 H3 ⟨fun i => if i = 6 then ptr p2 0 else vint 5, []⟩ SameX.refl rfl rfl rfl (k3 h0 hin hin2 hge) (fun x => _) fun x => ⟨rfl, rfl, rfl⟩
      · exact rest hin hin2 (by omega) (fun v24 v26 v27 v28 c => _) (fun v24 v26 v27 v28 v31 => _) (fun _ _ _ _ _ => ⟨rfl, rfl, rfl⟩) fun _ _ _ _ _ => ⟨rfl, rfl, rfl⟩

end
end Go.Proofs.Ytdgpacdknpahnaa

namespace Go.Proofs.Ytdgpacdknpahnaa
open Go.Conc Go.Proofs.Try
set_option maxRecDepth 100000
instance (r : Rng) (n : Int) : Decidable (r.has n) := inferInstanceAs (Decidable (_ ∧ _))

def AllP (t : Tal) (g : Int) (n : Int) : Prop := ∀ c ∈ t.counts, c.gate = g → (rd c).has n

theorem poss_iff {c : Cnt} (h1 : 0 ≤ c.num ∧ c.num ≤ 300) (h2 : 0 ≤ c.err ∧ c.err ≤ 20) {n : Int} : (rd c).has n ↔ 0 ≤ n ∧ 100 * (c.num - n) ≤ c.err * n ∧ 100 * -(c.num - n) ≤ c.err * n := by
  obtain ⟨a, b, d, e⟩ := rd_facts h1 h2
  show rdLo c ≤ n ∧ n ≤ rdHi c ↔ _
  rw [lo_le h2, le_hi h2]
  refine ⟨fun ⟨x, y⟩ => ⟨?_, by omega, by omega⟩, fun ⟨x, y, z⟩ => ⟨by omega, by omega⟩⟩
  have := (lo_le h2 (n := n)).2 x
  omega

theorem lim_iff {t : Tal} (f : TalFine t) {g : Nat} {n : Int} : (limA t 0 g).has n ↔ (0 ≤ n ∧ n ≤ 600) ∧ AllP t g n := by
  have key : ∀ i, i ≤ t.counts.length → ((limN 0 t.counts i g).has n ↔ (0 ≤ n ∧ n ≤ 600) ∧ ∀ j (hj : j < t.counts.length), j < i → t.counts[j].gate = g → (rd t.counts[j]).has n) := by
    intro i
    induction i with
    | zero =>
      intro _
      show (⟨0, 600⟩ : Rng).has n ↔ _
      unfold Rng.has
      simp
    | succ i ih =>
      intro hi
      have ih := ih (by omega)
      rw [limN_step (by omega), keep_zero]
      show (updL _ _ _ g).has n ↔ _
      have hc := f.co _ (List.getElem_mem (show i < t.counts.length by omega))
      unfold updL
      by_cases e : g = t.counts[i].gate.toNat
      · have e' : t.counts[i].gate = g := by omega
        rw [if_pos e, ← e]
        have hm : ((limN 0 t.counts i g).meet (rd t.counts[i])).has n ↔ (limN 0 t.counts i g).has n ∧ (rd t.counts[i]).has n := by
          unfold Rng.meet Rng.has
          dsimp only
          omega
        rw [hm, ih]
        refine ⟨fun ⟨⟨x, y⟩, z⟩ => ⟨x, fun j hj hji hg => ?_⟩, fun ⟨x, y⟩ => ⟨⟨x, fun j hj hji hg => y j hj (by omega) hg⟩, y i (by omega) (by omega) e'⟩⟩
        by_cases ej : j = i
        · subst ej
          exact z
        · exact y j hj (by omega) hg
      · rw [if_neg e, ih]
        refine ⟨fun ⟨x, y⟩ => ⟨x, fun j hj hji hg => ?_⟩, fun ⟨x, y⟩ => ⟨x, fun j hj hji hg => y j hj (by omega) hg⟩⟩
        by_cases ej : j = i
        · subst ej
          exact absurd (by omega) e
        · exact y j hj (by omega) hg
  unfold limA
  rw [key _ (Nat.le_refl _)]
  refine and_congr_right fun _ => ⟨fun h c hc => ?_, fun h j hj _ hg => h _ (List.getElem_mem hj) hg⟩
  obtain ⟨j, hj, rfl⟩ := List.mem_iff_getElem.1 hc
  exact h j hj hj

def befLo (t : Tal) (g : Nat) (n : Int) : Int := max 0 (n - ((t.changes[g]?).getD ⟨0, 0⟩).hi)
def befHi (t : Tal) (g : Nat) (n : Int) : Int := min 540 (n - ((t.changes[g]?).getD ⟨0, 0⟩).lo + t.most)
def behLo (t : Tal) (g : Nat) (n : Int) : Int := max 0 (n + ((t.changes[g]?).getD ⟨0, 0⟩).lo - t.most)
def behHi (t : Tal) (g : Nat) (n : Int) : Int := min 540 (n + ((t.changes[g]?).getD ⟨0, 0⟩).hi)

def Ch (t : Tal) : Nat → Int → Prop
  | 0, n => t.first.has n ∧ AllP t (0 : Nat) n
  | g + 1, n => (0 ≤ n ∧ n ≤ 540) ∧ (∃ m, befLo t g n ≤ m ∧ m ≤ befHi t g n ∧ Ch t g m) ∧ AllP t (g + 1 : Nat) n

section
variable {t : Tal}
theorem fwd_top (f : TalFine t) {L : Nat → Rng} : ∀ g : Nat, (fwd t L g).hi ≤ 300 + 60 * g
  | 0 => by
    have := f.first
    unfold fwd Rng.meet
    dsimp only
    omega
  | g + 1 => by
    have ih := fwd_top f (L := L) g
    have hm := f.most
    show min ((fwd t L g).hi + (stretchR t g).hi) _ ≤ _
    have : (stretchR t g).hi ≤ 60 := by
      unfold stretchR
      cases e : t.changes[g]? with
      | none =>
        unfold Rng.plus
        dsimp only [Option.getD]
        omega
      | some r =>
        have := f.ch r (List.mem_of_getElem? e)
        unfold Rng.plus
        dsimp only [Option.getD]
        omega
    omega
theorem ch_iff (f : TalFine t) : ∀ g, g < t.gates.toNat → ∀ n, Ch t g n ↔ (∀ j, j < g → (fwd t (limA t 0) j).lo ≤ (fwd t (limA t 0) j).hi) ∧ (fwd t (limA t 0) g).has n
  | 0, hg, n => by
    have h1 := f.first
    have hl := lim_iff f (g := 0) (n := n)
    show t.first.has n ∧ AllP t (0 : Nat) n ↔ _ ∧ (t.first.meet (limA t 0 0)).has n
    have hm : (t.first.meet (limA t 0 0)).has n ↔ t.first.has n ∧ (limA t 0 0).has n := by
      unfold Rng.meet Rng.has
      dsimp only
      omega
    rw [hm, hl]
    unfold Rng.has
    refine ⟨fun ⟨x, y⟩ => ⟨fun j hj => absurd hj (by omega), x, by omega, y⟩, fun ⟨_, x, _, y⟩ => ⟨x, y⟩⟩
  | g + 1, hg, n => by
    have ih := ch_iff f g (by omega)
    have hgt := f.gates
    have hch := f.chl
    have hc := f.ch _ (List.getElem_mem (show g < t.changes.length by omega))
    have hmo := f.most
    have hl := lim_iff f (g := g + 1) (n := n)
    have eg : (t.changes[g]?).getD ⟨0, 0⟩ = t.changes[g] := by rw [List.getElem?_eq_getElem (show g < t.changes.length by omega)]; rfl
    have es : stretchR t g = ⟨t.changes[g].lo + -t.most, t.changes[g].hi + 0⟩ := by
      unfold stretchR
      rw [eg]
      rfl
    have hm : (fwd t (limA t 0) (g + 1)).has n ↔ ((fwd t (limA t 0) g).plus (stretchR t g)).has n ∧ (limA t 0 (g + 1)).has n := by
      show (((fwd t (limA t 0) g).plus (stretchR t g)).meet (limA t 0 (g + 1))).has n ↔ _
      unfold Rng.meet Rng.has
      dsimp only
      omega
    have ht := fwd_top f (L := limA t 0) g
    rw [hm, hl]
    show (0 ≤ n ∧ n ≤ 540) ∧ (∃ m, befLo t g n ≤ m ∧ m ≤ befHi t g n ∧ Ch t g m) ∧ AllP t (g + 1 : Nat) n ↔ _
    unfold befLo befHi
    rw [eg, es]
    constructor
    · rintro ⟨x, ⟨m, m1, m2, m3⟩, y⟩
      obtain ⟨a1, a2⟩ := (ih m).1 m3
      unfold Rng.has at a2
      refine ⟨fun j hj => ?_, ?_, by omega, y⟩
      · by_cases e : j = g
        · subst e
          omega
        · exact a1 j (by omega)
      · unfold Rng.plus Rng.has
        dsimp only
        omega
    · rintro ⟨x, y, z, w⟩
      unfold Rng.plus Rng.has at y
      dsimp only at y
      have hne := x g (by omega)
      have hlo : 0 ≤ (fwd t (limA t 0) g).lo := by
        have := fwd_lim (t := t) (L := limA t 0) (g := g) (n := (fwd t (limA t 0) g).lo) ⟨Int.le_refl _, hne⟩
        have := ((lim_iff f).1 this).1
        omega
      refine ⟨by omega, ⟨max (fwd t (limA t 0) g).lo (n - t.changes[g].hi), by omega, by omega, (ih _).2 ⟨fun j hj => x j (by omega), ?_⟩⟩, w⟩
      unfold Rng.has
      omega
theorem truth_iff (f : TalFine t) : TruthIs t (limA t 0) ↔ ∃ n, (0 ≤ n ∧ n < 541) ∧ Ch t (t.gates.toNat - 1) n := by
  have hg := f.gates
  constructor
  · intro hT
    have h1 := hT (t.gates.toNat - 1) (by omega)
    have h2 := fwd_lim (t := t) (L := limA t 0) (g := t.gates.toNat - 1) (n := (fwd t (limA t 0) (t.gates.toNat - 1)).lo) ⟨Int.le_refl _, h1⟩
    have h3 := ((lim_iff f).1 h2).1
    have h4 := fwd_top f (L := limA t 0) (t.gates.toNat - 1)
    exact ⟨_, by omega, (ch_iff f _ (by omega) _).2 ⟨fun j hj => hT j (by omega), Int.le_refl _, h1⟩⟩
  · rintro ⟨n, _, h⟩ g hgl
    obtain ⟨a, b⟩ := (ch_iff f _ (by omega) _).1 h
    unfold Rng.has at b
    by_cases e : g = t.gates.toNat - 1
    · subst e
      omega
    · exact a g (by omega)
theorem ch_fwd (f : TalFine t) (hT : TruthIs t (limA t 0)) {g : Nat} (hg : g < t.gates.toNat) {n : Int} : Ch t g n ↔ (fwd t (limA t 0) g).has n := by
  rw [ch_iff f g hg]
  exact ⟨fun h => h.2, fun h => ⟨fun j hj => hT j (by omega), h⟩⟩
theorem bk_iff (f : TalFine t) (hT : TruthIs t (limA t 0)) {g : Nat} (hg : g + 1 < t.gates.toNat) {n : Int} : (bkR t (limA t 0) g).has n ↔ (fwd t (limA t 0) g).has n ∧ ∃ m, behLo t g n ≤ m ∧ m ≤ behHi t g n ∧ (bkR t (limA t 0) (g + 1)).has m := by
  have hch := f.chl
  have hgt := f.gates
  have eg : (t.changes[g]?).getD ⟨0, 0⟩ = t.changes[g] := by rw [List.getElem?_eq_getElem (show g < t.changes.length by omega)]; rfl
  have es : stretchR t g = ⟨t.changes[g].lo + -t.most, t.changes[g].hi + 0⟩ := by
    unfold stretchR
    rw [eg]
    rfl
  unfold behLo behHi
  rw [eg]
  constructor
  · intro h
    obtain ⟨m, h1, h2⟩ := bk_next f hT hg h
    have h3 := bk_rsm f hT (g + 1) (by omega)
    have h4 := bk_fwd (by omega) h1
    have h5 := fwd_top f (L := limA t 0) (g + 1)
    rw [es] at h2
    unfold Rng.has at h1 h2 h4
    dsimp only at h2
    exact ⟨bk_fwd (by omega) h, m, by omega, by omega, by unfold Rng.has; omega⟩
  · rintro ⟨h1, m, h2, h3, h4⟩
    rw [bkR_step hg, es]
    unfold Rng.meet Rng.plus Rng.turn Rng.has at *
    dsimp only
    omega
end
def rowD (f : Nat → Bool) : List Value := (List.range 541).map fun j => .bool (f j)
theorem rowD_len (f : Nat → Bool) : (rowD f).length = 541 := by simp [rowD]
theorem rowD_get (f : Nat → Bool) {n : Nat} (hn : n < 541) : (rowD f)[n]? = some (.bool (f n)) := by simp [rowD, hn]
theorem rowD_set (f : Nat → Bool) {n : Nat} (x : Bool) : (rowD f).set n (.bool x) = rowD (fun j => if j = n then x else f j) := by
  apply List.ext_getElem?
  intro i
  rw [List.getElem?_set]
  by_cases hi : i < 541
  · rw [rowD_get _ hi, rowD_get _ hi]
    by_cases e : n = i
    · subst e
      simp [rowD_len, hi]
    · rw [if_neg e, if_neg (fun x => e x.symm)]
  · have h1 : (rowD f)[i]? = none := List.getElem?_eq_none (by rw [rowD_len]; omega)
    have h2 : (rowD fun j => if j = n then x else f j)[i]? = none := List.getElem?_eq_none (by rw [rowD_len]; omega)
    rw [h1, h2]
    split
    · rw [if_neg (by rw [rowD_len]; omega)]
    · rfl
theorem rowD_congr {f f' : Nat → Bool} (h : ∀ j, j < 541 → f j = f' j) : rowD f = rowD f' := List.map_congr_left fun j hj => by rw [h j (by simpa using hj)]
section
variable {main : Bool} {J : JT} {h h0 H : List AObj} {K : Value → List AObj → Prop} {KV : Value → Prop} {n0 : Nat}
theorem good85 (hJ : Closed prog main J) {c : Cnt} {n : Int} (h1 : 0 ≤ c.num ∧ c.num ≤ 300) (h2 : 0 ≤ c.err ∧ c.err ≤ 20) (hn : -1000000 ≤ n ∧ n ≤ 1000000) (hK : K (.bool (decide ((rd c).has n))) h) : Good prog J 85 [c.val, vint n] h K := by
  refine g85 hJ fun ok => ?_
  rw [e85]
  unfold Cnt.val
  refine qBox (l := c.cells) rfl fun H1 p1 e1 S1 c1 l1 => ?_
  have hp := poss_iff h1 h2 (n := n)
  have c1' : H1[p1]? = some (.cells [vint c.gate, vint c.man, vint c.num, vint c.err] true 0) := c1
  have hm : -20000000 ≤ c.err * n ∧ c.err * n ≤ 20000000 := by
    rcases Int.le_total 0 n with x | x
    · have := mul_bd h2.1 h2.2 x hn.2
      omega
    · have := mul_bd h2.1 h2.2 (show 0 ≤ -n by omega) (show -n ≤ 1000000 by omega)
      rw [Int.mul_neg] at this
      omega
  have fin : ∀ b : Bool, b = decide ((rd c).has n) → retL h.length K [] [.bool b] H1 := fun b hb => by
    subst hb
    exact retX ok (Nat.le_refl _) S1 (by simp) (by simp [unk]) (by simp [pack, VOk]) hK
  refine offI (ldI (v := vint c.num) c1' rfl rfl (subI (by omega) (lssI (cndI (fun hlt => negI (by omega) ?_) fun hge => ?_))))
  · refine geqI (cndI (fun h0 => mulI (by omega) (offI (ldI (v := vint c.err) c1' rfl rfl (mulI (by omega) (leqI (fin _ ?_)))))) fun h0 => fin _ ?_)
    · rw [decide_eq_decide, hp]
      omega
    · rw [eq_comm, decide_eq_false_iff_not, hp]
      omega
  · refine geqI (cndI (fun h0 => mulI (by omega) (offI (ldI (v := vint c.err) c1' rfl rfl (mulI (by omega) (leqI (fin _ ?_)))))) fun h0 => fin _ ?_)
    · rw [decide_eq_decide, hp]
      omega
    · rw [eq_comm, decide_eq_false_iff_not, hp]
      omega

noncomputable instance (t : Tal) (g n : Int) : Decidable (AllP t g n) := Classical.propDecidable _
noncomputable instance (t : Tal) (g : Nat) (n : Int) : Decidable (Ch t g n) := Classical.propDecidable _

theorem good94 (hJ : Closed prog main J) {v cv nv : Value} {t : Tal} {g n : Int} (ht : TalAt h v t cv nv) (hc : CoSm t.counts) (hn : -1000000 ≤ n ∧ n ≤ 1000000) (hK : K (.bool (decide (AllP t g n))) h) : Good prog J 94 [v, vint g, vint n] h K := by
  refine g94 hJ fun ok => ?_
  rw [e94, ht.val]
  have kc : kn1 cv = true ∧ kn1 nv = true := ⟨(sli_one ht.ch).2.2, (sli_one ht.co).2.2⟩
  refine qBox (tal_one ht) fun H1 p1 e1 S1 c1 l1 => ?_
  have co := S1.sli ht.co (by simp)
  have fin : ∀ b : Bool, b = decide (AllP t g n) → retL h.length K [] [.bool b] H1 := fun b hb => by
    subst hb
    exact retX ok (Nat.le_refl _) S1 (by simp) (by simp [unk]) (by simp [pack, VOk]) hK
  have hl := hc.1
  refine l94_1 hJ (fun i : Nat => 100 - i) (fun i f H => H = H1 ∧ i ≤ t.counts.length ∧ (∀ j (hj : j < t.counts.length), j < i → t.counts[j].gate = g → (rd t.counts[j]).has n) ∧ f.ds = [] ∧ f.r 1 = vint g ∧ f.r 2 = vint n ∧ f.r 3 = ptr p1 0 ∧ f.r 7 = vint (i : Nat)) ?_ (s := 0)
    (.inl ⟨rfl, by omega, by simp, rfl, rfl, rfl, rfl, rfl⟩)
  rintro i f H ⟨rfl, hi, hall, hds, r1, r2, r3, r7⟩ ok' hn'
  rw [s94_1]
  simp only [r1, r2, r3, r7, hds]
  refine offI (ldI (v := nv) c1 rfl kc.2 (lenI co (lssI (cndI (fun hlt => ?_) fun hge => fin _ ?_))))
  rotate_left
  · rw [eq_comm, decide_eq_true_eq]
    intro c hcm
    obtain ⟨j, hj, rfl⟩ := List.mem_iff_getElem.1 hcm
    exact hall j hj (by omega)
  have hi' : i < t.counts.length := by omega
  obtain ⟨b2, o2, cs2, w2, z2, hx2, hb2, hle2, hp2, hk2⟩ := sliE_elem cnt_len (by omega) co hi'
  obtain ⟨q1, q2, q3⟩ := hc.2 _ (List.getElem_mem hi')
  have next : ∀ F : RG, F.r 32 = .bool false → F.ds = [] → F.r 1 = vint g → F.r 2 = vint n → F.r 3 = ptr p1 0 → F.r 7 = vint (i : Nat) → (t.counts[i].gate = g → (rd t.counts[i]).has n) →
      W prog J 33 h.length 94 (subC [1, 0, 1, 0, 0, 1, 0, 0, 1] (codeOf f94)) F H (contQ prog J 33 h.length 94 [1, 0, 1, 0, 0, 1, 0, 0, 1] (codeOf f94) [Nx h.length (fun i : Nat => 100 - i) (fun i f H' => H' = H ∧ i ≤ t.counts.length ∧ (∀ j (hj : j < t.counts.length), j < i → t.counts[j].gate = g → (rd t.counts[j]).has n) ∧ f.ds = [] ∧ f.r 1 = vint g ∧ f.r 2 = vint n ∧ f.r 3 = ptr p1 0 ∧ f.r 7 = vint (i : Nat)) i] (RetQ prog [.tmp 6] h.length K)) := by
    intro F t32 tds t1 t2 t3 t7 hin
    rw [s94_2, t32, t7]
    refine cnd_false.2 (addI (by omega) ⟨i + 1, by dsimp only; omega, .inl ⟨rfl, by omega, fun j hj hji hg => ?_, tds, t1, t2, t3, rfl⟩⟩)
    by_cases e : j = i
    · subst e
      exact hin hg
    · exact hall j hj (by omega) hg
  refine offI (ldI (v := nv) c1 rfl kc.2 (hx2 _ (offI (ldI hb2 (part_get (j := 0) hp2 rfl) rfl (eqlI (cndI (fun hg => ?_) fun hg => ?_))))))
  · refine offI (ldI (v := nv) c1 rfl kc.2 (hx2 _ (load_part (c := t.counts[i].cells) hb2 hle2 hp2 hk2 ?_)))
    refine good85 hJ (c := t.counts[i]) q2 q3 hn (notI ?_)
    by_cases hh : (rd t.counts[i]).has n
    · refine next _ ?_ hds r1 r2 r3 r7 fun _ => hh
      show Value.bool (!decide _) = _
      rw [decide_eq_true hh]
      rfl
    · rw [s94_2]
      have e : (!decide ((rd t.counts[i]).has n)) = true := by rw [decide_eq_false hh]; rfl
      rw [e]
      refine cnd_true.2 ?_
      show retL h.length K f.ds _ _
      rw [hds]
      refine fin _ ?_
      rw [eq_comm, decide_eq_false_iff_not]
      exact fun x => hh (x _ (List.getElem_mem hi') hg)
  · exact next _ rfl hds r1 r2 r3 r7 fun x => absurd x hg

def rowV (b : Nat) : Value := .slice (some ⟨b, 0, none⟩) 541 541

structure Grid (h H : List AObj) (v : Value) (bs : List Nat) (o : Option Nat) (P : Nat → Nat → Bool) : Prop where
  own : OwnX H 1 (bs.map rowV) bs.length v o
  rows : ∀ j (hj : j < bs.length), H[bs[j]]? = some (.cells (rowD (P j)) true 0)
  inc : ∀ i j (hi : i < bs.length) (hj : j < bs.length), i < j → bs[i] < bs[j]
  new : ∀ b ∈ bs, h.length ≤ b
  onew : ∀ i, o = some i → h.length ≤ i ∧ i ∉ bs

theorem Grid.same {v : Value} {bs : List Nat} {o : Option Nat} {P : Nat → Nat → Bool} {X : List Nat} {H' : List AObj} (G : Grid h H v bs o P) (S : SameX X H H') (h1 : ∀ b ∈ bs, b ∉ X) (h2 : ∀ i, o = some i → i ∉ X) : Grid h H' v bs o P :=
  ⟨ownX_keep G.own S h2, fun j hj => S.get (G.rows j hj) (h1 _ (List.getElem_mem hj)), G.inc, G.new, G.onew⟩
theorem Grid.lt {v : Value} {bs : List Nat} {o : Option Nat} {P : Nat → Nat → Bool} (G : Grid h H v bs o P) : ∀ b ∈ bs, b < H.length := fun b hb => by
  obtain ⟨j, hj, rfl⟩ := List.mem_iff_getElem.1 hb
  exact lt_of_get (G.rows j hj)
theorem Grid.read {v : Value} {bs : List Nat} {o : Option Nat} {P : Nat → Nat → Bool} (G : Grid h H v bs o P) {j n : Nat} (hj : j < bs.length) (hn : n < 541) {K2 : Value → Value → Value → Value → Prop} (hk : ∀ p q, K2 p (rowV bs[j]) q (.bool (P j n))) :
    aIdx 1 v (vint j) fun v4 => aLoad false 1 v4 H fun v5 => aIdx 1 v5 (vint n) fun v6 => aLoad false 1 v6 H (K2 v4 v5 v6) := by
  obtain ⟨h1, h2, ⟨h3, _, _⟩ | ⟨i, c, sz, _, rfl, h5, _⟩⟩ := G.own
  · omega
  · refine idxI ⟨by omega, by omega⟩ ?_
    rw [Int.toNat_natCast, Nat.zero_add]
    refine ldI (v := rowV bs[j]) h5 (by simp [hj]) rfl (idxI ⟨by omega, by omega⟩ ?_)
    rw [Int.toNat_natCast, Nat.zero_add]
    exact ldI (G.rows j hj) (by rw [Nat.mul_one]; exact rowD_get _ hn) rfl (hk _ _)
end
end Go.Proofs.Ytdgpacdknpahnaa

namespace Go.Proofs.Ytdgpacdknpahnaa
open Go.Conc Go.Proofs.Try
set_option maxRecDepth 100000
section
variable {t : Tal} {L : Nat → Rng}
theorem own_ok (f : TalFine t) {g : Nat} (hg : g < t.changes.length) {n m : Int} : (stretchR t g).has (m - n) ↔ (ownL t g n m).lo ≤ (ownL t g n m).hi := by
  have h1 := f.most
  have h2 := f.ch _ (List.getElem_mem hg)
  unfold stretchR ownL Rng.has Rng.plus
  rw [List.getElem?_eq_getElem hg]
  dsimp only [Option.getD]
  omega

theorem conn (f : TalFine t) (hT : TruthIs t L) {a : Nat} : ∀ d, a + d < t.gates.toNat → ∀ m, (bkR t L (a + d)).has m → ∃ s, Sum t (bkR t L) a d m s
  | 0, _, m, hm => ⟨0, .base hm⟩
  | d + 1, hd, m, hm => by
    have hch := f.chl
    obtain ⟨n, h1, h2⟩ := bk_prev f hT (g := a + d) (by omega) hm
    obtain ⟨s, hs⟩ := conn f hT d (by omega) n h1
    have h3 := (own_ok f (by omega)).1 h2
    exact ⟨s + (ownL t (a + d) n m).lo, .step hs hm ⟨Int.le_refl _, h3⟩⟩

theorem Sum.up (f : TalFine t) (hT : TruthIs t L) {a d : Nat} {m s : Int} (h : Sum t (bkR t L) a d m s) : ∀ e, a + d + e < t.gates.toNat → ∃ m' s', Sum t (bkR t L) a (d + e) m' s' ∧ s ≤ s'
  | 0, _ => ⟨m, s, h, Int.le_refl _⟩
  | e + 1, he => by
    have hch := f.chl
    obtain ⟨m', s', h1, h2⟩ := h.up f hT e (by omega)
    obtain ⟨n, h3, h4⟩ := bk_next f hT (g := a + (d + e)) (by omega) h1.at
    have h5 := (own_ok f (by omega)).1 h4
    have h6 : (ownL t (a + (d + e)) m' n).has (ownL t (a + (d + e)) m' n).lo := ⟨Int.le_refl _, h5⟩
    have := own_bd h6
    exact ⟨n, s' + (ownL t (a + (d + e)) m' n).lo, .step h1 h3 h6, by omega⟩

theorem Sum.split {R : Nat → Rng} {a d1 : Nat} : ∀ {d2 : Nat} {m s : Int}, Sum t R a (d1 + d2) m s → ∃ n s1 s2, Sum t R a d1 n s1 ∧ Sum t R (a + d1) d2 m s2 ∧ s = s1 + s2
  | 0, m, s, h => ⟨m, s, 0, h, .base h.at, by omega⟩
  | d2 + 1, m, s, h => by
    cases h with
    | @step _ n _ s l h1 h2 h3 =>
      obtain ⟨n', s1, s2, a1, a2, a3⟩ := Sum.split h1
      refine ⟨n', s1, s2 + l, a1, .step a2 ?_ ?_, by omega⟩
      · rw [show a + d1 + d2 + 1 = a + (d1 + d2) + 1 from by omega]
        exact h2
      · rw [show a + d1 + d2 = a + (d1 + d2) from by omega]
        exact h3

theorem lost_all (f : TalFine t) (hT : TruthIs t (limA t 0)) {a b : Nat} (hab : a ≤ b) (hb : b < t.gates.toNat) :
    (∀ m s, Sum t (bkR t (limA t 0)) a (b - a) m s → (lostR t (bkR t (limA t 0)) a b).has s) ∧ (∃ m, Sum t (bkR t (limA t 0)) a (b - a) m (lostR t (bkR t (limA t 0)) a b).lo) ∧ (∃ m, Sum t (bkR t (limA t 0)) a (b - a) m (lostR t (bkR t (limA t 0)) a b).hi) := by
  have hg := f.gates
  refine lost_sem f (G := t.gates.toNat) (by omega) (bk_rsm f hT) hab hb fun m hm => conn f hT (b - a) (by omega) m ?_
  rw [show a + (b - a) = b from by omega]
  exact hm

end
end Go.Proofs.Ytdgpacdknpahnaa

namespace Go.Proofs.Ytdgpacdknpahnaa
open Go.Conc Go.Proofs.Try
set_option maxRecDepth 100000
def chgR (t : Tal) (g : Nat) : Rng := (t.changes[g]?).getD ⟨0, 0⟩
def OkN (t : Tal) (g : Nat) (n : Int) : Prop := (0 ≤ n ∧ n < 120) ∧ AllP t g n

def Zm (t : Tal) (a b : Nat) : Nat → Nat → Int → Int → Int → Prop
  | 0, g, n, s, z => OkN t g n ∧ z = s
  | d + 1, g, n, s, z => OkN t g n ∧ ∃ l c : Int, (0 ≤ l ∧ l ≤ t.most) ∧ (chgR t g).has c ∧ Zm t a b d (g + 1) (n + c - l) (if a ≤ g ∧ g < b then s + l else s) z
def Fin' (t : Tal) : Nat → Nat → Int → Prop
  | 0, g, n => OkN t g n
  | d + 1, g, n => OkN t g n ∧ ∃ l c : Int, (0 ≤ l ∧ l ≤ t.most) ∧ (chgR t g).has c ∧ Fin' t d (g + 1) (n + c - l)
def Mk (t : Tal) : Nat → Nat → Int → Nat → Int → Prop
  | 0, g, n, g', n' => OkN t g n ∧ g' = g ∧ n' = n
  | d + 1, g, n, g', n' => OkN t g n ∧ ∃ l c : Int, (0 ≤ l ∧ l ≤ t.most) ∧ (chgR t g).has c ∧ (Mk t d (g + 1) (n + c - l) g' n' ∨ (g' = g ∧ n' = n ∧ Fin' t d (g + 1) (n + c - l)))
def PS (t : Tal) (a b : Nat) : Nat → Int → Int → Prop
  | 0, n, s => t.first.has n ∧ OkN t 0 n ∧ s = 0
  | g + 1, m, s => OkN t (g + 1) m ∧ ∃ n s' l c : Int, PS t a b g n s' ∧ (0 ≤ l ∧ l ≤ t.most) ∧ (chgR t g).has c ∧ m = n + c - l ∧ s = (if a ≤ g ∧ g < b then s' + l else s')

section
variable {t : Tal} {a b : Nat}
theorem Zm.ok : ∀ {d g : Nat} {n s z : Int}, Zm t a b d g n s z → OkN t g n
  | 0, _, _, _, _, h => h.1
  | _ + 1, _, _, _, _, h => h.1
theorem PS.ok : ∀ {g : Nat} {n s : Int}, PS t a b g n s → OkN t g n
  | 0, _, _, h => h.2.1
  | _ + 1, _, _, h => h.1
theorem fin_zm : ∀ {d g : Nat} {n : Int} (s : Int), Fin' t d g n ↔ ∃ z, Zm t a b d g n s z
  | 0, g, n, s => ⟨fun h => ⟨s, h, rfl⟩, fun ⟨_, h, _⟩ => h⟩
  | d + 1, g, n, s => by
    constructor
    · rintro ⟨h, l, c, h1, h2, h3⟩
      obtain ⟨z, hz⟩ := (fin_zm (if a ≤ g ∧ g < b then s + l else s)).1 h3
      exact ⟨z, h, l, c, h1, h2, hz⟩
    · rintro ⟨z, h, l, c, h1, h2, h3⟩
      exact ⟨h, l, c, h1, h2, (fin_zm _).2 ⟨z, h3⟩⟩
theorem ps_zm {z : Int} : ∀ (d g : Nat), (∃ n s, PS t a b g n s ∧ Zm t a b d g n s z) ↔ ∃ n, PS t a b (g + d) n z
  | 0, g => by
    constructor
    · rintro ⟨n, s, h1, h2, rfl⟩
      exact ⟨n, h1⟩
    · rintro ⟨n, h⟩
      exact ⟨n, z, h, h.ok, rfl⟩
  | d + 1, g => by
    have ih := ps_zm (z := z) d (g + 1)
    rw [show g + (d + 1) = g + 1 + d from by omega, ← ih]
    constructor
    · rintro ⟨n, s, h1, h2, l, c, h3, h4, h5⟩
      exact ⟨_, _, ⟨h5.ok, n, s, l, c, h1, h3, h4, rfl, rfl⟩, h5⟩
    · rintro ⟨m, s', ⟨h1, n, s, l, c, h2, h3, h4, rfl, rfl⟩, h5⟩
      exact ⟨n, s, h2, h2.ok, l, c, h3, h4, h5⟩
theorem first_zm {z : Int} (d : Nat) : (∃ n, t.first.has n ∧ Zm t a b d 0 n 0 z) ↔ ∃ n, PS t a b d n z := by
  have h := ps_zm (t := t) (a := a) (b := b) (z := z) d 0
  rw [Nat.zero_add] at h
  rw [← h]
  constructor
  · rintro ⟨n, h1, h2⟩
    exact ⟨n, 0, ⟨h1, h2.ok, rfl⟩, h2⟩
  · rintro ⟨n, s, ⟨h1, _, rfl⟩, h2⟩
    exact ⟨n, h1, h2⟩
theorem first_fin (d : Nat) : (∃ n, t.first.has n ∧ Fin' t d 0 n) ↔ ∃ n z, PS t 0 0 d n z := by
  constructor
  · rintro ⟨n, h1, h2⟩
    obtain ⟨z, hz⟩ := (fin_zm (a := 0) (b := 0) 0).1 h2
    obtain ⟨m, hm⟩ := (first_zm d).1 ⟨n, h1, hz⟩
    exact ⟨m, z, hm⟩
  · rintro ⟨n, z, h⟩
    obtain ⟨m, h1, h2⟩ := (first_zm d).2 ⟨n, h⟩
    exact ⟨m, h1, (fin_zm 0).2 ⟨z, h2⟩⟩

theorem ch_top {G C : Int} (T : TalOk G C t) (hG : G ≤ 5) : ∀ g, g < t.gates.toNat → ∀ n, Ch t g n → 0 ≤ n ∧ n ≤ 66 + 4 * (g : Int)
  | 0, _, n, h => by
    have := T.first
    have h1 := h.1
    unfold Rng.has at h1
    omega
  | g + 1, hg, n, h => by
    obtain ⟨h1, ⟨m, h2, h3, h4⟩, _⟩ := h
    have ih := ch_top T hG g (by omega) m h4
    have hch := T.chl
    have hgt := T.gates
    have hc := T.ch _ (List.getElem_mem (show g < t.changes.length by omega))
    unfold befLo at h2
    rw [List.getElem?_eq_getElem (show g < t.changes.length by omega)] at h2
    simp only [Option.getD] at h2
    omega

theorem over {g : Nat} (fine : TalFine t) (hg : g + 1 < t.gates.toNat) {n m : Int} : (∃ l c : Int, (0 ≤ l ∧ l ≤ t.most) ∧ (chgR t g).has c ∧ m = n + c - l) ↔ n + (chgR t g).lo - t.most ≤ m ∧ m ≤ n + (chgR t g).hi := by
  have hgt := fine.gates
  have hchl := fine.chl
  have hm := fine.most
  have hc := fine.ch _ (List.getElem_mem (show g < t.changes.length by omega))
  have e : chgR t g = t.changes[g] := by
    unfold chgR
    rw [List.getElem?_eq_getElem (show g < t.changes.length by omega)]
    rfl
  rw [e]
  unfold Rng.has
  constructor
  · rintro ⟨l, c, h1, h2, rfl⟩
    omega
  · rintro ⟨h1, h2⟩
    by_cases x : n + t.changes[g].lo ≤ m
    · exact ⟨0, m - n, by omega, by omega, by omega⟩
    · exact ⟨n + t.changes[g].lo - m, t.changes[g].lo, by omega, by omega, by omega⟩

def Low (t : Tal) : Prop := ∀ g, g < t.gates.toNat → ∀ n, Ch t g n → 0 ≤ n ∧ n < 120
theorem talOk_low {G C : Int} (T : TalOk G C t) (hG : G ≤ 5) : Low t := fun g hg n h => by
  have := ch_top T hG g hg n h
  have := T.gates
  omega

theorem ps_ch (fine : TalFine t) (low : Low t) : ∀ g, g < t.gates.toNat → ∀ n, (∃ s, PS t a b g n s) ↔ Ch t g n
  | 0, hg, n => by
    constructor
    · rintro ⟨s, h1, h2, _⟩
      exact ⟨h1, h2.2⟩
    · rintro h
      exact ⟨0, h.1, ⟨low 0 hg n h, h.2⟩, rfl⟩
  | g + 1, hg, n => by
    have ih := ps_ch fine low g (by omega)
    constructor
    · rintro ⟨s, h1, m, s', l, c, h2, h3, h4, h5, _⟩
      have hm := (ih m).1 ⟨s', h2⟩
      have hb := low g (by omega) m hm
      have hx := (over fine hg).1 ⟨l, c, h3, h4, h5⟩
      have hk := h1.1
      refine ⟨by omega, ⟨m, ?_, ?_, hm⟩, h1.2⟩
      · unfold befLo
        show max 0 (n - (chgR t g).hi) ≤ m
        omega
      · unfold befHi
        show m ≤ min 540 (n - (chgR t g).lo + t.most)
        omega
    · intro h
      have hb := low (g + 1) hg n h
      obtain ⟨h1, ⟨m, h2, h3, h4⟩, h5⟩ := h
      obtain ⟨s, hs⟩ := (ih m).2 h4
      have h2' : max 0 (n - (chgR t g).hi) ≤ m := h2
      have h3' : m ≤ min 540 (n - (chgR t g).lo + t.most) := h3
      obtain ⟨l, c, h6, h7, h8⟩ := (over fine hg (n := m) (m := n)).2 (by omega)
      exact ⟨_, ⟨hb, h5⟩, m, s, l, c, hs, h6, h7, h8, rfl⟩

theorem all_truth (fine : TalFine t) (low : Low t) : (∃ n, t.first.has n ∧ Fin' t (t.gates.toNat - 1) 0 n) ↔ TruthIs t (limA t 0) := by
  have hg := fine.gates
  rw [first_fin, truth_iff fine]
  constructor
  · rintro ⟨n, z, h⟩
    have h1 := (ps_ch fine low _ (by omega) n).1 ⟨z, h⟩
    have := low _ (by omega) n h1
    exact ⟨n, by omega, h1⟩
  · rintro ⟨n, _, h⟩
    obtain ⟨s, hs⟩ := (ps_ch (a := 0) (b := 0) fine low _ (by omega) n).2 h
    exact ⟨n, s, hs⟩

theorem ch_ok (low : Low t) {g : Nat} (hg : g < t.gates.toNat) {n : Int} (h : Ch t g n) : OkN t g n := by
  refine ⟨low g hg n h, ?_⟩
  cases g with
  | zero => exact h.2
  | succ g => exact h.2.2

theorem ch_step (fine : TalFine t) (low : Low t) {g : Nat} (hg : g + 1 < t.gates.toNat) {n l c : Int} (h : Ch t g n) (hl : 0 ≤ l ∧ l ≤ t.most) (hc : (chgR t g).has c) (ho : OkN t (g + 1) (n + c - l)) : Ch t (g + 1) (n + c - l) := by
  obtain ⟨s, hs⟩ := (ps_ch (a := 0) (b := 0) fine low g (by omega) n).2 h
  exact (ps_ch fine low (g + 1) hg _).1 ⟨_, ho, n, s, l, c, hs, hl, hc, rfl, rfl⟩
theorem ch_prev (fine : TalFine t) (low : Low t) {g : Nat} (hg : g + 1 < t.gates.toNat) {m : Int} (h : Ch t (g + 1) m) : ∃ n l c, Ch t g n ∧ (0 ≤ l ∧ l ≤ t.most) ∧ (chgR t g).has c ∧ m = n + c - l := by
  obtain ⟨s, _, n, s', l, c, h1, h2, h3, h4, _⟩ := (ps_ch (a := 0) (b := 0) fine low (g + 1) hg m).2 h
  exact ⟨n, l, c, (ps_ch fine low g (by omega) n).1 ⟨s', h1⟩, h2, h3, h4⟩

theorem Fin'.ok : ∀ {d g : Nat} {n : Int}, Fin' t d g n → OkN t g n
  | 0, _, _, h => h
  | _ + 1, _, _, h => h.1
theorem Mk.ok : ∀ {d g g' : Nat} {n n' : Int}, Mk t d g n g' n' → OkN t g n
  | 0, _, _, _, _, h => h.1
  | _ + 1, _, _, _, _, h => h.1

theorem mk_iff (fine : TalFine t) (low : Low t) {g' : Nat} {n' : Int} : ∀ d g, g + d < t.gates.toNat → ((∃ n, Ch t g n ∧ Mk t d g n g' n') ↔ ∃ k, k ≤ d ∧ g' = g + k ∧ Ch t g' n' ∧ Fin' t (d - k) g' n')
  | 0, g, hg => by
    constructor
    · rintro ⟨n, h1, h2, rfl, rfl⟩
      exact ⟨0, by omega, rfl, h1, h2⟩
    · rintro ⟨k, hk, e, h1, h2⟩
      have : k = 0 := by omega
      subst this
      rw [Nat.add_zero] at e
      subst e
      exact ⟨n', h1, h2, rfl, rfl⟩
  | d + 1, g, hg => by
    have ih := mk_iff fine low (g' := g') (n' := n') d (g + 1) (by omega)
    constructor
    · rintro ⟨n, h1, h2, l, c, h3, h4, h5 | ⟨rfl, rfl, h6⟩⟩
      · obtain ⟨k, hk, e, h7, h8⟩ := ih.1 ⟨_, ch_step fine low (by omega) h1 h3 h4 h5.ok, h5⟩
        refine ⟨k + 1, by omega, by omega, h7, ?_⟩
        rw [show d + 1 - (k + 1) = d - k from by omega]
        exact h8
      · exact ⟨0, by omega, rfl, h1, h2, l, c, h3, h4, h6⟩
    · rintro ⟨k, hk, e, h1, h2⟩
      cases k with
      | zero =>
        rw [Nat.add_zero] at e
        subst e
        obtain ⟨h3, l, c, h4, h5, h6⟩ := h2
        exact ⟨n', h1, h3, l, c, h4, h5, .inr ⟨rfl, rfl, h6⟩⟩
      | succ k =>
        obtain ⟨m, h3, h4⟩ := ih.2 ⟨k, by omega, by omega, h1, by rw [show d - k = d + 1 - (k + 1) from by omega]; exact h2⟩
        obtain ⟨n, l, c, h5, h6, h7, rfl⟩ := ch_prev fine low (by omega) h3
        exact ⟨n, h5, ch_ok low (by omega) h5, l, c, h6, h7, .inl h4⟩

theorem ch_fin (fine : TalFine t) (low : Low t) (hT : TruthIs t (limA t 0)) : ∀ d g, g + d + 1 = t.gates.toNat → ∀ n, (Ch t g n ∧ Fin' t d g n) ↔ (bkR t (limA t 0) g).has n
  | 0, g, hg, n => by
    rw [bkR_last (by omega), ← ch_fwd fine hT (by omega)]
    exact ⟨fun h => h.1, fun h => ⟨h, ch_ok low (by omega) h⟩⟩
  | d + 1, g, hg, n => by
    have ih := ch_fin fine low hT d (g + 1) (by omega)
    rw [bk_iff fine hT (by omega), ← ch_fwd fine hT (by omega)]
    refine and_congr_right fun hc => ?_
    constructor
    · rintro ⟨h1, l, c, h2, h3, h4⟩
      have h5 := ch_step fine low (by omega) hc h2 h3 h4.ok
      have hx := (over fine (by omega : g + 1 < t.gates.toNat) (n := n) (m := n + c - l)).1 ⟨l, c, h2, h3, rfl⟩
      have hk := low (g + 1) (by omega) _ h5
      refine ⟨n + c - l, ?_, ?_, (ih _).1 ⟨h5, h4⟩⟩
      · show max 0 (n + (chgR t g).lo - t.most) ≤ _
        omega
      · show _ ≤ min 540 (n + (chgR t g).hi)
        omega
    · rintro ⟨m, h1, h2, h3⟩
      obtain ⟨h4, h5⟩ := (ih m).2 h3
      have h1' : max 0 (n + (chgR t g).lo - t.most) ≤ m := h1
      have h2' : m ≤ min 540 (n + (chgR t g).hi) := h2
      obtain ⟨l, c, h6, h7, rfl⟩ := (over fine (by omega : g + 1 < t.gates.toNat) (n := n) (m := m)).2 (by omega)
      exact ⟨ch_ok low (by omega) hc, l, c, h6, h7, h5⟩

theorem all_seen (fine : TalFine t) (low : Low t) (hT : TruthIs t (limA t 0)) {g' : Nat} (hg' : g' < t.gates.toNat) {n' : Int} : (∃ n, t.first.has n ∧ Mk t (t.gates.toNat - 1) 0 n g' n') ↔ (bkR t (limA t 0) g').has n' := by
  have hg := fine.gates
  rw [← ch_fin fine low hT (t.gates.toNat - 1 - g') g' (by omega)]
  have h := mk_iff fine low (g' := g') (n' := n') (t.gates.toNat - 1) 0 (by omega)
  constructor
  · rintro ⟨n, h1, h2⟩
    obtain ⟨k, hk, e, h3, h4⟩ := h.1 ⟨n, ⟨h1, h2.ok.2⟩, h2⟩
    rw [Nat.zero_add] at e
    subst e
    exact ⟨h3, h4⟩
  · rintro ⟨h1, h2⟩
    obtain ⟨n, h3, h4⟩ := h.2 ⟨g', by omega, by omega, h1, h2⟩
    exact ⟨n, h3.1, h4⟩

theorem ps_sum (fine : TalFine t) (low : Low t) (hT : TruthIs t (limA t 0)) (hab : a ≤ b) (hb : b < t.gates.toNat) : ∀ g, g < t.gates.toNat → ∀ n s, PS t a b g n s → (bkR t (limA t 0) g).has n →
    (g ≤ a → s = 0) ∧ (a ≤ g → g ≤ b → Sum t (bkR t (limA t 0)) a (g - a) n s) ∧ (b ≤ g → ∃ m, Sum t (bkR t (limA t 0)) a (b - a) m s)
  | 0, hg, n, s, h, hn => by
    obtain ⟨_, _, rfl⟩ := h
    have key : a ≤ 0 → Sum t (bkR t (limA t 0)) a (0 - a) n 0 := fun ha => by
      have : a = 0 := by omega
      subst this
      exact .base hn
    refine ⟨fun _ => rfl, fun ha _ => key ha, fun hb0 => ?_⟩
    have e : b = 0 := by omega
    subst e
    exact ⟨n, key (by omega)⟩
  | g + 1, hg, m, s, h, hm => by
    obtain ⟨_, n, s', l, c, h1, h2, h3, h4, h5⟩ := h
    have hn : (bkR t (limA t 0) g).has n := by
      rw [bk_iff fine hT hg, ← ch_fwd fine hT (by omega)]
      have hc := (ps_ch fine low g (by omega) n).1 ⟨s', h1⟩
      have hk := low g (by omega) n hc
      have hx := (over fine hg).1 ⟨l, c, h2, h3, h4⟩
      have h6 := bk_fwd hg hm
      rw [← ch_fwd fine hT hg] at h6
      have h7 := low _ hg m h6
      refine ⟨hc, m, ?_, ?_, hm⟩
      · show max 0 (n + (chgR t g).lo - t.most) ≤ _
        omega
      · show _ ≤ min 540 (n + (chgR t g).hi)
        omega
    obtain ⟨i1, i2, i3⟩ := ps_sum fine low hT hab hb g (by omega) n s' h1 hn
    have mid : a ≤ g + 1 → g + 1 ≤ b → Sum t (bkR t (limA t 0)) a (g + 1 - a) m s := fun ha hgb => by
      by_cases e : a = g + 1
      · subst e
        rw [if_neg (by omega)] at h5
        rw [h5, i1 (by omega), Nat.sub_self]
        exact .base hm
      · rw [if_pos ⟨by omega, by omega⟩] at h5
        rw [h5, show g + 1 - a = (g - a) + 1 from by omega]
        refine .step (i2 (by omega) (by omega)) ?_ ?_
        · rw [show a + (g - a) + 1 = g + 1 from by omega]
          exact hm
        · rw [show a + (g - a) = g from by omega]
          unfold Rng.has at h3
          show max 0 (n + (chgR t g).lo - m) ≤ l ∧ l ≤ min t.most (n + (chgR t g).hi - m)
          omega
    refine ⟨fun ha => ?_, mid, fun hbg => ?_⟩
    · rw [if_neg (by omega)] at h5
      rw [h5]
      exact i1 (by omega)
    · by_cases e : b = g + 1
      · refine ⟨m, ?_⟩
        have := mid (by omega) (by omega)
        rw [e]
        exact this
      · rw [if_neg (by omega)] at h5
        rw [h5]
        exact i3 (by omega)

theorem sum_ps (fine : TalFine t) (low : Low t) (hT : TruthIs t (limA t 0)) (hb : b < t.gates.toNat) {d : Nat} {m s : Int} (h : Sum t (bkR t (limA t 0)) a d m s) (hd : a + d ≤ b) : PS t a b (a + d) m s := by
  induction h with
  | @base m hm =>
    have h1 := bk_fwd (by omega) hm
    rw [← ch_fwd fine hT (by omega)] at h1
    obtain ⟨s, hs⟩ := (ps_ch (a := a) (b := b) fine low a (by omega) m).2 h1
    have := (ps_sum fine low hT (by omega) hb a (by omega) m s hs hm).1 (by omega)
    rw [this] at hs
    exact hs
  | @step d n m s l h1 h2 h3 ih =>
    have ih := ih (by omega)
    have h4 := bk_fwd (g := a + d + 1) (by omega) h2
    rw [← ch_fwd fine hT (by omega)] at h4
    have ho := ch_ok low (g := a + d + 1) (by omega) h4
    have hbd := own_bd h3
    have h3' : max 0 (n + (chgR t (a + d)).lo - m) ≤ l ∧ l ≤ min t.most (n + (chgR t (a + d)).hi - m) := h3
    have key : PS t a b (a + d + 1) m (s + l) := by
      refine ⟨ho, n, s, l, m - n + l, ih, hbd, ?_, by omega, ?_⟩
      · unfold Rng.has
        omega
      · have hc : a ≤ a + d ∧ a + d < b := ⟨by omega, by omega⟩
        rw [if_pos hc]
    exact key

theorem ps_on (fine : TalFine t) (low : Low t) (hT : TruthIs t (limA t 0)) {m z : Int} (h : PS t a b b m z) (hm : (bkR t (limA t 0) b).has m) : ∀ e, b + e < t.gates.toNat → ∃ m', PS t a b (b + e) m' z ∧ (bkR t (limA t 0) (b + e)).has m'
  | 0, _ => ⟨m, h, hm⟩
  | e + 1, he => by
    obtain ⟨n, h1, h2⟩ := ps_on fine low hT h hm e (by omega)
    obtain ⟨n', h3, h4⟩ := bk_next fine hT (g := b + e) (by omega) h2
    have h5 := bk_fwd (g := b + e + 1) (by omega) h3
    rw [← ch_fwd fine hT (by omega)] at h5
    have ho := ch_ok low (g := b + e + 1) (by omega) h5
    have hx : n + (chgR t (b + e)).lo - t.most ≤ n' ∧ n' ≤ n + (chgR t (b + e)).hi := by
      have h4' : (chgR t (b + e)).lo + -t.most ≤ n' - n ∧ n' - n ≤ (chgR t (b + e)).hi + 0 := h4
      omega
    obtain ⟨l, c, h6, h7, h8⟩ := (over fine (by omega)).2 hx
    have key : PS t a b (b + e + 1) n' z := by
      refine ⟨ho, n, z, l, c, h1, h6, h7, h8, ?_⟩
      rw [if_neg (by omega)]
    exact ⟨n', key, h3⟩

theorem max2 (a b : Int) : ∃ u, a ≤ u ∧ b ≤ u ∧ (u = a ∨ u = b) := by
  by_cases h : a ≤ b
  · exact ⟨b, h, Int.le_refl _, .inr rfl⟩
  · exact ⟨a, Int.le_refl _, by omega, .inl rfl⟩
theorem sum_hex (fine : TalFine t) (hT : TruthIs t (limA t 0)) {a : Nat} : ∀ d, a + d < t.gates.toNat → ∃ A B C D E F : Int, ∀ n s, Sum t (bkR t (limA t 0)) a d n s ↔ (A ≤ n + s ∧ n + s ≤ B) ∧ (C ≤ s ∧ s ≤ D) ∧ (E ≤ n ∧ n ≤ F)
  | 0, hd => ⟨(bkR t (limA t 0) a).lo, (bkR t (limA t 0) a).hi, 0, 0, (bkR t (limA t 0) a).lo, (bkR t (limA t 0) a).hi, fun n s => by
      constructor
      · intro h
        have h1 := h.zero
        have h2 := h.at
        rw [Nat.add_zero] at h2
        unfold Rng.has at h2
        omega
      · rintro ⟨h1, h2, h3⟩
        have : s = 0 := by omega
        subst this
        exact .base h3⟩
  | d + 1, hd => by
    obtain ⟨A, B, C, D, E, F, ih⟩ := sum_hex fine hT (a := a) d (by omega)
    have hgt := fine.gates
    have hchl := fine.chl
    have hmo := fine.most
    have hch := fine.ch _ (List.getElem_mem (show a + d < t.changes.length by omega))
    have eg : chgR t (a + d) = t.changes[a + d] := by
      unfold chgR
      rw [List.getElem?_eq_getElem (show a + d < t.changes.length by omega)]
      rfl
    rw [← eg] at hch
    have hne : ∃ n s, Sum t (bkR t (limA t 0)) a d n s := by
      have h1 := bk_rsm fine hT (a + d) (by omega)
      obtain ⟨s, hs⟩ := conn (a := a) fine hT d (by omega) (bkR t (limA t 0) (a + d)).lo ⟨Int.le_refl _, h1.2.1⟩
      exact ⟨_, s, hs⟩
    obtain ⟨n0, s0, h0⟩ := hne
    have hw := (ih n0 s0).1 h0
    generalize hR : bkR t (limA t 0) (a + d + 1) = R
    generalize hQ : chgR t (a + d) = Q at hch
    refine ⟨max (A + Q.lo) (E + Q.lo + C), min (B + Q.hi) (F + Q.hi + D), max C (A - F), min (D + t.most) (B + t.most - E), max R.lo (E + Q.lo - t.most), min R.hi (F + Q.hi), fun m s' => ?_⟩
    simp only [Int.max_le, Int.le_min]
    constructor
    · intro h
      cases h with
      | @step _ n _ s l h1 h2 h3 =>
        rw [hR] at h2
        have h3' : max 0 (n + (chgR t (a + d)).lo - m) ≤ l ∧ l ≤ min t.most (n + (chgR t (a + d)).hi - m) := h3
        rw [hQ] at h3'
        simp only [Int.max_le, Int.le_min] at h3'
        have h4 := (ih n s).1 h1
        unfold Rng.has at h2
        refine ⟨⟨⟨?_, ?_⟩, ?_, ?_⟩, ⟨⟨?_, ?_⟩, ?_, ?_⟩, ⟨?_, ?_⟩, ?_, ?_⟩ <;> omega
    · rintro ⟨⟨⟨a1, a2⟩, a3, a4⟩, ⟨⟨a5, a6⟩, a7, a8⟩, ⟨a9, b1⟩, b2, b3⟩
      obtain ⟨v, hv1, hv2, hv3⟩ := max2 C (s' - t.most)
      obtain ⟨u', hu1, hu2, hu3⟩ := max2 A (m + s' - Q.hi)
      obtain ⟨u, hu4, hu5, hu6⟩ := max2 u' (E + v)
      obtain ⟨s, hs1, hs2, hs3⟩ := max2 v (u - F)
      have w1 : u ≤ B := by omega
      have w2 : u ≤ m + s' - Q.lo := by omega
      have w3 : s ≤ D := by omega
      have w4 : s ≤ s' := by omega
      have w5 : E ≤ u - s := by omega
      have k : Sum t (bkR t (limA t 0)) a d (u - s) s := (ih _ _).2 (by refine ⟨⟨?_, ?_⟩, ⟨?_, ?_⟩, ?_, ?_⟩ <;> omega)
      have := Sum.step (m := m) (l := s' - s) k (by rw [hR]; unfold Rng.has; omega) (by
        show max 0 (u - s + (chgR t (a + d)).lo - m) ≤ s' - s ∧ s' - s ≤ min t.most (u - s + (chgR t (a + d)).hi - m)
        rw [hQ]
        simp only [Int.max_le, Int.le_min]
        refine ⟨⟨?_, ?_⟩, ?_, ?_⟩ <;> omega)
      rw [show s + (s' - s) = s' from by omega] at this
      exact this

theorem all_sums (fine : TalFine t) (low : Low t) (hT : TruthIs t (limA t 0)) (hab : a ≤ b) (hb : b < t.gates.toNat) {z : Int} : (∃ n, t.first.has n ∧ Zm t a b (t.gates.toNat - 1) 0 n 0 z) ↔ (lostR t (bkR t (limA t 0)) a b).has z := by
  have hg := fine.gates
  obtain ⟨h1, ⟨m1, h2⟩, ⟨m2, h3⟩⟩ := lost_all fine hT hab hb
  rw [first_zm]
  constructor
  · rintro ⟨n, h⟩
    have hc := (ps_ch fine low _ (by omega) n).1 ⟨z, h⟩
    rw [ch_fwd fine hT (by omega), ← bkR_last (by omega)] at hc
    obtain ⟨m, hm⟩ := (ps_sum fine low hT hab hb _ (by omega) n z h hc).2.2 (by omega)
    exact h1 m z hm
  · intro hz
    obtain ⟨A, B, C, D, E, F, hx⟩ := sum_hex fine hT (a := a) (b - a) (by omega)
    have k2 := (hx _ _).1 h2
    have k3 := (hx _ _).1 h3
    unfold Rng.has at hz
    have hs : Sum t (bkR t (limA t 0)) a (b - a) (max E (A - z)) z := (hx _ _).2 (by omega)
    have hp := sum_ps fine low hT hb hs (by omega)
    have hat := hs.at
    rw [show a + (b - a) = b from by omega] at hp hat
    obtain ⟨m', h4, _⟩ := ps_on fine low hT hp hat (t.gates.toNat - 1 - b) (by omega)
    rw [show b + (t.gates.toNat - 1 - b) = t.gates.toNat - 1 from by omega] at h4
    exact ⟨m', h4⟩
end
end Go.Proofs.Ytdgpacdknpahnaa

namespace Go.Proofs.Ytdgpacdknpahnaa
open Go.Conc Go.Proofs.Try
set_option maxRecDepth 100000
section
variable {main : Bool} {J : JT} {h h0 H : List AObj} {K : Value → List AObj → Prop} {KV : Value → Prop} {n0 : Nat}
theorem Grid.more {v y : Value} {bs : List Nat} {o : Option Nat} {P : Nat → Nat → Bool} {pr : Nat} (G : Grid h H v bs o P) (hpr : H[pr]? = some (.cells (rowD (P bs.length)) true 0)) (hlt : ∀ b ∈ bs, b < pr) (hn : h.length ≤ pr) (ho : ∀ i, o = some i → i ≠ pr) (hl : bs.length < 1000) (hy : Sli H y 1 1 [rowV pr])
    (hk : ∀ v' H' p, SameX o.toList H H' → Grid h H' v' (bs ++ [pr]) (some p) P → K v' H') : aApp 1 v y H K := by
  refine ownX_more G.own (by omega) hl hy fun v' H' p e O S => ?_
  have hp := lt_of_get hpr
  have hno : ∀ b ∈ bs, b ∉ o.toList := fun b hb hm => by
    simp at hm
    exact (G.onew b hm).2 hb
  have hnp : pr ∉ o.toList := fun hm => by
    simp at hm
    exact ho pr hm rfl
  refine hk v' H' p S ⟨by simpa using O, fun j hj => ?_, fun i j hi hj hij => ?_, fun b hb => ?_, fun i hi => ?_⟩
  · rcases Nat.lt_or_ge j bs.length with x | x
    · rw [List.getElem_append_left x]
      exact S.get (G.rows j x) (hno _ (List.getElem_mem x))
    · have : j = bs.length := by
        simp at hj
        omega
      subst this
      simp only [List.getElem_concat_length]
      exact S.get hpr hnp
  · rcases Nat.lt_or_ge j bs.length with x | x
    · rw [List.getElem_append_left x, List.getElem_append_left (by omega)]
      exact G.inc i j _ _ hij
    · have : j = bs.length := by
        simp at hj
        omega
      subst this
      rw [List.getElem_append_left hij]
      simp only [List.getElem_concat_length]
      exact hlt _ (List.getElem_mem hij)
  · rcases List.mem_append.1 hb with hb | hb
    · exact G.new b hb
    · simp at hb
      omega
  · cases hi
    have := S.1
    refine ⟨by omega, fun hm => ?_⟩
    rcases List.mem_append.1 hm with hm | hm
    · have := G.lt p hm
      omega
    · simp at hm
      omega

end
end Go.Proofs.Ytdgpacdknpahnaa

namespace Go.Proofs.Ytdgpacdknpahnaa
open Go.Conc Go.Proofs.Try
set_option maxRecDepth 100000
section
variable {main : Bool} {J : JT} {h h0 H : List AObj} {K : Value → List AObj → Prop} {KV : Value → Prop} {HL : List AObj → Prop} {n0 : Nat}
theorem Grid.congr {v : Value} {bs : List Nat} {o : Option Nat} {P P' : Nat → Nat → Bool} (G : Grid h H v bs o P) (hp : ∀ j n, j < bs.length → n < 541 → P j n = P' j n) : Grid h H v bs o P' :=
  ⟨G.own, fun j hj => by rw [G.rows j hj, rowD_congr fun n hn => hp j n hj hn], G.inc, G.new, G.onew⟩

theorem Grid.write {v : Value} {bs : List Nat} {o : Option Nat} {P : Nat → Nat → Bool} (G : Grid h H v bs o P) {j n : Nat} {x : Bool} (hj : j < bs.length) (hn : n < 541) {K2 : Value → Value → Value → List AObj → Prop}
    (hk : ∀ p q H', SameX [bs[j]] H H' → Grid h H' v bs o (fun a b => if a = j ∧ b = n then x else P a b) → K2 p (rowV bs[j]) q H') :
    aIdx 1 v (vint j) fun v4 => aLoad false 1 v4 H fun v5 => aIdx 1 v5 (vint n) fun v6 => aStore 1 v6 (.bool x) H fun h' => K2 v4 v5 v6 h' := by
  obtain ⟨h1, h2, ⟨h3, _, _⟩ | ⟨i, c, sz, rfl, rfl, h5, h6⟩⟩ := id G.own
  · omega
  · refine idxI ⟨by omega, by omega⟩ ?_
    rw [Int.toNat_natCast, Nat.zero_add]
    refine ldI (v := rowV bs[j]) h5 (by simp [hj]) rfl (idxI ⟨by omega, by omega⟩ ?_)
    rw [Int.toNat_natCast, Nat.zero_add, Nat.mul_one]
    refine qSt (G.rows j hj) (by rw [rowD_len]; omega) rfl rfl fun H' S c' l' => hk _ _ H' S ⟨ownX_keep G.own S ?_, fun a ha => ?_, G.inc, G.new, G.onew⟩
    · intro b hb hm
      simp at hm
      subst hm
      exact (G.onew _ hb).2 (List.getElem_mem hj)
    · by_cases e : a = j
      · subst e
        rw [c', rowD_set]
        congr 2
        refine rowD_congr fun q _ => ?_
        simp
      · have hne : bs[a] ≠ bs[j] := by
          rcases Nat.lt_or_ge a j with x | x
          · have := G.inc a j ha hj x
            omega
          · have := G.inc j a hj ha (by omega)
            omega
        rw [S.get (G.rows a ha) (by simpa using hne)]
        congr 2
        refine rowD_congr fun q _ => ?_
        rw [if_neg (fun x => e x.1)]

end
end Go.Proofs.Ytdgpacdknpahnaa

namespace Go.Proofs.Ytdgpacdknpahnaa
open Go.Conc Go.Proofs.Try
set_option maxRecDepth 100000
def bRow (N : Nat) (f : Nat → Bool) : List Value := (List.range N).map fun j => .bool (f j)
def bRowV (N p : Nat) : Value := .slice (some ⟨p, 0, none⟩) N N
theorem bRow_len (N : Nat) (f : Nat → Bool) : (bRow N f).length = N := by simp [bRow]
theorem bRow_get {N : Nat} (f : Nat → Bool) {n : Nat} (hn : n < N) : (bRow N f)[n]? = some (.bool (f n)) := by simp [bRow, hn]
theorem bRow_set {N : Nat} (f : Nat → Bool) {n : Nat} (x : Bool) : (bRow N f).set n (.bool x) = bRow N (fun j => if j = n then x else f j) := by
  apply List.ext_getElem?
  intro i
  rw [List.getElem?_set]
  by_cases hi : i < N
  · rw [bRow_get _ hi, bRow_get _ hi]
    by_cases e : n = i
    · subst e
      simp [bRow_len, hi]
    · rw [if_neg e, if_neg (fun x => e x.symm)]
  · have h1 : (bRow N f)[i]? = none := List.getElem?_eq_none (by rw [bRow_len]; omega)
    have h2 : (bRow N fun j => if j = n then x else f j)[i]? = none := List.getElem?_eq_none (by rw [bRow_len]; omega)
    rw [h1, h2]
    split
    · rw [if_neg (by rw [bRow_len]; omega)]
    · rfl
theorem bRow_zero (N : Nat) : zrep [Value.bool false] N = bRow N fun _ => false := by
  rw [zrep_one]
  apply List.ext_getElem?
  intro i
  by_cases hi : i < N
  · rw [bRow_get _ hi, List.getElem?_replicate, if_pos hi]
  · rw [List.getElem?_eq_none (by rw [List.length_replicate]; omega), List.getElem?_eq_none (by rw [bRow_len]; omega)]
theorem bRow_congr {N : Nat} {f f' : Nat → Bool} (h : ∀ j, j < N → f j = f' j) : bRow N f = bRow N f' := List.map_congr_left fun j hj => by rw [h j (by simpa using hj)]
theorem bRow_kn (N : Nat) (f : Nat → Bool) : kn (bRow N f) = true := by
  unfold kn bRow
  rw [List.all_map, List.all_eq_true]
  intro x _
  rfl
theorem bRow_sli {H : List AObj} {N p : Nat} {f : Nat → Bool} (h : H[p]? = some (.cells (bRow N f) true 0)) : Sli H (bRowV N p) 1 N (bRow N f) := ownX_sli (ownX_new (n := N) h (by rw [bRow_len]; omega) (bRow_kn N f))

structure BGrid (N : Nat) (H : List AObj) (v : Value) (bs : List Nat) (o : Option Nat) (P : Nat → Nat → Bool) : Prop where
  own : OwnX H 1 (bs.map (bRowV N)) bs.length v o
  rows : ∀ j (hj : j < bs.length), H[bs[j]]? = some (.cells (bRow N (P j)) true 0)
  nd : bs.Nodup
  onew : ∀ i, o = some i → i ∉ bs

section
variable {main : Bool} {J : JT} {h h0 H H0 : List AObj} {K : Value → List AObj → Prop} {KV : Value → Prop} {n0 : Nat} {N : Nat}
theorem BGrid.same {v : Value} {bs : List Nat} {o : Option Nat} {P : Nat → Nat → Bool} {X : List Nat} {H' : List AObj} (G : BGrid N H v bs o P) (S : SameX X H H') (h1 : ∀ b ∈ bs, b ∉ X) (h2 : ∀ i, o = some i → i ∉ X) : BGrid N H' v bs o P :=
  ⟨ownX_keep G.own S h2, fun j hj => S.get (G.rows j hj) (h1 _ (List.getElem_mem hj)), G.nd, G.onew⟩
theorem BGrid.lt {v : Value} {bs : List Nat} {o : Option Nat} {P : Nat → Nat → Bool} (G : BGrid N H v bs o P) : ∀ b ∈ bs, b < H.length := fun b hb => by
  obtain ⟨j, hj, rfl⟩ := List.mem_iff_getElem.1 hb
  exact lt_of_get (G.rows j hj)
theorem BGrid.row {v : Value} {bs : List Nat} {o : Option Nat} {P : Nat → Nat → Bool} (G : BGrid N H v bs o P) {j : Nat} (hj : j < bs.length) {K2 : Value → Value → Prop} (hk : ∀ p, K2 p (bRowV N bs[j])) :
    aIdx 1 v (vint j) fun v4 => aLoad false 1 v4 H fun v5 => K2 v4 v5 := by
  obtain ⟨h1, h2, ⟨h3, _, _⟩ | ⟨i, c, sz, _, rfl, h5, _⟩⟩ := G.own
  · omega
  · refine idxI ⟨by omega, by omega⟩ ?_
    rw [Int.toNat_natCast, Nat.zero_add]
    exact ldI (v := bRowV N bs[j]) h5 (by simp [hj]) rfl (hk _)
theorem BGrid.read {v : Value} {bs : List Nat} {o : Option Nat} {P : Nat → Nat → Bool} (G : BGrid N H v bs o P) {j n : Nat} (hj : j < bs.length) (hn : n < N) {K2 : Value → Value → Value → Value → Prop} (hk : ∀ p q, K2 p (bRowV N bs[j]) q (.bool (P j n))) :
    aIdx 1 v (vint j) fun v4 => aLoad false 1 v4 H fun v5 => aIdx 1 v5 (vint n) fun v6 => aLoad false 1 v6 H (K2 v4 v5 v6) := by
  refine G.row hj fun p => idxI ⟨by omega, by omega⟩ ?_
  rw [Int.toNat_natCast, Nat.zero_add]
  exact ldI (G.rows j hj) (by rw [Nat.mul_one]; exact bRow_get _ hn) rfl (hk _ _)
theorem BGrid.write {v : Value} {bs : List Nat} {o : Option Nat} {P : Nat → Nat → Bool} (G : BGrid N H v bs o P) {j n : Nat} {x : Bool} (hj : j < bs.length) (hn : n < N) {K2 : Value → Value → Value → List AObj → Prop}
    (hk : ∀ p q H', SameX [bs[j]] H H' → BGrid N H' v bs o (fun a b => if a = j ∧ b = n then x else P a b) → K2 p (bRowV N bs[j]) q H') :
    aIdx 1 v (vint j) fun v4 => aLoad false 1 v4 H fun v5 => aIdx 1 v5 (vint n) fun v6 => aStore 1 v6 (.bool x) H fun h' => K2 v4 v5 v6 h' := by
  refine G.row hj fun p => idxI ⟨by omega, by omega⟩ ?_
  rw [Int.toNat_natCast, Nat.zero_add, Nat.mul_one]
  refine qSt (G.rows j hj) (by rw [bRow_len]; omega) rfl rfl fun H' S c' l' => hk _ _ H' S ⟨ownX_keep G.own S ?_, fun a ha => ?_, G.nd, G.onew⟩
  · intro b hb hm
    simp at hm
    subst hm
    exact G.onew _ hb (List.getElem_mem hj)
  · by_cases e : a = j
    · subst e
      rw [c', bRow_set]
      congr 2
      refine bRow_congr fun q _ => ?_
      simp
    · have hne : bs[a] ≠ bs[j] := fun x => e ((List.getElem_inj G.nd).1 x)
      rw [S.get (G.rows a ha) (by simpa using hne)]
      congr 2
      refine bRow_congr fun q _ => ?_
      rw [if_neg (fun x => e x.1)]
theorem BGrid.congr {v : Value} {bs : List Nat} {o : Option Nat} {P P' : Nat → Nat → Bool} (G : BGrid N H v bs o P) (hp : ∀ j n, j < bs.length → n < N → P j n = P' j n) : BGrid N H v bs o P' :=
  ⟨G.own, fun j hj => by rw [G.rows j hj, bRow_congr fun n hn => hp j n hj hn], G.nd, G.onew⟩
theorem BGrid.more {v y : Value} {bs : List Nat} {o : Option Nat} {P : Nat → Nat → Bool} {pr : Nat} (G : BGrid N H v bs o P) (hpr : H[pr]? = some (.cells (bRow N (P bs.length)) true 0)) (hnb : pr ∉ bs) (ho : ∀ i, o = some i → i ≠ pr) (hl : bs.length < 1000) (hy : Sli H y 1 1 [bRowV N pr])
    (hk : ∀ v' H' p, p = H.length → SameX o.toList H H' → BGrid N H' v' (bs ++ [pr]) (some p) P → K v' H') : aApp 1 v y H K := by
  refine ownX_more G.own (by omega) hl hy fun v' H' p e O S => ?_
  have hp := lt_of_get hpr
  have hno : ∀ b ∈ bs, b ∉ o.toList := fun b hb hm => by
    simp at hm
    exact G.onew b hm hb
  have hnp : pr ∉ o.toList := fun hm => by
    simp at hm
    exact ho pr hm rfl
  refine hk v' H' p e S ⟨by simpa using O, fun j hj => ?_, ?_, fun i hi => ?_⟩
  · rcases Nat.lt_or_ge j bs.length with x | x
    · rw [List.getElem_append_left x]
      exact S.get (G.rows j x) (hno _ (List.getElem_mem x))
    · have : j = bs.length := by
        simp at hj
        omega
      subst this
      simp only [List.getElem_concat_length]
      exact S.get hpr hnp
  · rw [List.nodup_append]
    exact ⟨G.nd, by simp, fun a ha b hb => by simp at hb; subst hb; exact fun e => hnb (e ▸ ha)⟩
  · cases hi
    intro hm
    rcases List.mem_append.1 hm with hm | hm
    · have := G.lt p hm
      omega
    · simp at hm
      omega

noncomputable instance (t : Tal) (d g : Nat) (n : Int) : Decidable (Fin' t d g n) := Classical.propDecidable _

structure R70 (f : RG) (p1 g : Nat) (n s a b : Int) (vs : Value) (q : Nat) : Prop where
  ds : f.ds = []
  r1 : f.r 1 = vint (g : Nat)
  r2 : f.r 2 = vint n
  r3 : f.r 3 = vint s
  r4 : f.r 4 = vint a
  r5 : f.r 5 = vint b
  r6 : f.r 6 = vs
  r7 : f.r 7 = bRowV 60 q
  r8 : f.r 8 = ptr p1 0

structure Wk (t : Tal) (a b d g : Nat) (n s : Int) (H0 H : List AObj) (vs : Value) (bs : List Nat) (o : Option Nat) (q : Nat) (P : Nat → Nat → Bool) (Z : Nat → Bool) (D : Int → Int → Prop) (x : Bool) : Prop where
  S : SameX (q :: bs) H0 H
  seen : ∃ P', BGrid 120 H vs bs o P' ∧ ∀ i j : Nat, j < 120 → (P' i j = true ↔ P i j = true ∨ ∃ l c : Int, D l c ∧ Mk t d (g + 1) (n + c - l) i j)
  sums : ∃ Z', H[q]? = some (.cells (bRow 60 Z') true 0) ∧ ∀ z : Nat, z < 60 → (Z' z = true ↔ Z z = true ∨ ∃ l c : Int, D l c ∧ Zm t a b d (g + 1) (n + c - l) (if a ≤ g ∧ g < b then s + l else s) z)
  fnd : x = true ↔ ∃ l c : Int, D l c ∧ Fin' t d (g + 1) (n + c - l)

section
variable {t : Tal} {a b d g : Nat} {n s : Int} {vs : Value} {bs : List Nat} {o : Option Nat} {q p1 : Nat} {P : Nat → Nat → Bool} {Z : Nat → Bool} {D D' : Int → Int → Prop} {x : Bool} {cv nv : Value}
theorem Wk.congr (w : Wk t a b d g n s H0 H vs bs o q P Z D x) (hD : ∀ l c, D l c ↔ D' l c) : Wk t a b d g n s H0 H vs bs o q P Z D' x := by
  have : D = D' := funext fun l => funext fun c => propext (hD l c)
  subst this
  exact w

theorem Wk.more {H' : List AObj} {l0 c0 : Int} {P' P2 : Nat → Nat → Bool} {Z' Z2 : Nat → Bool} (S : SameX (q :: bs) H0 H) (hP' : ∀ i j : Nat, j < 120 → (P' i j = true ↔ P i j = true ∨ ∃ l c : Int, D l c ∧ Mk t d (g + 1) (n + c - l) i j))
    (hZ' : ∀ z : Nat, z < 60 → (Z' z = true ↔ Z z = true ∨ ∃ l c : Int, D l c ∧ Zm t a b d (g + 1) (n + c - l) (if a ≤ g ∧ g < b then s + l else s) z)) (hx : x = true ↔ ∃ l c : Int, D l c ∧ Fin' t d (g + 1) (n + c - l))
    (S2 : SameX (q :: bs) H H') (G : BGrid 120 H' vs bs o P2) (hq : H'[q]? = some (.cells (bRow 60 Z2) true 0)) (hP2 : ∀ i j : Nat, j < 120 → (P2 i j = true ↔ P' i j = true ∨ Mk t d (g + 1) (n + c0 - l0) i j))
    (hZ2 : ∀ z : Nat, z < 60 → (Z2 z = true ↔ Z' z = true ∨ Zm t a b d (g + 1) (n + c0 - l0) (if a ≤ g ∧ g < b then s + l0 else s) z)) (hD : ∀ l c, D' l c ↔ D l c ∨ (l = l0 ∧ c = c0)) :
    Wk t a b d g n s H0 H' vs bs o q P Z D' (x || decide (Fin' t d (g + 1) (n + c0 - l0))) where
  S := S.trans S2
  seen := ⟨P2, G, fun i j hj => by
    rw [hP2 i j hj, hP' i j hj]
    constructor
    · rintro ((h | ⟨l, c, h1, h2⟩) | h)
      · exact .inl h
      · exact .inr ⟨l, c, (hD l c).2 (.inl h1), h2⟩
      · exact .inr ⟨l0, c0, (hD l0 c0).2 (.inr ⟨rfl, rfl⟩), h⟩
    · rintro (h | ⟨l, c, h1, h2⟩)
      · exact .inl (.inl h)
      · rcases (hD l c).1 h1 with h1 | ⟨rfl, rfl⟩
        · exact .inl (.inr ⟨l, c, h1, h2⟩)
        · exact .inr h2⟩
  sums := ⟨Z2, hq, fun z hz => by
    rw [hZ2 z hz, hZ' z hz]
    constructor
    · rintro ((h | ⟨l, c, h1, h2⟩) | h)
      · exact .inl h
      · exact .inr ⟨l, c, (hD l c).2 (.inl h1), h2⟩
      · exact .inr ⟨l0, c0, (hD l0 c0).2 (.inr ⟨rfl, rfl⟩), h⟩
    · rintro (h | ⟨l, c, h1, h2⟩)
      · exact .inl (.inl h)
      · rcases (hD l c).1 h1 with h1 | ⟨rfl, rfl⟩
        · exact .inl (.inr ⟨l, c, h1, h2⟩)
        · exact .inr h2⟩
  fnd := by
    rw [Bool.or_eq_true, decide_eq_true_iff, hx]
    constructor
    · rintro (⟨l, c, h1, h2⟩ | h)
      · exact ⟨l, c, (hD l c).2 (.inl h1), h2⟩
      · exact ⟨l0, c0, (hD l0 c0).2 (.inr ⟨rfl, rfl⟩), h⟩
    · rintro ⟨l, c, h1, h2⟩
      rcases (hD l c).1 h1 with h1 | ⟨rfl, rfl⟩
      · exact .inl ⟨l, c, h1, h2⟩
      · exact .inr h2

theorem tail70 {f : RG} (hg : g < t.gates.toNat) (hbl : bs.length = t.gates.toNat) (R : R70 f p1 g n s a b vs q) (r17 : f.r 17 = .bool x) (hgt : 1 ≤ t.gates ∧ t.gates ≤ 5) (hq : q ∉ bs) (hoq : ∀ i, o = some i → i ≠ q) (hp1 : p1 ∉ q :: bs) (G : BGrid 120 H vs bs o P) (cq : H[q]? = some (.cells (bRow 60 Z) true 0)) (c1 : H[p1]? = some (.cells (talCells t cv nv) true 0))
    (hn : x = true → 0 ≤ n ∧ n < 120) (hs : 0 ≤ s ∧ s < 60)
    (hK : ∀ H', SameX (q :: bs) H H' → BGrid 120 H' vs bs o (fun i j => P i j || (x && decide (i = g ∧ (j : Int) = n))) → H'[q]? = some (.cells (bRow 60 (fun z => Z z || (x && decide ((g : Int) = t.gates - 1 ∧ (z : Int) = s)))) true 0) → K (.bool x) H') :
    cnd (f.r 17)
      (aIdx 1 (f.r 6) (f.r 1) fun v6 => aLoad false 1 v6 H fun v7 => aIdx 1 v7 (f.r 2) fun v8 => aStore 1 v8 (Value.bool true) H fun h9 => aOff (f.r 8) 0 fun v10 => aLoad false 1 v10 h9 fun v11 => aBin prog .sub 3 v11 (vint 1) fun v12 => aBin prog .eql 3 (f.r 1) v12 fun v13 =>
        cnd v13 (aIdx 1 (f.r 7) (f.r 3) fun v14 => aStore 1 v14 (Value.bool true) h9 fun h15 => retL n0 K f.ds [(f.r 17)] h15) (retL n0 K f.ds [(f.r 17)] h9))
      (retL n0 K f.ds [(f.r 17)] H) := by
  rw [R.r1, R.r2, R.r3, R.r6, R.r7, R.r8, R.ds, r17]
  cases x with
  | false =>
    refine cnd_false.2 (retL_same (by simp [unk]) (hK H SameX.refl (G.congr fun i j _ _ => by simp) ?_))
    rw [cq]
    congr 2
    exact bRow_congr fun z _ => by simp
  | true =>
    have hnn := hn rfl
    refine cnd_true.2 ?_
    rw [show n = ((n.toNat : Nat) : Int) from by omega]
    refine G.write (j := g) (n := n.toNat) (x := true) (by omega) (by omega) fun _ _ H2 S2 G2 => ?_
    have S2' : SameX (q :: bs) H H2 := S2.weak fun y hy => by simp at hy; subst hy; exact List.mem_cons_of_mem _ (List.getElem_mem (by omega))
    have c2 := S2'.get c1 hp1
    have cq2 : H2[q]? = some (.cells (bRow 60 Z) true 0) := S2.get cq (by simp; intro e; exact hq (e ▸ List.getElem_mem (by omega)))
    have G3 : BGrid 120 H2 vs bs o (fun i j => P i j || (true && decide (i = g ∧ (j : Int) = n))) := G2.congr fun i j _ _ => by
      by_cases e : i = g ∧ j = n.toNat
      · rw [if_pos e, decide_eq_true (show i = g ∧ (j : Int) = n from ⟨e.1, by omega⟩)]
        simp
      · rw [if_neg e, decide_eq_false (fun h => e ⟨h.1, by omega⟩)]
        simp
    refine offI (ldI (v := vint t.gates) c2 rfl rfl (subI (by omega) (eqlI (cndI (fun he => ?_) fun he => ?_))))
    · refine idxI ⟨by omega, by omega⟩ ?_
      rw [Nat.zero_add, Nat.mul_one]
      refine qSt cq2 (by rw [bRow_len]; omega) rfl rfl fun H3 S3 c3 l3 => retL_same (by simp [unk]) (hK H3 (S2'.trans (S3.weak (by simp))) (G3.same S3 (fun y hy => by simp; intro e; exact hq (e ▸ hy)) fun i hi => by simp; exact hoq i hi) ?_)
      rw [c3, bRow_set]
      congr 2
      refine bRow_congr fun z _ => ?_
      by_cases e : z = s.toNat
      · rw [if_pos e, decide_eq_true (show (g : Int) = t.gates - 1 ∧ (z : Int) = s from ⟨he, by omega⟩)]
        simp
      · rw [if_neg e, decide_eq_false (fun h => e (by omega))]
        simp
    · refine retL_same (by simp [unk]) (hK H2 S2' G3 ?_)
      rw [cq2]
      congr 2
      refine bRow_congr fun z _ => ?_
      rw [decide_eq_false (fun h => he h.1)]
      simp

theorem head70 (hJ : Closed prog main J) (ht : TalAt H (.agg ⟨talCells t cv nv⟩) t cv nv) (fine : TalFine t) (hbl : bs.length = t.gates.toNat) (hn : -1000 ≤ n ∧ n ≤ 1000) (G : BGrid 120 H vs bs o P)
    (hstop : ¬ OkN t g n → ∀ H1, SameX [] H H1 → K (.bool false) H1)
    (hgo : OkN t g n → heapOk H → ∀ H1 p1 F, p1 = H.length → SameX [] H H1 → H1[p1]? = some (.cells (talCells t cv nv) true 0) → R70 F p1 g n s a b vs q → F.r 17 = .bool (decide ((g : Int) = t.gates - 1)) → F.r 18 = vint 0 →
      Sem J 114 H.length 70 (subC [1, 1, 1, 0, 1, 0] (codeOf f70)) F H1 (contX pl70 prog J 114 H.length 70 ct70 [1, 1, 1, 0, 1, 0] (codeOf f70) [] (RetQ prog [.tmp 16] H.length K))) :
    Good prog J 70 [.agg ⟨talCells t cv nv⟩, vint (g : Nat), vint n, vint s, vint a, vint b, vs, bRowV 60 q] H K := by
  refine g70 hJ fun ok => ?_
  rw [e70]
  have hgt := fine.gates
  have kc : kn1 cv = true ∧ kn1 nv = true := ⟨(sli_one ht.ch).2.2, (sli_one ht.co).2.2⟩
  refine qBox (tal_one ht) fun H1 p1 e1 S1 c1 l1 => ?_
  have ta := talAt_same ht S1 (by simp)
  have G1 := G.same S1 (by simp) (by simp)
  have stop : ¬ OkN t g n → retL H.length K [] [.bool false] H1 := fun h => retL_same (by simp [unk]) (hstop h H1 S1)
  refine lssI (cndI (fun hneg => hold.2 ?_) fun hpos => ?_)
  · rw [s70_1]
    exact cnd_true.2 (stop fun h => by have := h.1; omega)
  show aIdx 1 vs (vint ((0 : Nat) : Int)) _
  refine G1.row (by omega) fun _ => lenI (bRow_sli (G1.rows 0 (by omega))) (geqI (cndI (fun hge => hold.2 ?_) fun hlt => ?_))
  · rw [s70_1]
    exact cnd_true.2 (stop fun h => by have := h.1; omega)
  refine load_part (c := talCells t cv nv) c1 (by rw [cs_val]; omega) rfl (talAt_kc ta) (good94 (g := (g : Int)) hJ ta fine.cosm (by omega) (notI (hold.2 ?_)))
  rw [s70_1]
  refine cndN (fun hno => stop fun h => hno h.2) fun hall => ?_
  refine offI (ldI (v := vint t.gates) c1 rfl rfl (subI (by omega) (eqlI ?_)))
  exact hgo ⟨by omega, hall⟩ ok H1 p1 _ e1 S1 c1 ⟨rfl, rfl, rfl, rfl, rfl, rfl, rfl, rfl, rfl⟩ rfl rfl
end
end
end Go.Proofs.Ytdgpacdknpahnaa

namespace Go.Proofs.Ytdgpacdknpahnaa
open Go.Conc Go.Proofs.Try
set_option maxRecDepth 100000
section
variable {main : Bool} {J : JT} {h h0 H H0 : List AObj} {K : Value → List AObj → Prop} {n0 : Nat}
variable {t : Tal} {a b : Nat} {vs : Value} {bs : List Nat} {o : Option Nat} {q : Nat} {cv nv : Value}
def DoneW (t : Tal) (g : Nat) (l0 c0 : Int) (l c : Int) : Prop := (0 ≤ l ∧ l ≤ t.most) ∧ (chgR t g).has c ∧ (l < l0 ∨ (l = l0 ∧ c < c0))

theorem not_mk {d g : Nat} {n : Int} (h : ¬ OkN t g n) {i : Nat} {j : Int} : ¬ Mk t d g n i j := fun x => h x.ok
theorem not_zm {d g : Nat} {n s z : Int} (h : ¬ OkN t g n) : ¬ Zm t a b d g n s z := fun x => h x.ok
theorem not_fin {d g : Nat} {n : Int} (h : ¬ OkN t g n) : ¬ Fin' t d g n := fun x => h x.ok

theorem good70 (hJ : Closed prog main J) (ht : TalAt h0 (.agg ⟨talCells t cv nv⟩) t cv nv) (fine : TalFine t) (hmo : t.most ≤ 4) (hbl : bs.length = t.gates.toNat) (hnew : ∀ y ∈ q :: bs, h0.length ≤ y) (hq : q ∉ bs) (hoq : ∀ i, o = some i → i ≠ q) :
    ∀ (d g : Nat) {n s : Int} {P : Nat → Nat → Bool} {Z : Nat → Bool} {H : List AObj} {K : Value → List AObj → Prop}, g + d + 1 = t.gates.toNat → (-1000 ≤ n ∧ n ≤ 1000) → (0 ≤ s ∧ s + 4 * (d : Int) < 60) → SameX [] h0 H → BGrid 120 H vs bs o P → H[q]? = some (.cells (bRow 60 Z) true 0) →
      (∀ H' P' Z', SameX (q :: bs) H H' → BGrid 120 H' vs bs o P' → H'[q]? = some (.cells (bRow 60 Z') true 0) → (∀ i j : Nat, j < 120 → (P' i j = true ↔ P i j = true ∨ Mk t d g n i j)) → (∀ z : Nat, z < 60 → (Z' z = true ↔ Z z = true ∨ Zm t a b d g n s z)) → K (.bool (decide (Fin' t d g n))) H') →
      Good prog J 70 [.agg ⟨talCells t cv nv⟩, vint (g : Nat), vint n, vint s, vint (a : Nat), vint (b : Nat), vs, bRowV 60 q] H K := by
  have hgt := fine.gates
  have hchl := fine.chl
  have hm0 := fine.most
  intro d
  induction d with
  | zero =>
    intro g n s P Z H K hg hn hs S0 G cq hK
    have ta := talAt_same ht S0 (by simp)
    have hqH := lt_of_get cq
    refine head70 hJ ta fine hbl hn G (fun hno H1 S1 => ?_) fun hok ok H1 p1 F e1 S1 c1 R r17 r18 => ?_
    · have := hK H1 P Z S1.weak0 (G.same S1 (by simp) (by simp)) (S1.get cq (by simp)) (fun i j _ => ⟨.inl, fun h => h.elim id fun h => absurd h (not_mk hno)⟩) fun z _ => ⟨.inl, fun h => h.elim id fun h => absurd h (not_zm hno)⟩
      rw [decide_eq_false (not_fin hno)] at this
      exact this
    refine l70_2 hJ (fun _ : Unit => 0) (fun _ f H' => H' = H1 ∧ R70 f p1 g n s a b vs q ∧ f.r 17 = .bool (decide ((g : Int) = t.gates - 1)) ∧ f.r 18 = vint 0) ?_ (s := ()) (.inl ⟨rfl, R, r17, r18⟩)
    rintro _ f H' ⟨rfl, R, r17, r18⟩ okc hnc
    rw [s70_2, R.r8, R.r1, r18]
    refine offI (ldI (v := vint t.most) c1 rfl rfl (leqI (cndI (fun _ => offI (ldI (v := vint t.gates) c1 rfl rfl (subI (by omega) (lssI (hold.2 ?_))))) fun hx => absurd hm0.1 hx)))
    rw [s70_3]
    refine cndI (fun hx => absurd hx (by omega)) fun _ => ?_
    have eg : (g : Int) = t.gates - 1 := by omega
    have G1 := G.same S1 (by simp) (by simp)
    refine tail70 (x := true) (p1 := p1) (t := t) (by omega) hbl ⟨R.ds, R.r1, R.r2, R.r3, R.r4, R.r5, R.r6, R.r7, R.r8⟩ (by show f.r 17 = _; rw [r17, decide_eq_true eg]) hgt hq hoq ?_ G1 (S1.get cq (by simp)) c1 (fun _ => hok.1) (by omega) fun H2 S2 G2 c2 => ?_
    · intro hm
      rcases List.mem_cons.1 hm with h | h
      · omega
      · have := G.lt _ h
        omega
    have := hK H2 _ _ ((S1.weak0).trans S2) G2 c2 (fun i j _ => ?_) fun z _ => ?_
    · rw [decide_eq_true (show Fin' t 0 g n from hok)] at this
      exact this
    · rw [Bool.or_eq_true, Bool.true_and, decide_eq_true_iff]
      exact or_congr_right ⟨fun h => ⟨hok, h.1, h.2⟩, fun h => ⟨h.2.1, h.2.2⟩⟩
    · rw [Bool.or_eq_true, Bool.true_and, decide_eq_true_iff]
      exact or_congr_right ⟨fun h => ⟨hok, h.2⟩, fun h => ⟨eg, h.2⟩⟩
  | succ d ih =>
    intro g n s P Z H K hg hn hs S0 G cq hK
    have ta := talAt_same ht S0 (by simp)
    have hqH := lt_of_get cq
    have hgl : g < t.changes.length := by omega
    have hch := fine.ch _ (List.getElem_mem hgl)
    have ech : chgR t g = t.changes[g] := by
      unfold chgR
      rw [List.getElem?_eq_getElem hgl]
      rfl
    refine head70 hJ ta fine hbl hn G (fun hno H1 S1 => ?_) fun hok ok H1 p1 F e1 S1 c1 R r17 r18 => ?_
    · have := hK H1 P Z S1.weak0 (G.same S1 (by simp) (by simp)) (S1.get cq (by simp)) (fun i j _ => ⟨.inl, fun h => h.elim id fun h => absurd h (not_mk hno)⟩) fun z _ => ⟨.inl, fun h => h.elim id fun h => absurd h (not_zm hno)⟩
      rw [decide_eq_false (not_fin hno)] at this
      exact this
    have hp1 : p1 ∉ q :: bs := fun hm => by
      rcases List.mem_cons.1 hm with h | h
      · omega
      · have := G.lt _ h
        omega
    have G1 := G.same S1 (by simp) (by simp)
    have cq1 := S1.get cq (by simp)
    have hn0 := hok.1
    have T0 : ∀ {H'}, SameX (q :: bs) H1 H' → SameX [] h0 H' := fun S => (S0.trans S1).thru S fun y hy => .inr (hnew y hy)
    refine l70_2 hJ (fun l : Nat => (t.most + 1 - l).toNat) (fun l f H' => ∃ x, Wk t a b d g n s H1 H' vs bs o q P Z (DoneW t g l (chgR t g).lo) x ∧ (l : Int) ≤ t.most + 1 ∧ R70 f p1 g n s a b vs q ∧ f.r 17 = .bool x ∧ f.r 18 = vint (l : Nat)) ?_ (s := 0)
      (.inl ⟨false, ⟨SameX.refl, ⟨P, G1, fun i j _ => ⟨.inl, fun h => h.elim id fun ⟨l, c, ⟨h1, h2, h3⟩, _⟩ => absurd h2 (by unfold Rng.has; omega)⟩⟩, ⟨Z, cq1, fun z _ => ⟨.inl, fun h => h.elim id fun ⟨l, c, ⟨h1, h2, h3⟩, _⟩ => absurd h2 (by unfold Rng.has; omega)⟩⟩, ⟨fun h => absurd h (by decide), fun ⟨l, c, ⟨h1, h2, h3⟩, _⟩ => absurd h2 (by unfold Rng.has; omega)⟩⟩, by omega, R, by rw [r17, decide_eq_false (by omega)], r18⟩)
    rintro l f H' ⟨x, w, hl, R, r17, r18⟩ okc hnc
    have c1' := w.S.get c1 hp1
    rw [s70_2, R.r8, R.r1, r18]
    refine offI (ldI (v := vint t.most) c1' rfl rfl (leqI (cndI (fun hle => offI (ldI (v := vint t.gates) c1' rfl rfl (subI (by omega) (lssI (hold.2 ?_))))) fun hgtl => hold.2 ?_)))
    rotate_left
    · -- all losses have been tried
      rw [s70_3]
      refine cnd_false.2 ?_
      obtain ⟨P', GP, hP⟩ := w.seen
      obtain ⟨Z', cZ, hZ⟩ := w.sums
      have hD : ∀ l' c, DoneW t g l (chgR t g).lo l' c ↔ (0 ≤ l' ∧ l' ≤ t.most) ∧ (chgR t g).has c := fun l' c => by
        unfold DoneW
        refine ⟨fun h => ⟨h.1, h.2.1⟩, fun h => ⟨h.1, h.2, .inl (by omega)⟩⟩
      have hx := w.fnd
      refine tail70 (x := x) (p1 := p1) (t := t) (by omega) hbl ⟨R.ds, R.r1, R.r2, R.r3, R.r4, R.r5, R.r6, R.r7, R.r8⟩ r17 hgt hq hoq hp1 GP cZ c1' (fun _ => hn0) (by omega) fun H2 S2 G2 c2 => ?_
      have e : decide (Fin' t (d + 1) g n) = x := by
        rw [← Bool.coe_iff_coe, decide_eq_true_iff, hx]
        exact ⟨fun ⟨_, l', c, h1, h2, h3⟩ => ⟨l', c, (hD l' c).2 ⟨h1, h2⟩, h3⟩, fun ⟨l', c, h1, h3⟩ => ⟨hok, l', c, ((hD l' c).1 h1).1, ((hD l' c).1 h1).2, h3⟩⟩
      have := hK H2 _ _ (((S1.weak0).trans w.S).trans S2) G2 c2 (fun i j hj => ?_) fun z hz => ?_
      · rw [e] at this
        exact this
      · rw [Bool.or_eq_true, Bool.and_eq_true, decide_eq_true_iff, hP i j hj, hx]
        constructor
        · rintro ((h | ⟨l', c, h1, h2⟩) | ⟨⟨l', c, h1, h2⟩, h3, h4⟩)
          · exact .inl h
          · exact .inr ⟨hok, l', c, ((hD l' c).1 h1).1, ((hD l' c).1 h1).2, .inl h2⟩
          · exact .inr ⟨hok, l', c, ((hD l' c).1 h1).1, ((hD l' c).1 h1).2, .inr ⟨h3, h4, h2⟩⟩
        · rintro (h | ⟨_, l', c, h1, h2, h3 | ⟨h4, h5, h6⟩⟩)
          · exact .inl (.inl h)
          · exact .inl (.inr ⟨l', c, (hD l' c).2 ⟨h1, h2⟩, h3⟩)
          · exact .inr ⟨⟨l', c, (hD l' c).2 ⟨h1, h2⟩, h6⟩, h4, h5⟩
      · rw [decide_eq_false (fun h => absurd h.1 (by omega)), Bool.and_false, Bool.or_false, hZ z hz]
        refine or_congr_right ⟨fun ⟨l', c, h1, h2⟩ => ⟨hok, l', c, ((hD l' c).1 h1).1, ((hD l' c).1 h1).2, ?_⟩, fun ⟨_, l', c, h1, h2, h3⟩ => ⟨l', c, (hD l' c).2 ⟨h1, h2⟩, ?_⟩⟩
        · exact h2
        · exact h3
    -- the changes are tried
    rw [s70_3]
    have ta' := talAt_same ht (T0 w.S) (by simp)
    have kc : kn1 cv = true ∧ kn1 nv = true := ⟨(sli_one ta'.ch).2.2, (sli_one ta'.co).2.2⟩
    obtain ⟨b2, o2, cs2, w2, z2, hx2, hb2, hle2, hp2, hk2⟩ := sliE_elem rng_len (by omega) ta'.ch hgl
    refine cndI (fun _ => ?_) fun hx => absurd (show (g : Int) < t.gates - 1 by omega) hx
    show aOff (f.r 8) 3 _
    rw [R.r8]
    refine offI (ldI (v := cv) c1' rfl kc.1 ?_)
    show aIdx 2 cv (f.r 1) _
    rw [R.r1]
    refine hx2 _ (offI (ldI hb2 (part_get (j := 0) hp2 rfl) rfl ?_))
    refine l70_4 hJ (fun c : Int => (t.changes[g].hi + 1 - c).toNat) (fun c f H' => ∃ x, Wk t a b d g n s H1 H' vs bs o q P Z (DoneW t g l c) x ∧ (t.changes[g].lo ≤ c ∧ c ≤ t.changes[g].hi + 1) ∧ R70 f p1 g n s a b vs q ∧ f.r 17 = .bool x ∧ f.r 18 = vint (l : Nat) ∧ f.r 19 = vint c) ?_ (s := t.changes[g].lo)
      (.inl ⟨x, by rw [← ech]; exact w, by omega, ⟨R.ds, R.r1, R.r2, R.r3, R.r4, R.r5, R.r6, R.r7, R.r8⟩, r17, r18, rfl⟩)
    clear w R r17 r18 okc hnc c1' ta' hx2 hb2 hle2 hp2 hk2
    rintro c f H' ⟨x, w, hc, R, r17, r18, r19⟩ okc hnc
    have c1' := w.S.get c1 hp1
    have ta' := talAt_same ht (T0 w.S) (by simp)
    obtain ⟨b2, o2, cs2, w2, z2, hx2, hb2, hle2, hp2, hk2⟩ := sliE_elem rng_len (by omega) ta'.ch hgl
    rw [s70_4, R.r8, R.r1, R.r4, R.r5, r18, r19]
    refine offI (ldI (v := cv) c1' rfl kc.1 (hx2 _ (offI (ldI hb2 (part_get (j := 1) hp2 rfl) rfl (leqI (cndI (fun hle2 => ?_) fun hgt2 => ?_))))))
    rotate_left
    · refine addI (by omega) ⟨l + 1, by dsimp only; omega, .inl ⟨x, w.congr fun l' c' => ?_, by omega, ⟨R.ds, R.r1, R.r2, R.r3, R.r4, R.r5, R.r6, R.r7, R.r8⟩, r17, by show vint _ = vint _; congr 1⟩⟩
      unfold DoneW Rng.has
      rw [ech]
      refine and_congr_right fun h1 => and_congr_right fun h2 => ?_
      omega
    -- the call
    have step : ∀ Fz : RG, R70 Fz p1 g n s a b vs q → Fz.r 17 = .bool x → Fz.r 18 = vint (l : Nat) → Fz.r 19 = vint c → Fz.r 20 = vint (if a ≤ g ∧ g < b then s + l else s) →
        W prog J 114 H.length 70 (subC [1, 1, 1, 0, 1, 0, 0, 1, 0, 0, 1, 0, 0, 1, 0, 0, 1, 1] (codeOf f70)) Fz H' (contX pl70 prog J 114 H.length 70 ct70 [1, 1, 1, 0, 1, 0, 0, 1, 0, 0, 1, 0, 0, 1, 0, 0, 1, 1] (codeOf f70)
          [Nx H.length (fun l : Nat => (t.most + 1 - l).toNat) (fun l f H' => ∃ x, Wk t a b d g n s H1 H' vs bs o q P Z (DoneW t g l (chgR t g).lo) x ∧ (l : Int) ≤ t.most + 1 ∧ R70 f p1 g n s a b vs q ∧ f.r 17 = .bool x ∧ f.r 18 = vint (l : Nat)) l,
           Nx H.length (fun c : Int => (t.changes[g].hi + 1 - c).toNat) (fun c f H' => ∃ x, Wk t a b d g n s H1 H' vs bs o q P Z (DoneW t g l c) x ∧ (t.changes[g].lo ≤ c ∧ c ≤ t.changes[g].hi + 1) ∧ R70 f p1 g n s a b vs q ∧ f.r 17 = .bool x ∧ f.r 18 = vint (l : Nat) ∧ f.r 19 = vint c) c] (RetQ prog [.tmp 16] H.length K)) := by
      intro Fz Rz z17 z18 z19 z20
      rw [s70_6, Rz.r8, Rz.r1, Rz.r2, Rz.r4, Rz.r5, Rz.r6, Rz.r7, z18, z19, z20]
      refine load_part (c := talCells t cv nv) c1' (by rw [cs_val]; omega) rfl (talAt_kc ta') (addI (by omega) (addI (by omega) (subI (by omega) ?_)))
      obtain ⟨P', GP, hP⟩ := w.seen
      obtain ⟨Z', cZ, hZ⟩ := w.sums
      rw [show ((g : Nat) : Int) + 1 = ((g + 1 : Nat) : Int) from by omega]
      have hs2 : 0 ≤ (if a ≤ g ∧ g < b then s + (l : Int) else s) ∧ (if a ≤ g ∧ g < b then s + (l : Int) else s) + 4 * (d : Int) < 60 := by
        split <;> omega
      refine ih (g + 1) (by omega) (by omega) hs2 (T0 w.S) GP cZ fun H2 P2 Z2 S2 G2 c2 hP2 hZ2 => ?_
      have w2 := Wk.more (D' := DoneW t g l (c + 1)) w.S hP hZ w.fnd S2 G2 c2 hP2 hZ2 fun l' c' => by
        unfold DoneW Rng.has
        rw [ech]
        constructor
        · rintro ⟨h1, h2, h3⟩
          by_cases e : l' = l ∧ c' = c
          · exact .inr e
          · exact .inl ⟨h1, h2, by omega⟩
        · rintro (⟨h1, h2, h3⟩ | ⟨rfl, rfl⟩)
          · exact ⟨h1, h2, by omega⟩
          · exact ⟨⟨by omega, by omega⟩, by omega, by omega⟩
      refine cndI (fun hf => addI (by omega) ⟨c + 1, by dsimp only; omega, .inl ⟨true, ?_, by omega, ⟨Rz.ds, Rz.r1, Rz.r2, Rz.r3, Rz.r4, Rz.r5, Rz.r6, Rz.r7, Rz.r8⟩, rfl, z18, rfl⟩⟩) fun hf => addI (by omega) ⟨c + 1, by dsimp only; omega, .inl ⟨x, ?_, by omega, ⟨Rz.ds, Rz.r1, Rz.r2, Rz.r3, Rz.r4, Rz.r5, Rz.r6, Rz.r7, Rz.r8⟩, z17, z18, rfl⟩⟩
      · rw [decide_eq_true hf, Bool.or_true] at w2
        exact w2
      · rw [decide_eq_false hf, Bool.or_false] at w2
        exact w2
    refine geqI (cndI (fun ha => lssI (hold.2 ?_)) fun ha => hold.2 ?_)
    · rw [s70_5]
      refine cndI (fun hb => ?_) fun hb => hold.2 (step _ ⟨R.ds, R.r1, R.r2, R.r3, R.r4, R.r5, R.r6, R.r7, R.r8⟩ r17 r18 r19 ?_)
      · show aBin prog .add 3 (f.r 3) (f.r 18) _
        rw [R.r3, r18]
        refine addI (by omega) (hold.2 (step _ ⟨R.ds, R.r1, R.r2, R.r3, R.r4, R.r5, R.r6, R.r7, R.r8⟩ r17 r18 r19 ?_))
        show vint _ = vint _
        rw [if_pos ⟨by omega, by omega⟩]
      · show f.r 3 = _
        rw [R.r3, if_neg (by omega)]
    · rw [s70_5]
      refine cnd_false.2 (hold.2 (step _ ⟨R.ds, R.r1, R.r2, R.r3, R.r4, R.r5, R.r6, R.r7, R.r8⟩ r17 r18 r19 ?_))
      show f.r 3 = _
      rw [R.r3, if_neg (by omega)]

noncomputable instance (t : Tal) : Decidable (∃ n, t.first.has n ∧ Fin' t (t.gates.toNat - 1) 0 n) := Classical.propDecidable _

theorem good29 (hJ : Closed prog main J) {v : Value} (ht : TalAt h v t cv nv) (fine : TalFine t) (hmo : t.most ≤ 4)
    (hK : ∀ H' vs bs o q P Z, SameX [] h H' → BGrid 120 H' vs bs o P → bs.length = t.gates.toNat → H'[q]? = some (.cells (bRow 60 Z) true 0) → (∀ i j : Nat, j < 120 → (P i j = true ↔ ∃ n, t.first.has n ∧ Mk t (t.gates.toNat - 1) 0 n i j)) →
      (∀ z : Nat, z < 60 → (Z z = true ↔ ∃ n, t.first.has n ∧ Zm t a b (t.gates.toNat - 1) 0 n 0 z)) → K (.tuple ⟨[vs, bRowV 60 q, .bool (decide (∃ n, t.first.has n ∧ Fin' t (t.gates.toNat - 1) 0 n))]⟩) H') :
    Good prog J 29 [v, vint (a : Nat), vint (b : Nat)] h K := by
  refine g29 hJ fun ok => ?_
  rw [e29, ht.val]
  have hgt := fine.gates
  have hfi := fine.first
  refine qBox (tal_one ht) fun H1 p3 e1 S1 c1 l1 => ?_
  have t1 : TalAt H1 (.agg ⟨talCells t cv nv⟩) t cv nv := ⟨rfl, S1.sli ht.ch (by simp), S1.sli ht.co (by simp)⟩
  refine l29_1 hJ (fun g : Nat => 5 - g) (fun g f H => ∃ vs bs o, SameX [] H1 H ∧ BGrid 120 H vs bs o (fun _ _ => false) ∧ (∀ y ∈ bs, H1.length ≤ y) ∧ bs.length = g ∧ (g : Int) ≤ t.gates ∧ f.ds = [] ∧ f.r 1 = vint (a : Nat) ∧ f.r 2 = vint (b : Nat) ∧ f.r 3 = ptr p3 0 ∧ f.r 9 = vs ∧ f.r 10 = vint (g : Nat) ∧ (∀ i, o = some i → H1.length ≤ i)) ?_ (s := 0)
    (.inl ⟨.slice none 0 0, [], none, SameX.refl, ⟨ownX_nil, by simp, by simp, by simp⟩, by simp, rfl, by omega, rfl, rfl, rfl, rfl, rfl, rfl, by simp⟩)
  rintro g f H ⟨vs, bs, o, S, G, hnew, hbl, hg, hds, r1, r2, r3, r9, r10, hon⟩ okc hnc
  have c1' := S.get c1 (by simp)
  have hH1 := S.1
  rw [s29_1, r3, r9, r10]
  refine offI (ldI (v := vint t.gates) c1' rfl rfl (lssI (cndI (fun hlt => ⟨by decide, ?_⟩) fun hge => ⟨by decide, ?_⟩)))
  · show aMkS [.bool false] (vint ((120 : Nat) : Int)) (vint ((120 : Nat) : Int)) H _
    refine qMk (by omega) fun H2 pr e2 S2 c2 l2 => ?_
    rw [bRow_zero] at c2
    refine ⟨by decide, fill1 rfl rfl (by decide) (fillI (qNew fun H3 p4 e3 S3 c3 l3 => ⟨by decide, ?_⟩))⟩
    have hol := ownX_lt G.own
    have hbt := G.lt
    have G3 := (G.same S2 (by simp) (by simp)).same S3 (by simp) (by simp)
    refine G3.more (pr := pr) (S3.get c2 (by simp)) (fun hm => by have := hbt pr hm; omega) (fun i hi => by have := hol i hi; omega) (by omega) (ownX_sli (ownX_new (n := 1) c3 rfl rfl)) fun v' H4 p e4 S4 G4 => addI (by omega) ?_
    have := S2.1
    have := S3.1
    refine ⟨g + 1, by dsimp only; omega, .inl ⟨v', bs ++ [pr], some p, ((S.trans S2).trans S3).thru S4 (fun y hy => ?_), G4, fun y hy => ?_, by simp [hbl], by omega, hds, r1, r2, r3, rfl, rfl, fun i hi => by cases hi; omega⟩⟩
    · right
      simp at hy
      exact hon y hy
    · rcases List.mem_append.1 hy with hy | hy
      · exact hnew y hy
      · simp at hy
        omega
  · have hgG : g = t.gates.toNat := by omega
    show aMkS [.bool false] (vint ((60 : Nat) : Int)) (vint ((60 : Nat) : Int)) H _
    refine qMk (by omega) fun H2 q e2 S2 c2 l2 => ?_
    rw [bRow_zero] at c2
    have c3 := S2.get c1' (by simp)
    have hbt := G.lt
    have hol := ownX_lt G.own
    have S12 := S.trans S2
    have hq : q ∉ bs := fun hm => by have := hbt q hm; omega
    have hoq : ∀ i, o = some i → i ≠ q := fun i hi => by have := hol i hi; omega
    have hnew2 : ∀ y ∈ q :: bs, H1.length ≤ y := fun y hy => by
      rcases List.mem_cons.1 hy with rfl | hy
      · omega
      · exact hnew y hy
    have hp3 : p3 ∉ q :: bs := fun hm => by
      have := hnew2 p3 hm
      have := lt_of_get c1
      omega
    refine offI (offI (ldI (v := vint t.first.lo) c3 rfl rfl ?_))
    refine l29_2 hJ (fun n : Int => (t.first.hi + 1 - n).toNat) (fun n f H' => ∃ P Z, (t.first.lo ≤ n ∧ n ≤ t.first.hi + 1) ∧ SameX (q :: bs) H2 H' ∧ BGrid 120 H' vs bs o P ∧ H'[q]? = some (.cells (bRow 60 Z) true 0) ∧ (∀ i j : Nat, j < 120 → (P i j = true ↔ ∃ m, (t.first.has m ∧ m < n) ∧ Mk t (t.gates.toNat - 1) 0 m i j)) ∧
      (∀ z : Nat, z < 60 → (Z z = true ↔ ∃ m, (t.first.has m ∧ m < n) ∧ Zm t a b (t.gates.toNat - 1) 0 m 0 z)) ∧ f.ds = [] ∧ f.r 1 = vint (a : Nat) ∧ f.r 2 = vint (b : Nat) ∧ f.r 3 = ptr p3 0 ∧ f.r 9 = vs ∧ f.r 11 = bRowV 60 q ∧ f.r 13 = vint n ∧ ∃ x, f.r 12 = .bool x ∧ (x = true ↔ ∃ m, (t.first.has m ∧ m < n) ∧ Fin' t (t.gates.toNat - 1) 0 m)) ?_ (s := t.first.lo)
      (.inl ⟨fun _ _ => false, fun _ => false, by omega, SameX.refl, G.same S2 (by simp) (by simp), c2, fun i j _ => ⟨fun h => Bool.noConfusion h, fun ⟨m, ⟨h1, h2⟩, _⟩ => absurd h1.1 (by omega)⟩, fun z _ => ⟨fun h => Bool.noConfusion h, fun ⟨m, ⟨h1, h2⟩, _⟩ => absurd h1.1 (by omega)⟩, hds, r1, r2, r3, r9, rfl, rfl, false, rfl, fun h => absurd h (by decide), fun ⟨m, ⟨h1, h2⟩, _⟩ => absurd h1.1 (by omega)⟩)
    clear hds r1 r2 r3 r9 r10 okc hnc
    rintro n f H' ⟨P, Z, hn, S3, GP, cq, hP, hZ, hds, r1, r2, r3, r9, r11, r13, x, r12, hx⟩ okc hnc
    have c4 := S3.get c3 hp3
    have T3 : SameX [] H1 H' := S12.thru S3 fun y hy => .inr (hnew2 y hy)
    have ta' := talAt_same t1 T3 (by simp)
    rw [s29_2, r1, r2, r3, r9, r11, r12, r13, hds]
    refine offI (offI (ldI (v := vint t.first.hi) c4 rfl rfl (leqI (cndI (fun hle => ?_) fun hgt2 => ?_))))
    · refine load_part (c := talCells t cv nv) c4 (by rw [cs_val]; omega) rfl (talAt_kc ta') ?_
      show Good prog J 70 [_, vint ((0 : Nat) : Int), _, _, _, _, _, _] H' _
      refine good70 hJ t1 fine hmo (by omega) hnew2 hq hoq (t.gates.toNat - 1) 0 (by omega) (by omega) (by omega) T3 GP cq fun H5 P5 Z5 S5 G5 c5 hP5 hZ5 => ?_
      have hsplit : ∀ m, (t.first.has m ∧ m < n + 1) ↔ (t.first.has m ∧ m < n) ∨ m = n := fun m => by
        unfold Rng.has
        omega
      have hP6 : ∀ i j : Nat, j < 120 → (P5 i j = true ↔ ∃ m, (t.first.has m ∧ m < n + 1) ∧ Mk t (t.gates.toNat - 1) 0 m i j) := fun i j hj => by
        rw [hP5 i j hj, hP i j hj]
        constructor
        · rintro (⟨m, h1, h2⟩ | h)
          · exact ⟨m, (hsplit m).2 (.inl h1), h2⟩
          · exact ⟨n, (hsplit n).2 (.inr rfl), h⟩
        · rintro ⟨m, h1, h2⟩
          rcases (hsplit m).1 h1 with h1 | rfl
          · exact .inl ⟨m, h1, h2⟩
          · exact .inr h2
      have hZ6 : ∀ z : Nat, z < 60 → (Z5 z = true ↔ ∃ m, (t.first.has m ∧ m < n + 1) ∧ Zm t a b (t.gates.toNat - 1) 0 m 0 z) := fun z hz => by
        rw [hZ5 z hz, hZ z hz]
        constructor
        · rintro (⟨m, h1, h2⟩ | h)
          · exact ⟨m, (hsplit m).2 (.inl h1), h2⟩
          · exact ⟨n, (hsplit n).2 (.inr rfl), h⟩
        · rintro ⟨m, h1, h2⟩
          rcases (hsplit m).1 h1 with h1 | rfl
          · exact .inl ⟨m, h1, h2⟩
          · exact .inr h2
      refine cndI (fun hf => addI (by omega) ⟨n + 1, by dsimp only; omega, .inl ⟨P5, Z5, by omega, S3.trans S5, G5, c5, hP6, hZ6, hds, r1, r2, r3, r9, r11, rfl, true, rfl, fun _ => ⟨n, (hsplit n).2 (.inr rfl), hf⟩, fun _ => rfl⟩⟩)
        fun hf => addI (by omega) ⟨n + 1, by dsimp only; omega, .inl ⟨P5, Z5, by omega, S3.trans S5, G5, c5, hP6, hZ6, hds, r1, r2, r3, r9, r11, rfl, x, r12, ?_⟩⟩
      rw [hx]
      constructor
      · rintro ⟨m, h1, h2⟩
        exact ⟨m, (hsplit m).2 (.inl h1), h2⟩
      · rintro ⟨m, h1, h2⟩
        rcases (hsplit m).1 h1 with h1 | rfl
        · exact ⟨m, h1, h2⟩
        · exact absurd h2 hf
    · have hall : ∀ m, (t.first.has m ∧ m < n) ↔ t.first.has m := fun m => by
        unfold Rng.has
        omega
      have ex : x = decide (∃ n, t.first.has n ∧ Fin' t (t.gates.toNat - 1) 0 n) := by
        rw [← Bool.coe_iff_coe, decide_eq_true_iff, hx]
        simp only [hall]
      rw [ex]
      refine retL_same ?_ (hK H' vs bs o q P Z (S1.trans T3) GP (by omega) cq (fun i j hj => by rw [hP i j hj]; simp only [hall]) fun z hz => by rw [hZ z hz]; simp only [hall])
      intro y hy
      simp at hy
      rcases hy with rfl | rfl | rfl
      · intro e
        have := (ownX_val GP.own).2.2
        rw [e] at this
        exact absurd this (by decide)
      · intro e
        cases e
      · intro e
        cases e
end
end Go.Proofs.Ytdgpacdknpahnaa

namespace Go.Proofs.Ytdgpacdknpahnaa
open Go.Conc Go.Proofs.Try
def Ext (P : Int → Prop) (x y : Int) : Prop := ((∃ s, P s) → P x ∧ P y ∧ ∀ s, P s → x ≤ s ∧ s ≤ y) ∧ ((¬ ∃ s, P s) → x = -1 ∧ y = -1)

section
variable {P Q N : Int → Prop} {x y u v a b : Int}
theorem Ext.neg (e : Ext P x y) (hP : ∀ s, P s → 0 ≤ s) : x < 0 ↔ ¬ ∃ s, P s := by
  by_cases h : ∃ s, P s
  · have := hP _ (e.1 h).1
    exact ⟨fun hx => absurd hx (by omega), fun hx => absurd h hx⟩
  · have := (e.2 h).1
    exact ⟨fun _ => h, fun _ => by omega⟩
theorem Ext.step (e : Ext P x y) (q : Ext Q u v) (hP : ∀ s, P s → 0 ≤ s) (hQ : ∀ s, Q s → 0 ≤ s) (hex : ∃ s, Q s) (hab : a ≤ b) (ha : 0 ≤ a)
    (hN : ∀ s, N s ↔ P s ∨ ∃ s' l, Q s' ∧ (a ≤ l ∧ l ≤ b) ∧ s = s' + l) : Ext N (if x < 0 ∨ u + a < x then u + a else x) (max y (v + b)) := by
  obtain ⟨q1, q2, q3⟩ := q.1 hex
  have hu := hQ _ q1
  have hv := hQ _ q2
  have n1 : N (u + a) := (hN _).2 (.inr ⟨u, a, q1, ⟨Int.le_refl _, hab⟩, rfl⟩)
  have n2 : N (v + b) := (hN _).2 (.inr ⟨v, b, q2, ⟨hab, Int.le_refl _⟩, rfl⟩)
  refine ⟨fun _ => ?_, fun hn => absurd ⟨_, n1⟩ hn⟩
  by_cases hp : ∃ s, P s
  · obtain ⟨p1, p2, p3⟩ := e.1 hp
    have hx := hP _ p1
    have m1 := (hN _).2 (.inl p1)
    have m2 := (hN _).2 (.inl p2)
    refine ⟨?_, ?_, fun s hs => ?_⟩
    · split
      · exact n1
      · exact m1
    · rcases Int.le_total y (v + b) with z | z
      · rw [Int.max_eq_right z]
        exact n2
      · rw [Int.max_eq_left z]
        exact m2
    · rcases (hN s).1 hs with hs | ⟨s', l, h1, h2, rfl⟩
      · have := p3 s hs
        split <;> omega
      · have := q3 s' h1
        split <;> omega
  · obtain ⟨rfl, rfl⟩ := e.2 hp
    rw [if_pos (.inl (by omega)), Int.max_eq_right (by omega)]
    refine ⟨n1, n2, fun s hs => ?_⟩
    rcases (hN s).1 hs with hs | ⟨s', l, h1, h2, rfl⟩
    · exact absurd ⟨s, hs⟩ hp
    · have := q3 s' h1
      omega
end
end Go.Proofs.Ytdgpacdknpahnaa

namespace Go.Proofs.Ytdgpacdknpahnaa
open Go.Conc Go.Proofs.Try
set_option maxRecDepth 100000
structure Kn (h Hs H : List AObj) (ns : List Int) (k : Nat) (l : List (Nat × AObj)) : Prop where
  a : HX h H ns k
  S : SameX [h.length] Hs H
  g : ∀ x ∈ l, x.1 ≠ h.length ∧ H[x.1]? = some x.2

section
variable {main : Bool} {J : JT} {h Hs H : List AObj} {K : Value → List AObj → Prop} {ns : List Int} {k : Nat} {l : List (Nat × AObj)}
theorem Kn.to {H' : List AObj} {k' : Nat} (a : Kn h Hs H ns k l) (S : SameX [h.length] H H') (a' : HX h H' ns k') : Kn h Hs H' ns k' l :=
  ⟨a', a.S.trans S, fun x hx => ⟨(a.g x hx).1, S.get (a.g x hx).2 (by simpa using (a.g x hx).1)⟩⟩
theorem Kn.up (hJ : Closed prog main J) (a : Kn h Hs H ns k l) (hk : k < 1000000) {m : Int} (hm : m < 1000000)
    (hK : ∀ y H', 0 ≤ y → (y ≤ m ∨ y = 0) → Kn h Hs H' ns (k + 1) l → K (vint y) H') : Good prog J 22 [ptr h.length 0, vint m] H K :=
  upX hJ a.a hk hm fun y H' h1 h2 S _ a' => hK y H' h1 h2 (a.to S a')
theorem Kn.new (a : Kn h Hs H ns k l) {n : Nat} {c : List Value} (hK : ∀ H' p, Kn h Hs H' ns k ((p, .cells c true 0) :: l) → K (.slice (some ⟨p, 0, none⟩) n n) H') : aNewS n c H K := by
  refine qNew fun H' p e S c' _ => hK H' p ?_
  have a' : HX h H' ns k := (a.a).same S (by simp)
  have := a.to (S.weak0) a'
  refine ⟨a', this.S, fun x hx => ?_⟩
  rcases List.mem_cons.1 hx with rfl | hx
  · have := a.a.lt
    exact ⟨by show p ≠ _; omega, c'⟩
  · exact this.g x hx
theorem Kn.get (a : Kn h Hs H ns k l) {p : Nat} {o : AObj} (hm : (p, o) ∈ l) : H[p]? = some o := (a.g _ hm).2
theorem Kn.sb (a : Kn h Hs H ns k l) {B : List Nat} (hB : ∀ b ∈ B, b < Hs.length ∧ b ≠ h.length) : SameB (some B) Hs H := fun b hb => a.S.2 b (hB b hb).1 (by simpa using (hB b hb).2)
end
noncomputable def trulyE (t : Tal) : Int :=
  open Classical in
  if talErr t ≠ 0 then talErr t else if ¬ TruthIs t (limA t 0) then 11 else 0
noncomputable def trulyO (t : Tal) : List Rng :=
  open Classical in
  if talErr t ≠ 0 then [] else if ¬ TruthIs t (limA t 0) then [] else trulyL t

section
variable {main : Bool} {J : JT} {h H : List AObj} {K : Value → List AObj → Prop} {n0 : Nat} {v cv nv : Value} {t : Tal} {gate number : Int}
theorem sliE_nil {α : Type} {s : Nat} {enc : α → List Value} : SliE h (.slice none 0 0) s enc ([] : List α) := ⟨none, 0, rfl, ⟨by simp, rfl⟩, .inl ⟨rfl, rfl⟩⟩

theorem truly_all (hK : ∀ v H, SameX [] h H → SliE H v 2 Rng.cells (trulyO t) → K (.tuple ⟨[v, vint (trulyE t)]⟩) H) :
    (talErr t ≠ 0 → K (.tuple ⟨[.slice none 0 0, vint (talErr t)]⟩) h) ∧ (talErr t = 0 → ¬ TruthIs t (limA t 0) → K (.tuple ⟨[.slice none 0 0, vint 11]⟩) h) ∧
    (talErr t = 0 → TruthIs t (limA t 0) → ∀ v H, SameX [] h H → SliE H v 2 Rng.cells (trulyL t) → K (.tuple ⟨[v, vint 0]⟩) H) := by
  have go : ∀ x y v H, trulyE t = x → trulyO t = y → SameX [] h H → SliE H v 2 Rng.cells y → K (.tuple ⟨[v, vint x]⟩) H := fun x y v H hx hy S hs => by
    subst hx hy
    exact hK v H S hs
  refine ⟨fun h0 => go _ [] _ _ ?_ ?_ SameX.refl sliE_nil, fun h0 hT => go _ [] _ _ ?_ ?_ SameX.refl sliE_nil, fun h0 hT v H S hs => go _ _ v H ?_ ?_ S hs⟩
  · unfold trulyE
    rw [if_pos h0]
  · unfold trulyO
    rw [if_pos h0]
  · unfold trulyE
    rw [if_neg (not_not_intro h0), if_pos hT]
  · unfold trulyO
    rw [if_neg (not_not_intro h0), if_pos hT]
  · unfold trulyE
    rw [if_neg (not_not_intro h0), if_neg (not_not_intro hT)]
  · unfold trulyO
    rw [if_neg (not_not_intro h0), if_neg (not_not_intro hT)]

theorem good30' (hJ : Closed prog main J) (ht : TalAt h v t cv nv) (hK : ∀ v H, SameX [] h H → SliE H v 2 Rng.cells (trulyO t) → K (.tuple ⟨[v, vint (trulyE t)]⟩) H) : Good prog J 30 [v] h K := by
  obtain ⟨k1, k2, k3⟩ := truly_all hK
  refine good30 hJ ht k1 k2 fun h0 hT c sz => ?_
  have hg := (talErr_fine h0).gates
  refine k3 h0 hT _ _ SameX.refl.app ?_
  rw [← trulyL_len]
  have hf := flatR (trulyL t)
  exact ⟨_, _, rfl, hf, .inr ⟨_, _, rfl, .inr ⟨(trulyL t).flatMap Rng.cells, true, sz, by simp, by rw [List.drop_zero, List.take_of_length_le (by rw [hf.1]; exact Nat.le_refl _)]⟩⟩⟩
end
end Go.Proofs.Ytdgpacdknpahnaa

namespace Go.Proofs.Ytdgpacdknpahnaa
open Go.Conc Go.Proofs.Try
set_option maxRecDepth 100000
noncomputable def lostP (t : Tal) (a b : Int) : Rng × Int :=
  open Classical in
  if talErr t ≠ 0 then (⟨0, 0⟩, talErr t) else if ¬ ((0 ≤ a ∧ a ≤ t.gates - 1) ∧ (0 ≤ b ∧ b ≤ t.gates - 1)) then (⟨0, 0⟩, 3) else if a ≥ b then (⟨0, 0⟩, 5) else if ¬ TruthIs t (limA t 0) then (⟨0, 0⟩, 11) else (lostR t (bkR t (limA t 0)) a.toNat b.toNat, 0)

section
variable {main : Bool} {J : JT} {h H : List AObj} {K : Value → List AObj → Prop} {n0 : Nat} {v cv nv : Value} {t : Tal} {a b many : Int}
theorem lostP_all (P : Value → Prop) (hK : P (.tuple ⟨[(lostP t a b).1.val, vint (lostP t a b).2]⟩)) :
    (talErr t ≠ 0 → P (.tuple ⟨[.agg ⟨[vint 0, vint 0]⟩, vint (talErr t)]⟩)) ∧ (talErr t = 0 → ¬ ((0 ≤ a ∧ a ≤ t.gates - 1) ∧ (0 ≤ b ∧ b ≤ t.gates - 1)) → P (.tuple ⟨[.agg ⟨[vint 0, vint 0]⟩, vint 3]⟩)) ∧
    (talErr t = 0 → (0 ≤ a ∧ a ≤ t.gates - 1) → (0 ≤ b ∧ b ≤ t.gates - 1) → a ≥ b → P (.tuple ⟨[.agg ⟨[vint 0, vint 0]⟩, vint 5]⟩)) ∧
    (talErr t = 0 → (0 ≤ a ∧ a ≤ t.gates - 1) → (0 ≤ b ∧ b ≤ t.gates - 1) → a < b → ¬ TruthIs t (limA t 0) → P (.tuple ⟨[.agg ⟨[vint 0, vint 0]⟩, vint 11]⟩)) ∧
    (talErr t = 0 → (0 ≤ a ∧ a ≤ t.gates - 1) → (0 ≤ b ∧ b ≤ t.gates - 1) → a < b → TruthIs t (limA t 0) → P (.tuple ⟨[(lostR t (bkR t (limA t 0)) a.toNat b.toNat).val, vint 0]⟩)) := by
  have go : ∀ x y, lostP t a b = (x, y) → P (.tuple ⟨[x.val, vint y]⟩) := fun x y hx => by rw [hx] at hK; exact hK
  refine ⟨fun h0 => go ⟨0, 0⟩ (talErr t) ?_, fun h0 hg => go ⟨0, 0⟩ 3 ?_, fun h0 h1 h2 h3 => go ⟨0, 0⟩ 5 ?_, fun h0 h1 h2 h3 hT => go ⟨0, 0⟩ 11 ?_, fun h0 h1 h2 h3 hT => go _ 0 ?_⟩
  · unfold lostP
    rw [if_pos h0]
  · unfold lostP
    rw [if_neg (not_not_intro h0), if_pos hg]
  · unfold lostP
    rw [if_neg (not_not_intro h0), if_neg (not_not_intro ⟨h1, h2⟩), if_pos h3]
  · unfold lostP
    rw [if_neg (not_not_intro h0), if_neg (not_not_intro ⟨h1, h2⟩), if_neg (show ¬ a ≥ b by omega), if_pos hT]
  · unfold lostP
    rw [if_neg (not_not_intro h0), if_neg (not_not_intro ⟨h1, h2⟩), if_neg (show ¬ a ≥ b by omega), if_neg (not_not_intro hT)]

theorem good31' (hJ : Closed prog main J) (ht : TalAt h v t cv nv) (hK : K (.tuple ⟨[(lostP t a b).1.val, vint (lostP t a b).2]⟩) h) : Good prog J 31 [v, vint a, vint b] h K := by
  obtain ⟨k1, k2, k3, k4, k5⟩ := lostP_all (fun x => K x h) hK
  exact good31 hJ ht k1 k2 k3 k4 k5
end
end Go.Proofs.Ytdgpacdknpahnaa

namespace Go.Proofs.Ytdgpacdknpahnaa
open Go.Conc Go.Proofs.Try
set_option maxRecDepth 100000
theorem rngE_at {H : List AObj} {v : Value} {l : List Rng} (hs : SliE H v 2 Rng.cells l) {i : Nat} (hi : i < l.length) {K2 : Value → Value → Value → Prop} (hk : ∀ p q, K2 p q (vint l[i].lo)) : aIdx 2 v (vint i) fun p => aOff p 0 fun q => aLoad false 1 q H (K2 p q) := by
  obtain ⟨b2, o2, cs2, w2, z2, hx2, hb2, hle2, hp2, hk2⟩ := sliE_elem rng_len (by omega) hs hi
  exact hx2 _ (offI (ldI hb2 (part_get (j := 0) hp2 rfl) rfl (hk _ _)))
theorem rngE_at1 {H : List AObj} {v : Value} {l : List Rng} (hs : SliE H v 2 Rng.cells l) {i : Nat} (hi : i < l.length) {K2 : Value → Value → Value → Prop} (hk : ∀ p q, K2 p q (vint l[i].hi)) : aIdx 2 v (vint i) fun p => aOff p 1 fun q => aLoad false 1 q H (K2 p q) := by
  obtain ⟨b2, o2, cs2, w2, z2, hx2, hb2, hle2, hp2, hk2⟩ := sliE_elem rng_len (by omega) hs hi
  exact hx2 _ (offI (ldI hb2 (part_get (j := 1) hp2 rfl) rfl (hk _ _)))

structure Reg4 (p4 a b q : Nat) (vs lv : Value) (F : RG) : Prop where
  ds : F.ds = []
  r4 : F.r 4 = ptr p4 0
  r5 : F.r 5 = vint (a : Nat)
  r6 : F.r 6 = vint (b : Nat)
  r7 : F.r 7 = vs
  r8 : F.r 8 = bRowV 60 q
  r10 : F.r 10 = lv

section
variable {main : Bool} {J : JT} {h H : List AObj} {K : Value → List AObj → Prop} {n0 : Nat}
theorem sums4 (hJ : Closed prog main J) {t : Tal} {a b p4 q p14 : Nat} {vs lv : Value} {Z : Nat → Bool} {r : Rng} {F : RG} (hZ : ∀ z : Nat, z < 60 → (Z z = true ↔ r.has z)) (G : Reg4 p4 a b q vs lv F) (r14 : F.r 14 = ptr p14 0) (r15 : F.r 15 = vint 0)
    (cq : H[q]? = some (.cells (bRow 60 Z) true 0)) (c14 : H[p14]? = some (.cells r.cells true 0)) (fin : ∀ H, Good prog J 18 [] H fun v h' => retL n0 K [] [v] h') :
    Sem J 151 n0 4 (subC [1, 1, 1, 1, 1, 1, 1, 1, 1, 1, 1, 1, 1, 0, 1, 0] (codeOf f4)) F H (contX pl4 prog J 151 n0 4 ct4 [1, 1, 1, 1, 1, 1, 1, 1, 1, 1, 1, 1, 1, 0, 1, 0] (codeOf f4) [] (RetQ prog [.tmp 2] n0 K)) := by
  refine l4_6 hJ (fun z : Nat => 60 - z) (fun z F H' => H' = H ∧ z ≤ 60 ∧ Reg4 p4 a b q vs lv F ∧ F.r 14 = ptr p14 0 ∧ F.r 15 = vint (z : Nat)) ?_ (s := 0)
    (.inl ⟨rfl, by omega, G, r14, r15⟩)
  rintro z F H' ⟨rfl, hz, G, r14, r15⟩ okc hnc
  rw [s4_6, G.r8, r14, r15, G.ds]
  refine lenI (bRow_sli cq) (lssI (cndI (fun hlt => ?_) fun hge => fin _))
  refine idxI ⟨by omega, by omega⟩ ?_
  rw [Int.toNat_natCast, Nat.zero_add, Nat.mul_one]
  refine ldI cq (bRow_get Z (by omega)) rfl (offI (ldI (v := vint r.lo) c14 rfl rfl (leqI (cndI (fun hle => offI (ldI (v := vint r.hi) c14 rfl rfl (leqI (neqB (hold.2 ?_))))) fun hle => neqB (hold.2 ?_)))))
  · rw [s4_7]
    have e : (!(Z z == decide ((z : Int) ≤ r.hi))) = false := by
      have h1 := hZ z (by omega)
      unfold Rng.has at h1
      cases hb : Z z with
      | true =>
        rw [hb] at h1
        rw [decide_eq_true (h1.1 rfl).2]
        rfl
      | false =>
        rw [hb] at h1
        rw [decide_eq_false (fun x => by have := h1.2 ⟨hle, x⟩; cases this)]
        rfl
    show cnd (.bool (!(Z z == decide ((z : Int) ≤ r.hi)))) _ _
    rw [e]
    refine cnd_false.2 ?_
    show aBin prog .add 3 (F.r 15) (vint 1) _
    rw [r15]
    exact (addI (by omega) ⟨z + 1, by dsimp only; omega, .inl ⟨rfl, by omega, ⟨G.ds, G.r4, G.r5, G.r6, G.r7, G.r8, G.r10⟩, r14, by show vint _ = vint _; congr 1⟩⟩)
  · rw [s4_7]
    have e : (!(Z z == false)) = false := by
      have h1 := hZ z (by omega)
      unfold Rng.has at h1
      cases hb : Z z with
      | true =>
        rw [hb] at h1
        exact absurd (h1.1 rfl).1 hle
      | false => rfl
    show cnd (.bool (!(Z z == false))) _ _
    rw [e]
    refine cnd_false.2 ?_
    show aBin prog .add 3 (F.r 15) (vint 1) _
    rw [r15]
    exact (addI (by omega) ⟨z + 1, by dsimp only; omega, .inl ⟨rfl, by omega, ⟨G.ds, G.r4, G.r5, G.r6, G.r7, G.r8, G.r10⟩, r14, by show vint _ = vint _; congr 1⟩⟩)

theorem seen4 (hJ : Closed prog main J) {t : Tal} {a b p4 q g : Nat} {vs lv : Value} {bs : List Nat} {o : Option Nat} {P : Nat → Nat → Bool} {l : List Rng} {F : RG} {nx0 : RG → List AObj → Prop} (hg : g < l.length) (hbl : bs.length = l.length) (hP : ∀ n : Nat, n < 120 → (P g n = true ↔ l[g].has n)) (G : Reg4 p4 a b q vs lv F) (r12 : F.r 12 = vint (g : Nat)) (r13 : F.r 13 = vint 0) (hgl : g < 10)
    (BG : BGrid 120 H vs bs o P) (sl : SliE H lv 2 Rng.cells l) (hnx : ∀ F', Reg4 p4 a b q vs lv F' → F'.r 12 = vint ((g : Int) + 1) → nx0 F' H) :
    Sem J 151 n0 4 (subC [1, 1, 1, 1, 1, 1, 1, 1, 1, 0, 1, 0, 0, 1, 0, 0, 1, 0] (codeOf f4)) F H (contX pl4 prog J 151 n0 4 ct4 [1, 1, 1, 1, 1, 1, 1, 1, 1, 0, 1, 0, 0, 1, 0, 0, 1, 0] (codeOf f4) [nx0] (RetQ prog [.tmp 2] n0 K)) := by
  refine l4_3 hJ (fun n : Nat => 120 - n) (fun n F H' => H' = H ∧ n ≤ 120 ∧ Reg4 p4 a b q vs lv F ∧ F.r 12 = vint (g : Nat) ∧ F.r 13 = vint (n : Nat)) ?_ (s := 0)
    (.inl ⟨rfl, by omega, G, r12, r13⟩)
  rintro n F H' ⟨rfl, hn, G, r12, r13⟩ okc hnc
  rw [s4_3, G.r7, G.r10, r12, r13]
  refine BG.row (by omega) fun _ => lenI (bRow_sli (BG.rows g (by omega))) (lssI (cndI (fun hlt => ?_) fun hge => addI (by omega) (hnx _ ⟨G.ds, G.r4, G.r5, G.r6, G.r7, G.r8, G.r10⟩ rfl)))
  refine BG.read (by omega) (by omega) fun _ _ => rngE_at sl hg fun _ _ => leqI (cndI (fun hle => rngE_at1 sl hg fun _ _ => leqI (neqB (hold.2 ?_))) fun hle => neqB (hold.2 ?_))
  · rw [s4_5]
    have e : (!(P g n == decide ((n : Int) ≤ l[g].hi))) = false := by
      have h1 := hP n (by omega)
      unfold Rng.has at h1
      cases hb : P g n with
      | true =>
        rw [hb] at h1
        rw [decide_eq_true (h1.1 rfl).2]
        rfl
      | false =>
        rw [hb] at h1
        rw [decide_eq_false (fun x => by have := h1.2 ⟨hle, x⟩; cases this)]
        rfl
    show cnd (.bool (!(P g n == decide ((n : Int) ≤ l[g].hi)))) _ _
    rw [e]
    refine cnd_false.2 ?_
    show aBin prog .add 3 (F.r 13) (vint 1) _
    rw [r13]
    exact addI (by omega) ⟨n + 1, by dsimp only; omega, .inl ⟨rfl, by omega, ⟨G.ds, G.r4, G.r5, G.r6, G.r7, G.r8, G.r10⟩, r12, by show vint _ = vint _; congr 1⟩⟩
  · rw [s4_5]
    have e : (!(P g n == false)) = false := by
      have h1 := hP n (by omega)
      unfold Rng.has at h1
      cases hb : P g n with
      | true =>
        rw [hb] at h1
        exact absurd (h1.1 rfl).1 hle
      | false => rfl
    show cnd (.bool (!(P g n == false))) _ _
    rw [e]
    refine cnd_false.2 ?_
    show aBin prog .add 3 (F.r 13) (vint 1) _
    rw [r13]
    exact addI (by omega) ⟨n + 1, by dsimp only; omega, .inl ⟨rfl, by omega, ⟨G.ds, G.r4, G.r5, G.r6, G.r7, G.r8, G.r10⟩, r12, by show vint _ = vint _; congr 1⟩⟩

theorem walk4 (hJ : Closed prog main J) {nv : Value} {ns : List Int} (sn : Sli h nv 1 ns.length (ns.map vint)) (hln : ns.length < 4611686018427387904) (hK : ∀ h', K (.bool true) h') :
    W prog J 151 h.length 4 (codeOf f4) (RG.mk (regs [nv]) []) h (RetQ prog [.tmp 2] h.length K) := by
  rw [e4]
  have fin : ∀ {n0 : Nat} (H : List AObj), Good prog J 18 [] H fun v h' => retL n0 K [] [v] h' := fun H => good18 hJ (retL_same (by simp [unk]) (hK _))
  refine newX hJ sn hln fun H0 a0 => talY hJ a0 (by omega) (by omega) (by omega) fun t cv co q1 q2 H1 T S1 a1 OT => ?_
  have fine := T.fine (by omega) (by omega)
  have h0 : talErr t = 0 := T.err (by omega) (by omega)
  have low := talOk_low T (by omega)
  have hgt := T.gates
  have hmo := T.most
  refine qAl fun H2 p4 e2 S2 c2 l2 => qStA (c := talCells t cv co) c2 rfl rfl (tal_one OT.at) fun H3 S3 c3 l3 => ?_
  have S13 : SameX [] H1 H3 := (SameX.refl.trans S2).thru S3 (by simp; omega)
  have hlt1 := a1.lt
  have a3 := a1.same S13 (by simp)
  have O3 := OT.same S13 (by simp) (by simp)
  refine offI (ldI (v := vint t.gates) c3 rfl rfl (subI (by omega) ?_))
  refine upX hJ a3 (by omega) (by omega) fun x H4 x0 x1 S4 l4 a4 => ?_
  obtain ⟨a, rfl⟩ := Int.eq_ofNat_of_zero_le x0
  have c4 := S4.get c3 (by simp; omega)
  have O4 := O3.same S4 (fun i hi => by have := OT.b1 i hi; simp; omega) (fun i hi => by have := OT.b2 i hi; simp; omega)
  refine offI (ldI (v := vint t.gates) c4 rfl rfl (subI (by omega) ?_))
  refine amX hJ a4 (by omega) (by omega) (by omega) fun y H5 y0 y1 S5 l5 a5 => ?_
  obtain ⟨b, rfl⟩ := Int.eq_ofNat_of_zero_le (show 0 ≤ y by omega)
  have c5 := S5.get c4 (by simp; omega)
  have O5 := O4.same S5 (fun i hi => by have := OT.b1 i hi; simp; omega) (fun i hi => by have := OT.b2 i hi; simp; omega)
  have t5 := O5.at
  refine load_part (c := talCells t cv co) c5 (by rw [cs_val]; omega) rfl (talAt_kc t5) (good29 hJ t5 fine hmo.2 fun H6 vs bs o q P Z S6 BG hbl cq hP hZ => ext30 (ext31 (ext32 ?_)))
  have c6 := S6.get c5 (by simp)
  have t6 := talAt_same t5 S6 (by simp)
  refine load_part (c := talCells t cv co) c6 (by rw [cs_val]; omega) rfl (talAt_kc t6) (good30' hJ t6 fun lv H7 S7 L7 => ext0 (ext1 ?_))
  have c7 := S7.get c6 (by simp)
  have t7 := talAt_same t6 S7 (by simp)
  have BG7 := BG.same S7 (by simp) (by simp)
  have cq7 := S7.get cq (by simp)
  have iff_T := all_truth fine low
  by_cases hT : TruthIs t (limA t 0)
  rotate_left
  · have eE : trulyE t = 11 := by unfold trulyE; rw [if_neg (not_not_intro h0), if_pos hT]
    have eL : trulyO t = [] := by unfold trulyO; rw [if_neg (not_not_intro h0), if_pos hT]
    rw [eE]
    rw [eL] at L7
    refine notI ?_
    rw [decide_eq_false (fun x => hT (iff_T.1 x))]
    exact cnd_true.2 (eqlI (cndI (fun _ => lenI L7 (eqlI (cndI (fun _ => fin _) fun hx => absurd rfl hx))) fun hx => absurd rfl hx))
  have eE : trulyE t = 0 := by unfold trulyE; rw [if_neg (not_not_intro h0), if_neg (not_not_intro hT)]
  have eL : trulyO t = trulyL t := by unfold trulyO; rw [if_neg (not_not_intro h0), if_neg (not_not_intro hT)]
  rw [eE]
  rw [eL] at L7
  have hll := trulyL_len t
  refine notI ?_
  rw [decide_eq_true (iff_T.2 hT)]
  refine cnd_false.2 (neqI (cndI (fun hx => absurd rfl hx) fun _ => lenI L7 (offI (ldI (v := vint t.gates) c7 rfl rfl (neqI (hold.2 ?_))))))
  rw [s4_1]
  refine cndI (fun hx => absurd (show ((trulyL t).length : Int) = t.gates by omega) hx) fun _ => ?_
  refine l4_2 hJ (fun g : Nat => 10 - g) (fun g F H' => H' = H7 ∧ g ≤ t.gates.toNat ∧ Reg4 p4 a b q vs lv F ∧ F.r 12 = vint (g : Nat)) ?_ (s := 0)
    (.inl ⟨rfl, by omega, ⟨rfl, rfl, rfl, rfl, rfl, rfl, rfl⟩, rfl⟩)
  rintro g F H' ⟨rfl, hg, G, r12⟩ okc hnc
  rw [s4_2, G.r4, r12]
  refine offI (ldI (v := vint t.gates) c7 rfl rfl (lssI (cndI (fun hlt => ?_) fun hge => ?_)))
  · refine seen4 (t := t) (l := trulyL t) (g := g) hJ (by omega) (by omega) (fun n hn => ?_) ⟨G.ds, G.r4, G.r5, G.r6, G.r7, G.r8, G.r10⟩ r12 rfl (by omega) BG7 L7 fun F' G' r12' => ⟨g + 1, by dsimp only; omega, .inl ⟨rfl, by omega, G', by rw [r12']; congr 1⟩⟩
    rw [hP g n hn, trulyL_get]
    exact all_seen fine low hT (by omega)
  · rw [G.r5, G.r6, G.ds]
    refine eqlI (cndI (fun _ => fin _) fun hne => ?_)
    refine load_part (c := talCells t cv co) c7 (by rw [cs_val]; omega) rfl (talAt_kc t7) (good31' hJ t7 (ext0 (ext1 ?_)))
    have eP : lostP t (a : Int) (b : Int) = (lostR t (bkR t (limA t 0)) a b, 0) := by
      unfold lostP
      rw [if_neg (not_not_intro h0), if_neg (not_not_intro ⟨by omega, by omega⟩), if_neg (show ¬ (a : Int) ≥ b by omega), if_neg (not_not_intro hT)]
      rfl
    rw [eP]
    have hsum : ∀ z : Int, (∃ n, t.first.has n ∧ Zm t a b (t.gates.toNat - 1) 0 n 0 z) ↔ (lostR t (bkR t (limA t 0)) a b).has z := fun z => all_sums fine low hT (by omega) (by omega)
    have hbd : 0 ≤ (lostR t (bkR t (limA t 0)) a b).lo ∧ (lostR t (bkR t (limA t 0)) a b).hi < 60 := by
      obtain ⟨h1, ⟨m1, h2⟩, ⟨m2, h3⟩⟩ := lost_all fine hT (show a ≤ b by omega) (show b < t.gates.toNat by omega)
      have k1 := h2.bd
      have k2 := h3.bd
      have : t.most * ((b - a : Nat) : Int) ≤ 4 * 4 := (mul_bd hmo.1 hmo.2 (by omega) (by omega)).2
      omega
    refine qAl fun H8 p14 e8 S8 c8 l8 => qStA (c := (lostR t (bkR t (limA t 0)) a b).cells) c8 rfl rfl rfl fun H9 S9 c9 l9 => ?_
    have S79 : SameX [] H' H9 := (SameX.refl.trans S8).thru S9 (by simp; omega)
    have cq9 := S79.get cq7 (by simp)
    refine neqI (cndI (fun hx => absurd rfl hx) fun _ => offI (ldI (v := vint (lostR t (bkR t (limA t 0)) a b).lo) c9 rfl rfl (lssI (cndI (fun hx => absurd hx (by omega)) fun _ => offI (ldI (v := vint (lostR t (bkR t (limA t 0)) a b).hi) c9 rfl rfl ?_)))))
    rw [G.r8]
    refine lenI (bRow_sli cq9) (geqI (hold.2 ?_))
    rw [s4_4]
    refine cndI (fun hx => absurd hx (by omega)) fun _ => ?_
    exact sums4 (t := t) (a := a) (b := b) (p4 := p4) (vs := vs) (lv := lv) hJ (fun z hz => by rw [hZ z hz]; exact hsum z) ⟨G.ds, G.r4, G.r5, G.r6, G.r7, G.r8, G.r10⟩ rfl rfl cq9 c9 fin
end
end Go.Proofs.Ytdgpacdknpahnaa

namespace Go.Proofs.Ytdgpacdknpahnaa
open Go.Conc
open Go.ConcN (sumTo upd sumTo_upd upd_ne upd_same)
def Ends (P : Program) (Post : Value → World → Prop) (m : Machine) (t : Trace) : Prop :=
  ∃ N last o w' t', runNT P (N + 1) m t = (.ended o w', t') ∧ runN P N m = .next last ∧ step P last = .ended o w' ∧ Go.Conc.Good P Post last o w' t'

structure Base (W0 w : World) : Prop where
  tape : w.tape = W0.tape
  os : w.os = W0.os
  output : w.output = W0.output
  size : W0.heap.size ≤ w.heap.size

def J1 (P : Program) (W0 : World) (Post : Value → World → Prop) (g : Goroutine) (w : World) (ft : Foot) : Prop :=
  ∀ (gs : Array Goroutine) (w₁ : World) (sl : Option (Nat × Nat)) (t : Trace) (q : Nat → Nat), (∀ b, ft.rd b → b < w₁.heap.size) → (∀ b, ft.wr b → ft.rd b) → RelyW ft w w₁ → Base W0 w₁ → gs[0]? = some g → Leavers P t gs q → Past (fun _ => False) w₁.heap.size t →
    Ends P Post (crowd gs w₁ sl) t

section
variable {P : Program} {W0 : World} {Post : Value → World → Prop} {g : Goroutine} {w w₁ : World} {ft : Foot}
theorem Ends.next {m m' : Machine} {t : Trace} {ops : Array MemOp} (hs : stepT P m = (.next m', ops)) (h : Ends P Post m' (t ++ ops)) : Ends P Post m t := by
  obtain ⟨n, last, o, w, t', h1, h2, h3, h4⟩ := h
  exact ⟨n + 1, last, o, w, t', by rw [runNT_succ_next hs]; exact h1, by rw [runN_succ_next hs]; exact h2, h3, h4⟩

theorem evL_of {e : Event} {B : Nat} (he : EvOk ft e) (hb : ∀ b, ft.rd b → b < B) : EvL (fun _ => False) B e := by
  obtain ⟨loc, wr, sync⟩ := e
  unfold EvOk at he
  refine ⟨fun x _ hs => hs.elim, ?_, ?_, ?_⟩
  · intro hl
    simp only at hl
    subst hl
    exact he
  · intro hl
    simp only at hl
    subst hl
    exact he
  · cases loc with
    | cell a => exact hb _ he.2.1
    | obj r =>
      have hs : sync = false := he.1
      subst hs
      have := hb _ he.2.1
      cases wr <;> exact this
    | mark m =>
      cases m <;> first | exact he.elim | trivial
    | output => trivial
    | goroutines => trivial

theorem mem_g {i : Nat} {fn : FuncId} {pos : String} {es : Array Event} {op : MemOp} (h : op ∈ MemOp.ofEvents i fn pos es) : op.g = i := by
  rw [ofEvents_eq] at h
  obtain ⟨e, he, rfl⟩ := Array.mem_map.1 h
  rfl

theorem relyW_at (ft : Foot) (w : World) (d : Nat) : RelyW ft w (w.at d) := ⟨fun _ _ => rfl, Nat.le_refl _, rfl, rfl, rfl⟩

theorem J1.both (hrun : g.status = .running)
    (h : ∀ w₁, RelyW ft w w₁ → Base W0 w₁ → (∃ g' w' es, stepG P true g w₁ = .go g' w' es ∧ g'.status = .running ∧ GuarW ft w₁ w' es ∧ J1 P W0 Post g' w' (ft.ext w₁.heap.size w'.heap.size)) ∨
      ∃ v es, stepG P true g w₁ = .ended (.done v) w₁ es ∧ (∀ e ∈ es, EvOk ft e) ∧ Post v w₁) : J1 P W0 Post g w ft := by
  intro gs w₁ sl t q hbd hsub hrel hbase h0 hL hP
  generalize hM : sumTo gs.size q = M
  induction M using Nat.strongRecOn generalizing gs w₁ sl t q with
  | ind M ih =>
    have haw : ∀ g ∈ gs, awake g := by
      intro x hx
      obtain ⟨i, hi, rfl⟩ := Array.mem_iff_getElem.1 hx
      rcases Nat.eq_zero_or_pos i with rfl | hpos
      · have : gs[0] = g := by simpa [Array.getElem?_eq_getElem hi] using h0
        rw [this]; exact awake_of (.inl hrun)
      · exact awake_of ((hL.old i _ hpos (Array.getElem?_eq_getElem hi)).status.elim .inl fun x => .inr (.inr x))
    obtain ⟨i, x, d, sl', hi, hg, hst⟩ := crowd_pick (P := P) (w := w₁) (sl := sl) haw ⟨0, g, h0, hrun⟩
    rcases Nat.eq_zero_or_pos i with rfl | hpos
    · obtain rfl : x = g := by rw [h0] at hi; exact (Option.some.inj hi).symm
      rcases h (w₁.at d) (hrel.trans (relyW_at ft w₁ d)) ⟨hbase.tape, hbase.os, hbase.output, hbase.size⟩ with ⟨g', w', es, hgo, hrun', hgu, hJ⟩ | ⟨v, es, hend, hes, hpost⟩
      · have hrunT := runT_crowd_go (P := P) (sl := sl') (i := 0) hi (show stepG P (0 == 0) x (w₁.at d) = _ from hgo)
        have hsz : ((gs.map (woken P x g' w')).setIfInBounds 0 g').size = gs.size := by simp
        have hlt : 0 < gs.size := (Array.getElem?_eq_some_iff.1 h0).1
        have hw' : w₁.heap.size ≤ w'.heap.size := hgu.size
        refine Ends.next (hst.trans hrunT) ?_
        refine hJ _ w' sl' _ q (fun b hb => ?_) (fun b hb => ?_) (RelyW.refl _ _) ⟨hgu.tape.trans hbase.tape, hgu.os.trans hbase.os, hgu.output.trans hbase.output, Nat.le_trans hbase.size hgu.size⟩ (by simp [hlt]) ⟨fun j y hj hy => ?_, fun j hj => ?_⟩ ?_
        · rcases hb with hb | hb
          · exact Nat.lt_of_lt_of_le (hbd b hb) hw'
          · exact hb.2
        · rcases hb with hb | hb
          · exact .inl (hsub b hb)
          · exact .inr hb
        · have hne : 0 ≠ j := by omega
          rw [Array.getElem?_setIfInBounds_ne hne, Array.getElem?_map] at hy
          obtain ⟨z, hz, rfl⟩ := Option.map_eq_some_iff.1 hy
          have hq := hL.old j z hj hz
          rw [woken_quitsD hq, Deaf_other t (by omega) _ (fun op hop => mem_g hop)]
          exact hq
        · rw [Deaf_other t (g' := 0) (by simp at hj; omega) _ (fun op hop => mem_g hop)]
          exact hL.above j (by simpa using hj)
        · exact (hP.mono hw').own fun e he => evL_of (hgu.evs e he) fun b hb => Nat.lt_of_lt_of_le (hbd b hb) hw'
      · have hrunT := runT_many_ended (P := P) (sl := sl') (i := 0) hi (show stepG P (0 == 0) x (w₁.at d) = _ from hend)
        have hP' := hP.own (fn := x.frame.fn) (pos := x.frame.place) fun e he => evL_of (hes e he) hbd
        refine ⟨0, crowd gs w₁ sl, .done v, w₁.at d, _, by simp only [runNT, hst.trans hrunT], rfl, by simp [step, hst.trans hrunT], v, rfl, hpost, hP'.clean, hP'.over, ⟨fun y hy => ?_, rfl⟩, fun j y hy hj => ?_⟩
        · obtain ⟨j, hj⟩ := List.mem_iff_getElem?.1 hy
          rw [List.getElem?_drop] at hj
          exact ⟨_, (hL.old (1 + j) y (by omega) (by simpa [crowd] using hj)).leaves⟩
        · have hq := hL.old j y (by omega) hy
          refine ⟨q j, ?_⟩
          have e : (t ++ MemOp.ofEvents 0 x.frame.fn x.frame.place es).deaf j (t ++ MemOp.ofEvents 0 x.frame.fn x.frame.place es).size = Deaf t j :=
            Deaf_other t (g := j) (g' := 0) (by omega) _ (fun op hop => mem_g hop)
          rw [e]
          exact hq.hears _
    · have hq := hL.old i x hpos hi
      have hi0 : (i == 0) = false := by simp; omega
      have hlt : i < gs.size := (Array.getElem?_eq_some_iff.1 hi).1
      cases hqi : q i with
      | zero => rw [hqi] at hq; rw [hq.1] at hg; cases hg
      | succ k =>
        rw [hqi] at hq
        rcases hq with ⟨hf, _⟩ | ⟨_, g', es, hm, hstp, hq'⟩
        · rw [hf] at hg; cases hg
        have hrunT := runT_crowd_go (P := P) (sl := sl') (i := i) hi (by rw [hi0]; exact hstp (w₁.at d))
        have hsz : ((gs.map (woken P x g' (w₁.at d))).setIfInBounds i g').size = gs.size := by simp
        have hsum : sumTo gs.size (upd q i k) + (k + 1) = sumTo gs.size q + k := by
          have := sumTo_upd q k id hlt
          simpa [hqi] using this
        refine Ends.next (hst.trans hrunT) (ih (sumTo gs.size (upd q i k)) (by omega) _ (w₁.at d) sl' _ (upd q i k) hbd (hrel.trans (relyW_at ft w₁ d)) ⟨hbase.tape, hbase.os, hbase.output, hbase.size⟩ ?_ ⟨fun j y hj hy => ?_, fun j hj => ?_⟩ (hP.mute (by omega) hm) (by rw [hsz]))
        · have hne : i ≠ 0 := by omega
          rw [Array.getElem?_setIfInBounds_ne hne, Array.getElem?_map, h0]
          simp [woken_run hrun]
        · by_cases hji : i = j
          · subst hji
            rw [Array.getElem?_setIfInBounds_self_of_lt (by simpa using hlt)] at hy
            obtain rfl := Option.some.inj hy
            rw [upd_same, Deaf_own]
            exact hq'
          · rw [Array.getElem?_setIfInBounds_ne hji, Array.getElem?_map] at hy
            obtain ⟨z, hz, rfl⟩ := Option.map_eq_some_iff.1 hy
            have hqj := hL.old j z hj hz
            rw [woken_quitsD hqj, upd_ne q k (Ne.symm hji), Deaf_other t hji _ (fun op hop => mem_g hop)]
            exact hqj
        · rw [Deaf_other t (g' := i) (by simp at hj; omega) _ (fun op hop => mem_g hop)]
          exact hL.above j (by simpa using hj)

theorem J1.closed (P : Program) (W0 : World) (Post : Value → World → Prop) : Closed P true (J1 P W0 Post) where
  rely := fun h hr gs w₂ sl t q hbd hsub hrel hbase h0 hL hP => h gs w₂ sl t q hbd hsub (hr.trans hrel) hbase h0 hL hP
  step := fun hrun h => J1.both hrun fun w₁ h₁ _ => by
    obtain ⟨g', w', es, a, b, c, d⟩ := h w₁ h₁
    exact .inl ⟨g', w', es, a, b, c, d⟩
end
end Go.Proofs.Ytdgpacdknpahnaa

namespace Go.Proofs.Ytdgpacdknpahnaa
open Go.Conc
section
variable {P : Program} {W0 : World} {Post : Value → World → Prop} {ρ : Env} {h : List AObj} {FC : Frm} {w : World} {ft : Foot} {f : RG} {a : Act} {b : FB} {K : Value → List AObj → Prop} {n0 : Nat}
theorem leave_top {fn : Func} (hk : b.kind = .normal) (hf : P.funcs[b.fn]? = some fn) (hin : P.inits.idxOf? b.fn = none)
    (hc : ∀ v h' ρ' w' ft' cv, K v h' → HRel ρ' h' FC w' ft' → Env.upto n0 ρ ρ' → n0 ≤ h'.length → VRel h'.length ρ' v cv → Base W0 w' → Post cv w') :
    ∀ (ds : List Nat) (h : List AObj) (w : World) (ft : Foot) (a : Act) (fr : Frame), fr.fn = b.fn → fr.kind = .normal → fr.mode = .returning → fr.tmps = a.tmps → fr.defers = ds.map (fun d => { target := .collected (ρ.blk d), args := #[] }) → RegRel h.length ρ f.r a.tmps → HRel ρ h FC w ft → n0 ≤ h.length →
      takeW ds h (fun h => resW P fn.results.toList f.r h fun vs => K (pack vs) h ∨ ∃ σ h' v, GC n0 σ h h' ∧ pack vs = sub σ v ∧ VOk h'.length v ∧ K v h') → J1 P W0 Post (G fr []) w ft
  | [], h, w, ft, a, fr, e1, e2, e3, e4, e5, hr, H, hn, hq => by
    obtain ⟨fn', tmps, todo, defers, mode, kind, ro⟩ := fr
    simp only at e1 e2 e3 e4 e5
    subst e1 e2 e3 e4 e5
    refine J1.both rfl fun w₁ h₁ hbase => .inr ?_
    have H₁ := H.rely h₁
    have hrun : RunsTo P (EvOk ft) (results fn a.tmps) w₁ fun cv w' => w' = w₁ ∧ ∃ vs, cv = ren ρ (pack vs) ∧ (∀ v ∈ vs, VOk h.length v) ∧ (K (pack vs) h ∨ ∃ σ h' v, GC n0 σ h h' ∧ pack vs = sub σ v ∧ VOk h'.length v ∧ K v h') := by
      unfold results
      have : (fn.results.mapM (resF a.tmps)) = List.toArray <$> fn.results.toList.mapM (resF a.tmps) := by
        rw [Array.mapM_eq_mapM_toList]
      show RunsTo P (EvOk ft) (do
        let vs ← fn.results.mapM (resF a.tmps)
        pure (if h : vs.size = 1 then vs[0] else .tuple vs)) w₁ _
      rw [this]
      refine RunsTo.bind (RunsTo.map (res_run (n := 0) H₁ hr fn.results.toList hq fun vs hvs hok => RunsTo.pure ⟨rfl, vs, ?_, hok, hvs⟩))
      exact pack_ren vs
    obtain ⟨cv, w', es, hr', he, rfl, vs, rfl, hvok, hvs⟩ := hrun #[] (by simp)
    have hes : ∀ e ∈ seen P b.fn es, EvOk ft e := fun e hm => he e (mem_seen hm)
    refine ⟨ren ρ (pack vs), seen P b.fn es, ?_, hes, ?_⟩
    · simp only [G, stepG, unwind, List.map_nil, hf, hr']
      simp [doReturn, GStep.after, hin]
    · rcases hvs with hK | ⟨σ, h', v, g, hp, hok, hK⟩
      · exact hc _ h _ w' ft _ hK H₁ (Env.upto_refl _ _) hn (.inr ⟨pack_ok hvok, rfl⟩) hbase
      · rw [hp, ren_sub]
        exact hc v h' _ w' ft _ hK (g.rel H₁) g.upto g.le (.inr ⟨hok, rfl⟩) hbase
  | d :: ds, h, w, ft, a, fr, e1, e2, e3, e4, e5, hr, H, hn, hq => by
    obtain ⟨fn', tmps, todo, defers, mode, kind, ro⟩ := fr
    simp only at e1 e2 e3 e4 e5
    subst e1 e2 e3 e4 e5
    obtain ⟨hd, hq⟩ := hq
    refine (J1.closed P W0 Post).step rfl fun w₁ h₁ => ?_
    have H₁ := H.rely h₁
    obtain ⟨cv, w', es, hr', he, rfl, H', hst, hsz⟩ := take_run (P := P) H₁ hd (Q := fun l w' => l = [] ∧ HRel ρ (h.set d .dead) FC w' ft ∧ Stays ft w₁ w' ∧ w'.heap.size = w₁.heap.size) (fun w' a1 a2 a3 => ⟨rfl, a1, a2, a3⟩) #[] (by simp)
    have hes : ∀ e ∈ seen P b.fn es, EvOk ft e := fun e hm => he e (mem_seen hm)
    refine ⟨G { fn := b.fn, tmps := a.tmps, todo := todo, defers := ds.map (fun d => { target := .collected (ρ.blk d), args := #[] }), mode := .returning, kind := .normal, roundOf := ro } [], w', seen P b.fn es, ?_, rfl, hst.guar hes, ?_⟩
    · simp only [G, stepG, unwind, List.map_cons, hr']
      simp [GStep.after]
    · rw [hsz, Foot.ext_self]
      exact leave_top hk hf hin hc ds _ w' ft a _ rfl rfl rfl rfl rfl (by rw [List.length_set]; exact hr) H' (by rw [List.length_set]; exact hn) hq

theorem top_of_W (hm : P.follows .mixedOrders = true) {g : FuncId} {fn : Func} (hf : P.funcs[g]? = some fn) {c : Code} (hb : fn.body = some c) (hin : P.inits.idxOf? g = none) {args : List Value} {cargs : Array Value} (ha : args.length ≤ fn.ntmps) (hl : cargs.size = args.length)
    (hr : ∀ i : Nat, VRel h.length ρ (args.getD i unk) (cargs.toList.getD i undef)) (H : HRel ρ h FC w ft)
    (hs : W P (J1 P W0 Post) fn.ntmps h.length g c ⟨regs args, []⟩ h (RetQ P fn.results.toList h.length K))
    (hc : ∀ v h' ρ' w' ft' cv, K v h' → HRel ρ' h' FC w' ft' → Env.upto h.length ρ ρ' → h.length ≤ h'.length → VRel h'.length ρ' v cv → Base W0 w' → Post cv w') : J1 P W0 Post (G (Frame.enter P g cargs .normal) []) w ft := by
  have hJ := J1.closed P W0 Post
  obtain ⟨cargs⟩ := cargs
  simp only at hl hr
  have he : Frame.enter P g ⟨cargs⟩ .normal = FB.at ⟨g, .normal, none⟩ ⟨⟨cargs⟩ ++ Array.replicate (fn.ntmps - cargs.length) undef, []⟩ [.code c] := by
    simp [Frame.enter, FB.at, hf, hb]
  rw [he]
  have A : ActRel h.length ρ fn.ntmps ⟨regs args, []⟩ ⟨⟨cargs⟩ ++ Array.replicate (fn.ntmps - cargs.length) undef, []⟩ := by
    refine ⟨fun t => ?_, by simp at hl ⊢; omega, rfl, by simp⟩
    have := hr t
    have ht : ((⟨cargs⟩ : Array Value) ++ Array.replicate (fn.ntmps - cargs.length) undef).getD t undef = cargs.getD t undef := by
      rw [Array.getD_eq_getD_getElem?, List.getD_eq_getElem?_getD]
      by_cases hx : t < cargs.length
      · rw [Array.getElem?_append_left (by simpa using hx)]
        simp
      · rw [Array.getElem?_append_right (by simp; omega), List.getElem?_eq_none (by omega)]
        simp only [Array.getElem?_replicate]
        split <;> rfl
    rw [ht]
    exact this
  have last : ∀ f' h' ρ' w' ft' a' todo, RetQ P fn.results.toList h.length K .ret f' h' → ActRel h'.length ρ' fn.ntmps f' a' → HRel ρ' h' FC w' ft' → Env.upto h.length ρ ρ' → h.length ≤ h'.length →
      J1 P W0 Post (G { (FB.at ⟨g, .normal, none⟩ a' todo) with mode := .returning } []) w' ft' := by
    intro f' h' ρ' w' ft' a' todo q A' H' hu hl
    exact leave_top (b := ⟨g, .normal, none⟩) (f := f') (n0 := h.length) (ρ := ρ') rfl hf hin (fun v h2 ρ2 w2 ft2 cv k H2 u2 l2 v2 => hc v h2 ρ2 w2 ft2 cv k H2 (Env.upto_trans hu u2) l2 v2) f'.ds h' w' ft' a' _ rfl rfl rfl rfl A'.defers A'.regs H' hl q
  refine W_sound hJ hm c hs ⟨g, .normal, none⟩ _ [] [] (fun jump a w ft => jump = some .ret ∧ ∀ todo, J1 P W0 Post (G { (FB.at ⟨g, .normal, none⟩ a todo) with mode := .returning } []) w ft) ρ FC w ft rfl (by simp) ?_ A H (Nat.le_refl _) ?_
  · rintro jump a w ft todo ⟨rfl, hj⟩ hh
    rcases hh with ⟨_, k, rfl⟩ | ⟨id, k, e, _⟩ | ⟨e, _⟩
    · exact hJ.ctrl rfl rfl (fun w => by simp [G, stepG, stepG.exec, FB.at]) (hj (.code .ret :: k))
    · cases e
    · cases e
  · intro e f' h' ρ' w' ft' a' q A' H' hu hl
    cases e with
    | normal => exact hJ.ctrl rfl rfl (fun w => by simp [G, stepG, stepG.exec, FB.at]) (last f' h' ρ' w' ft' a' [] q A' H' hu hl)
    | ret => exact ⟨rfl, fun todo => last f' h' ρ' w' ft' a' todo q A' H' hu hl⟩
    | exit id => exact q.elim
    | goto l => exact q.elim
    | panic l => exact q.elim
    | outgrown => exact q.elim

theorem run_of_J1 {g : Goroutine} {w : World} {ft : Foot} (h : J1 P W0 Post g w ft) (hb : ∀ b, ft.rd b → b < w.heap.size) (hs : ∀ b, ft.wr b → ft.rd b) (hw : W0 = w) : Ends P Post (solo g w) #[] := by
  rw [solo_eq_crowd]
  exact h #[g] w none #[] (fun _ => 0) hb hs (RelyW.refl _ _) (by subst hw; exact ⟨rfl, rfl, rfl, Nat.le_refl _⟩) rfl (leavers_one P g) (past_nil.mono (Nat.zero_le _))
end
end Go.Proofs.Ytdgpacdknpahnaa

namespace Go.Proofs.Ytdgpacdknpahnaa
open Go.Conc Go.RowKit
def idEnv : Env := ⟨fun b => b, fun _ => 0⟩
def startFt (w : World) : Foot := ⟨fun b => b < w.heap.size, fun _ => False⟩
def startFC (w : World) : Frm := ⟨fun b => w.heap[b]?, fun _ => False⟩

def Fine (n : Nat) (v : Value) : Prop := VOk n v ∧ one v = true ∧ ren idEnv v = v

open Classical in
noncomputable def clean (n : Nat) (v : Value) : Value := if Fine n v then v else unk

noncomputable def absO (n : Nat) : Obj → AObj
  | .cells c _ _ => .cells (c.toList.map (clean n)) false 0
  | _ => .dead

noncomputable def absH (w : World) : List AObj := w.heap.toList.map (absO w.heap.size)

section
variable {w w' : World} {n : Nat}
theorem clean_fine {v : Value} (h : Fine n v) : clean n v = v := by simp [clean, h]
theorem absH_len : (absH w).length = w.heap.size := by simp [absH]
theorem absH_get {b : Nat} : (absH w)[b]? = (w.heap[b]?).map (absO w.heap.size) := by simp [absH]

theorem absO_wrt (x : Obj) : (absO n x).wrt = false := by cases x <;> rfl

theorem start_rel (w : World) : HRel idEnv (absH w) (startFC w) w (startFt w) where
  obj := fun b o hb => by
    rw [absH_get] at hb
    obtain ⟨x, hx, rfl⟩ := Option.map_eq_some_iff.1 hb
    show ORel (absH w).length idEnv b (absO w.heap.size x) w.heap[b]?
    rw [absH_len, hx]
    cases x with
    | cells c ty fr =>
      refine ⟨fun i v hv => ?_, fun _ => by simp, fun hz => absurd rfl hz, fun e => by cases e⟩
      rw [List.getElem?_map] at hv
      obtain ⟨u, hu, rfl⟩ := Option.map_eq_some_iff.1 hv
      by_cases hf : Fine w.heap.size u
      · rw [clean_fine hf]
        exact .inr ⟨hf.1, hf.2.1, by rw [hf.2.2]; simpa using hu⟩
      · exact .inl ⟨by simp [clean, hf], rfl⟩
    | _ => trivial
  inj := fun b b' o o' _ _ _ _ e => e
  rd := fun b o hb _ => by
    have : b < (absH w).length := (List.getElem?_eq_some_iff.1 hb).1
    rw [absH_len] at this
    exact this
  wr := fun b o hb hw => by
    rw [absH_get] at hb
    obtain ⟨x, hx, rfl⟩ := Option.map_eq_some_iff.1 hb
    rw [absO_wrt] at hw
    cases hw
  lt := fun b hb => hb
  sub := fun b hb => hb.elim
  kept := fun b o hb => by
    refine ⟨hb, ?_, fun a oa ha hw => ?_⟩
    · exact (Array.getElem?_eq_some_iff.1 hb).1
    · rw [absH_get] at ha
      obtain ⟨x, hx, rfl⟩ := Option.map_eq_some_iff.1 ha
      rw [absO_wrt] at hw
      cases hw
  keptW := fun b hb => hb.elim

theorem absH_cell {b o : Nat} {v : Value} (hc : w.cell? ⟨b, o, none⟩ = some v) (hf : Fine w.heap.size v) : ∃ c, (absH w)[b]? = some (.cells c false 0) ∧ c[o]? = some v := by
  unfold World.cell? at hc
  simp only at hc
  split at hc
  · rename_i c ty fr hx
    refine ⟨c.toList.map (clean w.heap.size), by rw [absH_get, hx]; rfl, ?_⟩
    have hc' : c[o]? = some v := by simpa using hc
    rw [List.getElem?_map, Array.getElem?_toList, hc']
    simp [clean_fine hf]
  · cases hc

theorem below_of {ρ' : Env} {h' : List AObj} {ft' : Foot} (H : HRel ρ' h' (startFC w) w' ft') (B : Base w w') : Below w.heap.size w w' :=
  ⟨B.os, B.tape, B.output, B.size, fun k hk => by
    have : (startFC w).ob k = some w.heap[k] := by simp [startFC, hk]
    rw [(H.kept k _ this).1, Array.getElem?_eq_getElem hk]⟩
end
end Go.Proofs.Ytdgpacdknpahnaa

namespace Go.Proofs.Ytdgpacdknpahnaa
open Go.Conc Go.ChangeShapes Go.WideShapes Go.ChangeAt Go.RowKit Go.Proofs.Try
set_option maxRecDepth 100000
theorem own : ownKnob prog.godebug = none := by kernel_rfl
theorem laidOut : laidOutB prog = true := by kernel_rfl

def ArgOk (W : World) (v : Value) : Prop := VOk W.heap.size v ∧ ren idEnv v = v

theorem law_run1 {g : FuncId} {fn : Func} {c : Code} (hf : prog.funcs[g]? = some fn) (hb : fn.body = some c) (hin : prog.inits.idxOf? g = none) (W₀ : World) (args : List Value) (ha : args.length ≤ fn.ntmps) (hok : ∀ v ∈ args, ArgOk W₀ v)
    (walk : ∀ Post, W prog (J1 prog W₀ Post) fn.ntmps (absH W₀).length g c ⟨regs args, []⟩ (absH W₀) (RetQ prog fn.results.toList (absH W₀).length fun v _ => v = .bool true)) :
    Ends prog (fun v w' => v = .bool true ∧ Below W₀.heap.size W₀ w') (solo (G (Frame.enter prog g ⟨args⟩ .normal) []) W₀) #[] := by
  refine run_of_J1 (W0 := W₀) (ft := startFt W₀) (top_of_W mixed hf hb hin ha rfl (fun i => ?_) (start_rel W₀) (walk _) ?_) (fun b hb => hb) (fun b hb => hb.elim) rfl
  · show VRel (absH W₀).length idEnv (args.getD i unk) (args.getD i undef)
    simp only [List.getD_eq_getElem?_getD]
    cases hi : args[i]? with
    | none => exact .inl rfl
    | some v =>
      obtain ⟨h1, h2⟩ := hok v (List.mem_of_getElem? hi)
      exact .inr ⟨by rw [absH_len]; exact h1, h2.symm⟩
  · intro v h' ρ' w' ft' cv hv H' _ _ hcv hB
    subst hv
    refine ⟨?_, below_of H' hB⟩
    rcases hcv with e | ⟨_, e⟩
    · cases e
    · rw [e]
      rfl

theorem law_run {g : FuncId} {fn : Func} {c : Code} (hf : prog.funcs[g]? = some fn) (hb : fn.body = some c) (hin : prog.inits.idxOf? g = none) (W₀ : World) (args : List Value) (ha : args.length ≤ fn.ntmps) (hok : ∀ v ∈ args, ArgOk W₀ v)
    (walk : ∀ J : JT, Closed prog true J → W prog J fn.ntmps (absH W₀).length g c ⟨regs args, []⟩ (absH W₀) (RetQ prog fn.results.toList (absH W₀).length fun v _ => v = .bool true)) :
    Ends prog (fun v w' => v = .bool true ∧ Below W₀.heap.size W₀ w') (solo (G (Frame.enter prog g ⟨args⟩ .normal) []) W₀) #[] :=
  law_run1 hf hb hin W₀ args ha hok fun _ => walk _ (J1.closed prog W₀ _)

section
variable {H : Type} {enc : TypeId × Value → H}
theorem arg_ints {t e : TypeId} (ht : prog.underlying t = some (.slice e)) (he : prog.underlying e = some (.int .i64)) (hc : prog.cellsOf e = 1) {W : World} {base : Nat} {v : Value} {d : DataW H} {ps : List MemPlace}
    (hval : Value.okWide prog W .any base t v) (hd : DataW.Trod enc prog W 0 (fun _ => true) true t v d ps) :
    ∃ zs : List Int, Sli (absH W) v 1 zs.length (zs.map vint) ∧ ArgOk W v ∧ (zs = [] ∨ ∃ es sp, d = .slice es sp ∧ zs.length ≤ es.length + sp.length) := by
  obtain ⟨a0, len, cap, rfl⟩ := okWide_slice ht hval
  obtain ⟨fuel, hf⟩ := hd
  rcases open_ints ht he hc hf with ⟨hcs, hx⟩ | ⟨a, len', cap', zs, hcs, _, hl, hm, hz, hx, hcell, hwz⟩
  · simp [Value.cells] at hcs
    obtain ⟨rfl, rfl, rfl⟩ := hcs
    exact ⟨[], sli_nil, ⟨by simp [VOk], by simp [ren]⟩, .inl rfl⟩
  · simp [Value.cells] at hcs
    obtain ⟨rfl, rfl, rfl⟩ := hcs
    simp only [Prod.mk.injEq] at hx
    obtain ⟨rfl, rfl⟩ := hx
    simp only [if_true] at hz
    simp only [Value.okWide, ht, Cell.okWide, Cell.ok, World.has] at hval
    obtain ⟨_, _, _, hspot, row, cells, hshape, _⟩ := hval
    obtain ⟨b, o, spot⟩ := a
    simp only at hspot hshape
    subst hspot
    have hb : b < W.heap.size := by
      unfold World.shape? at hshape
      split at hshape
      · rename_i h
        exact (Array.getElem?_eq_some_iff.1 h).1
      · cases hshape
    have hlen : (zs.take len).length = len := by simp; omega
    have hcell' : ∀ i, i < zs.length → W.cell? ⟨b, o + i, none⟩ = some (vint (zs.getD i 0)) := by
      intro i hi
      have := hcell i hi
      unfold Addr.add at this
      by_cases h0 : i = 0
      · subst h0; simpa using this
      · simpa [h0] using this
    have hmax : cap < fz := by
      simp only [maxLen] at hm
      unfold fz
      omega
    refine ⟨zs.take len, ?_, ⟨by simp only [VOk, AddrOk]; exact ⟨hb, trivial⟩, ?_⟩, .inr ⟨_, _, rfl, ?_⟩⟩
    · refine ⟨some ⟨b, o, none⟩, cap, by rw [hlen], ⟨by simp, kn_ints _⟩, .inr ⟨b, o, rfl, ?_⟩⟩
      rw [hlen]
      by_cases h0 : len = 0
      · exact .inl h0
      · right
        have fine : ∀ n : Int, Fine W.heap.size (vint n) := fun n => ⟨by simp [VOk], rfl, by simp [ren]⟩
        obtain ⟨c, hc1, hc2⟩ := absH_cell (hcell' 0 (by omega)) (fine _)
        refine ⟨c, false, 0, hc1, ?_⟩
        apply List.ext_getElem?
        intro i
        rw [Nat.mul_one]
        by_cases hi : i < len
        · obtain ⟨c', hc1', hc2'⟩ := absH_cell (hcell' i (by omega)) (fine _)
          rw [hc1] at hc1'
          cases hc1'
          rw [List.getElem?_take, if_pos hi, List.getElem?_drop, hc2']
          have hzi : i < zs.length := by omega
          simp [hi, hzi]
        · rw [List.getElem?_take, if_neg hi, List.getElem?_eq_none (by simp; omega)]
    · have hnf : ¬ fz ≤ cap := by omega
      simp [ren, renAddr, renCap, idEnv, hnf]
    · simp only [lits, List.length_map, List.length_take, List.length_drop]
      omega
end
end Go.Proofs.Ytdgpacdknpahnaa

namespace Go.Proofs.Ytdgpacdknpahnaa
open Go.Conc Go.ChangeShapes Go.WideShapes Go.ChangeAt Go.RowKit Go.Proofs.Try
set_option maxRecDepth 100000
theorem lifted4 (os : Os) (started : os.Started) (H : Type) (enc : TypeId × Value → H) :
    ReturnsInLeavingWide {} checked os 4 .any (Rows.tallyAllSpec.pre6 enc prog f4 Rows.tallyAllRow.domain false) (Rows.tallyAllSpec.post enc prog f4 false true false false) := by
  refine returnsInLeavingWide_of_change_sized (C := checked) own started at4
    (ChangeSpec.witness6 (enc := enc) (C := checked) false ⟨#[], #[.slice none 0 0], []⟩ 8 (by kernel_rfl) (by kernel_rfl) (by kernel_rfl) (by kernel_rfl)) ?_
  intro W base args ds gs before hval0 hW _ hsz0 _
  have hsz : (DataW.weightsEach prog (f4.params.toList ++ Rows.tallyAllSpec.plain.varTypes prog) (ds ++ gs)).all (· ≤ reachBytes) = true := hsz0
  clear hsz0
  have hval : ∀ (j : Nat) t v, f4.params[j]? = some t → args[j]? = some v → Value.okWide prog W .any base t v := hval0
  have hW' := hW
  obtain ⟨p, q, hA0, hV, rfl, _, _⟩ := hW
  have hA : DataW.TrodAll enc prog W 0 (fun _ => true) true f4.params.toList args.toList ds p := hA0
  have hps : f4.params = #[22] := by kernel_rfl
  rw [hps] at hA hval hsz
  obtain ⟨v0, d0, rfl, rfl, h0⟩ := trodAll_one hA
  obtain ⟨rfl, rfl⟩ := trodVars_none hV
  have u3 : prog.underlying 3 = some (.int .i64) := by kernel_rfl
  have u22 : prog.underlying 22 = some (.slice 3) := by kernel_rfl
  have u4 : prog.underlying 4 = some .bool := by kernel_rfl
  have c3 : prog.cellsOf 3 = 1 := by kernel_rfl
  have b3 : prog.bytesOf 3 = 8 := by kernel_rfl
  have hlt : ∀ x ∈ p, x.block < W.heap.size := fun x hx => by simpa using hW'.lt x (by simpa using hx)
  have hargs : ∀ (W' : World), Below W.heap.size W W' → DataW.TrodAll enc prog W' 0 (fun b => decide (b < W.heap.size)) true [22] [v0] [d0] p := fun W' hn =>
    trodAll_mk1 (Below.trod laidOut (by kernel_rfl) (of_decide_eq_true (by kernel_rfl)) h0 hn hlt)
  obtain ⟨ns, sn, ok2, hbig⟩ := arg_ints u22 u3 c3 (hval 0 22 v0 rfl rfl) h0
  have hln : ns.length < 4611686018427387904 := by
    rcases hbig with rfl | ⟨es, sp, rfl, hle⟩
    · simp
    · have := sized_slice hsz (j := 0) (t := 22) (e := 3) rfl rfl u22
      rw [b3] at this
      simp only [reachBytes] at this
      omega
  obtain ⟨M, last, o, w', t', r1, r2, r3, r4⟩ := law_run (g := 4) (fn := f4) at4 body4 (by kernel_rfl) W [v0] (Nat.le_of_ble_eq_true (by kernel_rfl : Nat.ble 1 f4.ntmps = true))
    (by
      intro v hv
      simp only [List.mem_cons, List.not_mem_nil, or_false] at hv
      subst hv
      exact ok2)
    (fun J hJ => walk4 (K := fun v _ => v = .bool true) hJ sn hln fun _ => rfl)
  refine ⟨M, last, o, w', t', r1, r2, r3, r4.mono fun v hF => ?_⟩
  obtain ⟨rfl, hbelow⟩ := hF
  refine ⟨_, _, _, [], _, [], hW', ?_, hargs _ hbelow, by rfl, hbelow.frame _, fun h => by cases h⟩
  exact trodAll_mk1 (shut_bool u4 true)

theorem tallyAll_holds : Rows.TallyAllSaid :=
  OpenClaim.holds_of_wide_leaving 4 f4 rfl rfl rfl rfl rfl rfl rfl ⟨rfl, rfl, rfl, rfl, rfl⟩ rfl rfl rfl rfl rfl (by kernel_rfl) at4 (by kernel_rfl)
    (of_decide_eq_true (by kernel_rfl)) (by unfold Func.isWrapper; first | (rw [if_pos (by decide +kernel)]; kernel_rfl) | (rw [if_neg (by decide +kernel)]; exact ⟨rfl, rfl⟩))
    (fun os started H enc _ => lifted4 os started H enc)

#print axioms tallyAll_holds
end Go.Proofs.Ytdgpacdknpahnaa
