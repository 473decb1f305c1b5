/- TallyParts answers true at every input, and its argument reads behind the call as it read before. No conditions. -/
import Derived.Test.YtdgpacdknpahnaaK6
import Derived.Test.YtdgpacdknpahnaaK3
import Derived.Test.YtdgpacdknpahnaaK4
import Derived.Conc.Holds
import Derived.Conc.Beside
import Derived.Below
import Derived.Test.YtdgpacdknpahnaaK2
import Derived.Test.YtdgpacdknpahnaaRows
import Derived.Conc.LeavingOf
import Derived.ChangeSlices
import Derived.OpenShut
import Derived.Carry

/- Losses by parts. No conditions. -/
namespace Go.Proofs.Ytdgpacdknpahnaa
open Go.Conc Go.Proofs.Try
set_option maxRecDepth 100000

section
variable {t : Tal} {L : Nat → Rng}

theorem own_ok (f : TalFine t) {g : Nat} (hg : g < t.changes.length) {n m : Int} : (stretchR t g).has (m - n) ↔ (ownL t g n m).lo ≤ (ownL t g n m).hi := by
  have h1 := f.most
  have h2 := f.ch _ (List.getElem_mem hg)
  unfold stretchR ownL Rng.has Rng.plus
  rw [List.getElem?_eq_getElem hg]
  dsimp only [Option.getD]
  omega

/-- Each number can be reached from each gate before. -/
theorem conn (f : TalFine t) (hT : TruthIs t L) {a : Nat} : ∀ d, a + d < t.gates.toNat → ∀ m, (bkR t L (a + d)).has m → ∃ s, Sum t (bkR t L) a d m s
  | 0, _, m, hm => ⟨0, .base hm⟩
  | d + 1, hd, m, hm => by
    have hch := f.chl
    obtain ⟨n, h1, h2⟩ := bk_prev f hT (g := a + d) (by omega) hm
    obtain ⟨s, hs⟩ := conn f hT d (by omega) n h1
    have h3 := (own_ok f (by omega)).1 h2
    exact ⟨s + (ownL t (a + d) n m).lo, .step hs hm ⟨Int.le_refl _, h3⟩⟩

theorem Sum.up (f : TalFine t) (hT : TruthIs t L) {a d : Nat} {m s : Int} (h : Sum t (bkR t L) a d m s) : ∀ e, a + d + e < t.gates.toNat → ∃ m' s', Sum t (bkR t L) a (d + e) m' s' ∧ s ≤ s'
  | 0, _ => ⟨m, s, h, Int.le_refl _⟩
  | e + 1, he => by
    have hch := f.chl
    obtain ⟨m', s', h1, h2⟩ := h.up f hT e (by omega)
    obtain ⟨n, h3, h4⟩ := bk_next f hT (g := a + (d + e)) (by omega) h1.at
    have h5 := (own_ok f (by omega)).1 h4
    have h6 : (ownL t (a + (d + e)) m' n).has (ownL t (a + (d + e)) m' n).lo := ⟨Int.le_refl _, h5⟩
    have := own_bd h6
    exact ⟨n, s' + (ownL t (a + (d + e)) m' n).lo, .step h1 h3 h6, by omega⟩

theorem Sum.split {R : Nat → Rng} {a d1 : Nat} : ∀ {d2 : Nat} {m s : Int}, Sum t R a (d1 + d2) m s → ∃ n s1 s2, Sum t R a d1 n s1 ∧ Sum t R (a + d1) d2 m s2 ∧ s = s1 + s2
  | 0, m, s, h => ⟨m, s, 0, h, .base h.at, by omega⟩
  | d2 + 1, m, s, h => by
    cases h with
    | @step _ n _ s l h1 h2 h3 =>
      obtain ⟨n', s1, s2, a1, a2, a3⟩ := Sum.split h1
      refine ⟨n', s1, s2 + l, a1, .step a2 ?_ ?_, by omega⟩
      · rw [show a + d1 + d2 + 1 = a + (d1 + d2) + 1 from by omega]
        exact h2
      · rw [show a + d1 + d2 = a + (d1 + d2) from by omega]
        exact h3

theorem Sum.join (f : TalFine t) (hT : TruthIs t L) {a d1 d2 : Nat} {m s : Int} (hd : a + d1 < t.gates.toNat) (h : Sum t (bkR t L) (a + d1) d2 m s) : ∃ s', Sum t (bkR t L) a (d1 + d2) m s' ∧ s ≤ s' := by
  induction h with
  | base hm =>
    obtain ⟨s', h1⟩ := conn f hT d1 hd _ hm
    have := h1.bd
    exact ⟨s', h1, by omega⟩
  | @step d n m s l h1 h2 h3 ih =>
    obtain ⟨s', h4, h5⟩ := ih
    refine ⟨s' + l, .step h4 ?_ ?_, by omega⟩
    · have e : a + d1.add d + 1 = a + d1 + d + 1 := by
        show a + (d1 + d) + 1 = _
        omega
      rw [e]
      exact h2
    · have e : a + d1.add d = a + d1 + d := by
        show a + (d1 + d) = _
        omega
      rw [e]
      exact h3

/-- What Lost says, in truths. -/
theorem lost_all (f : TalFine t) (hT : TruthIs t (limA t 0)) {a b : Nat} (hab : a ≤ b) (hb : b < t.gates.toNat) :
    (∀ m s, Sum t (bkR t (limA t 0)) a (b - a) m s → (lostR t (bkR t (limA t 0)) a b).has s) ∧ (∃ m, Sum t (bkR t (limA t 0)) a (b - a) m (lostR t (bkR t (limA t 0)) a b).lo) ∧ (∃ m, Sum t (bkR t (limA t 0)) a (b - a) m (lostR t (bkR t (limA t 0)) a b).hi) := by
  have hg := f.gates
  refine lost_sem f (G := t.gates.toNat) (by omega) (bk_rsm f hT) hab hb fun m hm => conn f hT (b - a) (by omega) m ?_
  rw [show a + (b - a) = b from by omega]
  exact hm

theorem lost_one (f : TalFine t) (hT : TruthIs t (limA t 0)) {a b : Nat} (hab : a ≤ b) (hb : b < t.gates.toNat) :
    0 ≤ (lostR t (bkR t (limA t 0)) a b).lo ∧ (lostR t (bkR t (limA t 0)) a b).lo ≤ (lostR t (bkR t (limA t 0)) a b).hi ∧ (lostR t (bkR t (limA t 0)) a b).hi ≤ t.most * ((b : Int) - a) := by
  obtain ⟨h1, ⟨m1, h2⟩, ⟨m2, h3⟩⟩ := lost_all f hT hab hb
  have a1 := h1 _ _ h2
  have a2 := h2.bd
  have a3 := h3.bd
  have e : ((b - a : Nat) : Int) = (b : Int) - a := by omega
  rw [e] at a3
  unfold Rng.has at a1
  omega

theorem lost_parts (f : TalFine t) (hT : TruthIs t (limA t 0)) {a b c : Nat} (hab : a ≤ b) (hbc : b ≤ c) (hc : c < t.gates.toNat) :
    (lostR t (bkR t (limA t 0)) a b).lo + (lostR t (bkR t (limA t 0)) b c).lo ≤ (lostR t (bkR t (limA t 0)) a c).lo ∧ (lostR t (bkR t (limA t 0)) a c).hi ≤ (lostR t (bkR t (limA t 0)) a b).hi + (lostR t (bkR t (limA t 0)) b c).hi ∧
    (lostR t (bkR t (limA t 0)) a b).hi ≤ (lostR t (bkR t (limA t 0)) a c).hi ∧ (lostR t (bkR t (limA t 0)) b c).hi ≤ (lostR t (bkR t (limA t 0)) a c).hi := by
  obtain ⟨x1, ⟨_, x2⟩, ⟨_, x3⟩⟩ := lost_all f hT hab (by omega)
  obtain ⟨y1, ⟨_, y2⟩, ⟨my, y3⟩⟩ := lost_all f hT hbc hc
  obtain ⟨z1, ⟨_, z2⟩, ⟨_, z3⟩⟩ := lost_all f hT (Nat.le_trans hab hbc) hc
  have e1 : c - a = (b - a) + (c - b) := by omega
  have e2 : a + (b - a) = b := by omega
  rw [e1] at z1 z2 z3
  obtain ⟨_, s1, s2, p1, p2, p3⟩ := z2.split
  obtain ⟨_, u1, u2, q1, q2, q3⟩ := z3.split
  rw [e2] at p2 q2
  have a1 := x1 _ _ p1
  have a2 := y1 _ _ p2
  have a3 := x1 _ _ q1
  have a4 := y1 _ _ q2
  obtain ⟨_, v1, r1, r2⟩ := x3.up f hT (c - b) (by omega)
  have a5 := z1 _ _ r1
  have y3' : Sum t (bkR t (limA t 0)) (a + (b - a)) (c - b) my (lostR t (bkR t (limA t 0)) b c).hi := by rw [e2]; exact y3
  obtain ⟨v2, r3, r4⟩ := y3'.join f hT (by omega)
  have a6 := z1 _ _ r3
  unfold Rng.has at *
  omega

theorem lost_self (f : TalFine t) (hT : TruthIs t (limA t 0)) {a : Nat} (ha : a < t.gates.toNat) : (lostR t (bkR t (limA t 0)) a a).lo = 0 := by
  have := lost_one f hT (Nat.le_refl a) ha
  have e : t.most * ((a : Int) - a) = 0 := by rw [Int.sub_self, Int.mul_zero]
  omega
end

/-- The first gate with so many. -/
def dueN (l : Nat → Int) (many : Int) : Nat → Int
  | 0 => -1
  | b + 1 => if dueN l many b < 0 ∧ 1 ≤ b ∧ many ≤ l b then b else dueN l many b
theorem dueN_lt {l : Nat → Int} {many : Int} : ∀ n : Nat, -1 ≤ dueN l many n ∧ dueN l many n < n
  | 0 => by simp [dueN]
  | n + 1 => by
    have := dueN_lt (l := l) (many := many) n
    unfold dueN
    split <;> omega
theorem dueN_none {l : Nat → Int} {many : Int} : ∀ n : Nat, (∀ j, j < n → l j < many) → dueN l many n = -1
  | 0, _ => rfl
  | n + 1, h => by
    have ih := dueN_none n fun j hj => h j (by omega)
    have := h n (by omega)
    unfold dueN
    rw [if_neg (by omega), ih]
theorem dueN_at {l : Nat → Int} {many : Int} {g : Nat} (hg : 1 ≤ g) (h1 : ∀ j, j < g → l j < many) (h2 : many ≤ l g) : ∀ n : Nat, g < n → dueN l many n = g
  | n + 1, hn => by
    by_cases e : g = n
    · subst e
      have := dueN_none g h1
      unfold dueN
      rw [if_pos (by omega)]
    · have ih := dueN_at hg h1 h2 n (by omega)
      unfold dueN
      rw [if_neg (by omega), ih]
end Go.Proofs.Ytdgpacdknpahnaa

/- The statement's function TallyParts: it answers true. No conditions. -/
namespace Go.Proofs.Ytdgpacdknpahnaa
open Go.Conc Go.Proofs.Try
set_option maxRecDepth 100000

theorem eqB {a b : Bool} {K : Value → Prop} (hk : K (.bool (a == b))) : aBin prog .eql 4 (.bool a) (.bool b) K := by
  have e1 : teq prog 10000 4 (.bool a) (.bool b) = some (a == b) := by kernel_rfl
  have e2 : prog.eqGuardType prog.depth 4 = false := by kernel_rfl
  show aEq prog false 4 (.bool a) (.bool b) K
  unfold aEq
  rw [e1]
  exact ⟨e2, by simpa using hk⟩

section
variable {main : Bool} {J : JT} {h : List AObj} {K : Value → List AObj → Prop} {n0 : Nat}

theorem loopc9 (hJ : Closed prog main J) {H7 : List AObj} {t : Tal} {cv co : Value} {a b p4 px : Nat} {many at' e du : Int} {F1 : RG} {nx0 nx1 : RG → List AObj → Prop} (fine : TalFine t) (herr : talErr t = 0) (hT : TruthIs t (limA t 0)) (hab : a < b) (hb : (b : Int) < t.gates)
    (c7 : H7[px]? = some (.cells (lostR t (bkR t (limA t 0)) a b).cells true 0)) (c47 : H7[p4]? = some (.cells (talCells t cv co) true 0)) (tab : TalAt H7 (.agg ⟨talCells t cv co⟩) t cv co)
    (t0 : F1.ds = []) (t4 : F1.r 4 = ptr p4 0) (t5 : F1.r 5 = vint many) (t6 : F1.r 6 = vint at') (t7 : F1.r 7 = vint e) (t10 : F1.r 10 = vint du) (t11 : F1.r 11 = vint (a : Nat)) (t12 : F1.r 12 = vint (b : Nat)) (t13 : F1.r 13 = ptr px 0) (t15 : F1.r 15 = vint ((b : Int) + 1))
    (hx : ∀ H' f', SameX [] H7 H' → f'.ds = [] → f'.r 4 = ptr p4 0 → f'.r 5 = vint many → f'.r 6 = vint at' → f'.r 7 = vint e → f'.r 10 = vint du → f'.r 11 = vint (a : Nat) → f'.r 12 = vint ((b : Int) + 1) → nx1 f' H') :
    Sem J 192 n0 9 (subC [1, 1, 1, 1, 1, 1, 1, 0, 1, 0, 0, 1, 0, 0, 1, 0, 0, 1, 0, 0, 1, 1, 1, 1, 0] (codeOf f9)) F1 H7 (contQ prog J 192 n0 9 [1, 1, 1, 1, 1, 1, 1, 0, 1, 0, 0, 1, 0, 0, 1, 0, 0, 1, 0, 0, 1, 1, 1, 1, 0] (codeOf f9) [nx0, nx1] (RetQ prog [.tmp 2] n0 K)) := by
  have hmo := fine.most
  have hg := fine.gates
  have kt := talAt_kc tab
  refine l9_3 hJ (fun c : Nat => 7 - c) (fun c f H => SameX [] H7 H ∧ b < c ∧ (c : Int) ≤ t.gates ∧ f.ds = [] ∧ f.r 4 = ptr p4 0 ∧ f.r 5 = vint many ∧ f.r 6 = vint at' ∧ f.r 7 = vint e ∧ f.r 10 = vint du ∧ f.r 11 = vint (a : Nat) ∧ f.r 12 = vint (b : Nat) ∧ f.r 13 = ptr px 0 ∧ f.r 15 = vint (c : Nat)) ?_ (s := b + 1)
    (.inl ⟨SameX.refl, by omega, by omega, t0, t4, t5, t6, t7, t10, t11, t12, t13, by rw [t15]; congr 1⟩)
  rintro c f H8 ⟨S8, hbc, hc, hds, r4, r5, r6, r7, r10, r11, r12, r13, r15⟩ ok' hn'
  have c8 := S8.get c47 (by simp)
  have cx8 := S8.get c7 (by simp)
  have ta8 := talAt_same tab S8 (by simp)
  rw [s9_3]
  simp only [r4, r11, r12, r13, r15, hds]
  refine offI (ldI (v := vint t.gates) c8 rfl rfl (lssI (cndI (fun hlt3 => ?_) fun hge3 => addI (by omega) (hx H8 _ S8 hds r4 r5 r6 r7 r10 r11 rfl))))
  have hp := lost_parts fine hT (a := a) (b := b) (c := c) (by omega) (by omega) (by omega)
  have hxx := lost_one fine hT (a := a) (b := b) (by omega) (by omega)
  have hy := lost_one fine hT (a := b) (b := c) (by omega) (by omega)
  have hz := lost_one fine hT (a := a) (b := c) (by omega) (by omega)
  have hb0 : t.most * ((b : Int) - a) ≤ 60 * 5 := (mul_bd hmo.1 hmo.2 (by omega) (by omega)).2
  have hb1 : t.most * ((c : Int) - b) ≤ 60 * 5 := (mul_bd hmo.1 hmo.2 (by omega) (by omega)).2
  have hb2 : t.most * ((c : Int) - a) ≤ 60 * 5 := (mul_bd hmo.1 hmo.2 (by omega) (by omega)).2
  generalize lostR t (bkR t (limA t 0)) a b = x at *
  refine load_part (c := talCells t cv co) c8 (by rw [cs_val]; omega) rfl kt ?_
  refine good31 hJ (a := (b : Int)) (b := (c : Int)) ta8 (fun hne => absurd herr hne) (fun _ hx => (hx (by omega)).elim) (fun _ _ _ hx => absurd hx (by omega)) (fun _ _ _ _ hx => absurd hT hx) (fun _ _ _ _ _ => ext0 (ext1 ?_))
  rw [Int.toNat_natCast, Int.toNat_natCast]
  generalize lostR t (bkR t (limA t 0)) b c = y at *
  refine qAl fun H9 py e9 S9 c9 l9 => qStA (c := y.cells) c9 rfl rfl rfl fun H10 S10 c10 l10 => ?_
  have S810 : SameX [] H8 H10 := (SameX.refl.trans S9).thru S10 (by simp; omega)
  have c12 := S810.get c8 (by simp)
  refine load_part (c := talCells t cv co) c12 (by rw [cs_val]; omega) rfl kt ?_
  refine good31 hJ (a := (a : Int)) (b := (c : Int)) (talAt_same ta8 S810 (by simp)) (fun hne => absurd herr hne) (fun _ hx => (hx (by omega)).elim) (fun _ _ _ hx => absurd hx (by omega)) (fun _ _ _ _ hx => absurd hT hx) (fun _ _ _ _ _ => ext0 (ext1 ?_))
  rw [Int.toNat_natCast, Int.toNat_natCast]
  generalize lostR t (bkR t (limA t 0)) a c = zz at *
  refine qAl fun H11 pz e11 S11 c11 l11 => qStA (c := zz.cells) c11 rfl rfl rfl fun H12 S12 c13 l12 => ?_
  have S1012 : SameX [] H10 H12 := (SameX.refl.trans S11).thru S12 (by simp; omega)
  have d1 : H12[pz]? = some (.cells [vint zz.lo, vint zz.hi] true 0) := c13
  have d2 : H12[py]? = some (.cells [vint y.lo, vint y.hi] true 0) := S1012.get c10 (by simp)
  have d3 : H12[px]? = some (.cells [vint x.lo, vint x.hi] true 0) := S1012.get (S810.get cx8 (by simp)) (by simp)
  have SF : SameX [] H7 H12 := (S8.trans S810).trans S1012
  clear c13 c10 cx8 hx c7 c47 tab t0 t4 t5 t6 t7 t10 t11 t12 t13 t15
  have fin : True := trivial
  refine neqI (cndI (fun hx => absurd rfl hx) fun _ => neqI (cndI (fun hx => absurd rfl hx) fun _ => ?_))
  refine offI (ldI d1 rfl rfl (offI (ldI d3 rfl rfl (offI (ldI d2 rfl rfl (addI (by omega) (lssI (cndI (fun hx => absurd hx (by omega)) fun _ => ?_))))))))
  refine offI (ldI d1 rfl rfl (offI (ldI d3 rfl rfl (offI (ldI d2 rfl rfl (addI (by omega) (gtrI (cndI (fun hx => absurd hx (by omega)) fun _ => ?_))))))))
  refine offI (ldI d1 rfl rfl (offI (ldI d3 rfl rfl (lssI (cndI (fun hx => absurd hx (by omega)) fun _ => ?_)))))
  refine offI (ldI d1 rfl rfl (offI (ldI d2 rfl rfl (lssI (cndI (fun hx => absurd hx (by omega)) fun _ => ?_)))))
  refine addI (by omega) ⟨c + 1, by dsimp only; omega, .inl ⟨SF, by omega, by omega, hds, r4, r5, r6, r7, r10, r11, r12, r13, by show vint _ = vint _; congr 1⟩⟩

theorem walk9 (hJ : Closed prog main J) {nv : Value} {ns : List Int} (sn : Sli h nv 1 ns.length (ns.map vint)) (hln : ns.length < 4611686018427387904) (hK : ∀ h', K (.bool true) h') :
    W prog J 192 h.length 9 (codeOf f9) (RG.mk (regs [nv]) []) h (RetQ prog [.tmp 2] h.length K) := by
  rw [e9]
  have fin : ∀ {n0 : Nat} (H : List AObj), Good prog J 18 [] H fun v h' => retL n0 K [] [v] h' := fun H => good18 hJ (retL_same (by simp [unk]) (hK _))
  refine newX hJ sn hln fun H0 a0 => talY hJ a0 (by omega) (by omega) (by omega) fun t cv co o1 o2 H1 T S1 a1 O1 => ?_
  have fine := T.fine (by omega) (by omega)
  have herr := T.err (by omega) (by omega)
  have hg := fine.gates
  have hmo := fine.most
  have hla := a1.lt
  have ho1 := ownX_lt O1.ch
  have ho2 := ownX_lt O1.co
  refine qAl fun H2 p4 e2 S2 c2 l2 => qStA (c := talCells t cv co) c2 rfl rfl (tal_one O1.at) fun H3 S3 c3 l3 => ?_
  have S13 := (S2.weak0 (Y := [p4])).trans S3
  have a3 : HX h H3 ns 120 := (a1.mono (by omega)).same S13 (by simp; omega)
  have O3 := O1.same S13 (fun i hi => by have := ho1 i hi; simp; omega) (fun i hi => by have := ho2 i hi; simp; omega)
  refine upX hJ a3 (by omega) (by omega) fun many H4 m1 m2 S4 l4 a4 => ?_
  have O4 := O3.same S4 (fun i hi => by have := O3.b1 i hi; simp; omega) (fun i hi => by have := O3.b2 i hi; simp; omega)
  have c4 := S4.get c3 (by simp; omega)
  have kt := talAt_kc O4.at
  have ta4 := O4.at
  refine load_part (c := talCells t cv co) c4 (by rw [cs_val]; omega) rfl kt ?_
  by_cases hT : TruthIs t (limA t 0)
  rotate_left
  · refine good41 hJ ta4 (fun hne => absurd herr hne) (fun _ hx => absurd hx (by omega)) (fun _ _ _ => ext0 (ext1 ?_)) (fun _ _ hx => absurd hx hT) (fun _ _ hx => absurd hx hT)
    refine load_part (c := talCells t cv co) c4 (by rw [cs_val]; omega) rfl kt ?_
    refine good30 hJ ta4 (fun hne => absurd herr hne) (fun _ _ => ext0 (ext1 ?_)) (fun _ hx => absurd hx hT)
    (repeat' (first | exact fin _ | refine offI ?_ | refine nilI ?_ | refine ext0 ?_ | refine ext1 ?_ | (refine neqI (cndI (fun _ => ?_) fun _ => ?_) <;> try (exfalso; omega)) | (refine eqlI (cndI (fun _ => ?_) fun _ => ?_) <;> try (exfalso; omega)) | (refine lssI (cndI (fun _ => ?_) fun _ => ?_) <;> try (exfalso; omega)) | (refine leqI (cndI (fun _ => ?_) fun _ => ?_) <;> try (exfalso; omega)) | (refine gtrI (cndI (fun _ => ?_) fun _ => ?_) <;> try (exfalso; omega)) | (refine geqI (cndI (fun _ => ?_) fun _ => ?_) <;> try (exfalso; omega)) | refine cnd_true.2 ?_ | refine cnd_false.2 ?_ | refine ldI (by assumption) rfl rfl ?_ | refine addI (by omega) ?_ | refine subI (by omega) ?_ | refine mulI (by omega) ?_))
  -- a truth
  have l0 := lost_self fine hT (a := 0) (by omega)
  generalize hl : (fun j => (lostR t (bkR t (limA t 0)) 0 j).lo) = l at *
  have hlj : ∀ j, (lostR t (bkR t (limA t 0)) 0 j).lo = l j := fun j => by rw [← hl]
  have rest : ∀ at' e : Int, (many = 0 → e = 0 ∧ at' = 0) → (many ≠ 0 → (dueN l many t.gates.toNat < 0 → e = 11) ∧ (0 ≤ dueN l many t.gates.toNat → e = 0 ∧ at' = dueN l many t.gates.toNat)) → ∀ F : Value → Value → Value → Value → Value → List AObj → RG, (∀ x1 x2 x3 x4 x5 x6, (F x1 x2 x3 x4 x5 x6).ds = [] ∧ (F x1 x2 x3 x4 x5 x6).r 4 = ptr p4 0 ∧ (F x1 x2 x3 x4 x5 x6).r 5 = vint many ∧ (F x1 x2 x3 x4 x5 x6).r 6 = vint at' ∧ (F x1 x2 x3 x4 x5 x6).r 7 = vint e ∧ (F x1 x2 x3 x4 x5 x6).r 10 = vint (-1) ∧ (F x1 x2 x3 x4 x5 x6).r 11 = vint (0 : Nat)) →
      ∀ (A : Value → Value → Value → Value → Value → List AObj → Prop), aLoad true 6 (ptr p4 0) H4 fun v15 => Good prog J 30 [v15] H4 fun v16 h17 => aExt v16 0 fun v18 => aExt v16 1 fun v19 => aBin prog .neq 32 v19 (vint 0) fun v20 => cnd v20 (A v15 v16 v18 v19 v20 h17)
        (Sem J 192 h.length 9 (subC [1, 1, 1, 1, 1, 1, 1, 0, 1, 0] (codeOf f9)) (F v15 v16 v18 v19 v20 h17) h17 (contQ prog J 192 h.length 9 [1, 1, 1, 1, 1, 1, 1, 0, 1, 0] (codeOf f9) [] (RetQ prog [.tmp 2] h.length K))) := by
    intro at' e q1 q2 F hF A
    refine load_part (c := talCells t cv co) c4 (by rw [cs_val]; omega) rfl kt ?_
    refine good30 hJ ta4 (fun hne => absurd herr hne) (fun _ hx => absurd hT hx) (fun _ _ cc sz => ext0 (ext1 (neqI (cndI (fun hx => absurd rfl hx) fun _ => ?_))))
    have S5 : SameX [] H4 (H4 ++ [.cells ((trulyL t).flatMap Rng.cells) true sz]) := SameX.refl.app
    have hFF := hF (.agg ⟨talCells t cv co⟩) (.tuple ⟨[.slice (some ⟨H4.length, 0, none⟩) t.gates.toNat cc, vint 0]⟩) (.slice (some ⟨H4.length, 0, none⟩) t.gates.toNat cc) (vint 0) (.bool (decide ((0 : Int) ≠ 0))) (H4 ++ [.cells ((trulyL t).flatMap Rng.cells) true sz])
    generalize F _ _ _ _ _ _ = F0 at *
    generalize H4 ++ [AObj.cells ((trulyL t).flatMap Rng.cells) true sz] = H5 at *
    have ta5 := talAt_same ta4 S5 (by simp)
    have c5 := S5.get c4 (by simp)
    have hD := dueN_lt (l := l) (many := many) t.gates.toNat
    generalize hDD : dueN l many t.gates.toNat = D at *
    -- the three loops
    refine l9_1 hJ (fun a : Nat => 5 - a) (fun a f H => SameX [] H5 H ∧ (a : Int) ≤ t.gates ∧ f.ds = [] ∧ f.r 4 = ptr p4 0 ∧ f.r 5 = vint many ∧ f.r 6 = vint at' ∧ f.r 7 = vint e ∧ f.r 10 = vint (if a = 0 then -1 else D) ∧ f.r 11 = vint (a : Nat)) ?_ (s := 0)
      (.inl ⟨SameX.refl, by omega, hFF.1, hFF.2.1, hFF.2.2.1, hFF.2.2.2.1, hFF.2.2.2.2.1, hFF.2.2.2.2.2.1, hFF.2.2.2.2.2.2⟩)
    clear hF hFF
    rintro a f H ⟨S, ha, hds, r4, r5, r6, r7, r10, r11⟩ ok' hn'
    have ca := S.get c5 (by simp)
    rw [s9_1]
    simp only [r4, r5, r6, r7, r10, r11, hds]
    refine offI (ldI (v := vint t.gates) ca rfl rfl (lssI (cndI (fun hlt => addI (by omega) ?_) fun hge => ?_)))
    rotate_left
    · -- the end
      have ha0 : a ≠ 0 := by omega
      rw [if_neg ha0]
      refine eqlI (cndI (fun hm0 => ?_) fun hm0 => ?_)
      · obtain ⟨rfl, rfl⟩ := q1 hm0
        refine lssI (eqlI (eqB (cnd_true.2 (lssI (cnd_false.2 (eqlI (cnd_true.2 (eqlI (cnd_true.2 (fin _))))))))))
      · obtain ⟨q3, q4⟩ := q2 hm0
        by_cases hd : D < 0
        · have := q3 hd
          subst this
          refine lssI (eqlI (eqB ?_))
          have e1 : decide (D < 0) = true := decide_eq_true hd
          rw [e1]
          refine cnd_true.2 (lssI ?_)
          rw [e1]
          exact cnd_true.2 (cnd_true.2 (fin _))
        · obtain ⟨rfl, rfl⟩ := q4 (by omega)
          refine lssI (eqlI (eqB ?_))
          have e1 : decide (at' < 0) = false := decide_eq_false hd
          rw [e1]
          refine cnd_true.2 (lssI ?_)
          rw [e1]
          exact cnd_false.2 (eqlI (cnd_true.2 (eqlI (cndI (fun _ => fin _) fun hx => absurd rfl hx))))
    rw [show (a : Int) + 1 = ((a + 1 : Nat) : Int) from by omega]
    refine l9_2 hJ (fun b : Nat => 6 - b) (fun b f H => SameX [] H5 H ∧ a < b ∧ (b : Int) ≤ t.gates ∧ f.ds = [] ∧ f.r 4 = ptr p4 0 ∧ f.r 5 = vint many ∧ f.r 6 = vint at' ∧ f.r 7 = vint e ∧ f.r 10 = vint (if a = 0 then dueN l many b else D) ∧ f.r 11 = vint (a : Nat) ∧ f.r 12 = vint (b : Nat)) ?_ (s := a + 1)
      (.inl ⟨S, by omega, by omega, hds, r4, r5, r6, r7, ?_, r11, rfl⟩)
    rotate_left
    · show f.r 10 = _
      rw [r10]
      by_cases ha0 : a = 0
      · subst ha0
        rw [if_pos rfl, if_pos rfl]
        rfl
      · rw [if_neg ha0, if_neg ha0]
    clear r4 r5 r6 r7 r10 r11 hds ca S ok' hn'
    rintro b f H ⟨S, hab, hb, hds, r4, r5, r6, r7, r10, r11, r12⟩ ok' hn'
    have cb := S.get c5 (by simp)
    have tab := talAt_same ta5 S (by simp)
    rw [s9_2]
    simp only [r4, r5, r6, r7, r10, r11, r12, hds]
    refine offI (ldI (v := vint t.gates) cb rfl rfl (lssI (cndI (fun hlt2 => ?_) fun hge2 => addI (by omega) ?_)))
    rotate_left
    · refine ⟨a + 1, by dsimp only; omega, .inl ⟨S, by omega, hds, r4, r5, r6, r7, ?_, by show vint _ = vint _; congr 1⟩⟩
      show f.r 10 = _
      by_cases ha0 : a = 0
      · have : b = t.gates.toNat := by omega
        rw [r10, if_pos ha0, if_neg (show ¬ a + 1 = 0 by omega), this, hDD]
      · rw [r10, if_neg ha0, if_neg (show ¬ a + 1 = 0 by omega)]
    refine load_part (c := talCells t cv co) cb (by rw [cs_val]; omega) rfl kt ?_
    refine good31 hJ (a := (a : Int)) (b := (b : Int)) tab (fun hne => absurd herr hne) (fun _ hx => (hx (by omega)).elim) (fun _ _ _ hx => absurd hx (by omega)) (fun _ _ _ _ hx => absurd hT hx) (fun _ _ _ _ _ => ext0 (ext1 ?_))
    rw [Int.toNat_natCast, Int.toNat_natCast]
    have hx := lost_one fine hT (a := a) (b := b) (by omega) (by omega)
    have hpr : 0 ≤ t.most * ((b : Int) - a) ∧ t.most * ((b : Int) - a) ≤ 60 * 5 := mul_bd hmo.1 hmo.2 (by omega) (by omega)
    have hdb := dueN_lt (l := l) (many := many) b
    have hstep : dueN l many (b + 1) = if dueN l many b < 0 ∧ 1 ≤ b ∧ many ≤ l b then (b : Int) else dueN l many b := rfl
    have hx0 : a = 0 → (lostR t (bkR t (limA t 0)) a b).lo = l b := fun e => by rw [e, hlj]
    generalize hxx : lostR t (bkR t (limA t 0)) a b = x at *
    refine qAl fun H6 px e6 S6 c6 l6 => qStA (c := x.cells) c6 rfl rfl rfl fun H7 S7 c7 l7 => ?_
    have S67 : SameX [] H H7 := (SameX.refl.trans S6).thru S7 (by simp; omega)
    have c47 := S67.get cb (by simp)
    have inner : ∀ F1 : RG, F1.ds = [] → F1.r 4 = ptr p4 0 → F1.r 5 = vint many → F1.r 6 = vint at' → F1.r 7 = vint e → F1.r 10 = vint (if a = 0 then dueN l many (b + 1) else D) → F1.r 11 = vint (a : Nat) → F1.r 12 = vint (b : Nat) → F1.r 13 = ptr px 0 → F1.r 15 = vint ((b : Int) + 1) → _ := fun F1 t0 t4 t5 t6 t7 t10 t11 t12 t13 t15 =>
      loopc9 (nx0 := Nx h.length (fun a : Nat => 5 - a) (fun a f H => SameX [] H5 H ∧ (a : Int) ≤ t.gates ∧ f.ds = [] ∧ f.r 4 = ptr p4 0 ∧ f.r 5 = vint many ∧ f.r 6 = vint at' ∧ f.r 7 = vint e ∧ f.r 10 = vint (if a = 0 then -1 else D) ∧ f.r 11 = vint (a : Nat)) a) (nx1 := Nx h.length (fun b : Nat => 6 - b) (fun b f H => SameX [] H5 H ∧ a < b ∧ (b : Int) ≤ t.gates ∧ f.ds = [] ∧ f.r 4 = ptr p4 0 ∧ f.r 5 = vint many ∧ f.r 6 = vint at' ∧ f.r 7 = vint e ∧ f.r 10 = vint (if a = 0 then dueN l many b else D) ∧ f.r 11 = vint (a : Nat) ∧ f.r 12 = vint (b : Nat)) b)
        (n0 := h.length) (K := K) hJ fine herr hT hab (by omega) (by rw [hxx]; exact c7) c47 (talAt_same tab S67 (by simp)) (many := many) (at' := at') (e := e) (du := if a = 0 then dueN l many (b + 1) else D) t0 t4 t5 t6 t7 t10 t11 t12 t13 t15 fun H' f' S' u0 u4 u5 u6 u7 u10 u11 u12 => ⟨b + 1, by dsimp only; omega, .inl ⟨(S.trans S67).trans S', by omega, by omega, u0, u4, u5, u6, u7, u10, u11, by rw [u12]; congr 1⟩⟩
    have d3 : H7[px]? = some (.cells [vint x.lo, vint x.hi] true 0) := c7
    by_cases ha0 : a = 0
    · simp only [if_pos ha0]
      simp only [if_pos ha0] at inner r10
      have hxl := hx0 ha0
      (repeat' (first | exact fin _ | refine offI ?_ | refine nilI ?_ | refine ext0 ?_ | refine ext1 ?_ | (refine neqI (cndI (fun _ => ?_) fun _ => ?_) <;> try (exfalso; omega)) | (refine eqlI (cndI (fun _ => ?_) fun _ => ?_) <;> try (exfalso; omega)) | (refine lssI (cndI (fun _ => ?_) fun _ => ?_) <;> try (exfalso; omega)) | (refine leqI (cndI (fun _ => ?_) fun _ => ?_) <;> try (exfalso; omega)) | (refine gtrI (cndI (fun _ => ?_) fun _ => ?_) <;> try (exfalso; omega)) | (refine geqI (cndI (fun _ => ?_) fun _ => ?_) <;> try (exfalso; omega)) | refine cnd_true.2 ?_ | refine cnd_false.2 ?_ | refine ldI (by assumption) rfl rfl ?_ | refine addI (by omega) ?_ | refine subI (by omega) ?_ | refine mulI (by omega) ?_))
      all_goals first
        | (exfalso; omega)
        | (refine inner _ hds r4 r5 r6 r7 ?_ r11 r12 rfl rfl
           first
           | (show vint (b : Nat) = _; rw [hstep, if_pos (by omega)])
           | (show f.r 10 = _; rw [r10, hstep, if_neg (by omega)]))
    · simp only [if_neg ha0]
      simp only [if_neg ha0] at inner r10
      (repeat' (first | exact fin _ | refine offI ?_ | refine nilI ?_ | refine ext0 ?_ | refine ext1 ?_ | (refine neqI (cndI (fun _ => ?_) fun _ => ?_) <;> try (exfalso; omega)) | (refine eqlI (cndI (fun _ => ?_) fun _ => ?_) <;> try (exfalso; omega)) | (refine lssI (cndI (fun _ => ?_) fun _ => ?_) <;> try (exfalso; omega)) | (refine leqI (cndI (fun _ => ?_) fun _ => ?_) <;> try (exfalso; omega)) | (refine gtrI (cndI (fun _ => ?_) fun _ => ?_) <;> try (exfalso; omega)) | (refine geqI (cndI (fun _ => ?_) fun _ => ?_) <;> try (exfalso; omega)) | refine cnd_true.2 ?_ | refine cnd_false.2 ?_ | refine ldI (by assumption) rfl rfl ?_ | refine addI (by omega) ?_ | refine subI (by omega) ?_ | refine mulI (by omega) ?_))
      all_goals first
        | (exfalso; omega)
        | exact inner _ hds r4 r5 r6 r7 r10 r11 r12 rfl rfl
  refine good41 hJ ta4 (fun hne => absurd herr hne) (fun _ hx => absurd hx (by omega)) (fun _ _ hx => absurd hT hx) (fun _ _ _ g hgg h1 h2 => ext0 (ext1 ?_)) (fun _ _ _ h1 => ext0 (ext1 ?_))
  · simp only [hlj] at h1 h2
    have l00 : l 0 = 0 := by rw [← hlj]; exact l0
    refine rest g 0 (fun hm => ⟨rfl, ?_⟩) (fun hm => ?_) (fun _ _ _ _ _ _ => _) (fun _ _ _ _ _ _ => ⟨rfl, rfl, rfl, rfl, rfl, rfl, rfl⟩) (fun _ _ _ _ _ _ => _)
    · by_cases hg0 : g = 0
      · rw [hg0]; rfl
      · have := h1 0 (by omega)
        omega
    · have hg1 : 1 ≤ g := by
        by_cases hg0 : g = 0
        · rw [hg0] at h2
          omega
        · omega
      rw [dueN_at hg1 h1 h2 _ hgg]
      exact ⟨fun x => absurd x (by omega), fun _ => ⟨rfl, rfl⟩⟩
  · simp only [hlj] at h1
    have l00 : l 0 = 0 := by rw [← hlj]; exact l0
    refine rest 0 11 (fun hm => ?_) (fun hm => ?_) (fun _ _ _ _ _ _ => _) (fun _ _ _ _ _ _ => ⟨rfl, rfl, rfl, rfl, rfl, rfl, rfl⟩) (fun _ _ _ _ _ _ => _)
    · have := h1 0 (by omega)
      omega
    · rw [dueN_none _ h1]
      exact ⟨fun _ => rfl, fun x => absurd x (by omega)⟩
end
end Go.Proofs.Ytdgpacdknpahnaa

/- The whole machine: goroutine 0 beside goroutines that only leave, till the run's end. No conditions. -/
namespace Go.Proofs.Ytdgpacdknpahnaa
open Go.Conc
open Go.ConcN (sumTo upd sumTo_upd upd_ne upd_same)

def Ends (P : Program) (Post : Value → World → Prop) (m : Machine) (t : Trace) : Prop :=
  ∃ N last o w' t', runNT P (N + 1) m t = (.ended o w', t') ∧ runN P N m = .next last ∧ step P last = .ended o w' ∧ Go.Conc.Good P Post last o w' t'

/-- What no step of ours turns. -/
structure Base (W0 w : World) : Prop where
  tape : w.tape = W0.tape
  os : w.os = W0.os
  output : w.output = W0.output
  size : W0.heap.size ≤ w.heap.size

/-- From every machine in which goroutine 0 is g, and all others only leave, the run ends well. -/
def J1 (P : Program) (W0 : World) (Post : Value → World → Prop) (g : Goroutine) (w : World) (ft : Foot) : Prop :=
  ∀ (gs : Array Goroutine) (w₁ : World) (sl : Option (Nat × Nat)) (t : Trace) (q : Nat → Nat), (∀ b, ft.rd b → b < w₁.heap.size) → (∀ b, ft.wr b → ft.rd b) → RelyW ft w w₁ → Base W0 w₁ → gs[0]? = some g → Leavers P t gs q → Past (fun _ => False) w₁.heap.size t →
    Ends P Post (crowd gs w₁ sl) t

section
variable {P : Program} {W0 : World} {Post : Value → World → Prop} {g : Goroutine} {w w₁ : World} {ft : Foot}

theorem Ends.next {m m' : Machine} {t : Trace} {ops : Array MemOp} (hs : stepT P m = (.next m', ops)) (h : Ends P Post m' (t ++ ops)) : Ends P Post m t := by
  obtain ⟨n, last, o, w, t', h1, h2, h3, h4⟩ := h
  exact ⟨n + 1, last, o, w, t', by rw [runNT_succ_next hs]; exact h1, by rw [runN_succ_next hs]; exact h2, h3, h4⟩

theorem evL_of {e : Event} {B : Nat} (he : EvOk ft e) (hb : ∀ b, ft.rd b → b < B) : EvL (fun _ => False) B e := by
  obtain ⟨loc, wr, sync⟩ := e
  unfold EvOk at he
  refine ⟨fun x _ hs => hs.elim, ?_, ?_, ?_⟩
  · intro hl
    simp only at hl
    subst hl
    exact he
  · intro hl
    simp only at hl
    subst hl
    exact he
  · cases loc with
    | cell a => exact hb _ he.2.1
    | obj r =>
      have hs : sync = false := he.1
      subst hs
      have := hb _ he.2.1
      cases wr <;> exact this
    | mark m =>
      cases m <;> first | exact he.elim | trivial
    | output => trivial
    | goroutines => trivial

theorem mem_g {i : Nat} {fn : FuncId} {pos : String} {es : Array Event} {op : MemOp} (h : op ∈ MemOp.ofEvents i fn pos es) : op.g = i := by
  rw [ofEvents_eq] at h
  obtain ⟨e, he, rfl⟩ := Array.mem_map.1 h
  rfl

theorem relyW_at (ft : Foot) (w : World) (d : Nat) : RelyW ft w (w.at d) := ⟨fun _ _ => rfl, Nat.le_refl _, rfl, rfl, rfl⟩

/-- A step of goroutine 0's that ends the run, or goes on. -/
theorem J1.both (hrun : g.status = .running)
    (h : ∀ w₁, RelyW ft w w₁ → Base W0 w₁ → (∃ g' w' es, stepG P true g w₁ = .go g' w' es ∧ g'.status = .running ∧ GuarW ft w₁ w' es ∧ J1 P W0 Post g' w' (ft.ext w₁.heap.size w'.heap.size)) ∨
      ∃ v es, stepG P true g w₁ = .ended (.done v) w₁ es ∧ (∀ e ∈ es, EvOk ft e) ∧ Post v w₁) : J1 P W0 Post g w ft := by
  intro gs w₁ sl t q hbd hsub hrel hbase h0 hL hP
  generalize hM : sumTo gs.size q = M
  induction M using Nat.strongRecOn generalizing gs w₁ sl t q with
  | ind M ih =>
    have haw : ∀ g ∈ gs, awake g := by
      intro x hx
      obtain ⟨i, hi, rfl⟩ := Array.mem_iff_getElem.1 hx
      rcases Nat.eq_zero_or_pos i with rfl | hpos
      · have : gs[0] = g := by simpa [Array.getElem?_eq_getElem hi] using h0
        rw [this]; exact awake_of (.inl hrun)
      · exact awake_of ((hL.old i _ hpos (Array.getElem?_eq_getElem hi)).status.elim .inl fun x => .inr (.inr x))
    obtain ⟨i, x, d, sl', hi, hg, hst⟩ := crowd_pick (P := P) (w := w₁) (sl := sl) haw ⟨0, g, h0, hrun⟩
    rcases Nat.eq_zero_or_pos i with rfl | hpos
    · obtain rfl : x = g := by rw [h0] at hi; exact (Option.some.inj hi).symm
      rcases h (w₁.at d) (hrel.trans (relyW_at ft w₁ d)) ⟨hbase.tape, hbase.os, hbase.output, hbase.size⟩ with ⟨g', w', es, hgo, hrun', hgu, hJ⟩ | ⟨v, es, hend, hes, hpost⟩
      · have hrunT := runT_crowd_go (P := P) (sl := sl') (i := 0) hi (show stepG P (0 == 0) x (w₁.at d) = _ from hgo)
        have hsz : ((gs.map (woken P x g' w')).setIfInBounds 0 g').size = gs.size := by simp
        have hlt : 0 < gs.size := (Array.getElem?_eq_some_iff.1 h0).1
        have hw' : w₁.heap.size ≤ w'.heap.size := hgu.size
        refine Ends.next (hst.trans hrunT) ?_
        refine hJ _ w' sl' _ q (fun b hb => ?_) (fun b hb => ?_) (RelyW.refl _ _) ⟨hgu.tape.trans hbase.tape, hgu.os.trans hbase.os, hgu.output.trans hbase.output, Nat.le_trans hbase.size hgu.size⟩ (by simp [hlt]) ⟨fun j y hj hy => ?_, fun j hj => ?_⟩ ?_
        · rcases hb with hb | hb
          · exact Nat.lt_of_lt_of_le (hbd b hb) hw'
          · exact hb.2
        · rcases hb with hb | hb
          · exact .inl (hsub b hb)
          · exact .inr hb
        · have hne : 0 ≠ j := by omega
          rw [Array.getElem?_setIfInBounds_ne hne, Array.getElem?_map] at hy
          obtain ⟨z, hz, rfl⟩ := Option.map_eq_some_iff.1 hy
          have hq := hL.old j z hj hz
          rw [woken_quitsD hq, Deaf_other t (by omega) _ (fun op hop => mem_g hop)]
          exact hq
        · rw [Deaf_other t (g' := 0) (by simp at hj; omega) _ (fun op hop => mem_g hop)]
          exact hL.above j (by simpa using hj)
        · exact (hP.mono hw').own fun e he => evL_of (hgu.evs e he) fun b hb => Nat.lt_of_lt_of_le (hbd b hb) hw'
      · have hrunT := runT_many_ended (P := P) (sl := sl') (i := 0) hi (show stepG P (0 == 0) x (w₁.at d) = _ from hend)
        have hP' := hP.own (fn := x.frame.fn) (pos := x.frame.place) fun e he => evL_of (hes e he) hbd
        refine ⟨0, crowd gs w₁ sl, .done v, w₁.at d, _, by simp only [runNT, hst.trans hrunT], rfl, by simp [step, hst.trans hrunT], v, rfl, hpost, hP'.clean, hP'.over, ⟨fun y hy => ?_, rfl⟩, fun j y hy hj => ?_⟩
        · obtain ⟨j, hj⟩ := List.mem_iff_getElem?.1 hy
          rw [List.getElem?_drop] at hj
          exact ⟨_, (hL.old (1 + j) y (by omega) (by simpa [crowd] using hj)).leaves⟩
        · have hq := hL.old j y (by omega) hy
          refine ⟨q j, ?_⟩
          have e : (t ++ MemOp.ofEvents 0 x.frame.fn x.frame.place es).deaf j (t ++ MemOp.ofEvents 0 x.frame.fn x.frame.place es).size = Deaf t j :=
            Deaf_other t (g := j) (g' := 0) (by omega) _ (fun op hop => mem_g hop)
          rw [e]
          exact hq.hears _
    · have hq := hL.old i x hpos hi
      have hi0 : (i == 0) = false := by simp; omega
      have hlt : i < gs.size := (Array.getElem?_eq_some_iff.1 hi).1
      cases hqi : q i with
      | zero => rw [hqi] at hq; rw [hq.1] at hg; cases hg
      | succ k =>
        rw [hqi] at hq
        rcases hq with ⟨hf, _⟩ | ⟨_, g', es, hm, hstp, hq'⟩
        · rw [hf] at hg; cases hg
        have hrunT := runT_crowd_go (P := P) (sl := sl') (i := i) hi (by rw [hi0]; exact hstp (w₁.at d))
        have hsz : ((gs.map (woken P x g' (w₁.at d))).setIfInBounds i g').size = gs.size := by simp
        have hsum : sumTo gs.size (upd q i k) + (k + 1) = sumTo gs.size q + k := by
          have := sumTo_upd q k id hlt
          simpa [hqi] using this
        refine Ends.next (hst.trans hrunT) (ih (sumTo gs.size (upd q i k)) (by omega) _ (w₁.at d) sl' _ (upd q i k) hbd (hrel.trans (relyW_at ft w₁ d)) ⟨hbase.tape, hbase.os, hbase.output, hbase.size⟩ ?_ ⟨fun j y hj hy => ?_, fun j hj => ?_⟩ (hP.mute (by omega) hm) (by rw [hsz]))
        · have hne : i ≠ 0 := by omega
          rw [Array.getElem?_setIfInBounds_ne hne, Array.getElem?_map, h0]
          simp [woken_run hrun]
        · by_cases hji : i = j
          · subst hji
            rw [Array.getElem?_setIfInBounds_self_of_lt (by simpa using hlt)] at hy
            obtain rfl := Option.some.inj hy
            rw [upd_same, Deaf_own]
            exact hq'
          · rw [Array.getElem?_setIfInBounds_ne hji, Array.getElem?_map] at hy
            obtain ⟨z, hz, rfl⟩ := Option.map_eq_some_iff.1 hy
            have hqj := hL.old j z hj hz
            rw [woken_quitsD hqj, upd_ne q k (Ne.symm hji), Deaf_other t hji _ (fun op hop => mem_g hop)]
            exact hqj
        · rw [Deaf_other t (g' := i) (by simp at hj; omega) _ (fun op hop => mem_g hop)]
          exact hL.above j (by simpa using hj)

theorem J1.closed (P : Program) (W0 : World) (Post : Value → World → Prop) : Closed P true (J1 P W0 Post) where
  rely := fun h hr gs w₂ sl t q hbd hsub hrel hbase h0 hL hP => h gs w₂ sl t q hbd hsub (hr.trans hrel) hbase h0 hL hP
  step := fun hrun h => J1.both hrun fun w₁ h₁ _ => by
    obtain ⟨g', w', es, a, b, c, d⟩ := h w₁ h₁
    exact .inl ⟨g', w', es, a, b, c, d⟩
end
end Go.Proofs.Ytdgpacdknpahnaa

/- The run of a whole call, from the form of its function's body. No conditions. -/
namespace Go.Proofs.Ytdgpacdknpahnaa
open Go.Conc

section
variable {P : Program} {W0 : World} {Post : Value → World → Prop} {ρ : Env} {h : List AObj} {FC : Frm} {w : World} {ft : Foot} {f : RG} {a : Act} {b : FB} {K : Value → List AObj → Prop} {n0 : Nat}

theorem leave_top {fn : Func} (hk : b.kind = .normal) (hf : P.funcs[b.fn]? = some fn) (hin : P.inits.idxOf? b.fn = none)
    (hc : ∀ v h' ρ' w' ft' cv, K v h' → HRel ρ' h' FC w' ft' → Env.upto n0 ρ ρ' → n0 ≤ h'.length → VRel h'.length ρ' v cv → Base W0 w' → Post cv w') :
    ∀ (ds : List Nat) (h : List AObj) (w : World) (ft : Foot) (a : Act) (fr : Frame), fr.fn = b.fn → fr.kind = .normal → fr.mode = .returning → fr.tmps = a.tmps → fr.defers = ds.map (fun d => { target := .collected (ρ.blk d), args := #[] }) → RegRel h.length ρ f.r a.tmps → HRel ρ h FC w ft → n0 ≤ h.length →
      takeW ds h (fun h => resW P fn.results.toList f.r h fun vs => K (pack vs) h ∨ ∃ σ h' v, GC n0 σ h h' ∧ pack vs = sub σ v ∧ VOk h'.length v ∧ K v h') → J1 P W0 Post (G fr []) w ft
  | [], h, w, ft, a, fr, e1, e2, e3, e4, e5, hr, H, hn, hq => by
    obtain ⟨fn', tmps, todo, defers, mode, kind, ro⟩ := fr
    simp only at e1 e2 e3 e4 e5
    subst e1 e2 e3 e4 e5
    refine J1.both rfl fun w₁ h₁ hbase => .inr ?_
    have H₁ := H.rely h₁
    have hrun : RunsTo P (EvOk ft) (results fn a.tmps) w₁ fun cv w' => w' = w₁ ∧ ∃ vs, cv = ren ρ (pack vs) ∧ (∀ v ∈ vs, VOk h.length v) ∧ (K (pack vs) h ∨ ∃ σ h' v, GC n0 σ h h' ∧ pack vs = sub σ v ∧ VOk h'.length v ∧ K v h') := by
      unfold results
      have : (fn.results.mapM (resF a.tmps)) = List.toArray <$> fn.results.toList.mapM (resF a.tmps) := by
        rw [Array.mapM_eq_mapM_toList]
      show RunsTo P (EvOk ft) (do
        let vs ← fn.results.mapM (resF a.tmps)
        pure (if h : vs.size = 1 then vs[0] else .tuple vs)) w₁ _
      rw [this]
      refine RunsTo.bind (RunsTo.map (res_run (n := 0) H₁ hr fn.results.toList hq fun vs hvs hok => RunsTo.pure ⟨rfl, vs, ?_, hok, hvs⟩))
      exact pack_ren vs
    obtain ⟨cv, w', es, hr', he, rfl, vs, rfl, hvok, hvs⟩ := hrun #[] (by simp)
    have hes : ∀ e ∈ seen P b.fn es, EvOk ft e := fun e hm => he e (mem_seen hm)
    refine ⟨ren ρ (pack vs), seen P b.fn es, ?_, hes, ?_⟩
    · simp only [G, stepG, unwind, List.map_nil, hf, hr']
      simp [doReturn, GStep.after, hin]
    · rcases hvs with hK | ⟨σ, h', v, g, hp, hok, hK⟩
      · exact hc _ h _ w' ft _ hK H₁ (Env.upto_refl _ _) hn (.inr ⟨pack_ok hvok, rfl⟩) hbase
      · rw [hp, ren_sub]
        exact hc v h' _ w' ft _ hK (g.rel H₁) g.upto g.le (.inr ⟨hok, rfl⟩) hbase
  | d :: ds, h, w, ft, a, fr, e1, e2, e3, e4, e5, hr, H, hn, hq => by
    obtain ⟨fn', tmps, todo, defers, mode, kind, ro⟩ := fr
    simp only at e1 e2 e3 e4 e5
    subst e1 e2 e3 e4 e5
    obtain ⟨hd, hq⟩ := hq
    refine (J1.closed P W0 Post).step rfl fun w₁ h₁ => ?_
    have H₁ := H.rely h₁
    obtain ⟨cv, w', es, hr', he, rfl, H', hst, hsz⟩ := take_run (P := P) H₁ hd (Q := fun l w' => l = [] ∧ HRel ρ (h.set d .dead) FC w' ft ∧ Stays ft w₁ w' ∧ w'.heap.size = w₁.heap.size) (fun w' a1 a2 a3 => ⟨rfl, a1, a2, a3⟩) #[] (by simp)
    have hes : ∀ e ∈ seen P b.fn es, EvOk ft e := fun e hm => he e (mem_seen hm)
    refine ⟨G { fn := b.fn, tmps := a.tmps, todo := todo, defers := ds.map (fun d => { target := .collected (ρ.blk d), args := #[] }), mode := .returning, kind := .normal, roundOf := ro } [], w', seen P b.fn es, ?_, rfl, hst.guar hes, ?_⟩
    · simp only [G, stepG, unwind, List.map_cons, hr']
      simp [GStep.after]
    · rw [hsz, Foot.ext_self]
      exact leave_top hk hf hin hc ds _ w' ft a _ rfl rfl rfl rfl rfl (by rw [List.length_set]; exact hr) H' (by rw [List.length_set]; exact hn) hq

theorem top_of_W (hm : P.follows .mixedOrders = true) {g : FuncId} {fn : Func} (hf : P.funcs[g]? = some fn) {c : Code} (hb : fn.body = some c) (hin : P.inits.idxOf? g = none) {args : List Value} {cargs : Array Value} (ha : args.length ≤ fn.ntmps) (hl : cargs.size = args.length)
    (hr : ∀ i : Nat, VRel h.length ρ (args.getD i unk) (cargs.toList.getD i undef)) (H : HRel ρ h FC w ft)
    (hs : W P (J1 P W0 Post) fn.ntmps h.length g c ⟨regs args, []⟩ h (RetQ P fn.results.toList h.length K))
    (hc : ∀ v h' ρ' w' ft' cv, K v h' → HRel ρ' h' FC w' ft' → Env.upto h.length ρ ρ' → h.length ≤ h'.length → VRel h'.length ρ' v cv → Base W0 w' → Post cv w') : J1 P W0 Post (G (Frame.enter P g cargs .normal) []) w ft := by
  have hJ := J1.closed P W0 Post
  obtain ⟨cargs⟩ := cargs
  simp only at hl hr
  have he : Frame.enter P g ⟨cargs⟩ .normal = FB.at ⟨g, .normal, none⟩ ⟨⟨cargs⟩ ++ Array.replicate (fn.ntmps - cargs.length) undef, []⟩ [.code c] := by
    simp [Frame.enter, FB.at, hf, hb]
  rw [he]
  have A : ActRel h.length ρ fn.ntmps ⟨regs args, []⟩ ⟨⟨cargs⟩ ++ Array.replicate (fn.ntmps - cargs.length) undef, []⟩ := by
    refine ⟨fun t => ?_, by simp at hl ⊢; omega, rfl, by simp⟩
    have := hr t
    have ht : ((⟨cargs⟩ : Array Value) ++ Array.replicate (fn.ntmps - cargs.length) undef).getD t undef = cargs.getD t undef := by
      rw [Array.getD_eq_getD_getElem?, List.getD_eq_getElem?_getD]
      by_cases hx : t < cargs.length
      · rw [Array.getElem?_append_left (by simpa using hx)]
        simp
      · rw [Array.getElem?_append_right (by simp; omega), List.getElem?_eq_none (by omega)]
        simp only [Array.getElem?_replicate]
        split <;> rfl
    rw [ht]
    exact this
  have last : ∀ f' h' ρ' w' ft' a' todo, RetQ P fn.results.toList h.length K .ret f' h' → ActRel h'.length ρ' fn.ntmps f' a' → HRel ρ' h' FC w' ft' → Env.upto h.length ρ ρ' → h.length ≤ h'.length →
      J1 P W0 Post (G { (FB.at ⟨g, .normal, none⟩ a' todo) with mode := .returning } []) w' ft' := by
    intro f' h' ρ' w' ft' a' todo q A' H' hu hl
    exact leave_top (b := ⟨g, .normal, none⟩) (f := f') (n0 := h.length) (ρ := ρ') rfl hf hin (fun v h2 ρ2 w2 ft2 cv k H2 u2 l2 v2 => hc v h2 ρ2 w2 ft2 cv k H2 (Env.upto_trans hu u2) l2 v2) f'.ds h' w' ft' a' _ rfl rfl rfl rfl A'.defers A'.regs H' hl q
  refine W_sound hJ hm c hs ⟨g, .normal, none⟩ _ [] [] (fun jump a w ft => jump = some .ret ∧ ∀ todo, J1 P W0 Post (G { (FB.at ⟨g, .normal, none⟩ a todo) with mode := .returning } []) w ft) ρ FC w ft rfl (by simp) ?_ A H (Nat.le_refl _) ?_
  · rintro jump a w ft todo ⟨rfl, hj⟩ hh
    rcases hh with ⟨_, k, rfl⟩ | ⟨id, k, e, _⟩ | ⟨e, _⟩
    · exact hJ.ctrl rfl rfl (fun w => by simp [G, stepG, stepG.exec, FB.at]) (hj (.code .ret :: k))
    · cases e
    · cases e
  · intro e f' h' ρ' w' ft' a' q A' H' hu hl
    cases e with
    | normal => exact hJ.ctrl rfl rfl (fun w => by simp [G, stepG, stepG.exec, FB.at]) (last f' h' ρ' w' ft' a' [] q A' H' hu hl)
    | ret => exact ⟨rfl, fun todo => last f' h' ρ' w' ft' a' todo q A' H' hu hl⟩
    | exit id => exact q.elim
    | goto l => exact q.elim
    | panic l => exact q.elim
    | outgrown => exact q.elim

/-- The run from the call's beginning: goroutine 0 alone. -/
theorem run_of_J1 {g : Goroutine} {w : World} {ft : Foot} (h : J1 P W0 Post g w ft) (hb : ∀ b, ft.rd b → b < w.heap.size) (hs : ∀ b, ft.wr b → ft.rd b) (hw : W0 = w) : Ends P Post (solo g w) #[] := by
  rw [solo_eq_crowd]
  exact h #[g] w none #[] (fun _ => 0) hb hs (RelyW.refl _ _) (by subst hw; exact ⟨rfl, rfl, rfl, Nat.le_refl _⟩) rfl (leavers_one P g) (past_nil.mono (Nat.zero_le _))
end
end Go.Proofs.Ytdgpacdknpahnaa

/- The world at a call's beginning, as an abstract heap that is only read. No conditions. -/
namespace Go.Proofs.Ytdgpacdknpahnaa
open Go.Conc Go.RowKit

def idEnv : Env := ⟨fun b => b, fun _ => 0⟩
def startFt (w : World) : Foot := ⟨fun b => b < w.heap.size, fun _ => False⟩
def startFC (w : World) : Frm := ⟨fun b => w.heap[b]?, fun _ => False⟩

def Fine (n : Nat) (v : Value) : Prop := VOk n v ∧ one v = true ∧ ren idEnv v = v

open Classical in
noncomputable def clean (n : Nat) (v : Value) : Value := if Fine n v then v else unk

noncomputable def absO (n : Nat) : Obj → AObj
  | .cells c _ _ => .cells (c.toList.map (clean n)) false 0
  | _ => .dead

noncomputable def absH (w : World) : List AObj := w.heap.toList.map (absO w.heap.size)

section
variable {w w' : World} {n : Nat}

theorem clean_fine {v : Value} (h : Fine n v) : clean n v = v := by simp [clean, h]
theorem absH_len : (absH w).length = w.heap.size := by simp [absH]
theorem absH_get {b : Nat} : (absH w)[b]? = (w.heap[b]?).map (absO w.heap.size) := by simp [absH]

theorem absO_wrt (x : Obj) : (absO n x).wrt = false := by cases x <;> rfl

/-- At the beginning: all that is there lies in the world, and may be read. -/
theorem start_rel (w : World) : HRel idEnv (absH w) (startFC w) w (startFt w) where
  obj := fun b o hb => by
    rw [absH_get] at hb
    obtain ⟨x, hx, rfl⟩ := Option.map_eq_some_iff.1 hb
    show ORel (absH w).length idEnv b (absO w.heap.size x) w.heap[b]?
    rw [absH_len, hx]
    cases x with
    | cells c ty fr =>
      refine ⟨fun i v hv => ?_, fun _ => by simp, fun hz => absurd rfl hz, fun e => by cases e⟩
      rw [List.getElem?_map] at hv
      obtain ⟨u, hu, rfl⟩ := Option.map_eq_some_iff.1 hv
      by_cases hf : Fine w.heap.size u
      · rw [clean_fine hf]
        exact .inr ⟨hf.1, hf.2.1, by rw [hf.2.2]; simpa using hu⟩
      · exact .inl ⟨by simp [clean, hf], rfl⟩
    | _ => trivial
  inj := fun b b' o o' _ _ _ _ e => e
  rd := fun b o hb _ => by
    have : b < (absH w).length := (List.getElem?_eq_some_iff.1 hb).1
    rw [absH_len] at this
    exact this
  wr := fun b o hb hw => by
    rw [absH_get] at hb
    obtain ⟨x, hx, rfl⟩ := Option.map_eq_some_iff.1 hb
    rw [absO_wrt] at hw
    cases hw
  lt := fun b hb => hb
  sub := fun b hb => hb.elim
  kept := fun b o hb => by
    refine ⟨hb, ?_, fun a oa ha hw => ?_⟩
    · exact (Array.getElem?_eq_some_iff.1 hb).1
    · rw [absH_get] at ha
      obtain ⟨x, hx, rfl⟩ := Option.map_eq_some_iff.1 ha
      rw [absO_wrt] at hw
      cases hw
  keptW := fun b hb => hb.elim

/-- A cell of the world, as the abstract heap has it. -/
theorem absH_cell {b o : Nat} {v : Value} (hc : w.cell? ⟨b, o, none⟩ = some v) (hf : Fine w.heap.size v) : ∃ c, (absH w)[b]? = some (.cells c false 0) ∧ c[o]? = some v := by
  unfold World.cell? at hc
  simp only at hc
  split at hc
  · rename_i c ty fr hx
    refine ⟨c.toList.map (clean w.heap.size), by rw [absH_get, hx]; rfl, ?_⟩
    have hc' : c[o]? = some v := by simpa using hc
    rw [List.getElem?_map, Array.getElem?_toList, hc']
    simp [clean_fine hf]
  · cases hc

/-- At the end: below where the call began nothing has turned. -/
theorem below_of {ρ' : Env} {h' : List AObj} {ft' : Foot} (H : HRel ρ' h' (startFC w) w' ft') (B : Base w w') : Below w.heap.size w w' :=
  ⟨B.os, B.tape, B.output, B.size, fun k hk => by
    have : (startFC w).ob k = some w.heap[k] := by simp [startFC, hk]
    rw [(H.kept k _ this).1, Array.getElem?_eq_getElem hk]⟩
end
end Go.Proofs.Ytdgpacdknpahnaa

/- A statement's row, from the way through its function's text: a function that answers true and leaves what was there. No conditions. -/
namespace Go.Proofs.Ytdgpacdknpahnaa
open Go.Conc Go.ChangeShapes Go.WideShapes Go.ChangeAt Go.RowKit Go.Proofs.Try
set_option maxRecDepth 100000

theorem own : ownKnob prog.godebug = none := by kernel_rfl
theorem laidOut : laidOutB prog = true := by kernel_rfl

/-- What an argument has to be. -/
def ArgOk (W : World) (v : Value) : Prop := VOk W.heap.size v ∧ ren idEnv v = v

/-- The run of a whole call. -/
theorem law_run {g : FuncId} {fn : Func} {c : Code} (hf : prog.funcs[g]? = some fn) (hb : fn.body = some c) (hin : prog.inits.idxOf? g = none) (W₀ : World) (args : List Value) (ha : args.length ≤ fn.ntmps) (hok : ∀ v ∈ args, ArgOk W₀ v)
    (walk : ∀ J : JT, Closed prog true J → W prog J fn.ntmps (absH W₀).length g c ⟨regs args, []⟩ (absH W₀) (RetQ prog fn.results.toList (absH W₀).length fun v _ => v = .bool true)) :
    Ends prog (fun v w' => v = .bool true ∧ Below W₀.heap.size W₀ w') (solo (G (Frame.enter prog g ⟨args⟩ .normal) []) W₀) #[] := by
  refine run_of_J1 (W0 := W₀) (ft := startFt W₀) (top_of_W mixed hf hb hin ha rfl (fun i => ?_) (start_rel W₀) (walk _ (J1.closed prog W₀ _)) ?_) (fun b hb => hb) (fun b hb => hb.elim) rfl
  · show VRel (absH W₀).length idEnv (args.getD i unk) (args.getD i undef)
    simp only [List.getD_eq_getElem?_getD]
    cases hi : args[i]? with
    | none => exact .inl rfl
    | some v =>
      obtain ⟨h1, h2⟩ := hok v (List.mem_of_getElem? hi)
      exact .inr ⟨by rw [absH_len]; exact h1, h2.symm⟩
  · intro v h' ρ' w' ft' cv hv H' _ _ hcv hB
    subst hv
    refine ⟨?_, below_of H' hB⟩
    rcases hcv with e | ⟨_, e⟩
    · cases e
    · rw [e]
      rfl

theorem argOk_int {W : World} {k : IntKind} {n : Int} : ArgOk W (.int k n) := ⟨by simp [VOk], by simp [ren]⟩

section
variable {H : Type} {enc : TypeId × Value → H}

/-- An argument that is a list of numbers. -/
theorem arg_ints {t e : TypeId} (ht : prog.underlying t = some (.slice e)) (he : prog.underlying e = some (.int .i64)) (hc : prog.cellsOf e = 1) {W : World} {base : Nat} {v : Value} {d : DataW H} {ps : List MemPlace}
    (hval : Value.okWide prog W .any base t v) (hd : DataW.Trod enc prog W 0 (fun _ => true) true t v d ps) :
    ∃ zs : List Int, Sli (absH W) v 1 zs.length (zs.map vint) ∧ ArgOk W v ∧ (zs = [] ∨ ∃ es sp, d = .slice es sp ∧ zs.length ≤ es.length + sp.length) := by
  obtain ⟨a0, len, cap, rfl⟩ := okWide_slice ht hval
  obtain ⟨fuel, hf⟩ := hd
  rcases open_ints ht he hc hf with ⟨hcs, hx⟩ | ⟨a, len', cap', zs, hcs, _, hl, hm, hz, hx, hcell, hwz⟩
  · simp [Value.cells] at hcs
    obtain ⟨rfl, rfl, rfl⟩ := hcs
    exact ⟨[], sli_nil, ⟨by simp [VOk], by simp [ren]⟩, .inl rfl⟩
  · simp [Value.cells] at hcs
    obtain ⟨rfl, rfl, rfl⟩ := hcs
    simp only [Prod.mk.injEq] at hx
    obtain ⟨rfl, rfl⟩ := hx
    simp only [if_true] at hz
    simp only [Value.okWide, ht, Cell.okWide, Cell.ok, World.has] at hval
    obtain ⟨_, _, _, hspot, row, cells, hshape, _⟩ := hval
    obtain ⟨b, o, spot⟩ := a
    simp only at hspot hshape
    subst hspot
    have hb : b < W.heap.size := by
      unfold World.shape? at hshape
      split at hshape
      · rename_i h
        exact (Array.getElem?_eq_some_iff.1 h).1
      · cases hshape
    have hlen : (zs.take len).length = len := by simp; omega
    have hcell' : ∀ i, i < zs.length → W.cell? ⟨b, o + i, none⟩ = some (vint (zs.getD i 0)) := by
      intro i hi
      have := hcell i hi
      unfold Addr.add at this
      by_cases h0 : i = 0
      · subst h0; simpa using this
      · simpa [h0] using this
    have hmax : cap < fz := by
      simp only [maxLen] at hm
      unfold fz
      omega
    refine ⟨zs.take len, ?_, ⟨by simp only [VOk, AddrOk]; exact ⟨hb, trivial⟩, ?_⟩, .inr ⟨_, _, rfl, ?_⟩⟩
    · refine ⟨some ⟨b, o, none⟩, cap, by rw [hlen], ⟨by simp, kn_ints _⟩, .inr ⟨b, o, rfl, ?_⟩⟩
      rw [hlen]
      by_cases h0 : len = 0
      · exact .inl h0
      · right
        have fine : ∀ n : Int, Fine W.heap.size (vint n) := fun n => ⟨by simp [VOk], rfl, by simp [ren]⟩
        obtain ⟨c, hc1, hc2⟩ := absH_cell (hcell' 0 (by omega)) (fine _)
        refine ⟨c, false, 0, hc1, ?_⟩
        apply List.ext_getElem?
        intro i
        rw [Nat.mul_one]
        by_cases hi : i < len
        · obtain ⟨c', hc1', hc2'⟩ := absH_cell (hcell' i (by omega)) (fine _)
          rw [hc1] at hc1'
          cases hc1'
          rw [List.getElem?_take, if_pos hi, List.getElem?_drop, hc2']
          have hzi : i < zs.length := by omega
          simp [hi, hzi]
        · rw [List.getElem?_take, if_neg hi, List.getElem?_eq_none (by simp; omega)]
    · have hnf : ¬ fz ≤ cap := by omega
      simp [ren, renAddr, renCap, idEnv, hnf]
    · simp only [lits, List.length_map, List.length_take, List.length_drop]
      omega
end
end Go.Proofs.Ytdgpacdknpahnaa

namespace Go.Proofs.Ytdgpacdknpahnaa
open Go.Conc Go.ChangeShapes Go.WideShapes Go.ChangeAt Go.RowKit Go.Proofs.Try
set_option maxRecDepth 100000

theorem lifted9 (os : Os) (started : os.Started) (H : Type) (enc : TypeId × Value → H) :
    ReturnsInLeavingWide {} checked os 9 .any (Rows.tallyPartsSpec.pre6 enc prog f9 Rows.tallyPartsRow.domain false) (Rows.tallyPartsSpec.post enc prog f9 false true false false) := by
  refine returnsInLeavingWide_of_change_sized (C := checked) own started at9
    (ChangeSpec.witness6 (enc := enc) (C := checked) false ⟨#[], #[.slice none 0 0], []⟩ 8 (by kernel_rfl) (by kernel_rfl) (by kernel_rfl) (by kernel_rfl)) ?_
  intro W base args ds gs before hval0 hW _ hsz0 _
  have hsz : (DataW.weightsEach prog (f9.params.toList ++ Rows.tallyPartsSpec.plain.varTypes prog) (ds ++ gs)).all (· ≤ reachBytes) = true := hsz0
  clear hsz0
  have hval : ∀ (j : Nat) t v, f9.params[j]? = some t → args[j]? = some v → Value.okWide prog W .any base t v := hval0
  have hW' := hW
  obtain ⟨p, q, hA0, hV, rfl, _, _⟩ := hW
  have hA : DataW.TrodAll enc prog W 0 (fun _ => true) true f9.params.toList args.toList ds p := hA0
  have hps : f9.params = #[22] := by kernel_rfl
  rw [hps] at hA hval hsz
  obtain ⟨v0, d0, rfl, rfl, h0⟩ := trodAll_one hA
  obtain ⟨rfl, rfl⟩ := trodVars_none hV
  have u3 : prog.underlying 3 = some (.int .i64) := by kernel_rfl
  have u22 : prog.underlying 22 = some (.slice 3) := by kernel_rfl
  have u4 : prog.underlying 4 = some .bool := by kernel_rfl
  have c3 : prog.cellsOf 3 = 1 := by kernel_rfl
  have b3 : prog.bytesOf 3 = 8 := by kernel_rfl
  have hlt : ∀ x ∈ p, x.block < W.heap.size := fun x hx => by simpa using hW'.lt x (by simpa using hx)
  have hargs : ∀ (W' : World), Below W.heap.size W W' → DataW.TrodAll enc prog W' 0 (fun b => decide (b < W.heap.size)) true [22] [v0] [d0] p := fun W' hn =>
    trodAll_mk1 (Below.trod laidOut (by kernel_rfl) (of_decide_eq_true (by kernel_rfl)) h0 hn hlt)
  obtain ⟨ns, sn, ok2, hbig⟩ := arg_ints u22 u3 c3 (hval 0 22 v0 rfl rfl) h0
  have hln : ns.length < 4611686018427387904 := by
    rcases hbig with rfl | ⟨es, sp, rfl, hle⟩
    · simp
    · have := sized_slice hsz (j := 0) (t := 22) (e := 3) rfl rfl u22
      rw [b3] at this
      simp only [reachBytes] at this
      omega
  obtain ⟨M, last, o, w', t', r1, r2, r3, r4⟩ := law_run (g := 9) (fn := f9) at9 body9 (by kernel_rfl) W [v0] (Nat.le_of_ble_eq_true (by kernel_rfl : Nat.ble 1 f9.ntmps = true))
    (by
      intro v hv
      simp only [List.mem_cons, List.not_mem_nil, or_false] at hv
      subst hv
      exact ok2)
    (fun J hJ => walk9 (K := fun v _ => v = .bool true) hJ sn hln fun _ => rfl)
  refine ⟨M, last, o, w', t', r1, r2, r3, r4.mono fun v hF => ?_⟩
  obtain ⟨rfl, hbelow⟩ := hF
  refine ⟨_, _, _, [], _, [], hW', ?_, hargs _ hbelow, by rfl, hbelow.frame _, fun h => by cases h⟩
  exact trodAll_mk1 (shut_bool u4 true)

-- THE ROW
theorem tallyParts_holds : Rows.TallyPartsSaid :=
  OpenClaim.holds_of_wide_leaving 9 f9 rfl rfl rfl rfl rfl rfl rfl ⟨rfl, rfl, rfl, rfl, rfl⟩ rfl rfl rfl rfl rfl (by kernel_rfl) at9 (by kernel_rfl)
    (of_decide_eq_true (by kernel_rfl)) (by unfold Func.isWrapper; first | (rw [if_pos (by decide +kernel)]; kernel_rfl) | (rw [if_neg (by decide +kernel)]; exact ⟨rfl, rfl⟩))
    (fun os started H enc _ => lifted9 os started H enc)

#print axioms tallyParts_holds
end Go.Proofs.Ytdgpacdknpahnaa
