/- TallyLosses answers true at every input, and its arguments read behind the call as they read before. No conditions. -/
import Derived.Test.YtdgpacdknpahnaaK6
import Derived.Test.YtdgpacdknpahnaaK3
import Derived.Test.YtdgpacdknpahnaaK2
import Derived.Test.YtdgpacdknpahnaaK4
import Derived.Conc.Holds
import Derived.Conc.Beside
import Derived.Below
import Derived.Test.YtdgpacdknpahnaaRows
import Derived.Conc.LeavingOf
import Derived.ChangeSlices
import Derived.OpenShut
import Derived.Carry
import Derived.Deep.Slices

namespace Go.Proofs.Ytdgpacdknpahnaa
open Go.Conc Go.Proofs.Try
set_option maxRecDepth 100000
section
variable {main : Bool} {J : JT} {h h0 H : List AObj} {K : Value → List AObj → Prop} {KV : Value → Prop} {n0 : Nat}
noncomputable def chB (t : Tal) (g n : Nat) : Bool := decide (Ch t g n)

theorem Grid.more {v y : Value} {bs : List Nat} {o : Option Nat} {P : Nat → Nat → Bool} {pr : Nat} (G : Grid h H v bs o P) (hpr : H[pr]? = some (.cells (rowD (P bs.length)) true 0)) (hlt : ∀ b ∈ bs, b < pr) (hn : h.length ≤ pr) (ho : ∀ i, o = some i → i ≠ pr) (hl : bs.length < 1000) (hy : Sli H y 1 1 [rowV pr])
    (hk : ∀ v' H' p, SameX o.toList H H' → Grid h H' v' (bs ++ [pr]) (some p) P → K v' H') : aApp 1 v y H K := by
  refine ownX_more G.own (by omega) hl hy fun v' H' p e O S => ?_
  have hp := lt_of_get hpr
  have hno : ∀ b ∈ bs, b ∉ o.toList := fun b hb hm => by
    simp at hm
    exact (G.onew b hm).2 hb
  have hnp : pr ∉ o.toList := fun hm => by
    simp at hm
    exact ho pr hm rfl
  refine hk v' H' p S ⟨by simpa using O, fun j hj => ?_, fun i j hi hj hij => ?_, fun b hb => ?_, fun i hi => ?_⟩
  · rcases Nat.lt_or_ge j bs.length with x | x
    · rw [List.getElem_append_left x]
      exact S.get (G.rows j x) (hno _ (List.getElem_mem x))
    · have : j = bs.length := by
        simp at hj
        omega
      subst this
      simp only [List.getElem_concat_length]
      exact S.get hpr hnp
  · rcases Nat.lt_or_ge j bs.length with x | x
    · rw [List.getElem_append_left x, List.getElem_append_left (by omega)]
      exact G.inc i j _ _ hij
    · have : j = bs.length := by
        simp at hj
        omega
      subst this
      rw [List.getElem_append_left hij]
      simp only [List.getElem_concat_length]
      exact hlt _ (List.getElem_mem hij)
  · rcases List.mem_append.1 hb with hb | hb
    · exact G.new b hb
    · simp at hb
      omega
  · cases hi
    have := S.1
    refine ⟨by omega, fun hm => ?_⟩
    rcases List.mem_append.1 hm with hm | hm
    · have := G.lt p hm
      omega
    · simp at hm
      omega

theorem any107 (hJ : Closed prog main J) {v cv nv : Value} {t : Tal} {bs : List Nat} {o : Option Nat} {p1 pr g n : Nat} {F : RG} {nx0 nx1 : RG → List AObj → Prop} (fine : TalFine t) (hg : g + 1 < t.gates.toNat) (hb : bs.length = g + 1) (hn : n < 541)
    (G : Grid h H v bs o (chB t)) (c1 : H[p1]? = some (.cells (talCells t cv nv) true 0)) (ta : TalAt H (.agg ⟨talCells t cv nv⟩) t cv nv) (zr : H[pr]? = some (.cells (rowD fun j => if j < n then chB t (g + 1) j else false) true 0))
    (t0 : F.ds = []) (t1 : F.r 1 = ptr p1 0) (t3 : F.r 3 = v) (t4 : F.r 4 = vint ((g + 1 : Nat) : Int)) (t5 : F.r 5 = rowV pr) (t6 : F.r 6 = vint (n : Nat)) (t7 : F.r 7 = .bool false) (t9 : F.r 9 = vint (befHi t g n)) (t10 : F.r 10 = vint (befLo t g n))
    (hx : ∀ H' f', SameX [pr] H H' → H'[pr]? = some (.cells (rowD fun j => if j < n + 1 then chB t (g + 1) j else false) true 0) → f'.ds = [] → f'.r 1 = ptr p1 0 → f'.r 3 = v → f'.r 4 = vint ((g + 1 : Nat) : Int) → f'.r 5 = rowV pr → f'.r 6 = vint ((n : Int) + 1) → nx1 f' H') :
    Sem J 77 n0 107 (subC [1, 1, 0, 1, 0, 0, 1, 0, 0, 1, 0, 1, 0, 0, 1, 0, 0, 1, 0, 1, 0, 1, 1, 0] (codeOf f107)) F H (contQ prog J 77 n0 107 [1, 1, 0, 1, 0, 0, 1, 0, 0, 1, 0, 1, 0, 0, 1, 0, 0, 1, 0, 1, 0, 1, 1, 0] (codeOf f107) [nx0, nx1] (RetQ prog [.tmp 2] n0 K)) := by
  classical
  have hgt := fine.gates
  have hlo : 0 ≤ befLo t g n := by unfold befLo; omega
  have hhi : befHi t g n ≤ 540 := by unfold befHi; omega
  have kt := talAt_kc ta
  have hch : ∀ b : Bool, (b = decide (∃ q, befLo t g n ≤ q ∧ q ≤ befHi t g n ∧ Ch t g q)) → ∀ x : Bool, x = (b && decide (AllP t (g + 1 : Nat) n)) → x = chB t (g + 1) n := by
    rintro b rfl x rfl
    unfold chB
    rw [← Bool.decide_and, decide_eq_decide]
    show _ ↔ (0 ≤ (n : Int) ∧ (n : Int) ≤ 540) ∧ _ ∧ _
    exact ⟨fun ⟨a, b⟩ => ⟨by omega, a, b⟩, fun ⟨_, a, b⟩ => ⟨a, b⟩⟩
  have hset : ∀ x : Bool, x = chB t (g + 1) n → (rowD fun j => if j < n then chB t (g + 1) j else false).set n (.bool x) = rowD fun j => if j < n + 1 then chB t (g + 1) j else false := by
    rintro x rfl
    rw [rowD_set]
    refine rowD_congr fun j _ => ?_
    by_cases e : j = n
    · subst e
      rw [if_pos rfl, if_pos (by omega)]
    · rw [if_neg e]
      by_cases e2 : j < n
      · rw [if_pos e2, if_pos (by omega)]
      · rw [if_neg e2, if_neg (by omega)]
  refine l107_3 hJ (fun m : Int => (befHi t g n + 1 - m).toNat) (fun m f H' => H' = H ∧ befLo t g n ≤ m ∧ m ≤ max (befLo t g n) (befHi t g n + 1) ∧ f.ds = [] ∧ f.r 1 = ptr p1 0 ∧ f.r 3 = v ∧ f.r 4 = vint ((g + 1 : Nat) : Int) ∧ f.r 5 = rowV pr ∧ f.r 6 = vint (n : Nat) ∧ f.r 9 = vint (befHi t g n) ∧ f.r 10 = vint m ∧
      ∃ b : Bool, f.r 7 = .bool b ∧ (b = true ↔ ∃ q, befLo t g n ≤ q ∧ q < m ∧ Ch t g q)) ?_ (s := befLo t g n)
    (.inl ⟨rfl, Int.le_refl _, by omega, t0, t1, t3, t4, t5, t6, t9, t10, false, t7, by simp; intro q a b; omega⟩)
  rintro m f H' ⟨rfl, hm, hm2, hds, r1, r3, r4, r5, r6, r9, r10, b, r7, hbq⟩ ok' hn'
  rw [s107_3]
  simp only [r1, r3, r4, r5, r6, r7, r9, r10]
  -- what is found is stored
  have store : ∀ (x : Bool) (F' : Value → Value → List AObj → RG), x = chB t (g + 1) n → (∀ a c d, (F' a c d).ds = [] ∧ (F' a c d).r 1 = ptr p1 0 ∧ (F' a c d).r 3 = v ∧ (F' a c d).r 4 = vint ((g + 1 : Nat) : Int) ∧ (F' a c d).r 5 = rowV pr ∧ (F' a c d).r 6 = c) →
      aIdx 1 (rowV pr) (vint (n : Nat)) fun v15 => aStore 1 v15 (.bool x) H' fun h16 => aBin prog .add 3 (vint (n : Nat)) (vint 1) fun v17 => nx1 (F' v15 v17 h16) h16 := by
    intro x F' hxv hF
    refine idxI ⟨by omega, by omega⟩ ?_
    rw [Int.toNat_natCast, Nat.zero_add, Nat.mul_one]
    refine qSt zr (by rw [rowD_len]; omega) rfl rfl fun H2 S2 c2 l2 => addI (by omega) ?_
    rw [hset x hxv] at c2
    obtain ⟨a1, a2, a3, a4, a5, a6⟩ := hF (ptr pr n) (vint ((n : Int) + 1)) H2
    exact hx H2 _ S2 c2 a1 a2 a3 a4 a5 a6
  refine leqI (cndI (fun hle => ?_) fun hgt2 => ?_)
  · cases b with
    | false =>
      refine notI (cnd_true.2 (subI (by omega) ?_))
      rw [show ((g + 1 : Nat) : Int) - 1 = ((g : Nat) : Int) from by omega, show m = ((m.toNat : Nat) : Int) from by omega]
      refine G.read (j := g) (n := m.toNat) (by omega) (by omega) fun _ _ => addI (by omega) ?_
      refine ⟨m + 1, by dsimp only; omega, .inl ⟨rfl, by omega, by omega, hds, r1, r3, r4, r5, r6, r9, by show vint _ = vint _; congr 1; omega, _, rfl, ?_⟩⟩
      unfold chB
      rw [decide_eq_true_eq, show ((m.toNat : Nat) : Int) = m from by omega]
      refine ⟨fun h => ⟨m, hm, by omega, h⟩, fun ⟨q, q1, q2, q3⟩ => ?_⟩
      by_cases e : q = m
      · rw [← e]
        exact q3
      · exact absurd (hbq.2 ⟨q, q1, by omega, q3⟩) (by simp)
    | true =>
      obtain ⟨q, q1, q2, q3⟩ := hbq.1 rfl
      refine notI (cnd_false.2 (cnd_true.2 ?_))
      refine load_part (c := talCells t cv nv) c1 (by rw [cs_val]; omega) rfl kt ?_
      refine good94 hJ ta fine.cosm (by omega) ?_
      refine store _ (fun _ _ _ => _) (hch true ?_ _ (by rw [Bool.true_and])) fun _ _ _ => ⟨hds, r1, r3, r4, r5, rfl⟩
      rw [eq_comm, decide_eq_true_eq]
      exact ⟨q, q1, by omega, q3⟩
  · have hfin : b = decide (∃ q, befLo t g n ≤ q ∧ q ≤ befHi t g n ∧ Ch t g q) := by
      rw [← Bool.coe_iff_coe, hbq, decide_eq_true_eq]
      exact ⟨fun ⟨q, q1, q2, q3⟩ => ⟨q, q1, by omega, q3⟩, fun ⟨q, q1, q2, q3⟩ => ⟨q, q1, by omega, q3⟩⟩
    refine cnd_false.2 ?_
    cases b with
    | true =>
      refine cnd_true.2 (load_part (c := talCells t cv nv) c1 (by rw [cs_val]; omega) rfl kt ?_)
      refine good94 hJ ta fine.cosm (by omega) ?_
      exact store _ (fun _ _ _ => _) (hch true hfin _ (by rw [Bool.true_and])) fun _ _ _ => ⟨hds, r1, r3, r4, r5, rfl⟩
    | false =>
      refine cnd_false.2 ?_
      exact store _ (fun _ _ _ => _) (hch false hfin _ (by rw [Bool.false_and])) fun _ _ _ => ⟨hds, r1, r3, r4, r5, rfl⟩

theorem row107 (hJ : Closed prog main J) {v cv nv : Value} {t : Tal} {bs : List Nat} {o : Option Nat} {p1 pr g : Nat} {F : RG} {nx0 : RG → List AObj → Prop} (fine : TalFine t) (hg : g < t.gates.toNat) (hb : bs.length = g)
    (G : Grid h H v bs o (chB t)) (c1 : H[p1]? = some (.cells (talCells t cv nv) true 0)) (ta : TalAt h (.agg ⟨talCells t cv nv⟩) t cv nv) (SH : SameX [] h H) (zr : H[pr]? = some (.cells (rowD fun _ => false) true 0)) (hpr : h.length ≤ pr) (hbs : ∀ b ∈ bs, b < pr) (ho : ∀ i, o = some i → i ≠ pr) (hp1 : p1 < h.length)
    (t0 : F.ds = []) (t1 : F.r 1 = ptr p1 0) (t3 : F.r 3 = v) (t4 : F.r 4 = vint (g : Nat)) (t5 : F.r 5 = rowV pr) (t6 : F.r 6 = vint (0 : Nat))
    (hx : ∀ H' f' v' p, SameX (pr :: o.toList) H H' → Grid h H' v' (bs ++ [pr]) (some p) (chB t) → f'.ds = [] → f'.r 1 = ptr p1 0 → f'.r 3 = v' → f'.r 4 = vint ((g : Int) + 1) → nx0 f' H') :
    Sem J 77 n0 107 (subC [1, 1, 0, 1, 0, 0, 1, 0, 0, 1, 0, 1, 0] (codeOf f107)) F H (contQ prog J 77 n0 107 [1, 1, 0, 1, 0, 0, 1, 0, 0, 1, 0, 1, 0] (codeOf f107) [nx0] (RetQ prog [.tmp 2] n0 K)) := by
  have hgt := fine.gates
  have hch := fine.chl
  have kt := talAt_kc ta
  have hset : ∀ (n : Nat) (x : Bool), x = chB t g n → (rowD fun j => if j < n then chB t g j else false).set n (.bool x) = rowD fun j => if j < n + 1 then chB t g j else false := by
    rintro n x rfl
    rw [rowD_set]
    refine rowD_congr fun j _ => ?_
    by_cases e : j = n
    · subst e
      rw [if_pos rfl, if_pos (by omega)]
    · rw [if_neg e]
      by_cases e2 : j < n
      · rw [if_pos e2, if_pos (by omega)]
      · rw [if_neg e2, if_neg (by omega)]
  refine l107_2 hJ (fun n : Nat => 541 - n) (fun n f H' => SameX [pr] H H' ∧ n ≤ 541 ∧ H'[pr]? = some (.cells (rowD fun j => if j < n then chB t g j else false) true 0) ∧ f.ds = [] ∧ f.r 1 = ptr p1 0 ∧ f.r 3 = v ∧ f.r 4 = vint (g : Nat) ∧ f.r 5 = rowV pr ∧ f.r 6 = vint (n : Nat)) ?_ (s := 0)
    (.inl ⟨SameX.refl, by omega, zr, t0, t1, t3, t4, t5, t6⟩)
  rintro n f H' ⟨S, hn, zr', hds, r1, r3, r4, r5, r6⟩ ok' hn'
  have c1' := S.get c1 (by simp; omega)
  have SA : SameX [] h H' := SH.thru S (by simp; omega)
  have ta' := talAt_same ta SA (by simp)
  have G' := G.same S (fun b hb => by have := hbs b hb; simp; omega) (fun i hi => by have := ho i hi; simp; omega)
  rw [s107_2]
  simp only [r1, r3, r4, r5, r6]
  refine lssI (cndI (fun hlt => ?_) fun hge => ?_)
  · have hn541 : n < 541 := by omega
    -- a known value is stored
    have store : ∀ (x : Bool) (F' : Value → Value → List AObj → RG), x = chB t g n → (∀ a c d, (F' a c d).ds = [] ∧ (F' a c d).r 1 = ptr p1 0 ∧ (F' a c d).r 3 = v ∧ (F' a c d).r 4 = vint (g : Nat) ∧ (F' a c d).r 5 = rowV pr ∧ (F' a c d).r 6 = c) →
        aIdx 1 (rowV pr) (vint (n : Nat)) fun v15 => aStore 1 v15 (.bool x) H' fun h16 => aBin prog .add 3 (vint (n : Nat)) (vint 1) fun v17 => Nx n0 (fun n : Nat => 541 - n) (fun n f H' => SameX [pr] H H' ∧ n ≤ 541 ∧ H'[pr]? = some (.cells (rowD fun j => if j < n then chB t g j else false) true 0) ∧ f.ds = [] ∧ f.r 1 = ptr p1 0 ∧ f.r 3 = v ∧ f.r 4 = vint (g : Nat) ∧ f.r 5 = rowV pr ∧ f.r 6 = vint (n : Nat)) n (F' v15 v17 h16) h16 := by
      intro x F' hxv hF
      refine idxI ⟨by omega, by omega⟩ ?_
      rw [Int.toNat_natCast, Nat.zero_add, Nat.mul_one]
      refine qSt zr' (by rw [rowD_len]; omega) rfl rfl fun H2 S2 c2 l2 => addI (by omega) ?_
      rw [hset n x hxv] at c2
      obtain ⟨a1, a2, a3, a4, a5, a6⟩ := hF (ptr pr n) (vint ((n : Int) + 1)) H2
      exact ⟨n + 1, by dsimp only; omega, .inl ⟨S.trans S2, by omega, c2, a1, a2, a3, a4, a5, a6⟩⟩
    cases g with
    | zero =>
      refine eqlI (cndI (fun _ => ?_) fun hx => absurd rfl hx)
      refine offI (offI (ldI (v := vint t.first.lo) c1' rfl rfl (offI (offI (ldI (v := vint t.first.hi) c1' rfl rfl (good68 hJ (gtrI (cndI (fun hx => absurd hx (by omega)) fun _ => ?_))))))))
      have hc0 : ∀ x : Bool, x = (decide (t.first.lo ≤ (n : Int) ∧ (n : Int) ≤ t.first.hi) && decide (AllP t (0 : Nat) n)) → x = chB t 0 n := by
        rintro x rfl
        unfold chB
        rw [← Bool.decide_and, decide_eq_decide]
        exact Iff.rfl
      by_cases hin : t.first.lo ≤ (n : Int) ∧ (n : Int) ≤ t.first.hi
      · rw [decide_eq_true hin]
        refine cnd_true.2 (load_part (c := talCells t cv nv) c1' (by rw [cs_val]; omega) rfl kt ?_)
        refine good94 hJ ta' fine.cosm (by omega) ?_
        exact store _ (fun _ _ _ => _) (hc0 _ (by rw [decide_eq_true hin, Bool.true_and])) fun _ _ _ => ⟨hds, r1, r3, r4, r5, rfl⟩
      · rw [decide_eq_false hin]
        refine cnd_false.2 ?_
        exact store _ (fun _ _ _ => _) (hc0 _ (by rw [decide_eq_false hin, Bool.false_and])) fun _ _ _ => ⟨hds, r1, r3, r4, r5, rfl⟩
    | succ g =>
      refine eqlI (cndI (fun hx => absurd hx (by omega)) fun _ => gtrI (cndI (fun _ => ?_) fun hx => absurd (by omega) hx))
      refine load_part (c := talCells t cv nv) c1' (by rw [cs_val]; omega) rfl kt (subI (by omega) ?_)
      rw [show ((g + 1 : Nat) : Int) - 1 = ((g : Nat) : Int) from by omega]
      refine good112 hJ ta' fine (by omega) (by omega) (ext0 (ext1 ?_))
      refine any107 hJ fine hg hb hn541 G' c1' ta' zr' hds r1 r3 r4 r5 r6 rfl rfl rfl fun H2 f2 S2 z2 u0 u1 u3 u4 u5 u6 => ⟨n + 1, by dsimp only; omega, .inl ⟨S.trans S2, by omega, z2, u0, u1, u3, u4, u5, u6⟩⟩
  · have hn541 : n = 541 := by omega
    subst hn541
    have zfull : H'[pr]? = some (.cells (rowD (chB t bs.length)) true 0) := by
      rw [zr', hb]
      exact congrArg (fun c => some (AObj.cells c true 0)) (rowD_congr fun j hj => by rw [if_pos hj])
    refine ⟨by decide, fill1 rfl rfl (by decide) (fillI (qNew fun H2 p2 e2 S2 c2 l2 => ⟨by decide, ?_⟩))⟩
    have G2 := G'.same S2 (by simp) (by simp)
    refine G2.more (S2.get zfull (by simp)) hbs hpr ho (by omega) (ownX_sli (ownX_new (n := 1) c2 rfl rfl)) fun v' H3 p S3 G3 => addI (by omega) ?_
    refine hx H3 _ v' p ?_ G3 hds r1 rfl rfl
    exact ((S.weak (by simp)).thru S2 (by simp)).trans (S3.weak (by simp +contextual))

theorem good107 (hJ : Closed prog main J) {v cv nv : Value} {t : Tal} (ht : TalAt h v t cv nv) (fine : TalFine t)
    (hK : ∀ v' H bs o, SameX [] h H → Grid h H v' bs o (chB t) → bs.length = t.gates.toNat → K v' H) : Good prog J 107 [v] h K := by
  refine g107 hJ fun ok => ?_
  rw [e107, ht.val]
  have hgt := fine.gates
  refine qBox (tal_one ht) fun H1 p1 e1 S1 c1 l1 => ?_
  have t1 : TalAt H1 (.agg ⟨talCells t cv nv⟩) t cv nv := ⟨rfl, S1.sli ht.ch (by simp), S1.sli ht.co (by simp)⟩
  refine l107_1 hJ (fun g : Nat => 5 - g) (fun g f H => ∃ v' bs o, SameX [] H1 H ∧ Grid H1 H v' bs o (chB t) ∧ bs.length = g ∧ (g : Int) ≤ t.gates ∧ f.ds = [] ∧ f.r 1 = ptr p1 0 ∧ f.r 3 = v' ∧ f.r 4 = vint (g : Nat)) ?_ (s := 0)
    (.inl ⟨.slice none 0 0, [], none, SameX.refl, ⟨ownX_nil, by simp, by simp, by simp, by simp⟩, rfl, by omega, rfl, rfl, rfl, rfl⟩)
  rintro g f H ⟨v', bs, o, S, G, hb, hg, hds, r1, r3, r4⟩ ok' hn'
  rw [s107_1]
  simp only [r1, r3, r4, hds]
  have c1' := S.get c1 (by simp)
  refine offI (ldI (v := vint t.gates) c1' rfl rfl (lssI (cndI (fun hlt => ⟨by decide, ?_⟩) fun hge => ?_)))
  · show aMkS [.bool false] (vint ((541 : Nat) : Int)) (vint ((541 : Nat) : Int)) H _
    refine qMk (by omega) fun H2 pr e2 S2 c2 l2 => ?_
    rw [rowD_zero] at c2
    have hlt2 := G.lt
    have hol := ownX_lt G.own
    have hSl := S.1
    refine row107 hJ fine (by omega) hb (G.same S2 (by simp) (by simp)) (S2.get c1' (by simp)) t1 (S.trans S2) c2 (by omega) (fun b hb => by have := hlt2 b hb; omega) (fun i hi => by have := hol i hi; omega) (by omega) hds r1 r3 r4 rfl rfl fun H3 f3 v3 p S3 G3 u0 u1 u3 u4 => ?_
    refine ⟨g + 1, by dsimp only; omega, .inl ⟨v3, bs ++ [pr], some p, (S.trans S2).thru S3 ?_, G3, by simp [hb], by omega, u0, u1, u3, u4⟩⟩
    intro y hy
    right
    rcases List.mem_cons.1 hy with rfl | hy
    · omega
    · simp at hy
      exact (G.onew y hy).1
  · have hgG : g = t.gates.toNat := by omega
    refine retL_same ?_ (hK v' H bs o (S1.trans S) ⟨G.own, G.rows, G.inc, fun b hb => by have := G.new b hb; omega, fun i hi => by have := G.onew i hi; exact ⟨by omega, this.2⟩⟩ (by omega))
    intro x hx
    simp at hx
    subst hx
    intro e
    have := (ownX_val G.own).2.2
    rw [e] at this
    exact absurd this (by decide)

theorem good81 (hJ : Closed prog main J) {v cv nv : Value} {t : Tal} (ht : TalAt h v t cv nv) (fine : TalFine t) (hK : K (.bool (decide (TruthIs t (limA t 0)))) h) : Good prog J 81 [v] h K := by
  refine g81 hJ fun ok => ?_
  rw [e81, ht.val]
  have hgt := fine.gates
  have kt : kn (talCells t cv nv) = true := tal_kn (sli_one ht.ch).2.2 (sli_one ht.co).2.2
  refine qBox (tal_one ht) fun H1 p1 e1 S1 c1 l1 => load_part (c := talCells t cv nv) c1 (by rw [cs_val]; omega) rfl kt ?_
  have t1 : TalAt H1 (.agg ⟨talCells t cv nv⟩) t cv nv := ⟨rfl, S1.sli ht.ch (by simp), S1.sli ht.co (by simp)⟩
  refine good107 hJ t1 fine fun v' H2 bs o S2 G hb => ?_
  have S12 := S1.trans S2
  have c2 := S2.get c1 (by simp)
  have fin : ∀ b : Bool, b = decide (TruthIs t (limA t 0)) → retL h.length K [] [.bool b] H2 := fun b hb => by
    subst hb
    exact retX ok (Nat.le_refl _) S12 (by simp) (by simp [unk]) (by simp [pack, VOk]) hK
  refine l81_1 hJ (fun n : Nat => 541 - n) (fun n f H => H = H2 ∧ n ≤ 541 ∧ (∀ q : Nat, q < n → ¬ Ch t (t.gates.toNat - 1) q) ∧ f.ds = [] ∧ f.r 1 = ptr p1 0 ∧ f.r 3 = v' ∧ f.r 4 = vint (n : Nat)) ?_ (s := 0)
    (.inl ⟨rfl, by omega, by simp, rfl, rfl, rfl, rfl⟩)
  rintro n f H ⟨rfl, hn, hno, hds, r1, r3, r4⟩ ok' hn'
  rw [s81_1]
  simp only [r1, r3, r4, hds]
  refine lssI (cndI (fun hlt => ?_) fun hge => fin _ ?_)
  · refine offI (ldI (v := vint t.gates) c2 rfl rfl (subI (by omega) ?_))
    rw [show t.gates - 1 = ((t.gates.toNat - 1 : Nat) : Int) from by omega]
    refine G.read (j := t.gates.toNat - 1) (n := n) (by omega) (by omega) fun _ _ => ?_
    unfold chB
    refine cndI (fun hc => fin _ ?_) fun hc => addI (by omega) ?_
    · rw [eq_comm, decide_eq_true_eq, truth_iff fine]
      exact ⟨n, by omega, hc⟩
    · refine ⟨n + 1, by dsimp only; omega, .inl ⟨rfl, by omega, fun q hq => ?_, hds, r1, r3, rfl⟩⟩
      by_cases e : q = n
      · subst e
        exact hc
      · exact hno q (by omega)
  · rw [eq_comm, decide_eq_false_iff_not, truth_iff fine]
    rintro ⟨q, q1, q2⟩
    refine hno q.toNat (by omega) ?_
    rw [show ((q.toNat : Nat) : Int) = q from by omega]
    exact q2
end
end Go.Proofs.Ytdgpacdknpahnaa

namespace Go.Proofs.Ytdgpacdknpahnaa
open Go.Conc Go.Proofs.Try
set_option maxRecDepth 100000
noncomputable def bkB (t : Tal) (g n : Nat) : Bool := decide ((bkR t (limA t 0) g).has n)
noncomputable def midB (t : Tal) (s g n : Nat) : Bool := if g < s then chB t g n else bkB t g n
noncomputable def inB (t : Tal) (s k g n : Nat) : Bool := if g + 1 = s ∧ n < k then bkB t g n else midB t s g n

section
variable {main : Bool} {J : JT} {h h0 H : List AObj} {K : Value → List AObj → Prop} {KV : Value → Prop} {HL : List AObj → Prop} {n0 : Nat}
theorem Grid.congr {v : Value} {bs : List Nat} {o : Option Nat} {P P' : Nat → Nat → Bool} (G : Grid h H v bs o P) (hp : ∀ j n, j < bs.length → n < 541 → P j n = P' j n) : Grid h H v bs o P' :=
  ⟨G.own, fun j hj => by rw [G.rows j hj, rowD_congr fun n hn => hp j n hj hn], G.inc, G.new, G.onew⟩

theorem Grid.write {v : Value} {bs : List Nat} {o : Option Nat} {P : Nat → Nat → Bool} (G : Grid h H v bs o P) {j n : Nat} {x : Bool} (hj : j < bs.length) (hn : n < 541) {K2 : Value → Value → Value → List AObj → Prop}
    (hk : ∀ p q H', SameX [bs[j]] H H' → Grid h H' v bs o (fun a b => if a = j ∧ b = n then x else P a b) → K2 p (rowV bs[j]) q H') :
    aIdx 1 v (vint j) fun v4 => aLoad false 1 v4 H fun v5 => aIdx 1 v5 (vint n) fun v6 => aStore 1 v6 (.bool x) H fun h' => K2 v4 v5 v6 h' := by
  obtain ⟨h1, h2, ⟨h3, _, _⟩ | ⟨i, c, sz, rfl, rfl, h5, h6⟩⟩ := id G.own
  · omega
  · refine idxI ⟨by omega, by omega⟩ ?_
    rw [Int.toNat_natCast, Nat.zero_add]
    refine ldI (v := rowV bs[j]) h5 (by simp [hj]) rfl (idxI ⟨by omega, by omega⟩ ?_)
    rw [Int.toNat_natCast, Nat.zero_add, Nat.mul_one]
    refine qSt (G.rows j hj) (by rw [rowD_len]; omega) rfl rfl fun H' S c' l' => hk _ _ H' S ⟨ownX_keep G.own S ?_, fun a ha => ?_, G.inc, G.new, G.onew⟩
    · intro b hb hm
      simp at hm
      subst hm
      exact (G.onew _ hb).2 (List.getElem_mem hj)
    · by_cases e : a = j
      · subst e
        rw [c', rowD_set]
        congr 2
        refine rowD_congr fun q _ => ?_
        simp
      · have hne : bs[a] ≠ bs[j] := by
          rcases Nat.lt_or_ge a j with x | x
          · have := G.inc a j ha hj x
            omega
          · have := G.inc j a hj ha (by omega)
            omega
        rw [S.get (G.rows a ha) (by simpa using hne)]
        congr 2
        refine rowD_congr fun q _ => ?_
        rw [if_neg (fun x => e x.1)]

theorem any83 (hJ : Closed prog main J) {v : Value} {t : Tal} {bs : List Nat} {o : Option Nat} {p1 g n : Nat} {F : RG} {nx0 nx1 : RG → List AObj → Prop} (fine : TalFine t) (hT : TruthIs t (limA t 0)) (hg : g + 1 < t.gates.toNat) (hb : bs.length = t.gates.toNat) (hn : n < 541)
    (G : Grid h H v bs o (inB t (g + 1) n))
    (t0 : F.ds = []) (t1 : F.r 1 = ptr p1 0) (t3 : F.r 3 = v) (t4 : F.r 4 = vint (g : Nat)) (t5 : F.r 5 = vint (n : Nat)) (t6 : F.r 6 = .bool false) (t8 : F.r 8 = vint (behHi t g n)) (t9 : F.r 9 = vint (behLo t g n))
    (hx : ∀ H' f', (∃ b ∈ bs, SameX [b] H H') → Grid h H' v bs o (inB t (g + 1) (n + 1)) → f'.ds = [] → f'.r 1 = ptr p1 0 → f'.r 3 = v → f'.r 4 = vint (g : Nat) → f'.r 5 = vint ((n : Int) + 1) → nx1 f' H') :
    Sem J 65 n0 83 (subC [1, 1, 0, 1, 0, 0, 1, 0, 0, 1, 0, 0, 1, 0, 0, 1, 1, 0, 1, 0] (codeOf f83)) F H (contQ prog J 65 n0 83 [1, 1, 0, 1, 0, 0, 1, 0, 0, 1, 0, 0, 1, 0, 0, 1, 1, 0, 1, 0] (codeOf f83) [nx0, nx1] (RetQ prog [.tmp 2] n0 K)) := by
  have hgt := fine.gates
  have hg1 : -9223372036854775808 ≤ ((g : Nat) : Int) + 1 ∧ ((g : Nat) : Int) + 1 < 9223372036854775808 := by omega
  have hlo : 0 ≤ behLo t g n := by unfold behLo; omega
  have hhi : behHi t g n ≤ 540 := by unfold behHi; omega
  have hP0 : inB t (g + 1) n g n = chB t g n := by
    unfold inB midB
    rw [if_neg (by omega), if_pos (by omega)]
  have hP1 : ∀ m, inB t (g + 1) n (g + 1) m = bkB t (g + 1) m := fun m => by
    unfold inB midB
    rw [if_neg (by omega), if_neg (by omega)]
  have hfw := ch_fwd fine hT (g := g) (n := (n : Int)) (by omega)
  have hbk := bk_iff fine hT (g := g) (n := (n : Int)) hg
  refine l83_3 hJ (fun m : Int => (behHi t g n + 1 - m).toNat) (fun m f H' => H' = H ∧ behLo t g n ≤ m ∧ m ≤ max (behLo t g n) (behHi t g n + 1) ∧ f.ds = [] ∧ f.r 1 = ptr p1 0 ∧ f.r 3 = v ∧ f.r 4 = vint (g : Nat) ∧ f.r 5 = vint (n : Nat) ∧ f.r 8 = vint (behHi t g n) ∧ f.r 9 = vint m ∧
      (behLo t g n < m → Ch t g n) ∧ ∃ b : Bool, f.r 6 = .bool b ∧ (b = true ↔ ∃ q, behLo t g n ≤ q ∧ q < m ∧ (bkR t (limA t 0) (g + 1)).has q)) ?_ (s := behLo t g n)
    (.inl ⟨rfl, Int.le_refl _, by omega, t0, t1, t3, t4, t5, t8, t9, fun x => absurd x (by omega), false, t6, by simp; intro q a b; omega⟩)
  rintro m f H' ⟨rfl, hm, hm2, hds, r1, r3, r4, r5, r8, r9, hcg, b, r6, hbq⟩ ok' hn'
  rw [s83_3]
  simp only [r1, r3, r4, r5, r6, r8, r9]
  -- what is found is stored
  have store : ∀ (F' : Value → Value → Value → Value → List AObj → RG), b = bkB t g n → (∀ a c d e x, (F' a c d e x).ds = [] ∧ (F' a c d e x).r 1 = ptr p1 0 ∧ (F' a c d e x).r 3 = v ∧ (F' a c d e x).r 4 = vint (g : Nat) ∧ (F' a c d e x).r 5 = e) →
      aIdx 1 v (vint (g : Nat)) fun v13 => aLoad false 1 v13 H' fun v14 => aIdx 1 v14 (vint (n : Nat)) fun v15 => aStore 1 v15 (.bool b) H' fun h16 => aBin prog .add 3 (vint (n : Nat)) (vint 1) fun v17 => nx1 (F' v13 v14 v15 v17 h16) h16 := by
    intro F' hxv hF
    refine G.write (j := g) (n := n) (by omega) hn fun p q H2 S2 G2 => addI (by omega) ?_
    obtain ⟨a1, a2, a3, a4, a5⟩ := hF p (rowV bs[g]) q (vint ((n : Int) + 1)) H2
    refine hx H2 _ ⟨bs[g], List.getElem_mem _, S2⟩ (G2.congr fun j k _ _ => ?_) a1 a2 a3 a4 a5
    unfold inB
    by_cases e : j = g ∧ k = n
    · obtain ⟨rfl, rfl⟩ := e
      rw [if_pos ⟨rfl, rfl⟩, if_pos ⟨rfl, by omega⟩]
      exact hxv
    · rw [if_neg e]
      by_cases e2 : j + 1 = g + 1 ∧ k < n
      · rw [if_pos e2, if_pos ⟨e2.1, by omega⟩]
      · rw [if_neg e2, if_neg (fun x => by
          rcases Nat.lt_or_ge k n with y | y
          · exact e2 ⟨x.1, y⟩
          · exact e ⟨by omega, by omega⟩)]
  refine leqI (cndI (fun hle => ?_) fun hgt2 => ?_)
  · refine G.read (j := g) (n := n) (by omega) hn fun _ _ => ?_
    rw [hP0]
    unfold chB
    refine cndI (fun hc => ?_) fun hc => cnd_false.2 ?_
    · cases b with
      | false =>
        refine notI (cnd_true.2 (addI hg1 ?_))
        rw [show ((g : Nat) : Int) + 1 = ((g + 1 : Nat) : Int) from by omega, show m = ((m.toNat : Nat) : Int) from by omega]
        refine G.read (j := g + 1) (n := m.toNat) (by omega) (by omega) fun _ _ => addI (by omega) ?_
        rw [hP1]
        refine ⟨m + 1, by dsimp only; omega, .inl ⟨rfl, by omega, by omega, hds, r1, r3, r4, r5, r8, by show vint _ = vint _; congr 1; omega, fun _ => hc, _, rfl, ?_⟩⟩
        unfold bkB
        rw [decide_eq_true_eq, show ((m.toNat : Nat) : Int) = m from by omega]
        refine ⟨fun h => ⟨m, hm, by omega, h⟩, fun ⟨q, q1, q2, q3⟩ => ?_⟩
        by_cases e : q = m
        · rw [← e]
          exact q3
        · exact absurd (hbq.2 ⟨q, q1, by omega, q3⟩) (by simp)
      | true =>
        obtain ⟨q, q1, q2, q3⟩ := hbq.1 rfl
        refine notI (cnd_false.2 ?_)
        refine store (fun _ _ _ _ _ => _) ?_ fun _ _ _ _ _ => ⟨hds, r1, r3, r4, rfl⟩
        unfold bkB
        rw [eq_comm, decide_eq_true_eq, hbk]
        exact ⟨hfw.1 hc, q, q1, by omega, q3⟩
    · have hb0 : b = false := by
        cases b with
        | false => rfl
        | true =>
          obtain ⟨q, q1, q2, q3⟩ := hbq.1 rfl
          exact absurd (hcg (by omega)) hc
      refine store (fun _ _ _ _ _ => _) ?_ fun _ _ _ _ _ => ⟨hds, r1, r3, r4, rfl⟩
      unfold bkB
      rw [hb0, eq_comm, decide_eq_false_iff_not, hbk]
      exact fun x => hc (hfw.2 x.1)
  · refine cnd_false.2 (cnd_false.2 ?_)
    refine store (fun _ _ _ _ _ => _) ?_ fun _ _ _ _ _ => ⟨hds, r1, r3, r4, rfl⟩
    unfold bkB
    rw [← Bool.coe_iff_coe, hbq, decide_eq_true_eq, hbk]
    constructor
    · rintro ⟨q, q1, q2, q3⟩
      exact ⟨hfw.1 (hcg (by omega)), q, q1, by omega, q3⟩
    · rintro ⟨_, q, q1, q2, q3⟩
      exact ⟨q, q1, by omega, q3⟩

theorem good83 (hJ : Closed prog main J) {v cv nv : Value} {t : Tal} (ht : TalAt h v t cv nv) (fine : TalFine t) (hT : TruthIs t (limA t 0))
    (hK : ∀ v' H bs o, SameX [] h H → Grid h H v' bs o (bkB t) → bs.length = t.gates.toNat → K v' H) : Good prog J 83 [v] h K := by
  refine g83 hJ fun ok => ?_
  rw [e83, ht.val]
  have hgt := fine.gates
  have hch := fine.chl
  have kt : kn (talCells t cv nv) = true := tal_kn (sli_one ht.ch).2.2 (sli_one ht.co).2.2
  refine qBox (tal_one ht) fun H1 p1 e1 S1 c1 l1 => load_part (c := talCells t cv nv) c1 (by rw [cs_val]; omega) rfl kt ?_
  have t1 : TalAt H1 (.agg ⟨talCells t cv nv⟩) t cv nv := ⟨rfl, S1.sli ht.ch (by simp), S1.sli ht.co (by simp)⟩
  refine good107 hJ t1 fine fun v' H2 bs o S2 G hb => ?_
  have c2 := S2.get c1 (by simp)
  refine offI (ldI (v := vint t.gates) c2 rfl rfl (subI (by omega) ?_))
  have Gs : Grid H1 H2 v' bs o (midB t (t.gates.toNat - 1)) := G.congr fun j n hj hn => by
    unfold midB
    split
    · rfl
    · have : j = t.gates.toNat - 1 := by omega
      subst this
      unfold chB bkB
      rw [decide_eq_decide, ch_fwd fine hT (by omega), bkR_last (by omega)]
  have nin : ∀ b ∈ bs, b ≠ p1 := fun b hb => by have := G.new b hb; omega
  refine l83_1 hJ (fun s : Nat => s) (fun s f H => SameX [] H1 H ∧ s < t.gates.toNat ∧ Grid H1 H v' bs o (midB t s) ∧ H[p1]? = some (.cells (talCells t cv nv) true 0) ∧ f.ds = [] ∧ f.r 1 = ptr p1 0 ∧ f.r 3 = v' ∧ f.r 4 = vint ((s : Int) - 1)) ?_ (s := t.gates.toNat - 1)
    (.inl ⟨S2, by omega, Gs, c2, rfl, rfl, rfl, by show vint _ = vint _; congr 1; omega⟩)
  clear Gs G c2 S2
  rintro s f H ⟨S, hs, G, c2, hds, r1, r3, r4⟩ ok' hn'
  rw [s83_1]
  simp only [r1, r3, r4, hds]
  refine geqI (cndI (fun hge => ?_) fun hlt => ?_)
  rotate_left
  · have hs0 : s = 0 := by omega
    subst hs0
    refine retL_same ?_ (hK v' H bs o (S1.trans S) ?_ hb)
    · intro x hx
      simp at hx
      subst hx
      intro e
      have := (ownX_val G.own).2.2
      rw [e] at this
      exact absurd this (by decide)
    · have G' := G.congr (P' := bkB t) fun j n _ _ => by unfold midB; rw [if_neg (by omega)]
      exact ⟨G'.own, G'.rows, G'.inc, fun b hb => by have := G'.new b hb; omega, fun i hi => by have := G'.onew i hi; exact ⟨by omega, this.2⟩⟩
  obtain ⟨g, rfl⟩ : ∃ g, s = g + 1 := ⟨s - 1, by omega⟩
  rw [show ((g + 1 : Nat) : Int) - 1 = (g : Nat) from by omega]
  refine l83_2 hJ (fun n : Nat => 541 - n) (fun n f H => SameX [] H1 H ∧ n ≤ 541 ∧ Grid H1 H v' bs o (inB t (g + 1) n) ∧ H[p1]? = some (.cells (talCells t cv nv) true 0) ∧ f.ds = [] ∧ f.r 1 = ptr p1 0 ∧ f.r 3 = v' ∧ f.r 4 = vint (g : Nat) ∧ f.r 5 = vint (n : Nat)) ?_ (s := 0)
    (.inl ⟨S, by omega, G.congr fun j n _ _ => by unfold inB; rw [if_neg (by omega)], c2, hds, r1, r3, by show f.r 4 = _; rw [r4]; congr 1; omega, rfl⟩)
  clear G c2 S r1 r3 r4 hds ok' hn'
  rintro n f H ⟨S, hn, G, c2, hds, r1, r3, r4, r5⟩ ok' hn'
  rw [s83_2]
  simp only [r1, r3, r4, r5]
  refine lssI (cndI (fun hlt => ?_) fun hge => subI (by omega) ?_)
  · refine load_part (c := talCells t cv nv) c2 (by rw [cs_val]; omega) rfl kt ?_
    refine good108 hJ (talAt_same t1 S (by simp)) fine (by omega) (by omega) (ext0 (ext1 ?_))
    refine any83 hJ fine hT hs hb (by omega) G hds r1 r3 r4 r5 rfl rfl rfl fun H3 f3 ⟨b, hbm, S3⟩ G3 u0 u1 u3 u4 u5 => ?_
    refine ⟨n + 1, by dsimp only; omega, .inl ⟨S.thru S3 (by have := G.new b hbm; simp; omega), by omega, G3, S3.get c2 (by have := nin b hbm; simp; omega), u0, u1, u3, u4, u5⟩⟩
  · refine ⟨g, by dsimp only; omega, .inl ⟨S, by omega, G.congr fun j k hj hk => ?_, c2, hds, r1, r3, rfl⟩⟩
    unfold inB midB
    by_cases e : j = g
    · subst e
      rw [if_pos ⟨rfl, by omega⟩, if_neg (by omega)]
    · rw [if_neg (fun x => e (by omega))]
      by_cases e2 : j < g
      · rw [if_pos (by omega), if_pos e2]
      · rw [if_neg (by omega), if_neg e2]

def seenR (r : Rng) (n : Nat) : Rng := if (n : Int) ≤ r.lo then ⟨-1, 0⟩ else ⟨r.lo, min ((n : Int) - 1) r.hi⟩

theorem good82 (hJ : Closed prog main J) {v cv nv : Value} {t : Tal} (ht : TalAt h v t cv nv) (fine : TalFine t) (hT : TruthIs t (limA t 0))
    (hK : ∀ v' H o, SameX [] h H → OwnX H 2 ((trulyL t).flatMap Rng.cells) (trulyL t).length v' o → K v' H) : Good prog J 82 [v] h K := by
  refine g82 hJ fun ok => ?_
  rw [e82, ht.val]
  have hgt := fine.gates
  have hR := bk_rsm fine hT
  have kt : kn (talCells t cv nv) = true := tal_kn (sli_one ht.ch).2.2 (sli_one ht.co).2.2
  refine qBox (tal_one ht) fun H1 p1 e1 S1 c1 l1 => load_part (c := talCells t cv nv) c1 (by rw [cs_val]; omega) rfl kt ?_
  have t1 : TalAt H1 (.agg ⟨talCells t cv nv⟩) t cv nv := ⟨rfl, S1.sli ht.ch (by simp), S1.sli ht.co (by simp)⟩
  refine good83 hJ t1 fine hT fun v' H2 bs o S2 G hb => ?_
  have c2 := S2.get c1 (by simp)
  have S12 := S1.trans S2
  refine l82_1 hJ (fun g : Nat => 5 - g) (fun g f H => ∃ lv q, SameX [] H2 H ∧ (g : Int) ≤ t.gates ∧ OwnX H 2 (((trulyL t).take g).flatMap Rng.cells) g lv q ∧ (∀ i, q = some i → H2.length ≤ i) ∧ f.ds = [] ∧ f.r 1 = ptr p1 0 ∧ f.r 3 = lv ∧ f.r 4 = v' ∧ f.r 5 = vint (g : Nat)) ?_ (s := 0)
    (.inl ⟨.slice none 0 0, none, SameX.refl, by omega, ownX_nil, by simp, rfl, rfl, rfl, rfl, rfl⟩)
  rintro g f H ⟨lv, q, S, hg, O, hq, hds, r1, r3, r4, r5⟩ ok' hn'
  have cH := S.get c2 (by simp)
  have GH := G.same S (by simp) (by simp)
  rw [s82_1]
  simp only [r1, r3, r4, r5, hds]
  refine offI (ldI (v := vint t.gates) cH rfl rfl (lssI (cndI (fun hlt => ?_) fun hge => ?_)))
  rotate_left
  · have hgG : g = t.gates.toNat := by omega
    have htk : (trulyL t).take g = trulyL t := List.take_of_length_le (by rw [trulyL_len]; omega)
    rw [htk] at O
    refine retL_same ?_ (hK lv H q (S12.trans S) (by rw [trulyL_len, ← hgG]; exact O))
    intro x hx
    simp at hx
    subst hx
    intro e
    have := (ownX_val O).2.2
    rw [e] at this
    exact absurd this (by decide)
  refine fill1 rfl rfl (by decide) (fillI (qAl fun H3 p6 e3 S3 c3 l3 => qStA c3 rfl rfl rfl fun H4 S4 c4 l4 => ?_))
  have hri := hR g (by omega)
  have hSl := S.1
  have S24 : SameX [p6] H H4 := S3.weak0.trans S4
  have hp1 := lt_of_get cH
  have hql := ownX_lt O
  have O4 := ownX_keep O S24 (fun i hi => by have := hql i hi; simp; omega)
  have G4 := GH.same S24 (fun b hb => by have := GH.lt b hb; simp; omega) (fun i hi => by have := ownX_lt GH.own i hi; simp; omega)
  refine l82_2 hJ (fun n : Nat => 541 - n) (fun n f H' => SameX [p6] H4 H' ∧ n ≤ 541 ∧ H'[p6]? = some (.cells (seenR (bkR t (limA t 0) g) n).cells true 0) ∧ f.ds = [] ∧ f.r 1 = ptr p1 0 ∧ f.r 3 = lv ∧ f.r 4 = v' ∧ f.r 5 = vint (g : Nat) ∧ f.r 6 = ptr p6 0 ∧ f.r 7 = vint (n : Nat)) ?_ (s := 0)
    (.inl ⟨SameX.refl, by omega, ?_, hds, r1, r3, r4, r5, rfl, rfl⟩)
  rotate_left
  · rw [c4]
    unfold seenR
    rw [if_pos (by omega)]
    rfl
  clear r1 r3 r4 r5 hds ok' hn'
  rintro n f H' ⟨S', hn, z6, hds, r1, r3, r4, r5, r6, r7⟩ ok' hn'
  have GH' := G4.same S' (fun b hb => by have := GH.lt b hb; simp; omega) (fun i hi => by have := ownX_lt GH.own i hi; simp; omega)
  rw [s82_2]
  simp only [r1, r3, r4, r5, r6, r7, hds]
  refine lssI (cndI (fun hlt2 => ?_) fun hge2 => ?_)
  · refine GH'.read (j := g) (n := n) (by omega) (by omega) fun _ _ => ?_
    unfold bkB Rng.has
    refine cndI (fun hin => ?_) fun hout => addI (by omega) ?_
    · by_cases e : (n : Int) ≤ (bkR t (limA t 0) g).lo
      · have hs : seenR (bkR t (limA t 0) g) n = ⟨-1, 0⟩ := by unfold seenR; rw [if_pos e]
        rw [hs] at z6
        refine offI (ldI (v := vint (-1)) z6 rfl rfl (lssI (cndI (fun _ => ?_) fun hx => absurd (by omega) hx)))
        refine offI (qSt z6 (by simp [Rng.cells]) rfl rfl fun H5 S5 c5 l5 => offI (qSt c5 (by simp [Rng.cells]) rfl rfl fun H6 S6 c6 l6 => addI (by omega) ?_))
        refine ⟨n + 1, by dsimp only; omega, .inl ⟨(S'.trans S5).trans S6, by omega, ?_, hds, r1, r3, r4, r5, r6, rfl⟩⟩
        rw [c6]
        have hs2 : seenR (bkR t (limA t 0) g) (n + 1) = ⟨(n : Int), n⟩ := by
          unfold seenR
          rw [if_neg (by omega)]
          congr 1 <;> omega
        rw [hs2]
        rfl
      · have hs : seenR (bkR t (limA t 0) g) n = ⟨(bkR t (limA t 0) g).lo, min ((n : Int) - 1) (bkR t (limA t 0) g).hi⟩ := by unfold seenR; rw [if_neg e]
        rw [hs] at z6
        refine offI (ldI (v := vint (bkR t (limA t 0) g).lo) z6 rfl rfl (lssI (cndI (fun hx => absurd hx (by omega)) fun _ => ?_)))
        refine offI (qSt z6 (by simp [Rng.cells]) rfl rfl fun H5 S5 c5 l5 => addI (by omega) ?_)
        refine ⟨n + 1, by dsimp only; omega, .inl ⟨S'.trans S5, by omega, ?_, hds, r1, r3, r4, r5, r6, rfl⟩⟩
        rw [c5]
        have hs2 : seenR (bkR t (limA t 0) g) (n + 1) = ⟨(bkR t (limA t 0) g).lo, n⟩ := by
          unfold seenR
          rw [if_neg (by omega)]
          congr 1
          omega
        rw [hs2]
        rfl
    · refine ⟨n + 1, by dsimp only; omega, .inl ⟨S', by omega, ?_, hds, r1, r3, r4, r5, r6, rfl⟩⟩
      rw [z6]
      congr 3
      unfold seenR
      by_cases e : (n : Int) ≤ (bkR t (limA t 0) g).lo
      · rw [if_pos e, if_pos (by omega)]
      · rw [if_neg e, if_neg (by omega)]
        congr 1
        omega
  · have hn541 : n = 541 := by omega
    subst hn541
    have hs : seenR (bkR t (limA t 0) g) 541 = bkR t (limA t 0) g := by
      have h1 := bk_fwd (t := t) (L := limA t 0) (g := g) (by omega) (n := (bkR t (limA t 0) g).hi) ⟨hri.2.1, Int.le_refl _⟩
      have h2 := fwd_top fine (L := limA t 0) g
      unfold Rng.has at h1
      unfold seenR
      rw [if_neg (by omega), Int.min_eq_right (by omega)]
    rw [hs] at z6
    refine load_part (c := (bkR t (limA t 0) g).cells) z6 (by simp [Rng.cells]) rfl rfl ⟨by decide, fill_agg (l := (bkR t (limA t 0) g).cells) rfl rfl (by simp [zrep]) (fillI ?_)⟩
    refine qNew fun H5 p5 e5 S5 c5 l5 => ⟨by decide, ?_⟩
    have O5 := ownX_keep (ownX_keep O4 S' (fun i hi => by have := hql i hi; simp; omega)) S5 (by simp)
    refine ownX_more O5 (by omega) (by omega) (e := (bkR t (limA t 0) g).cells) (ownX_sli (ownX_new (n := 1) c5 rfl rfl)) fun lv' H6 p6' e6 O6 S6 => addI (by omega) ?_
    have SF : SameX (p6 :: q.toList) H H6 := (((S24.trans S').weak (by simp)).thru S5 (by simp)).trans (S6.weak (by simp +contextual))
    have h4l := S4.1
    have h'l := S'.1
    have h5l := S5.1
    refine ⟨g + 1, by dsimp only; omega, .inl ⟨lv', some p6', S.thru SF ?_, by omega, ?_, ?_, hds, r1, rfl, r4, rfl⟩⟩
    · intro y hy
      right
      rcases List.mem_cons.1 hy with rfl | hy
      · omega
      · simp at hy
        exact hq y hy
    · rw [trulyL_take t (by omega), List.flatMap_append]
      simpa using O6
    · intro i hi
      cases hi
      omega

theorem good52 (hJ : Closed prog main J) {v cv nv : Value} {t : Tal} (ht : TalAt h v t cv nv) (hK : K (vint (talErr t)) h) : Good prog J 52 [v] h K := by
  refine g52 hJ fun ok => ?_
  rw [e52, ht.val]
  have kc : kn1 cv = true ∧ kn1 nv = true := ⟨(sli_one ht.ch).2.2, (sli_one ht.co).2.2⟩
  refine qBox (tal_one ht) fun H p1 e1 S c1 l1 => ?_
  have S3 := S.sli ht.ch (by simp)
  have S5 := S.sli ht.co (by simp)
  have fin : ∀ (e : Int), talErr t = e → retL h.length K [] [vint e] H := fun e he => by
    subst he
    exact retX ok (Nat.le_refl _) S (by simp) (by simp [unk]) (by simp [pack, VOk]) hK
  refine offI (ldI (v := vint t.gates) c1 rfl rfl (good68 hJ (notI (cndN (fun h1 => fin 1 (by unfold talErr; rw [if_pos h1])) fun h1 => ?_))))
  refine offI (load_part (c := t.first.cells) c1 (by simp [talCells]) rfl rfl (good87 hJ (neqI (cndI (fun h2 => fin _ (by unfold talErr; rw [if_neg (by simpa using h1), if_pos (by simpa using h2)])) fun h2 => ?_))))
  have h2' : rngErr 0 300 t.first = 0 := by simpa using h2
  refine offI (ldI (v := cv) c1 rfl kc.1 (lenI S3 (offI (ldI (v := vint t.gates) c1 rfl rfl (subI (by omega) (lssI (cndI (fun h3 => fin 7 (by unfold talErr; rw [if_neg (by simpa using h1), if_neg (by omega), if_pos h3])) fun h3 => ?_)))))))
  refine offI (ldI (v := cv) c1 rfl kc.1 (lenI S3 (offI (ldI (v := vint t.gates) c1 rfl rfl (subI (by omega) (gtrI (cndI (fun h4 => fin 6 (by unfold talErr; rw [if_neg (by simpa using h1), if_neg (by omega), if_neg h3, if_pos h4])) fun h4 => ?_)))))))
  refine l52_1 hJ (fun i : Nat => t.changes.length - i) (fun i f H' => H' = H ∧ f.ds = [] ∧ f.r 1 = ptr p1 0 ∧ f.r 4 = vint (i : Nat) ∧ i ≤ t.changes.length ∧ firstE ((t.changes.take i).map (rngErr (-60) 60)) = 0) ?_ (s := 0)
    (.inl ⟨rfl, rfl, rfl, rfl, by omega, rfl⟩)
  rintro i f H ⟨rfl, hds, r1, r4, hi, hz⟩ ok' hn
  rw [s52_1]
  simp only [r1, r4, hds]
  refine offI (ldI (v := cv) c1 rfl kc.1 (lenI S3 (lssI (cndI (fun hlt => ?_) fun hge => ?_))))
  · have hil : i < t.changes.length := by omega
    obtain ⟨b, o, cs, wr, sz, hidx, hb, hle, hpart, hkn⟩ := sliE_elem rng_len (by omega) S3 hil
    obtain ⟨s1, s2⟩ := firstE_step (f := rngErr (-60) 60) hil hz
    refine offI (ldI (v := cv) c1 rfl kc.1 (hidx _ (load_part hb hle hpart hkn (good87 hJ (r := t.changes[i]) (neqI (cndI (fun hne => fin _ ?_) fun h0 => addI (by omega) ?_))))))
    · unfold talErr
      rw [if_neg (by simpa using h1), if_neg (by omega), if_neg h3, if_neg h4, if_pos (by rw [s1 hne]; exact hne), s1 hne]
    · exact ⟨i + 1, by dsimp only; omega, .inl ⟨rfl, hds, r1, rfl, by omega, s2 (by omega)⟩⟩
  · have hil : i = t.changes.length := by omega
    subst hil
    rw [List.take_length] at hz
    have pre : ∀ e : Int, (if ¬ (0 ≤ t.most ∧ t.most ≤ 60) then (1 : Int) else if t.counts.length > 7 then 6 else firstE (t.counts.map fun c => cntErr c t.gates)) = e → talErr t = e := fun e he => by
      unfold talErr
      rw [if_neg (by simpa using h1), if_neg (by omega), if_neg h3, if_neg h4, if_neg (by omega)]
      exact he
    refine offI (ldI (v := vint t.most) c1 rfl rfl (good68 hJ (notI (cndN (fun h5 => fin 1 (pre _ (by rw [if_pos h5]))) fun h5 => ?_))))
    refine offI (ldI (v := nv) c1 rfl kc.2 (lenI S5 (gtrI (cndI (fun h6 => fin 6 (pre _ (by rw [if_neg (by simpa using h5), if_pos (by omega)]))) fun h6 => ?_))))
    refine l52_2 hJ (fun i : Nat => t.counts.length - i) (fun i f H' => H' = H ∧ f.ds = [] ∧ f.r 1 = ptr p1 0 ∧ f.r 6 = vint (i : Nat) ∧ i ≤ t.counts.length ∧ firstE ((t.counts.take i).map fun c => cntErr c t.gates) = 0) ?_ (s := 0)
      (.inl ⟨rfl, hds, r1, rfl, by omega, rfl⟩)
    rintro i f H ⟨rfl, hds, r1, r6, hi, hz2⟩ ok' hn
    rw [s52_2]
    simp only [r1, r6, hds]
    refine offI (ldI (v := nv) c1 rfl kc.2 (lenI S5 (lssI (cndI (fun hlt => ?_) fun hge => ?_))))
    · have hil : i < t.counts.length := by omega
      obtain ⟨b, o, cs, wr, sz, hidx, hb, hle, hpart, hkn⟩ := sliE_elem cnt_len (by omega) S5 hil
      obtain ⟨s1, s2⟩ := firstE_step (f := fun c => cntErr c t.gates) hil hz2
      refine ⟨[p1, b], offI (ldI (v := nv) c1 rfl kc.2 ⟨by simp [RdOk, ptrBlk, ptr], hidx _ (load_part hb hle hpart hkn ⟨by simp [RdOk, ptrBlk, ptr], offI (ldI (v := vint t.gates) c1 rfl rfl ⟨by simp [RdOk, ptrBlk, ptr], ?_⟩)⟩)⟩)⟩
      refine good84 hJ (c := t.counts[i]) (by omega) ⟨fun _ _ => rfl, neqI (cndI (fun hne => fin _ (pre _ ?_)) fun h0 => addI (by omega) ?_)⟩
      · rw [if_neg (by simpa using h5), if_neg (by omega), s1 hne]
      · exact ⟨i + 1, by dsimp only; omega, .inl ⟨rfl, hds, r1, rfl, by omega, s2 (by omega)⟩⟩
    · have hil : i = t.counts.length := by omega
      subst hil
      rw [List.take_length] at hz2
      exact fin 0 (pre _ (by rw [if_neg (by simpa using h5), if_neg (by omega), hz2]))

theorem good44 (hJ : Closed prog main J) {v cv nv : Value} {t : Tal} (ht : TalAt h v t cv nv)
    (k1 : talErr t ≠ 0 → K (.tuple ⟨[.slice none 0 0, vint (talErr t)]⟩) h) (k2 : talErr t = 0 → ¬ TruthIs t (limA t 0) → K (.tuple ⟨[.slice none 0 0, vint 11]⟩) h)
    (k3 : talErr t = 0 → TruthIs t (limA t 0) → ∀ v' H o, SameX [] h H → OwnX H 2 ((trulyL t).flatMap Rng.cells) (trulyL t).length v' o → K (.tuple ⟨[v', vint 0]⟩) H) : Good prog J 44 [v] h K := by
  refine g44 hJ fun ok => ?_
  rw [e44, ht.val]
  have kt : kn (talCells t cv nv) = true := tal_kn (sli_one ht.ch).2.2 (sli_one ht.co).2.2
  refine qBox (tal_one ht) fun H1 p1 e1 S1 c1 l1 => load_part (c := talCells t cv nv) c1 (by rw [cs_val]; omega) rfl kt ?_
  have t1 : TalAt H1 (.agg ⟨talCells t cv nv⟩) t cv nv := ⟨rfl, S1.sli ht.ch (by simp), S1.sli ht.co (by simp)⟩
  refine good52 hJ t1 (neqI (cndI (fun hne => ?_) fun heq => ?_))
  · exact retX ok (Nat.le_refl _) S1 (by simp) (by simp [unk]) (by simp [pack, VOk, AOk, LOk]) (k1 hne)
  have h0 : talErr t = 0 := by omega
  have fine := talErr_fine h0
  refine load_part (c := talCells t cv nv) c1 (by rw [cs_val]; omega) rfl kt ?_
  refine good81 hJ t1 fine (notI (cndN (fun hT => ?_) fun hT => ?_))
  · exact retX ok (Nat.le_refl _) S1 (by simp) (by simp [unk]) (by simp [pack, VOk, AOk, LOk]) (k2 h0 hT)
  refine load_part (c := talCells t cv nv) c1 (by rw [cs_val]; omega) rfl kt ?_
  refine good82 hJ t1 fine hT fun v' H2 o S2 O => retL_same ?_ (k3 h0 hT v' H2 o (S1.trans S2) O)
  intro x hx
  simp at hx
  rcases hx with rfl | rfl
  · intro e
    have := (ownX_val O).2.2
    rw [e] at this
    exact absurd this (by decide)
  · simp [unk]

end
end Go.Proofs.Ytdgpacdknpahnaa

namespace Go.Proofs.Ytdgpacdknpahnaa
open Go.Conc Go.Proofs.Try
set_option maxRecDepth 100000
def rowB (A : Nat → Int) (m : Nat) : Nat → Int := fun j => if j < m then A j else 0
def rowN (A : Nat → Int) (m : Nat) (x : Int) : Nat → Int := fun j => if j < m then A j else if j = m then x else 0
theorem rowN_at {A : Nat → Int} {m : Nat} {x : Int} : rowN A m x m = x := by
  unfold rowN
  rw [if_neg (by omega), if_pos rfl]
theorem rowB_set {A : Nat → Int} {m : Nat} {x : Int} : (rowI (rowB A m)).set m (vint x) = rowI (rowN A m x) := by
  rw [rowI_set]
  refine rowI_congr fun j _ => ?_
  unfold rowB rowN
  by_cases e : j = m
  · subst e
    rw [if_pos rfl, if_neg (by omega), if_pos rfl]
  · rw [if_neg e, if_neg e]
theorem rowN_set {A : Nat → Int} {m : Nat} {x y : Int} : (rowI (rowN A m y)).set m (vint x) = rowI (rowN A m x) := by
  rw [rowI_set]
  refine rowI_congr fun j _ => ?_
  unfold rowN
  by_cases e : j = m
  · subst e
    rw [if_pos rfl, if_neg (by omega), if_pos rfl]
  · rw [if_neg e, if_neg e, if_neg e]
theorem rowN_done {A : Nat → Int} {m : Nat} {x : Int} : rowI (rowN A m x) = rowI (rowB (fun j => if j = m then x else A j) (m + 1)) := by
  refine rowI_congr fun j _ => ?_
  unfold rowB rowN
  dsimp only
  by_cases e : j = m
  · subst e
    rw [if_neg (by omega), if_pos rfl, if_pos (by omega), if_pos rfl]
  · by_cases e2 : j < m
    · rw [if_pos e2, if_pos (by omega), if_neg e]
    · rw [if_neg e2, if_neg e, if_neg (by omega)]

structure R109 (F0 F : RG) (v : Value) (p3 p9 p10 p13 p14 g m n : Nat) (hiV : Int) : Prop where
  ds : F.ds = []
  r1 : F.r 1 = F0.r 1
  r2 : F.r 2 = F0.r 2
  r3 : F.r 3 = ptr p3 0
  r8 : F.r 8 = v
  r9 : F.r 9 = rowV p9
  r10 : F.r 10 = rowV p10
  r12 : F.r 12 = vint (g : Nat)
  r13 : F.r 13 = rowV p13
  r14 : F.r 14 = rowV p14
  r15 : F.r 15 = vint (m : Nat)
  r17 : F.r 17 = vint hiV
  r18 : F.r 18 = vint (n : Nat)

section
variable {main : Bool} {J : JT} {h H : List AObj} {K : Value → List AObj → Prop} {KV : Value → Prop} {n0 : Nat}
theorem row_ld {p n : Nat} {f : Nat → Int} (hb : H[p]? = some (.cells (rowI f) true 0)) (hn : n < 541) {K2 : Value → Value → Prop} (hk : ∀ q, K2 q (vint (f n))) : aIdx 1 (rowV p) (vint (n : Nat)) fun q => aLoad false 1 q H (K2 q) := by
  refine idxI ⟨by omega, by omega⟩ ?_
  rw [Int.toNat_natCast, Nat.zero_add, Nat.mul_one]
  exact ldI hb (rowI_get f hn) rfl (hk _)
theorem row_st {p n : Nat} {f : Nat → Int} {x : Int} {K2 : Value → List AObj → Prop} (hb : H[p]? = some (.cells (rowI f) true 0)) (hn : n < 541) (hk : ∀ q H', SameX [p] H H' → H'[p]? = some (.cells ((rowI f).set n (vint x)) true 0) → H'.length = H.length → K2 q H') : aIdx 1 (rowV p) (vint (n : Nat)) fun q => aStore 1 q (vint x) H (K2 q) := by
  refine idxI ⟨by omega, by omega⟩ ?_
  rw [Int.toNat_natCast, Nat.zero_add, Nat.mul_one]
  exact qSt hb (by rw [rowI_len]; omega) rfl rfl fun H' S c l => hk _ H' S c l

theorem tail9 {v : Value} {p3 p9 p10 p13 p14 g m n : Nat} {hiV y mo : Int} {hi B : Nat → Int} {F0 : RG} {nx2 : RG → List AObj → Prop} {F : Value → Value → Value → Value → Value → Value → Value → List AObj → Value → RG}
    (hF : ∀ a b c d e k l H2, R109 F0 (F a b c d e k l H2 (vint ((n : Int) + 1))) v p3 p9 p10 p13 p14 g m (n + 1) hiV) (hm : m < 541) (hn : n < 541)
    (d10 : H[p10]? = some (.cells (rowI hi) true 0)) (d14 : H[p14]? = some (.cells (rowI (rowN B m y)) true 0)) (hb : -1 ≤ hi n ∧ hi n ≤ 1000 ∧ -1000 ≤ mo ∧ mo ≤ 1000)
    (hx : ∀ H2 f', SameX [p14] H H2 → H2[p14]? = some (.cells (rowI (rowN B m (max y (hi n + mo)))) true 0) → R109 F0 f' v p3 p9 p10 p13 p14 g m (n + 1) hiV → nx2 f' H2) :
    aIdx 1 (rowV p14) (vint (m : Nat)) fun v1 => aLoad false 1 v1 H fun v2 => aIdx 1 (rowV p10) (vint (n : Nat)) fun v3 => aLoad false 1 v3 H fun v4 => aBin prog .add 3 v4 (vint mo) fun v5 => aMax v2 [v5] fun v6 => aIdx 1 (rowV p14) (vint (m : Nat)) fun v7 => aStore 1 v7 v6 H fun h8 => aBin prog .add 3 (vint (n : Nat)) (vint 1) fun v9 => nx2 (F v1 v2 v3 v4 v5 v6 v7 h8 v9) h8 := by
  refine row_ld d14 hm fun _ => ?_
  rw [rowN_at]
  refine row_ld d10 hn fun _ => addI (by omega) (maxI (row_st d14 hm fun _ H2 S c l => addI (by omega) ?_))
  rw [rowN_set] at c
  exact hx H2 _ S c (hF _ _ _ _ _ _ _ _)

abbrev I109 (t : Tal) (a d m : Nat) (H : List AObj) (F : RG) (v : Value) (p3 p9 p10 p13 p14 : Nat) (A B : Nat → Int) : Nat → RG → List AObj → Prop := fun k f H' =>
  SameX [p13, p14] H H' ∧ befLo t (a + d) m ≤ k ∧ (k : Int) ≤ max (befLo t (a + d) m) (befHi t (a + d) m + 1) ∧
  (∃ x y : Int, H'[p13]? = some (.cells (rowI (rowN A m x)) true 0) ∧ H'[p14]? = some (.cells (rowI (rowN B m y)) true 0) ∧ Ext (Sn t (bkR t (limA t 0)) a d m (befLo t (a + d) m) k) x y) ∧ (befLo t (a + d) m < k → (bkR t (limA t 0) (a + d + 1)).has m) ∧ R109 F f v p3 p9 p10 p13 p14 (a + d) m k (befHi t (a + d) m)

theorem inner109 (hJ : Closed prog main J) {v cv nv : Value} {t : Tal} {bs : List Nat} {o : Option Nat} {p3 p9 p10 p13 p14 a d m : Nat} {lo hi A B : Nat → Int} {F : RG} {nx0 nx1 : RG → List AObj → Prop} {h0 : List AObj} (fine : TalFine t) (hT : TruthIs t (limA t 0)) (hg : a + d + 1 < t.gates.toNat) (hb : bs.length = t.gates.toNat) (hm : m < 541)
    (G : Grid h H v bs o (bkB t)) (c3 : H[p3]? = some (.cells (talCells t cv nv) true 0)) (ta : TalAt h0 (.agg ⟨talCells t cv nv⟩) t cv nv) (SH : SameX [] h0 H)
    (c9 : H[p9]? = some (.cells (rowI lo) true 0)) (c10 : H[p10]? = some (.cells (rowI hi) true 0)) (c13 : H[p13]? = some (.cells (rowI (rowN A m (-1))) true 0)) (c14 : H[p14]? = some (.cells (rowI (rowN B m (-1))) true 0))
    (hext : ∀ j : Nat, j < 541 → Ext (Sum t (bkR t (limA t 0)) a d j) (lo j) (hi j))
    (k13 : h0.length ≤ p13 ∧ p13 ≠ p3 ∧ p13 ≠ p9 ∧ p13 ≠ p10 ∧ p13 ∉ bs ∧ ∀ i, o = some i → i ≠ p13) (k14 : h0.length ≤ p14 ∧ p14 ≠ p3 ∧ p14 ≠ p9 ∧ p14 ≠ p10 ∧ p14 ∉ bs ∧ ∀ i, o = some i → i ≠ p14) (hne : p13 ≠ p14)
    (hF : R109 F F v p3 p9 p10 p13 p14 (a + d) m (befLo t (a + d) m).toNat (befHi t (a + d) m))
    (hx : ∀ H' f' x y, SameX [p13, p14] H H' → H'[p13]? = some (.cells (rowI (rowN A m x)) true 0) → H'[p14]? = some (.cells (rowI (rowN B m y)) true 0) → Ext (Sum t (bkR t (limA t 0)) a (d + 1) m) x y →
      f'.ds = [] → f'.r 1 = F.r 1 → f'.r 2 = F.r 2 → f'.r 3 = ptr p3 0 → f'.r 8 = v → f'.r 9 = rowV p9 → f'.r 10 = rowV p10 → f'.r 12 = vint ((a + d : Nat) : Int) → f'.r 13 = rowV p13 → f'.r 14 = rowV p14 → f'.r 15 = vint ((m : Int) + 1) → nx1 f' H') :
    Sem J 158 n0 109 (subC [1, 1, 1, 1, 0, 1, 0, 0, 1, 0, 0, 1, 0, 1, 0, 0, 1, 0, 0, 1, 1, 1, 0] (codeOf f109)) F H (contQ prog J 158 n0 109 [1, 1, 1, 1, 0, 1, 0, 0, 1, 0, 0, 1, 0, 1, 0, 0, 1, 0, 0, 1, 1, 1, 0] (codeOf f109) [nx0, nx1] (RetQ prog [.tmp 6, .tmp 7] n0 K)) := by
  have hgt := fine.gates
  have hchl := fine.chl
  have hmost := fine.most
  have hil : a + d < t.changes.length := by omega
  have hch := fine.ch _ (List.getElem_mem hil)
  have ech : (t.changes[a + d]?).getD ⟨0, 0⟩ = t.changes[a + d] := by rw [List.getElem?_eq_getElem hil]; rfl
  have hlo : 0 ≤ befLo t (a + d) m := by unfold befLo; omega
  have hhi : befHi t (a + d) m ≤ 540 := by unfold befHi; omega
  have hbd : ∀ j : Nat, j < 541 → -1 ≤ lo j ∧ lo j ≤ 1000 ∧ -1 ≤ hi j ∧ hi j ≤ 1000 := fun j hj => by
    have e := hext j hj
    have hd5 : t.most * (d : Int) ≤ 60 * 5 := (mul_bd hmost.1 hmost.2 (by omega) (by omega)).2
    by_cases hs : ∃ s, Sum t (bkR t (limA t 0)) a d j s
    · obtain ⟨e1, e2, _⟩ := e.1 hs
      have := e1.bd
      have := e2.bd
      omega
    · have := e.2 hs
      omega
  have hRb : ∀ n : Int, (bkR t (limA t 0) (a + d)).has n → 0 ≤ n ∧ n ≤ 540 := fun n hn => by
    have h1 := bk_fwd (g := a + d) (by omega) hn
    have h2 := fwd_top fine (L := limA t 0) (a + d)
    have h3 := bk_rsm fine hT (a + d) (by omega)
    unfold Rng.has at hn h1
    have h4 : ((a + d : Nat) : Int) ≤ 4 := by omega
    omega
  refine l109_4 hJ (fun k : Nat => 1000 - k) (I109 t a d m H F v p3 p9 p10 p13 p14 A B) ?_ (s := (befLo t (a + d) m).toNat)
    (.inl ⟨SameX.refl, by omega, by omega, ⟨-1, -1, c13, c14, ext_none fun s => sn_zero (by omega)⟩, fun x => absurd x (by omega), hF⟩)
  rintro n f H' ⟨S, hn1, hn2, ⟨x, y, d13, d14, he⟩, hhas, R⟩ ok' hn'
  have d3 := S.get c3 (by simp; omega)
  have d9 := S.get c9 (by simp; omega)
  have d10 := S.get c10 (by simp; omega)
  have SA : SameX [] h0 H' := SH.thru S (by simp; omega)
  have ta' := talAt_same ta SA (by simp)
  have kc : kn1 cv = true ∧ kn1 nv = true := ⟨(sli_one ta'.ch).2.2, (sli_one ta'.co).2.2⟩
  have G' := G.same S (fun b hb => by simp; exact ⟨fun e => k13.2.2.2.2.1 (e ▸ hb), fun e => k14.2.2.2.2.1 (e ▸ hb)⟩) (fun i hi => by simp; exact ⟨k13.2.2.2.2.2 i hi, k14.2.2.2.2.2 i hi⟩)
  have hxb : -1 ≤ x ∧ x ≤ 1000 := by
    by_cases hs : ∃ s, Sn t (bkR t (limA t 0)) a d m (befLo t (a + d) m) n s
    · obtain ⟨⟨h1, n', s', l, _, h2, h3, h4⟩, _⟩ := he.1 hs
      have := h2.bd
      have := own_bd h3
      have hd5 : t.most * (d : Int) ≤ 60 * 5 := (mul_bd hmost.1 hmost.2 (by omega) (by omega)).2
      omega
    · have := he.2 hs
      omega
  rw [s109_4]
  simp only [R.r3, R.r8, R.r9, R.r10, R.r12, R.r13, R.r14, R.r15, R.r17, R.r18]
  -- the end of the loop
  have stop : ∀ (Fz : RG), Fz.r 15 = vint ((m : Int) + 1) → R109 F (Fz.put 15 (vint (m : Nat))) v p3 p9 p10 p13 p14 (a + d) m n (befHi t (a + d) m) → (befHi t (a + d) m < n ∨ ¬ (bkR t (limA t 0) (a + d + 1)).has m) → nx1 Fz H' := fun Fz h15 Rz hend => by
    refine hx H' _ x y S d13 d14 ?_ Rz.ds Rz.r1 Rz.r2 Rz.r3 Rz.r8 Rz.r9 Rz.r10 Rz.r12 Rz.r13 Rz.r14 h15
    by_cases hbm : (bkR t (limA t 0) (a + d + 1)).has m
    · refine he.iff fun s => sn_all hRb ?_ s
      rcases hend with z | z
      · omega
      · exact absurd hbm z
    · exact he.iff fun s => ⟨fun z => absurd z.1 hbm, fun z => absurd z.at hbm⟩
  refine leqI (cndI (fun hle => addI (by omega) ?_) fun hgt2 => cnd_false.2 (addI (by omega) (stop _ rfl ⟨R.ds, R.r1, R.r2, R.r3, R.r8, R.r9, R.r10, R.r12, R.r13, R.r14, rfl, R.r17, R.r18⟩ (.inl (by omega)))))
  rw [show ((a + d : Nat) : Int) + 1 = ((a + d + 1 : Nat) : Int) from by omega]
  refine G'.read (by omega) hm fun _ _ => ?_
  cases hbt : bkB t (a + d + 1) m with
  | false =>
    refine cnd_false.2 (addI (by omega) (stop _ rfl ⟨R.ds, R.r1, R.r2, R.r3, R.r8, R.r9, R.r10, R.r12, R.r13, R.r14, rfl, R.r17, R.r18⟩ (.inr ?_)))
    unfold bkB at hbt
    exact of_decide_eq_false hbt
  | true =>
    have hbm : (bkR t (limA t 0) (a + d + 1)).has m := by
      unfold bkB at hbt
      exact of_decide_eq_true hbt
    have hn541 : n < 541 := by omega
    obtain ⟨b1, b2, b3, b4⟩ := hbd n hn541
    refine cnd_true.2 (row_ld d9 hn541 fun _ => lssI (cndI (fun hneg => ?_) fun hpos => ?_))
    · have hno := ((hext n hn541).neg fun s hs => hs.bd.1).1 hneg
      exact addI (by omega) ⟨n + 1, by dsimp only; omega, .inl ⟨S, by omega, by omega, ⟨x, y, d13, d14, he.iff fun s => (sn_skip hno s).symm⟩, fun _ => hbm, ⟨R.ds, R.r1, R.r2, R.r3, R.r8, R.r9, R.r10, R.r12, R.r13, R.r14, R.r15, R.r17, by show vint _ = vint _; congr 1⟩⟩⟩
    · have hyes : ∃ s, Sum t (bkR t (limA t 0)) a d n s := by
        refine Classical.byContradiction fun hno => ?_
        have := ((hext n hn541).neg fun s hs => hs.bd.1).2 hno
        omega
      have hown := sn_own (t := t) (a := a) (d := d) (m := (m : Int)) (n := (n : Int)) hn1 hle (by rw [ech]; omega) hmost.1
      have hol : 0 ≤ (ownL t (a + d) n m).lo := by unfold ownL; dsimp only; omega
      have hst := Ext.step he (hext n hn541) (fun s hs => sn_pos hs) (fun s hs => hs.bd.1) hyes hown hol (sn_next hn1 hbm)
      obtain ⟨b5, o5, cs5, w5, z5, hx5, hb5, hle5, hp5, hk5⟩ := sliE_elem rng_len (by omega) ta'.ch hil
      have close : ∀ (H2 : List AObj) (f' : RG) (x' : Int), x' = (if x < 0 ∨ lo n + (ownL t (a + d) n m).lo < x then lo n + (ownL t (a + d) n m).lo else x) → SameX [p13, p14] H' H2 → H2[p13]? = some (.cells (rowI (rowN A m x')) true 0) → H2[p14]? = some (.cells (rowI (rowN B m (max y (hi n + (ownL t (a + d) n m).hi)))) true 0) → R109 F f' v p3 p9 p10 p13 p14 (a + d) m (n + 1) (befHi t (a + d) m) →
          Nx n0 (fun k : Nat => 1000 - k) (I109 t a d m H F v p3 p9 p10 p13 p14 A B) n f' H2 := fun H2 f' x' hx' S2 e13 e14 R' => by
        subst hx'
        exact ⟨n + 1, by dsimp only; omega, .inl ⟨S.trans S2, by omega, by omega, ⟨_, _, e13, e14, hst⟩, fun _ => hbm, R'⟩⟩
      have elo : (ownL t (a + d) n m).lo = max 0 ((n : Int) + t.changes[a + d].lo - m) := by unfold ownL; rw [ech]
      have ehi : (ownL t (a + d) n m).hi = min t.most ((n : Int) + t.changes[a + d].hi - m) := by unfold ownL; rw [ech]
      rw [elo, ehi] at close
      clear hst hol hown hx stop
      refine offI (ldI (v := cv) d3 rfl kc.1 (hx5 _ (offI (ldI hb5 (part_get (j := 0) hp5 rfl) rfl (addI (by omega) (subI (by omega) (maxI ?_)))))))
      refine offI (ldI (v := vint t.most) d3 rfl rfl (offI (ldI (v := cv) d3 rfl kc.1 (hx5 _ (offI (ldI hb5 (part_get (j := 1) hp5 rfl) rfl (addI (by omega) (subI (by omega) (minI ?_)))))))))
      refine row_ld d13 hm fun _ => ?_
      rw [rowN_at]
      refine lssI (cndI (fun hneg => cnd_true.2 ?_) fun hx0 => ?_)
      · refine row_ld d9 hn541 fun _ => addI (by omega) (row_st d13 hm fun _ H2 S2 c l => ?_)
        rw [rowN_set] at c
        refine tail9 (p3 := p3) (p9 := p9) (p13 := p13) (v := v) (g := a + d) (hiV := befHi t (a + d) m) (F0 := F) (fun _ _ _ _ _ _ _ _ => ⟨R.ds, R.r1, R.r2, R.r3, R.r8, R.r9, R.r10, R.r12, R.r13, R.r14, R.r15, R.r17, by show vint _ = vint _; congr 1⟩) hm hn541 (S2.get d10 (by simp; omega)) (S2.get d14 (by simp; omega)) (by omega) fun H3 f' S3 c3 R3 => ?_
        exact close H3 f' _ (by rw [if_pos (.inl hneg)]) ((S2.weak (by simp)).trans (S3.weak (by simp))) (S3.get c (by simp; omega)) c3 R3
      · refine row_ld d9 hn541 fun _ => addI (by omega) (row_ld d13 hm fun _ => ?_)
        rw [rowN_at]
        refine lssI (cndI (fun hlt => ?_) fun hnlt => ?_)
        · refine row_ld d9 hn541 fun _ => addI (by omega) (row_st d13 hm fun _ H2 S2 c l => ?_)
          rw [rowN_set] at c
          refine tail9 (p3 := p3) (p9 := p9) (p13 := p13) (v := v) (g := a + d) (hiV := befHi t (a + d) m) (F0 := F) (fun _ _ _ _ _ _ _ _ => ⟨R.ds, R.r1, R.r2, R.r3, R.r8, R.r9, R.r10, R.r12, R.r13, R.r14, R.r15, R.r17, by show vint _ = vint _; congr 1⟩) hm hn541 (S2.get d10 (by simp; omega)) (S2.get d14 (by simp; omega)) (by omega) fun H3 f' S3 c3 R3 => ?_
          exact close H3 f' _ (by rw [if_pos (.inr hlt)]) ((S2.weak (by simp)).trans (S3.weak (by simp))) (S3.get c (by simp; omega)) c3 R3
        · refine tail9 (p3 := p3) (p9 := p9) (p13 := p13) (v := v) (g := a + d) (hiV := befHi t (a + d) m) (F0 := F) (fun _ _ _ _ _ _ _ _ => ⟨R.ds, R.r1, R.r2, R.r3, R.r8, R.r9, R.r10, R.r12, R.r13, R.r14, R.r15, R.r17, by show vint _ = vint _; congr 1⟩) hm hn541 d10 d14 (by omega) fun H3 f' S3 c3 R3 => ?_
          exact close H3 f' _ (by rw [if_neg (by omega)]) (S3.weak (by simp)) (S3.get d13 (by simp; omega)) c3 R3
end
end Go.Proofs.Ytdgpacdknpahnaa

namespace Go.Proofs.Ytdgpacdknpahnaa
open Go.Conc Go.Proofs.Try
set_option maxRecDepth 100000
noncomputable def iniR (t : Tal) (a n : Nat) : Nat → Int := fun j => if j < n then (if bkB t a j then 0 else -1) else 0
theorem iniR_set {t : Tal} {a n : Nat} {x : Int} (hx : x = if bkB t a n then 0 else -1) : (rowI (iniR t a n)).set n (vint x) = rowI (iniR t a (n + 1)) := by
  subst hx
  rw [rowI_set]
  refine rowI_congr fun j _ => ?_
  unfold iniR
  by_cases e : j = n
  · subst e
    rw [if_pos rfl, if_pos (show j < j + 1 by omega)]
  · rw [if_neg e]
    by_cases e2 : j < n
    · rw [if_pos e2, if_pos (show j < n + 1 by omega)]
    · rw [if_neg e2, if_neg (show ¬ j < n + 1 by omega)]
theorem iniR_next {t : Tal} {a n : Nat} (hx : bkB t a n = true) : rowI (iniR t a n) = rowI (iniR t a (n + 1)) := by
  refine rowI_congr fun j _ => ?_
  unfold iniR
  by_cases e : j = n
  · subst e
    rw [if_neg (show ¬ j < j by omega), if_pos (show j < j + 1 by omega), if_pos hx]
  · by_cases e2 : j < n
    · rw [if_pos e2, if_pos (show j < n + 1 by omega)]
    · rw [if_neg e2, if_neg (show ¬ j < n + 1 by omega)]
theorem ini_ext {t : Tal} {a m : Nat} (hm : m < 541) : Ext (Sum t (bkR t (limA t 0)) a 0 m) (iniR t a 541 m) (iniR t a 541 m) := by
  unfold iniR
  rw [if_pos hm]
  by_cases hb : bkB t a m = true
  · rw [if_pos hb]
    unfold bkB at hb
    have hh := of_decide_eq_true hb
    refine ⟨fun _ => ⟨.base hh, .base hh, fun s hs => ?_⟩, fun hn => absurd ⟨0, .base hh⟩ hn⟩
    have := hs.zero
    omega
  · rw [if_neg hb]
    unfold bkB at hb
    refine ext_none fun s hs => ?_
    have := hs.at
    exact hb (decide_eq_true this)

section
variable {main : Bool} {J : JT} {h H : List AObj} {K : Value → List AObj → Prop} {KV : Value → Prop} {n0 : Nat}
theorem rowV_unk {p : Nat} : rowV p ≠ unk := by
  intro e
  cases e

theorem good109 (hJ : Closed prog main J) {v cv nv : Value} {t : Tal} {a b : Nat} (ht : TalAt h v t cv nv) (fine : TalFine t) (hT : TruthIs t (limA t 0)) (hab : a ≤ b) (hb : b < t.gates.toNat)
    (hK : ∀ H p q lo hi, SameX [] h H → H[p]? = some (.cells (rowI lo) true 0) → H[q]? = some (.cells (rowI hi) true 0) → (∀ m : Nat, m < 541 → Ext (Sum t (bkR t (limA t 0)) a (b - a) m) (lo m) (hi m)) → K (.tuple ⟨[rowV p, rowV q]⟩) H) : Good prog J 109 [v, vint a, vint b] h K := by
  refine g109 hJ fun ok => ?_
  rw [e109, ht.val]
  have hgt := fine.gates
  have hch := fine.chl
  refine qBox (tal_one ht) fun H1 p3 e1 S1 c1 l1 => ?_
  have t1 : TalAt H1 (.agg ⟨talCells t cv nv⟩) t cv nv := ⟨rfl, S1.sli ht.ch (by simp), S1.sli ht.co (by simp)⟩
  refine load_part (c := talCells t cv nv) c1 (by rw [cs_val]; omega) rfl (talAt_kc t1) ?_
  refine good83 hJ t1 fine hT fun v' H2 bs o S2 G hbl => ?_
  have c2 := S2.get c1 (by simp)
  have t2 := talAt_same t1 S2 (by simp)
  have hGlt := G.lt
  have hGo := ownX_lt G.own
  have rest : ∀ (H3 : List AObj) (p9 p10 : Nat) (F : RG), SameX [] H2 H3 → H3[p9]? = some (.cells (rowI fun _ => 0) true 0) → H3[p10]? = some (.cells (rowI fun _ => 0) true 0) → H2.length ≤ p9 → H2.length ≤ p10 → p9 ≠ p10 →
      F.ds = [] → F.r 1 = vint (a : Nat) → F.r 2 = vint (b : Nat) → F.r 3 = ptr p3 0 → F.r 8 = v' → F.r 9 = rowV p9 → F.r 10 = rowV p10 → F.r 11 = vint (0 : Nat) →
      Sem J 158 h.length 109 (subC [1, 1, 1, 0, 1, 0] (codeOf f109)) F H3 (contQ prog J 158 h.length 109 [1, 1, 1, 0, 1, 0] (codeOf f109) [] (RetQ prog [.tmp 6, .tmp 7] h.length K)) := by
    intro H3 p9 p10 F S3 c9 c10 k9 k10 hne t0 u1 u2 u3 u8 u9 u10 u11
    have hl2 := lt_of_get c2
    refine l109_1 hJ (fun n : Nat => 541 - n) (fun n f H => SameX [p9, p10] H3 H ∧ n ≤ 541 ∧ H[p9]? = some (.cells (rowI (iniR t a n)) true 0) ∧ H[p10]? = some (.cells (rowI (iniR t a n)) true 0) ∧ f.ds = [] ∧ f.r 1 = vint (a : Nat) ∧ f.r 2 = vint (b : Nat) ∧ f.r 3 = ptr p3 0 ∧ f.r 8 = v' ∧ f.r 9 = rowV p9 ∧ f.r 10 = rowV p10 ∧ f.r 11 = vint (n : Nat)) ?_ (s := 0)
      (.inl ⟨SameX.refl, by omega, c9, c10, t0, u1, u2, u3, u8, u9, u10, u11⟩)
    clear t0 u1 u2 u3 u8 u9 u10 u11
    rintro n f H ⟨S, hn, z9, z10, hds, r1, r2, r3, r8, r9, r10, r11⟩ ok' hn'
    have G3 : Grid H1 H v' bs o (bkB t) := (G.same S3 (by simp) (by simp)).same S (fun b hb => by have := hGlt b hb; simp; omega) (fun i hi => by have := hGo i hi; simp; omega)
    rw [s109_1]
    simp only [r1, r8, r9, r10, r11]
    refine lssI (cndI (fun hlt => ?_) fun hge => ?_)
    · refine G3.read (by omega) (by omega) fun _ _ => notI ?_
      cases hbt : bkB t a n with
      | true =>
        refine cnd_false.2 (addI (by omega) ⟨n + 1, by dsimp only; omega, .inl ⟨S, by omega, by rw [← iniR_next hbt]; exact z9, by rw [← iniR_next hbt]; exact z10, hds, r1, r2, r3, r8, r9, r10, by show vint _ = vint _; congr 1⟩⟩)
      | false =>
        refine cnd_true.2 (row_st z9 (by omega) fun _ H4 S4 y9 l4 => row_st (S4.get z10 (by simpa using hne.symm)) (by omega) fun _ H5 S5 y10 l5 => addI (by omega) ?_)
        rw [iniR_set (by rw [hbt]; rfl)] at y9 y10
        exact ⟨n + 1, by dsimp only; omega, .inl ⟨(S.trans (S4.weak (by simp))).trans (S5.weak (by simp)), by omega, S5.get y9 (by simpa using hne), y10, hds, r1, r2, r3, r8, r9, r10, by show vint _ = vint _; congr 1⟩⟩
    · have hn541 : n = 541 := by omega
      subst hn541
      have SH2 : SameX [] H2 H := S3.thru S (by simp; omega)
      refine l109_2 hJ (fun d : Nat => 5 - d) (fun d f H' => ∃ p q lo hi, SameX [] H2 H' ∧ a + d ≤ b ∧ H'[p]? = some (.cells (rowI lo) true 0) ∧ H'[q]? = some (.cells (rowI hi) true 0) ∧ (∀ m : Nat, m < 541 → Ext (Sum t (bkR t (limA t 0)) a d m) (lo m) (hi m)) ∧ f.ds = [] ∧ f.r 1 = vint (a : Nat) ∧ f.r 2 = vint (b : Nat) ∧ f.r 3 = ptr p3 0 ∧ f.r 8 = v' ∧ f.r 9 = rowV p ∧ f.r 10 = rowV q ∧ f.r 12 = vint ((a + d : Nat) : Int)) ?_ (s := 0)
        (.inl ⟨p9, p10, _, _, SH2, by omega, z9, z10, fun m hm => ini_ext hm, hds, r1, r2, r3, r8, r9, r10, rfl⟩)
      clear z9 z10 hds r1 r2 r3 r8 r9 r10 r11 G3
      rintro d f H' ⟨p, q, lo, hi, S', hd, z9, z10, hext, hds, r1, r2, r3, r8, r9, r10, r12⟩ ok'' hn''
      rw [s109_2]
      simp only [r2, r9, r10, r12, hds]
      refine lssI (cndI (fun hlt => ?_) fun hge => ?_)
      · have hS' := S'.1
        have hp9 := lt_of_get z9
        have hp10 := lt_of_get z10
        have rest2 : ∀ (H4 : List AObj) (p13 p14 : Nat) (F : RG), SameX [] H' H4 → H4[p13]? = some (.cells (rowI fun _ => 0) true 0) → H4[p14]? = some (.cells (rowI fun _ => 0) true 0) → H'.length ≤ p13 → H'.length ≤ p14 → p13 ≠ p14 →
            F.ds = [] → F.r 1 = vint (a : Nat) → F.r 2 = vint (b : Nat) → F.r 3 = ptr p3 0 → F.r 8 = v' → F.r 9 = rowV p → F.r 10 = rowV q → F.r 12 = vint ((a + d : Nat) : Int) → F.r 13 = rowV p13 → F.r 14 = rowV p14 → F.r 15 = vint (0 : Nat) →
            ∀ nx0 : RG → List AObj → Prop, (∀ H5 f' A B, SameX [] H2 H5 → H5[p13]? = some (.cells (rowI A) true 0) → H5[p14]? = some (.cells (rowI B) true 0) → (∀ m : Nat, m < 541 → Ext (Sum t (bkR t (limA t 0)) a (d + 1) m) (A m) (B m)) → f'.ds = [] → f'.r 1 = vint (a : Nat) → f'.r 2 = vint (b : Nat) → f'.r 3 = ptr p3 0 → f'.r 8 = v' → f'.r 9 = rowV p13 → f'.r 10 = rowV p14 → f'.r 12 = vint ((a + (d + 1) : Nat) : Int) → nx0 f' H5) →
            Sem J 158 h.length 109 (subC [1, 1, 1, 1, 0, 1, 0, 0, 1, 0, 0, 1, 0, 1, 0] (codeOf f109)) F H4 (contQ prog J 158 h.length 109 [1, 1, 1, 1, 0, 1, 0, 0, 1, 0, 0, 1, 0, 1, 0] (codeOf f109) [nx0] (RetQ prog [.tmp 6, .tmp 7] h.length K)) := by
          intro H4 p13 p14 F S4 y13 y14 k13 k14 hne2 u0 u1 u2 u3 u8 u9 u10 u12 u13 u14 u15 nx0 hx
          refine l109_3 hJ (fun m : Nat => 541 - m) (fun m f H5 => SameX [p13, p14] H4 H5 ∧ m ≤ 541 ∧ (∃ A B : Nat → Int, H5[p13]? = some (.cells (rowI (rowB A m)) true 0) ∧ H5[p14]? = some (.cells (rowI (rowB B m)) true 0) ∧ ∀ j : Nat, j < m → Ext (Sum t (bkR t (limA t 0)) a (d + 1) j) (A j) (B j)) ∧ f.ds = [] ∧ f.r 1 = vint (a : Nat) ∧ f.r 2 = vint (b : Nat) ∧ f.r 3 = ptr p3 0 ∧ f.r 8 = v' ∧ f.r 9 = rowV p ∧ f.r 10 = rowV q ∧ f.r 12 = vint ((a + d : Nat) : Int) ∧ f.r 13 = rowV p13 ∧ f.r 14 = rowV p14 ∧ f.r 15 = vint (m : Nat)) ?_ (s := 0)
            (.inl ⟨SameX.refl, by omega, ⟨fun _ => 0, fun _ => 0, y13, y14, fun j hj => by omega⟩, u0, u1, u2, u3, u8, u9, u10, u12, u13, u14, u15⟩)
          clear u0 u1 u2 u3 u8 u9 u10 u12 u13 u14 u15
          rintro m f H5 ⟨S5, hm, ⟨A, B, x13, x14, hAB⟩, hds, r1, r2, r3, r8, r9, r10, r12, r13, r14, r15⟩ ok3 hn3
          have S25 : SameX [] H2 H5 := (S'.trans S4).thru S5 (by simp; omega)
          rw [s109_3]
          simp only [r3, r12, r13, r14, r15]
          refine lssI (cndI (fun hlt5 => ?_) fun hge5 => ?_)
          · refine row_st x13 (by omega) fun _ H6 S6 w13 l6 => row_st (S6.get x14 (by simpa using hne2.symm)) (by omega) fun _ H7 S7 w14 l7 => ?_
            rw [rowB_set] at w13 w14
            have w13' := S7.get w13 (by simpa using hne2)
            have S57 : SameX [p13, p14] H5 H7 := (S6.weak (by simp)).trans (S7.weak (by simp))
            have S47 : SameX [p13, p14] H4 H7 := S5.trans S57
            have S27 : SameX [] H2 H7 := (S'.trans S4).thru S47 (by simp; omega)
            have c7 := S27.get c2 (by simp)
            have t7 := talAt_same t2 S27 (by simp)
            refine load_part (c := talCells t cv nv) c7 (by rw [cs_val]; omega) rfl (talAt_kc t7) ?_
            refine good112 hJ t7 fine (by omega) (by omega) (ext0 (ext1 ?_))
            have G7 : Grid H1 H7 v' bs o (bkB t) := G.same S27 (by simp) (by simp)
            have y9 := S47.get (S4.get z9 (by simp)) (by simp; omega)
            have y10 := S47.get (S4.get z10 (by simp)) (by simp; omega)
            refine inner109 hJ (lo := lo) (hi := hi) (A := A) (B := B) (m := m) (p9 := p) (p10 := q) (p13 := p13) (p14 := p14) (d := d) (a := a) fine hT (by omega) hbl (by omega) G7 c7 t2 S27 y9 y10 w13' w14 hext ⟨by omega, by omega, by omega, by omega, fun hm => by have := hGlt _ hm; omega, fun i hi => by have := hGo i hi; omega⟩ ⟨by omega, by omega, by omega, by omega, fun hm => by have := hGlt _ hm; omega, fun i hi => by have := hGo i hi; omega⟩ hne2 ⟨hds, rfl, rfl, r3, r8, r9, r10, r12, r13, r14, r15, rfl, ?_⟩ fun H8 f8 x y S8 v13 v14 he q0 q1 q2 q3 q8 q9 q10 q12 q13 q14 q15 => ?_
            · show vint (befLo t (a + d) m) = vint ((befLo t (a + d) m).toNat : Nat)
              congr 1
              unfold befLo
              omega
            · refine ⟨m + 1, by dsimp only; omega, .inl ⟨S47.trans S8, by omega, ⟨fun j => if j = m then x else A j, fun j => if j = m then y else B j, by rw [← rowN_done]; exact v13, by rw [← rowN_done]; exact v14, fun j hj => ?_⟩, q0, q1.trans r1, q2.trans r2, q3, q8, q9, q10, q12, q13, q14, q15⟩⟩
              by_cases e : j = m
              · subst e
                simpa using he
              · dsimp only
                rw [if_neg e, if_neg e]
                exact hAB j (by omega)
          · have hm541 : m = 541 := by omega
            subst hm541
            refine addI (by omega) (hx H5 _ A B S25 ?_ ?_ (fun j hj => hAB j hj) hds r1 r2 r3 r8 rfl rfl (by show vint _ = vint _; congr 1))
            · rw [x13]
              exact congrArg (fun c => some (AObj.cells c true 0)) (rowI_congr fun j hj => by unfold rowB; rw [if_pos hj])
            · rw [x14]
              exact congrArg (fun c => some (AObj.cells c true 0)) (rowI_congr fun j hj => by unfold rowB; rw [if_pos hj])
        have go : ∀ H5 f' p13 p14 A B, SameX [] H2 H5 → H5[p13]? = some (.cells (rowI A) true 0) → H5[p14]? = some (.cells (rowI B) true 0) → (∀ m : Nat, m < 541 → Ext (Sum t (bkR t (limA t 0)) a (d + 1) m) (A m) (B m)) → f'.ds = [] → f'.r 1 = vint (a : Nat) → f'.r 2 = vint (b : Nat) → f'.r 3 = ptr p3 0 → f'.r 8 = v' → f'.r 9 = rowV p13 → f'.r 10 = rowV p14 → f'.r 12 = vint ((a + (d + 1) : Nat) : Int) →
            Nx h.length (fun d : Nat => 5 - d) (fun d f H' => ∃ p q lo hi, SameX [] H2 H' ∧ a + d ≤ b ∧ H'[p]? = some (.cells (rowI lo) true 0) ∧ H'[q]? = some (.cells (rowI hi) true 0) ∧ (∀ m : Nat, m < 541 → Ext (Sum t (bkR t (limA t 0)) a d m) (lo m) (hi m)) ∧ f.ds = [] ∧ f.r 1 = vint (a : Nat) ∧ f.r 2 = vint (b : Nat) ∧ f.r 3 = ptr p3 0 ∧ f.r 8 = v' ∧ f.r 9 = rowV p ∧ f.r 10 = rowV q ∧ f.r 12 = vint ((a + d : Nat) : Int)) d f' H5 :=
          fun H5 f' p13 p14 A B S5 x13 x14 hAB q0 q1 q2 q3 q8 q9 q10 q12 => ⟨d + 1, by dsimp only; omega, .inl ⟨p13, p14, A, B, S5, by omega, x13, x14, hAB, q0, q1, q2, q3, q8, q9, q10, q12⟩⟩
        refine ⟨⟨by decide, ?_⟩, ⟨by decide, ?_⟩⟩
        · show aMkS [vint 0] (vint ((541 : Nat) : Int)) (vint ((541 : Nat) : Int)) H' _
          refine qMk (by omega) fun Ha pa ea Sa ca la => ⟨by decide, ?_⟩
          show aMkS [vint 0] (vint ((541 : Nat) : Int)) (vint ((541 : Nat) : Int)) Ha _
          refine qMk (by omega) fun Hb pb eb Sb cb lb => ?_
          rw [rowI_zero] at ca cb
          exact rest2 Hb pa pb _ (Sa.trans Sb) (Sb.get ca (by simp)) cb (by omega) (by omega) (by omega) (by exact hds) (by exact r1) (by exact r2) (by exact r3) (by exact r8) (by exact r9) (by exact r10) (by exact r12) (by rfl) (by rfl) (by rfl) _ fun H5 f' A B => go H5 f' pa pb A B
        · show aMkS [vint 0] (vint ((541 : Nat) : Int)) (vint ((541 : Nat) : Int)) H' _
          refine qMk (by omega) fun Ha pa ea Sa ca la => ⟨by decide, ?_⟩
          show aMkS [vint 0] (vint ((541 : Nat) : Int)) (vint ((541 : Nat) : Int)) Ha _
          refine qMk (by omega) fun Hb pb eb Sb cb lb => ?_
          rw [rowI_zero] at ca cb
          exact rest2 Hb pb pa _ (Sa.trans Sb) cb (Sb.get ca (by simp)) (by omega) (by omega) (by omega) (by exact hds) (by exact r1) (by exact r2) (by exact r3) (by exact r8) (by exact r9) (by exact r10) (by exact r12) (by rfl) (by rfl) (by rfl) _ fun H5 f' A B => go H5 f' pb pa A B
      · have hdb : d = b - a := by omega
        subst hdb
        refine retL_same (fun x hx => ?_) (hK H' p q lo hi (S1.trans (S2.trans S')) z9 z10 hext)
        simp at hx
        rcases hx with rfl | rfl <;> exact rowV_unk
  refine ⟨⟨by decide, ?_⟩, ⟨by decide, ?_⟩⟩
  · show aMkS [vint 0] (vint ((541 : Nat) : Int)) (vint ((541 : Nat) : Int)) H2 _
    refine qMk (by omega) fun Ha pa ea Sa ca la => ⟨by decide, ?_⟩
    show aMkS [vint 0] (vint ((541 : Nat) : Int)) (vint ((541 : Nat) : Int)) Ha _
    refine qMk (by omega) fun Hb pb eb Sb cb lb => ?_
    rw [rowI_zero] at ca cb
    exact rest Hb pa pb _ (Sa.trans Sb) (Sb.get ca (by simp)) cb (by omega) (by omega) (by omega) rfl rfl rfl rfl rfl rfl rfl rfl
  · show aMkS [vint 0] (vint ((541 : Nat) : Int)) (vint ((541 : Nat) : Int)) H2 _
    refine qMk (by omega) fun Ha pa ea Sa ca la => ⟨by decide, ?_⟩
    show aMkS [vint 0] (vint ((541 : Nat) : Int)) (vint ((541 : Nat) : Int)) Ha _
    refine qMk (by omega) fun Hb pb eb Sb cb lb => ?_
    rw [rowI_zero] at ca cb
    exact rest Hb pb pa _ (Sa.trans Sb) cb (Sb.get ca (by simp)) (by omega) (by omega) (by omega) rfl rfl rfl rfl rfl rfl rfl rfl
end
end Go.Proofs.Ytdgpacdknpahnaa

namespace Go.Proofs.Ytdgpacdknpahnaa
open Go.Conc Go.Proofs.Try
set_option maxRecDepth 100000
set_option maxHeartbeats 4000000
set_option linter.unusedVariables false
section
variable {main : Bool} {J : JT} {n0 : Nat} {h : List AObj} {K : Value → List AObj → Prop}
theorem at43 : prog.funcs[43]? = some f43 := by kernel_rfl
theorem body43 : f43.body = some (codeOf f43) := by kernel_rfl
theorem e43 {a0 : Value} : W prog J 13 h.length 43 (codeOf f43) (RG.mk (regs [a0]) []) h (RetQ prog [.tmp 2] h.length K) =
(aBox a0 h fun v1 h2 =>
aOff v1 3 fun v3 =>
aLoad false 1 v3 h2 fun v4 =>
aLenS v4 fun v5 =>
aBin prog .gtr 3 v5 (vint 20) fun v6 =>
cnd v6
(retL h.length K [] [(Value.bool true)] h2)
(aOff v1 5 fun v7 =>
aLoad false 1 v7 h2 fun v8 =>
aLenS v8 fun v9 =>
aBin prog .gtr 3 v9 (vint 20) fun v10 =>
retL h.length K [] [v10] h2)) := by kernel_rfl
theorem g43 (hJ : Closed prog main J) {a0 : Value} (hs : heapOk h → W prog J 13 h.length 43 (codeOf f43) (RG.mk (regs [a0]) []) h (RetQ prog [.tmp 2] h.length K)) : Good prog J 43 [a0] h K :=
  good_of_W hJ mixed at43 body43 (by kernel_rfl) (Nat.le_of_ble_eq_true rfl) hs
end
end Go.Proofs.Ytdgpacdknpahnaa

namespace Go.Proofs.Ytdgpacdknpahnaa
open Go.Conc Go.Proofs.Try
set_option maxRecDepth 100000
structure Kn (h Hs H : List AObj) (ns : List Int) (k : Nat) (l : List (Nat × AObj)) : Prop where
  a : HX h H ns k
  S : SameX [h.length] Hs H
  g : ∀ x ∈ l, x.1 ≠ h.length ∧ H[x.1]? = some x.2

section
variable {main : Bool} {J : JT} {h Hs H : List AObj} {K : Value → List AObj → Prop} {ns : List Int} {k : Nat} {l : List (Nat × AObj)}
theorem Kn.to {H' : List AObj} {k' : Nat} (a : Kn h Hs H ns k l) (S : SameX [h.length] H H') (a' : HX h H' ns k') : Kn h Hs H' ns k' l :=
  ⟨a', a.S.trans S, fun x hx => ⟨(a.g x hx).1, S.get (a.g x hx).2 (by simpa using (a.g x hx).1)⟩⟩
theorem Kn.up (hJ : Closed prog main J) (a : Kn h Hs H ns k l) (hk : k < 1000000) {m : Int} (hm : m < 1000000)
    (hK : ∀ y H', 0 ≤ y → (y ≤ m ∨ y = 0) → Kn h Hs H' ns (k + 1) l → K (vint y) H') : Good prog J 22 [ptr h.length 0, vint m] H K :=
  upX hJ a.a hk hm fun y H' h1 h2 S _ a' => hK y H' h1 h2 (a.to S a')
theorem Kn.am (hJ : Closed prog main J) (a : Kn h Hs H ns k l) (hk : k < 1000000) {lo hi : Int} (h1 : -1000000 ≤ lo ∧ lo ≤ 1000000) (h2 : -1000000 ≤ hi ∧ hi ≤ 1000000)
    (hK : ∀ y H', lo ≤ y → (y ≤ hi ∨ y = lo) → Kn h Hs H' ns (k + 1) l → K (vint y) H') : Good prog J 20 [ptr h.length 0, vint lo, vint hi] H K :=
  amX hJ a.a hk h1 h2 fun y H' b1 b2 S _ a' => hK y H' b1 b2 (a.to S a')
theorem Kn.new (a : Kn h Hs H ns k l) {n : Nat} {c : List Value} (hK : ∀ H' p, Kn h Hs H' ns k ((p, .cells c true 0) :: l) → K (.slice (some ⟨p, 0, none⟩) n n) H') : aNewS n c H K := by
  refine qNew fun H' p e S c' _ => hK H' p ?_
  have a' : HX h H' ns k := (a.a).same S (by simp)
  have := a.to (S.weak0) a'
  refine ⟨a', this.S, fun x hx => ?_⟩
  rcases List.mem_cons.1 hx with rfl | hx
  · have := a.a.lt
    exact ⟨by show p ≠ _; omega, c'⟩
  · exact this.g x hx
theorem Kn.get (a : Kn h Hs H ns k l) {p : Nat} {o : AObj} (hm : (p, o) ∈ l) : H[p]? = some o := (a.g _ hm).2
theorem Kn.sb (a : Kn h Hs H ns k l) {B : List Nat} (hB : ∀ b ∈ B, b < Hs.length ∧ b ≠ h.length) : SameB (some B) Hs H := fun b hb => a.S.2 b (hB b hb).1 (by simpa using (hB b hb).2)
end
section
variable {main : Bool} {J : JT} {h H : List AObj} {K : Value → List AObj → Prop} {n0 : Nat} {v cv nv : Value} {t : Tal} {gate number : Int}
theorem good43 (hJ : Closed prog main J) (ht : TalAt h v t cv nv) (hK : K (.bool (decide (t.changes.length > 20 ∨ t.counts.length > 20))) h) : Good prog J 43 [v] h K := by
  refine g43 hJ fun ok => ?_
  rw [e43, ht.val]
  have kc : kn1 cv = true ∧ kn1 nv = true := ⟨(sli_one ht.ch).2.2, (sli_one ht.co).2.2⟩
  refine qBox (tal_one ht) fun H1 p1 e1 S1 c1 l1 => ?_
  have t1 : TalAt H1 (.agg ⟨talCells t cv nv⟩) t cv nv := ⟨rfl, S1.sli ht.ch (by simp), S1.sli ht.co (by simp)⟩
  have fin : ∀ b : Bool, b = decide (t.changes.length > 20 ∨ t.counts.length > 20) → retL h.length K [] [.bool b] H1 := fun b hb => by
    subst hb
    exact retX ok (Nat.le_refl _) S1 (by simp) (by simp [unk]) (by simp [pack, VOk]) hK
  refine offI (ldI (v := cv) c1 rfl kc.1 (lenI t1.ch (gtrI (cndI (fun hgt => fin true ?_) fun hle => offI (ldI (v := nv) c1 rfl kc.2 (lenI t1.co (gtrI (fin _ ?_))))))))
  · rw [eq_comm, decide_eq_true_eq]
    exact .inl (by omega)
  · rw [decide_eq_decide]
    omega
end
end Go.Proofs.Ytdgpacdknpahnaa

namespace Go.Proofs.Ytdgpacdknpahnaa
open Go.Conc Go.Proofs.Try
set_option maxRecDepth 100000
def PM (t : Tal) (R : Nat → Rng) (a d n : Nat) (s : Int) : Prop := ∃ m : Nat, m < n ∧ Sum t R a d m s
theorem pm_pos {t : Tal} {R : Nat → Rng} {a d n : Nat} {s : Int} (h : PM t R a d n s) : 0 ≤ s := by
  obtain ⟨_, _, h⟩ := h
  exact h.bd.1
theorem pm_next {t : Tal} {R : Nat → Rng} {a d n : Nat} (s : Int) : PM t R a d (n + 1) s ↔ PM t R a d n s ∨ ∃ s' l, Sum t R a d n s' ∧ ((0 : Int) ≤ l ∧ l ≤ 0) ∧ s = s' + l := by
  constructor
  · rintro ⟨m, h1, h2⟩
    by_cases e : m = n
    · subst e
      exact .inr ⟨s, 0, h2, by omega, by omega⟩
    · exact .inl ⟨m, by omega, h2⟩
  · rintro (⟨m, h1, h2⟩ | ⟨s', l, h1, h2, rfl⟩)
    · exact ⟨m, by omega, h2⟩
    · have : l = 0 := by omega
      subst this
      exact ⟨n, by omega, by simpa using h1⟩
theorem pm_skip {t : Tal} {R : Nat → Rng} {a d n : Nat} (hno : ¬ ∃ s, Sum t R a d n s) (s : Int) : PM t R a d (n + 1) s ↔ PM t R a d n s := by
  constructor
  · rintro ⟨m, h1, h2⟩
    by_cases e : m = n
    · subst e
      exact absurd ⟨s, h2⟩ hno
    · exact ⟨m, by omega, h2⟩
  · rintro ⟨m, h1, h2⟩
    exact ⟨m, by omega, h2⟩

section
variable {main : Bool} {J : JT} {h H : List AObj} {K : Value → List AObj → Prop} {KV : Value → Prop} {n0 : Nat} {v cv nv : Value} {t : Tal}
theorem ret_aggX {rs : List ResultVar} {f : RG} {n t p x : Nat} {c : List Value} {wr : Bool} {sz : Nat} (ds : f.ds = []) (ok : heapOk h) (hn : n0 ≤ h.length) (hrs : rs = [.cell x t]) (ht : tk prog t = some (true, n)) (S : SameX [] h H) (hr : f.r x = ptr p 0) (hb : H[p]? = some (.cells c wr sz)) (hl : c.length = n) (hkn : kn c = true)
    (h1 : VOk h.length (.agg ⟨c⟩)) (hk : K (.agg ⟨c⟩) h) : RetQ prog rs n0 K .ret f H := by
  subst hrs
  obtain ⟨g, rfl⟩ := S.app0 (by simp)
  refine retQ_drop ds ok hn (resW_cell (gg := true) (s := n) ht ?_)
  rw [hr]
  refine load_part (c := c) hb (by omega) (by rw [List.drop_zero, List.take_of_length_le (by omega)]) hkn (resW_nil ?_)
  exact ⟨h1, hk⟩

theorem pm_lost (fine : TalFine t) (hT : TruthIs t (limA t 0)) {a b : Nat} (hab : a ≤ b) (hb : b < t.gates.toNat) {x z : Int} (e : Ext (PM t (bkR t (limA t 0)) a (b - a) 541) x z) : x = (lostR t (bkR t (limA t 0)) a b).lo ∧ max 0 z = (lostR t (bkR t (limA t 0)) a b).hi := by
  obtain ⟨h1, ⟨m1, h2⟩, ⟨m2, h3⟩⟩ := lost_all fine hT hab hb
  have hgt := fine.gates
  have hin : ∀ (m s : Int), Sum t (bkR t (limA t 0)) a (b - a) m s → PM t (bkR t (limA t 0)) a (b - a) 541 s := fun m s hs => by
    have h4 := hs.at
    rw [show a + (b - a) = b from by omega] at h4
    have h5 := bk_fwd (g := b) (by omega) h4
    have h6 := fwd_top fine (L := limA t 0) b
    have h7 := bk_rsm fine hT b (by omega)
    unfold Rng.has at h4 h5
    refine ⟨m.toNat, by omega, ?_⟩
    rw [show ((m.toNat : Nat) : Int) = m from by omega]
    exact hs
  have p1 := hin _ _ h2
  have p2 := hin _ _ h3
  obtain ⟨⟨m3, _, q1⟩, ⟨m4, _, q2⟩, q3⟩ := e.1 ⟨_, p1⟩
  have a1 := h1 _ _ q1
  have a2 := h1 _ _ q2
  have a3 := q3 _ p1
  have a4 := q3 _ p2
  have a5 := h2.bd
  unfold Rng.has at *
  omega

theorem good88 (hJ : Closed prog main J) {a b : Nat} (ht : TalAt h v t cv nv) (fine : TalFine t) (hT : TruthIs t (limA t 0)) (hab : a ≤ b) (hb : b < t.gates.toNat) (hK : K (lostR t (bkR t (limA t 0)) a b).val h) : Good prog J 88 [v, vint a, vint b] h K := by
  refine g88 hJ fun ok => ?_
  rw [e88, ht.val]
  have hgt := fine.gates
  have hmost := fine.most
  refine qBox (tal_one ht) fun H1 p3 e1 S1 c1 l1 => qAl fun H2 p6 e2 S2 c2 l2 => ?_
  have S12 := S1.trans S2
  have t2 : TalAt H2 (.agg ⟨talCells t cv nv⟩) t cv nv := ⟨rfl, S12.sli ht.ch (by simp), S12.sli ht.co (by simp)⟩
  refine load_part (c := talCells t cv nv) (S2.get c1 (by simp)) (by rw [cs_val]; omega) rfl (talAt_kc t2) ?_
  refine good109 hJ t2 fine hT hab hb fun H3 p q lo hi S3 y9 y10 hext => ext0 (ext1 ?_)
  have hp := lt_of_get y9
  have hq := lt_of_get y10
  refine fill1 rfl rfl (by decide) (fillI (qAl fun H4 p9 e4 S4 c4 l4 => qStA (c := [vint (-1), vint 0]) c4 rfl rfl rfl fun H5 S5 c5 l5 => ?_))
  have S35 : SameX [] H3 H5 := (SameX.refl.trans S4).thru S5 (by simp; omega)
  have hS3 := S3.1
  have z9 := S35.get y9 (by simp)
  have z10 := S35.get y10 (by simp)
  have c6 := S35.get (S3.get c2 (by simp)) (by simp)
  have hbd : ∀ j : Nat, j < 541 → -1 ≤ lo j ∧ lo j ≤ 1000 ∧ -1 ≤ hi j ∧ hi j ≤ 1000 := fun j hj => by
    have e := hext j hj
    have hd5 : t.most * ((b - a : Nat) : Int) ≤ 60 * 5 := (mul_bd hmost.1 hmost.2 (by omega) (by omega)).2
    by_cases hs : ∃ s, Sum t (bkR t (limA t 0)) a (b - a) j s
    · obtain ⟨e1, e2, _⟩ := e.1 hs
      have := e1.bd
      have := e2.bd
      omega
    · have := e.2 hs
      omega
  refine l88_1 hJ (fun n : Nat => 541 - n) (fun n f H => SameX [p9] H5 H ∧ n ≤ 541 ∧ (∃ x z : Int, H[p9]? = some (.cells [vint x, vint (max 0 z)] true 0) ∧ Ext (PM t (bkR t (limA t 0)) a (b - a) n) x z) ∧ f.ds = [] ∧ f.r 6 = ptr p6 0 ∧ f.r 7 = rowV p ∧ f.r 8 = rowV q ∧ f.r 9 = ptr p9 0 ∧ f.r 10 = vint (n : Nat)) ?_ (s := 0)
    (.inl ⟨SameX.refl, by omega, ⟨-1, -1, by rw [show max (0 : Int) (-1) = 0 from by decide]; exact c5, ext_none fun s ⟨m, hm, _⟩ => by omega⟩, rfl, rfl, rfl, rfl, rfl, rfl⟩)
  rintro n f H ⟨S, hn, ⟨x, z, cx, he⟩, hds, r6, r7, r8, r9, r10⟩ ok' hn'
  have d9 := S.get z9 (by simp; omega)
  have d10 := S.get z10 (by simp; omega)
  rw [s88_1]
  simp only [r6, r7, r8, r9, r10]
  refine lssI (cndI (fun hlt => ?_) fun hge => ?_)
  · have hn541 : n < 541 := by omega
    obtain ⟨b1, b2, b3, b4⟩ := hbd n hn541
    refine row_ld d9 hn541 fun _ => lssI (cndI (fun hneg => ?_) fun hpos => ?_)
    · have hno := ((hext n hn541).neg fun s hs => hs.bd.1).1 hneg
      exact addI (by omega) ⟨n + 1, by dsimp only; omega, .inl ⟨S, by omega, ⟨x, z, cx, he.iff fun s => (pm_skip hno s).symm⟩, hds, r6, r7, r8, r9, by show vint _ = vint _; congr 1⟩⟩
    · have hyes : ∃ s, Sum t (bkR t (limA t 0)) a (b - a) n s := by
        refine Classical.byContradiction fun hno => ?_
        have := ((hext n hn541).neg fun s hs => hs.bd.1).2 hno
        omega
      have hst := Ext.step he (hext n hn541) (fun s hs => pm_pos hs) (fun s hs => hs.bd.1) hyes (Int.le_refl 0) (Int.le_refl 0) pm_next
      rw [Int.add_zero, Int.add_zero] at hst
      have fin3 : ∀ (nx0 : RG → List AObj → Prop) (Fz : RG) (H2 : List AObj), (∀ f' H3, SameX [p9] H H3 → H3[p9]? = some (.cells [vint (if x < 0 ∨ lo n < x then lo n else x), vint (max 0 (max z (hi n)))] true 0) → f'.ds = [] → f'.r 6 = ptr p6 0 → f'.r 7 = rowV p → f'.r 8 = rowV q → f'.r 9 = ptr p9 0 → f'.r 10 = vint ((n : Int) + 1) → nx0 f' H3) →
          SameX [p9] H H2 → H2[p9]? = some (.cells [vint (if x < 0 ∨ lo n < x then lo n else x), vint (max 0 z)] true 0) → Fz.ds = [] → Fz.r 6 = ptr p6 0 → Fz.r 7 = rowV p → Fz.r 8 = rowV q → Fz.r 9 = ptr p9 0 → Fz.r 10 = vint (n : Nat) →
          W prog J 54 h.length 88 (subC [1, 1, 1, 0, 1, 0, 0, 1, 0, 0, 1, 1] (codeOf f88)) Fz H2 (contQ prog J 54 h.length 88 [1, 1, 1, 0, 1, 0, 0, 1, 0, 0, 1, 1] (codeOf f88) [nx0] (RetQ prog [.cell 6 38] h.length K)) := by
        intro nx0 Fz H2 hnx S2 c2 u0 u6 u7 u8 u9 u10
        rw [s88_3, u8, u9, u10]
        refine offI (ldI (v := vint (max 0 z)) c2 rfl rfl (row_ld (S2.get d10 (by simp; omega)) hn541 fun _ => maxI (offI (qSt c2 (by simp) rfl rfl fun H3 S3 c3 l3 => addI (by omega) ?_))))
        refine hnx _ H3 (S2.trans S3) ?_ u0 u6 u7 u8 u9 rfl
        rw [c3]
        have : max (max 0 z) (hi n) = max 0 (max z (hi n)) := by omega
        rw [this]
        rfl
      have fin2 : ∀ (nx0 : RG → List AObj → Prop) (Fz : RG) (bb : Bool), (∀ f' H3, SameX [p9] H H3 → H3[p9]? = some (.cells [vint (if x < 0 ∨ lo n < x then lo n else x), vint (max 0 (max z (hi n)))] true 0) → f'.ds = [] → f'.r 6 = ptr p6 0 → f'.r 7 = rowV p → f'.r 8 = rowV q → f'.r 9 = ptr p9 0 → f'.r 10 = vint ((n : Int) + 1) → nx0 f' H3) →
          Fz.r 39 = .bool bb → bb = decide (x < 0 ∨ lo n < x) → Fz.ds = [] → Fz.r 6 = ptr p6 0 → Fz.r 7 = rowV p → Fz.r 8 = rowV q → Fz.r 9 = ptr p9 0 → Fz.r 10 = vint (n : Nat) →
          W prog J 54 h.length 88 (subC [1, 1, 1, 0, 1, 0, 0, 1, 0, 0, 1, 0, 1] (codeOf f88)) Fz H (contQ prog J 54 h.length 88 [1, 1, 1, 0, 1, 0, 0, 1, 0, 0, 1, 0, 1] (codeOf f88) [nx0] (RetQ prog [.cell 6 38] h.length K)) := by
        intro nx0 Fz bb hnx h39 hbb u0 u6 u7 u8 u9 u10
        subst hbb
        rw [s88_2, h39, u7, u9, u10]
        refine cndI (fun ht => ?_) fun hf => ?_
        · refine row_ld d9 hn541 fun _ => offI (qSt cx (by simp) rfl rfl fun H2 S2 c2 l2 => ?_)
          refine fin3 nx0 _ H2 hnx S2 ?_ u0 u6 u7 u8 u9 u10
          rw [c2, if_pos ht]
          rfl
        · refine fin3 nx0 _ H hnx SameX.refl ?_ u0 u6 u7 u8 u9 u10
          rw [cx, if_neg hf]
      have hnx : ∀ f' H3, SameX [p9] H H3 → H3[p9]? = some (.cells [vint (if x < 0 ∨ lo n < x then lo n else x), vint (max 0 (max z (hi n)))] true 0) → f'.ds = [] → f'.r 6 = ptr p6 0 → f'.r 7 = rowV p → f'.r 8 = rowV q → f'.r 9 = ptr p9 0 → f'.r 10 = vint ((n : Int) + 1) →
          Nx h.length (fun n : Nat => 541 - n) (fun n f H => SameX [p9] H5 H ∧ n ≤ 541 ∧ (∃ x z : Int, H[p9]? = some (.cells [vint x, vint (max 0 z)] true 0) ∧ Ext (PM t (bkR t (limA t 0)) a (b - a) n) x z) ∧ f.ds = [] ∧ f.r 6 = ptr p6 0 ∧ f.r 7 = rowV p ∧ f.r 8 = rowV q ∧ f.r 9 = ptr p9 0 ∧ f.r 10 = vint (n : Nat)) n f' H3 :=
        fun f' H3 S3 c3 u0 u6 u7 u8 u9 u10 => ⟨n + 1, by dsimp only; omega, .inl ⟨S.trans S3, by omega, ⟨_, _, c3, hst⟩, u0, u6, u7, u8, u9, u10⟩⟩
      refine offI (ldI (v := vint x) cx rfl rfl (lssI (cndI (fun hx0 => ?_) fun hx0 => ?_)))
      · exact fin2 _ _ true hnx rfl (by rw [eq_comm, decide_eq_true_eq]; exact .inl hx0) hds r6 r7 r8 r9 r10
      · refine row_ld d9 hn541 fun _ => offI (ldI (v := vint x) cx rfl rfl (lssI ?_))
        refine fin2 _ _ _ hnx rfl ?_ hds r6 r7 r8 r9 r10
        rw [decide_eq_decide]
        omega
  · have hn541 : n = 541 := by omega
    subst hn541
    obtain ⟨rfl, hz⟩ := pm_lost fine hT hab hb he
    rw [hz] at cx
    have hS12 := S12.1
    have SF : SameX [] h H := ((S12.trans S3).trans S35).thru S (by simp; omega)
    refine load_part (c := (lostR t (bkR t (limA t 0)) a b).cells) cx (by simp) rfl rfl (qStA (S.get c6 (by simp; omega)) rfl rfl rfl fun H6 S6 c7 l7 => ?_)
    exact ret_aggX hds ok (Nat.le_refl _) rfl (by kernel_rfl) (SF.thru S6 (by simp; have := S1.1; omega)) r6 c7 rfl rfl (by simp [VOk, AOk, LOk, Rng.cells]) hK

theorem good53 (hJ : Closed prog main J) {a b : Int} (ht : TalAt h v t cv nv)
    (k1 : talErr t ≠ 0 → K (.tuple ⟨[.agg ⟨[vint 0, vint 0]⟩, vint (talErr t)]⟩) h) (k2 : talErr t = 0 → ¬ ((0 ≤ a ∧ a ≤ t.gates - 1) ∧ (0 ≤ b ∧ b ≤ t.gates - 1)) → K (.tuple ⟨[.agg ⟨[vint 0, vint 0]⟩, vint 3]⟩) h)
    (k3 : talErr t = 0 → (0 ≤ a ∧ a ≤ t.gates - 1) → (0 ≤ b ∧ b ≤ t.gates - 1) → a ≥ b → K (.tuple ⟨[.agg ⟨[vint 0, vint 0]⟩, vint 5]⟩) h)
    (k4 : talErr t = 0 → (0 ≤ a ∧ a ≤ t.gates - 1) → (0 ≤ b ∧ b ≤ t.gates - 1) → a < b → ¬ TruthIs t (limA t 0) → K (.tuple ⟨[.agg ⟨[vint 0, vint 0]⟩, vint 11]⟩) h)
    (k5 : talErr t = 0 → (0 ≤ a ∧ a ≤ t.gates - 1) → (0 ≤ b ∧ b ≤ t.gates - 1) → a < b → TruthIs t (limA t 0) → K (.tuple ⟨[(lostR t (bkR t (limA t 0)) a.toNat b.toNat).val, vint 0]⟩) h) : Good prog J 53 [v, vint a, vint b] h K := by
  refine g53 hJ fun ok => ?_
  rw [e53, ht.val]
  refine qBox (tal_one ht) fun H1 p1 e1 S1 b1 l1 => qAl fun H2 p2 e2 S2 b2 l2 => ?_
  have b1' := S2.get b1 (by simp)
  have S12 := S1.trans S2
  have t2 : TalAt H2 (.agg ⟨talCells t cv nv⟩) t cv nv := ⟨rfl, S12.sli ht.ch (by simp), S12.sli ht.co (by simp)⟩
  have kt := talAt_kc t2
  have hS1 := S1.1
  refine load_part (c := talCells t cv nv) b1' (by rw [cs_val]; omega) rfl kt ?_
  have err : ∀ (e : Int), K (.tuple ⟨[.agg ⟨[vint 0, vint 0]⟩, vint e]⟩) h → ∀ F' : Value → RG, (∀ c, (F' c).ds = [] ∧ (F' c).r 6 = ptr p2 0 ∧ (F' c).r 7 = vint e) →
      aFill [vint 0, vint 0] [] fun c11 => aStore 2 (ptr p2 0) (.agg ⟨c11⟩) H2 fun h12 => RetQ prog [.cell 6 38, .tmp 7] h.length K .ret (F' (.agg ⟨c11⟩)) h12 := by
    intro e hk F' hF
    refine fillI (qStA b2 rfl rfl rfl fun H4 S4 c4 l4 => ?_)
    exact ret_agg2 (hF _).1 ok (Nat.le_refl _) rfl (by kernel_rfl) (S12.thru S4 (by simp; omega)) (hF _).2.1 c4 rfl rfl (hF _).2.2 (by simp [unk]) (by simp [VOk, AOk, LOk]) (by simp [VOk]) hk
  refine good52 hJ t2 (neqI (cndI (fun hne => err _ (k1 hne) (fun _ => _) fun _ => ⟨rfl, rfl, rfl⟩) fun heq => ?_))
  have h0 : talErr t = 0 := by omega
  have fine := talErr_fine h0
  have hg := fine.gates
  have j1 : ∀ (Fz : RG) (bb : Bool), Fz.r 28 = .bool bb → bb = decide (¬ ((0 ≤ a ∧ a ≤ t.gates - 1) ∧ (0 ≤ b ∧ b ≤ t.gates - 1))) → Fz.ds = [] → Fz.r 1 = vint a → Fz.r 2 = vint b → Fz.r 3 = ptr p1 0 → Fz.r 6 = ptr p2 0 →
      W prog J 42 h.length 53 (subC [1, 1, 0, 1] (codeOf f53)) Fz H2 (contQ prog J 42 h.length 53 [1, 1, 0, 1] (codeOf f53) [] (RetQ prog [.cell 6 38, .tmp 7] h.length K)) := by
    intro Fz bb h28 hbb u0 u1 u2 u3 u6
    subst hbb
    rw [s53_1, h28, u1, u2, u3, u6]
    refine cndI (fun hn => err 3 (k2 h0 hn) (fun _ => _) fun _ => ⟨u0, u6, rfl⟩) fun hin => ?_
    obtain ⟨ha, hb⟩ := Classical.not_not.1 hin
    refine geqI (cndI (fun hge => err 5 (k3 h0 ha hb hge) (fun _ => _) fun _ => ⟨u0, u6, rfl⟩) fun hlt => ?_)
    refine load_part (c := talCells t cv nv) b1' (by rw [cs_val]; omega) rfl kt (good81 hJ t2 fine (notI (cndN (fun hT => err 11 (k4 h0 ha hb (by omega) hT) (fun _ => _) fun _ => ⟨u0, u6, rfl⟩) fun hT => ?_)))
    have k5' := k5 h0 ha hb (by omega) hT
    obtain ⟨a', rfl⟩ : ∃ a' : Nat, a = a' := ⟨a.toNat, by omega⟩
    obtain ⟨b', rfl⟩ : ∃ b' : Nat, b = b' := ⟨b.toNat, by omega⟩
    rw [Int.toNat_natCast, Int.toNat_natCast] at k5'
    refine load_part (c := talCells t cv nv) b1' (by rw [cs_val]; omega) rfl kt (good88 hJ (a := a') (b := b') t2 fine hT (by omega) (by omega) ?_)
    refine qStA (c := (lostR t (bkR t (limA t 0)) a' b').cells) b2 rfl rfl rfl fun H5 S5 c5 l5 => ?_
    exact ret_agg2 (v := vint 0) u0 ok (Nat.le_refl _) rfl (by kernel_rfl) (S12.thru S5 (by simp; omega)) u6 c5 rfl rfl rfl (by simp [unk]) (by simp [VOk, AOk, LOk, Rng.cells]) (by simp [VOk]) k5'
  refine offI (ldI (v := vint t.gates) b1' rfl rfl (subI (by omega) (good68 hJ (notI (cndN (fun hn => ?_) fun hin => ?_)))))
  · exact j1 _ true rfl (by rw [eq_comm, decide_eq_true_eq]; exact fun x => hn x.1) rfl rfl rfl rfl rfl
  · refine offI (ldI (v := vint t.gates) b1' rfl rfl (subI (by omega) (good68 hJ (notI ?_))))
    refine j1 _ _ rfl ?_ rfl rfl rfl rfl rfl
    rw [← decide_not, decide_eq_decide]
    exact ⟨fun x y => x y.2, fun x y => x ⟨hin, y⟩⟩

theorem good54 (hJ : Closed prog main J) {many : Int} (ht : TalAt h v t cv nv)
    (k1 : talErr t ≠ 0 → K (.tuple ⟨[vint 0, vint (talErr t)]⟩) h) (k2 : talErr t = 0 → many < 0 → K (.tuple ⟨[vint 0, vint 1]⟩) h) (k3 : talErr t = 0 → 0 ≤ many → ¬ TruthIs t (limA t 0) → K (.tuple ⟨[vint 0, vint 11]⟩) h)
    (k4 : talErr t = 0 → 0 ≤ many → TruthIs t (limA t 0) → ∀ g, g < t.gates.toNat → (∀ j, j < g → (lostR t (bkR t (limA t 0)) 0 j).lo < many) → many ≤ (lostR t (bkR t (limA t 0)) 0 g).lo → K (.tuple ⟨[vint (g : Nat), vint 0]⟩) h)
    (k5 : talErr t = 0 → 0 ≤ many → TruthIs t (limA t 0) → (∀ j, j < t.gates.toNat → (lostR t (bkR t (limA t 0)) 0 j).lo < many) → K (.tuple ⟨[vint 0, vint 11]⟩) h) : Good prog J 54 [v, vint many] h K := by
  refine g54 hJ fun ok => ?_
  rw [e54, ht.val]
  refine qBox (tal_one ht) fun H1 p1 e1 S1 b1 l1 => ?_
  have t1 : TalAt H1 (.agg ⟨talCells t cv nv⟩) t cv nv := ⟨rfl, S1.sli ht.ch (by simp), S1.sli ht.co (by simp)⟩
  have kt := talAt_kc t1
  have fin : ∀ (x y : Int), K (.tuple ⟨[vint x, vint y]⟩) h → retL h.length K [] [vint x, vint y] H1 := fun x y hk =>
    retX ok (Nat.le_refl _) S1 (by simp) (by simp [unk]) (by simp [pack, VOk, AOk, LOk]) hk
  refine load_part (c := talCells t cv nv) b1 (by rw [cs_val]; omega) rfl kt (good52 hJ t1 (neqI (cndI (fun hne => fin _ _ (k1 hne)) fun heq => ?_)))
  have h0 : talErr t = 0 := by omega
  have fine := talErr_fine h0
  have hg := fine.gates
  refine lssI (cndI (fun hn => fin _ _ (k2 h0 hn)) fun hn => ?_)
  refine load_part (c := talCells t cv nv) b1 (by rw [cs_val]; omega) rfl kt (good81 hJ t1 fine (notI (cndN (fun hT => fin _ _ (k3 h0 (by omega) hT)) fun hT => ?_)))
  refine l54_1 hJ (fun i : Nat => t.gates.toNat - i) (fun i f H => H = H1 ∧ i ≤ t.gates.toNat ∧ (∀ j, j < i → (lostR t (bkR t (limA t 0)) 0 j).lo < many) ∧ f.ds = [] ∧ f.r 1 = vint many ∧ f.r 2 = ptr p1 0 ∧ f.r 7 = vint (i : Nat)) ?_ (s := 0)
    (.inl ⟨rfl, by omega, by simp, rfl, rfl, rfl, rfl⟩)
  rintro i f H ⟨rfl, hi, hlo, hds, r1, r2, r7⟩ ok' hn'
  rw [s54_1]
  simp only [r1, r2, r7, hds]
  refine offI (ldI (v := vint t.gates) b1 rfl rfl (lssI (cndI (fun hlt => ?_) fun hge => fin _ _ (k5 h0 (by omega) hT fun j hj => hlo j (by omega)))))
  refine load_part (c := talCells t cv nv) b1 (by rw [cs_val]; omega) rfl kt (good88 hJ (a := 0) (b := i) t1 fine hT (by omega) (by omega) ?_)
  refine fldI (x := vint (lostR t (bkR t (limA t 0)) 0 i).lo) rfl (geqI (cndI (fun hge => ?_) fun hlt2 => addI (by omega) ?_))
  · exact fin i 0 (k4 h0 (by omega) hT i (by omega) hlo hge)
  · refine ⟨i + 1, by dsimp only; omega, .inl ⟨rfl, by omega, fun j hj => ?_, hds, r1, r2, by show vint _ = vint _; congr 1⟩⟩
    by_cases e : j = i
    · subst e
      omega
    · exact hlo j (by omega)

theorem dbt_wid {R : Nat → Rng} (h0 : 0 ≤ (R 0).hi - (R 0).lo) : ∀ i : Nat, (dbt R (i + 1)).1 < i + 1 ∧ (dbt R (i + 1)).2 = (R (dbt R (i + 1)).1).hi - (R (dbt R (i + 1)).1).lo := by
  intro i
  induction i with
  | zero =>
    have e : dbt R (0 + 1) = (0, (R 0).hi - (R 0).lo) := by
      rw [dbt, if_pos]
      show _ > (-1 : Int)
      omega
    rw [e]
    exact ⟨Nat.lt_succ_self _, rfl⟩
  | succ i ih =>
    by_cases hc : (R (i + 1)).hi - (R (i + 1)).lo > (dbt R (i + 1)).2
    · rw [dbt, if_pos hc]
      exact ⟨Nat.lt_succ_self _, rfl⟩
    · rw [dbt, if_neg hc]
      exact ⟨by omega, ih.2⟩
theorem dbt_step {R : Nat → Rng} (h0 : 0 ≤ (R 0).hi - (R 0).lo) (i : Nat) : (dbt R (i + 1)).1 = if (R i).hi - (R i).lo > (R (dbt R i).1).hi - (R (dbt R i).1).lo then i else (dbt R i).1 := by
  cases i with
  | zero =>
    have := (dbt_wid h0 0).1
    have e : (dbt R (0 + 1)).1 = 0 := by omega
    rw [e]
    show 0 = if _ then 0 else 0
    split <;> rfl
  | succ i =>
    rw [← (dbt_wid h0 i).2]
    by_cases hc : (R (i + 1)).hi - (R (i + 1)).lo > (dbt R (i + 1)).2
    · rw [if_pos hc]
      show (dbt R (i + 1 + 1)).1 = _
      rw [dbt, if_pos hc]
    · rw [if_neg hc]
      show (dbt R (i + 1 + 1)).1 = _
      rw [dbt, if_neg hc]

theorem good56 (hJ : Closed prog main J) (ht : TalAt h v t cv nv)
    (k1 : talErr t ≠ 0 → K (.tuple ⟨[vint 0, vint 0, vint (talErr t)]⟩) h) (k2 : talErr t = 0 → ¬ TruthIs t (limA t 0) → K (.tuple ⟨[vint 0, vint 0, vint 11]⟩) h)
    (k3 : talErr t = 0 → TruthIs t (limA t 0) → K (.tuple ⟨[vint ((dbt (bkR t (limA t 0)) t.gates.toNat).1 : Nat), vint (dbt (bkR t (limA t 0)) t.gates.toNat).2, vint 0]⟩) h) : Good prog J 56 [v] h K := by
  refine g56 hJ fun ok => ?_
  rw [e56, ht.val]
  refine qBox (tal_one ht) fun H1 p1 e1 S1 b1 l1 => ?_
  have t1 : TalAt H1 (.agg ⟨talCells t cv nv⟩) t cv nv := ⟨rfl, S1.sli ht.ch (by simp), S1.sli ht.co (by simp)⟩
  have kt := talAt_kc t1
  have fin : ∀ (x y z : Int) (H : List AObj), SameX [] h H → K (.tuple ⟨[vint x, vint y, vint z]⟩) h → retL h.length K [] [vint x, vint y, vint z] H := fun x y z H S hk =>
    retX ok (Nat.le_refl _) S (by simp) (by simp [unk]) (by simp [pack, VOk, AOk, LOk]) hk
  refine load_part (c := talCells t cv nv) b1 (by rw [cs_val]; omega) rfl kt ?_
  refine good44 hJ t1 (fun hne => ext0 (ext1 (neqI (cndI (fun _ => fin _ _ _ _ S1 (k1 hne)) fun hx => absurd hne (by simpa using hx))))) (fun h0 hT => ext0 (ext1 (neqI (cndI (fun _ => fin _ _ _ _ S1 (k2 h0 hT)) fun hx => absurd (by decide) hx)))) (fun h0 hT v' H2 o S2 O => ext0 (ext1 (neqI (cndI (fun hx => absurd rfl hx) fun _ => ?_))))
  have fine := talErr_fine h0
  have hg := fine.gates
  have hll := trulyL_len t
  have hR := bk_rsm fine hT
  have SA : SameX [] h H2 := S1.trans S2
  obtain ⟨_, _, ⟨q, _, _⟩ | ⟨p, c, sz, rfl, rfl, hp, _⟩⟩ := O
  · omega
  rw [hll]
  refine l56_1 hJ (fun i : Nat => t.gates.toNat - i) (fun i f H => H = H2 ∧ i ≤ t.gates.toNat ∧ f.ds = [] ∧ f.r 5 = .slice (some ⟨p, 0, none⟩) t.gates.toNat c ∧ f.r 7 = vint ((dbt (bkR t (limA t 0)) i).1 : Nat) ∧ f.r 8 = vint (i : Nat)) ?_ (s := 0)
    (.inl ⟨rfl, by omega, rfl, rfl, rfl, rfl⟩)
  rintro i f H ⟨rfl, hi, hds, r5, r7, r8⟩ ok' hn'
  have hR0 := hR 0 (by omega)
  have hw0 : 0 ≤ (bkR t (limA t 0) 0).hi - (bkR t (limA t 0) 0).lo := by omega
  have hst := dbt_step hw0 i
  have hat : (dbt (bkR t (limA t 0)) i).1 < t.gates.toNat := by
    cases i with
    | zero => show 0 < _; omega
    | succ i => have := (dbt_wid hw0 i).1; omega
  rw [s56_1]
  simp only [r5, r7, r8, hds, lenS]
  have hRa := hR _ hat
  have ea := trulyL_get t _ (show (dbt (bkR t (limA t 0)) i).1 < (trulyL t).length by omega)
  refine lssI (cndI (fun hlt => ?_) fun hge => ?_)
  · have hig : i < t.gates.toNat := by omega
    have hRi := hR i hig
    have ei := trulyL_get t i (by omega)
    refine rng_ld1 hp (by omega) (by omega) fun _ _ => rng_ld hp (by omega) (by omega) fun _ _ => ?_
    rw [ei]
    refine subI (by omega) (rng_ld1 hp (by omega) (by omega) fun _ _ => rng_ld hp (by omega) (by omega) fun _ _ => ?_)
    rw [ea]
    refine subI (by omega) (gtrI (cndI (fun hgt => addI (by omega) ?_) fun hle => addI (by omega) ?_))
    · refine ⟨i + 1, by dsimp only; omega, .inl ⟨rfl, by omega, hds, r5, ?_, by show vint _ = vint _; congr 1⟩⟩
      rw [hst, if_pos hgt]
      rfl
    · refine ⟨i + 1, by dsimp only; omega, .inl ⟨rfl, by omega, hds, r5, ?_, by show vint _ = vint _; congr 1⟩⟩
      rw [hst, if_neg hle]
      exact r7
  · have hig : i = t.gates.toNat := by omega
    subst hig
    refine rng_ld1 hp (by omega) (by omega) fun _ _ => rng_ld hp (by omega) (by omega) fun _ _ => ?_
    rw [ea]
    refine subI (by omega) (fin _ _ _ _ SA ?_)
    have k3' := k3 h0 hT
    obtain ⟨k, hk⟩ : ∃ k, t.gates.toNat = k + 1 := ⟨t.gates.toNat - 1, by omega⟩
    have h2 := (dbt_wid hw0 k).2
    rw [hk] at k3' ⊢
    rw [h2] at k3'
    exact k3'
end
end Go.Proofs.Ytdgpacdknpahnaa

namespace Go.Proofs.Ytdgpacdknpahnaa
open Go.Conc Go.Proofs.Try
set_option maxRecDepth 100000
open Classical in
/-- What Lost answers. -/
noncomputable def lostP (t : Tal) (a b : Int) : Rng × Int :=
  if talErr t ≠ 0 then (⟨0, 0⟩, talErr t) else if ¬ ((0 ≤ a ∧ a ≤ t.gates - 1) ∧ (0 ≤ b ∧ b ≤ t.gates - 1)) then (⟨0, 0⟩, 3) else if a ≥ b then (⟨0, 0⟩, 5) else if ¬ TruthIs t (limA t 0) then (⟨0, 0⟩, 11) else (lostR t (bkR t (limA t 0)) a.toNat b.toNat, 0)

def SinceAt (t : Tal) (many : Int) (g : Nat) : Prop := g < t.gates.toNat ∧ (∀ j, j < g → (lostR t (bkR t (limA t 0)) 0 j).lo < many) ∧ many ≤ (lostR t (bkR t (limA t 0)) 0 g).lo

theorem sinceAt_one {t : Tal} {many : Int} {g k : Nat} (h : SinceAt t many g) (h' : SinceAt t many k) : g = k := by
  rcases Nat.lt_trichotomy g k with e | e | e
  · have := h'.2.1 g e
    have := h.2.2
    omega
  · exact e
  · have := h.2.1 k e
    have := h'.2.2
    omega

open Classical in
/-- What Since answers. -/
noncomputable def sinceP (t : Tal) (many : Int) : Int × Int :=
  if talErr t ≠ 0 then (0, talErr t) else if many < 0 then (0, 1) else if ¬ TruthIs t (limA t 0) then (0, 11) else if h : ∃ g, SinceAt t many g then ((Classical.choose h : Nat), 0) else (0, 11)

open Classical in
/-- What Doubt answers. -/
noncomputable def doubtP (t : Tal) : Int × Int × Int :=
  if talErr t ≠ 0 then (0, 0, talErr t) else if ¬ TruthIs t (limA t 0) then (0, 0, 11) else ((dbt (bkR t (limA t 0)) t.gates.toNat).1, (dbt (bkR t (limA t 0)) t.gates.toNat).2, 0)

section
variable {main : Bool} {J : JT} {h H : List AObj} {K : Value → List AObj → Prop} {n0 : Nat} {v cv nv : Value} {t : Tal} {a b many : Int}
theorem lostP_all (P : Value → Prop) (hK : P (.tuple ⟨[(lostP t a b).1.val, vint (lostP t a b).2]⟩)) :
    (talErr t ≠ 0 → P (.tuple ⟨[.agg ⟨[vint 0, vint 0]⟩, vint (talErr t)]⟩)) ∧ (talErr t = 0 → ¬ ((0 ≤ a ∧ a ≤ t.gates - 1) ∧ (0 ≤ b ∧ b ≤ t.gates - 1)) → P (.tuple ⟨[.agg ⟨[vint 0, vint 0]⟩, vint 3]⟩)) ∧
    (talErr t = 0 → (0 ≤ a ∧ a ≤ t.gates - 1) → (0 ≤ b ∧ b ≤ t.gates - 1) → a ≥ b → P (.tuple ⟨[.agg ⟨[vint 0, vint 0]⟩, vint 5]⟩)) ∧
    (talErr t = 0 → (0 ≤ a ∧ a ≤ t.gates - 1) → (0 ≤ b ∧ b ≤ t.gates - 1) → a < b → ¬ TruthIs t (limA t 0) → P (.tuple ⟨[.agg ⟨[vint 0, vint 0]⟩, vint 11]⟩)) ∧
    (talErr t = 0 → (0 ≤ a ∧ a ≤ t.gates - 1) → (0 ≤ b ∧ b ≤ t.gates - 1) → a < b → TruthIs t (limA t 0) → P (.tuple ⟨[(lostR t (bkR t (limA t 0)) a.toNat b.toNat).val, vint 0]⟩)) := by
  have go : ∀ x y, lostP t a b = (x, y) → P (.tuple ⟨[x.val, vint y]⟩) := fun x y hx => by rw [hx] at hK; exact hK
  refine ⟨fun h0 => go ⟨0, 0⟩ (talErr t) ?_, fun h0 hg => go ⟨0, 0⟩ 3 ?_, fun h0 h1 h2 h3 => go ⟨0, 0⟩ 5 ?_, fun h0 h1 h2 h3 hT => go ⟨0, 0⟩ 11 ?_, fun h0 h1 h2 h3 hT => go _ 0 ?_⟩
  · unfold lostP
    rw [if_pos h0]
  · unfold lostP
    rw [if_neg (not_not_intro h0), if_pos hg]
  · unfold lostP
    rw [if_neg (not_not_intro h0), if_neg (not_not_intro ⟨h1, h2⟩), if_pos h3]
  · unfold lostP
    rw [if_neg (not_not_intro h0), if_neg (not_not_intro ⟨h1, h2⟩), if_neg (show ¬ a ≥ b by omega), if_pos hT]
  · unfold lostP
    rw [if_neg (not_not_intro h0), if_neg (not_not_intro ⟨h1, h2⟩), if_neg (show ¬ a ≥ b by omega), if_neg (not_not_intro hT)]

theorem good31' (hJ : Closed prog main J) (ht : TalAt h v t cv nv) (hK : K (.tuple ⟨[(lostP t a b).1.val, vint (lostP t a b).2]⟩) h) : Good prog J 31 [v, vint a, vint b] h K := by
  obtain ⟨k1, k2, k3, k4, k5⟩ := lostP_all (fun x => K x h) hK
  exact good31 hJ ht k1 k2 k3 k4 k5
theorem good53' (hJ : Closed prog main J) (ht : TalAt h v t cv nv) (hK : K (.tuple ⟨[(lostP t a b).1.val, vint (lostP t a b).2]⟩) h) : Good prog J 53 [v, vint a, vint b] h K := by
  obtain ⟨k1, k2, k3, k4, k5⟩ := lostP_all (fun x => K x h) hK
  exact good53 hJ ht k1 k2 k3 k4 k5

theorem since_all (P : Value → Prop) (hK : P (.tuple ⟨[vint (sinceP t many).1, vint (sinceP t many).2]⟩)) :
    (talErr t ≠ 0 → P (.tuple ⟨[vint 0, vint (talErr t)]⟩)) ∧ (talErr t = 0 → many < 0 → P (.tuple ⟨[vint 0, vint 1]⟩)) ∧ (talErr t = 0 → 0 ≤ many → ¬ TruthIs t (limA t 0) → P (.tuple ⟨[vint 0, vint 11]⟩)) ∧
    (talErr t = 0 → 0 ≤ many → TruthIs t (limA t 0) → ∀ g, g < t.gates.toNat → (∀ j, j < g → (lostR t (bkR t (limA t 0)) 0 j).lo < many) → many ≤ (lostR t (bkR t (limA t 0)) 0 g).lo → P (.tuple ⟨[vint (g : Nat), vint 0]⟩)) ∧
    (talErr t = 0 → 0 ≤ many → TruthIs t (limA t 0) → (∀ j, j < t.gates.toNat → (lostR t (bkR t (limA t 0)) 0 j).lo < many) → P (.tuple ⟨[vint 0, vint 11]⟩)) := by
  have go : ∀ x y, sinceP t many = (x, y) → P (.tuple ⟨[vint x, vint y]⟩) := fun x y hx => by rw [hx] at hK; exact hK
  refine ⟨fun h0 => go 0 (talErr t) ?_, fun h0 hg => go 0 1 ?_, fun h0 h1 hT => go 0 11 ?_, fun h0 h1 hT g g1 g2 g3 => go (g : Nat) 0 ?_, fun h0 h1 hT hn => go 0 11 ?_⟩
  · unfold sinceP
    rw [if_pos h0]
  · unfold sinceP
    rw [if_neg (not_not_intro h0), if_pos hg]
  · unfold sinceP
    rw [if_neg (not_not_intro h0), if_neg (show ¬ many < 0 by omega), if_pos hT]
  · have he : ∃ g, SinceAt t many g := ⟨g, g1, g2, g3⟩
    unfold sinceP
    rw [if_neg (not_not_intro h0), if_neg (show ¬ many < 0 by omega), if_neg (not_not_intro hT), dif_pos he, sinceAt_one (Classical.choose_spec he) ⟨g1, g2, g3⟩]
  · have he : ¬ ∃ g, SinceAt t many g := by
      rintro ⟨g, g1, _, g3⟩
      have := hn g g1
      omega
    unfold sinceP
    rw [if_neg (not_not_intro h0), if_neg (show ¬ many < 0 by omega), if_neg (not_not_intro hT), dif_neg he]

theorem good41' (hJ : Closed prog main J) (ht : TalAt h v t cv nv) (hK : K (.tuple ⟨[vint (sinceP t many).1, vint (sinceP t many).2]⟩) h) : Good prog J 41 [v, vint many] h K := by
  obtain ⟨k1, k2, k3, k4, k5⟩ := since_all (fun x => K x h) hK
  exact good41 hJ ht k1 k2 k3 k4 k5
theorem good54' (hJ : Closed prog main J) (ht : TalAt h v t cv nv) (hK : K (.tuple ⟨[vint (sinceP t many).1, vint (sinceP t many).2]⟩) h) : Good prog J 54 [v, vint many] h K := by
  obtain ⟨k1, k2, k3, k4, k5⟩ := since_all (fun x => K x h) hK
  exact good54 hJ ht k1 k2 k3 k4 k5

theorem doubt_all (P : Value → Prop) (hK : P (.tuple ⟨[vint (doubtP t).1, vint (doubtP t).2.1, vint (doubtP t).2.2]⟩)) :
    (talErr t ≠ 0 → P (.tuple ⟨[vint 0, vint 0, vint (talErr t)]⟩)) ∧ (talErr t = 0 → ¬ TruthIs t (limA t 0) → P (.tuple ⟨[vint 0, vint 0, vint 11]⟩)) ∧
    (talErr t = 0 → TruthIs t (limA t 0) → P (.tuple ⟨[vint ((dbt (bkR t (limA t 0)) t.gates.toNat).1 : Nat), vint (dbt (bkR t (limA t 0)) t.gates.toNat).2, vint 0]⟩)) := by
  have go : ∀ x y z, doubtP t = (x, y, z) → P (.tuple ⟨[vint x, vint y, vint z]⟩) := fun x y z hx => by rw [hx] at hK; exact hK
  refine ⟨fun h0 => go 0 0 (talErr t) ?_, fun h0 hT => go 0 0 11 ?_, fun h0 hT => go _ _ 0 ?_⟩
  · unfold doubtP
    rw [if_pos h0]
  · unfold doubtP
    rw [if_neg (not_not_intro h0), if_pos hT]
  · unfold doubtP
    rw [if_neg (not_not_intro h0), if_neg (not_not_intro hT)]

theorem good55' (hJ : Closed prog main J) (ht : TalAt h v t cv nv) (hK : K (.tuple ⟨[vint (doubtP t).1, vint (doubtP t).2.1, vint (doubtP t).2.2]⟩) h) : Good prog J 55 [v] h K := by
  obtain ⟨k1, k2, k3⟩ := doubt_all (fun x => K x h) hK
  exact good55 hJ ht k1 k2 k3
theorem good56' (hJ : Closed prog main J) (ht : TalAt h v t cv nv) (hK : K (.tuple ⟨[vint (doubtP t).1, vint (doubtP t).2.1, vint (doubtP t).2.2]⟩) h) : Good prog J 56 [v] h K := by
  obtain ⟨k1, k2, k3⟩ := doubt_all (fun x => K x h) hK
  exact good56 hJ ht k1 k2 k3
end
end Go.Proofs.Ytdgpacdknpahnaa

namespace Go.Proofs.Ytdgpacdknpahnaa
open Go.Conc Go.Proofs.Try
set_option maxRecDepth 100000
abbrev TV := Tal × Value × Value
def tvC (x : TV) : List Value := talCells x.1 x.2.1 x.2.2
theorem addR {t : TypeId} {x : Value} {a b : Int} {KV : Value → Prop} (hx : x = vint a) (h : -9223372036854775808 ≤ a + b ∧ a + b < 9223372036854775808) (hk : KV (vint (a + b))) : aBin prog .add t x (vint b) KV := by
  subst hx
  exact addI h hk
theorem w4 {z a b c d : Value} : wrAt (wrAt (wrAt (wrAt (zrep [z] 4) 0 [a]) 1 [b]) 2 [c]) 3 [d] = [a, b, c, d] := by kernel_rfl
end Go.Proofs.Ytdgpacdknpahnaa

namespace Go.Proofs.Ytdgpacdknpahnaa
open Go.Conc Go.Proofs.Try
set_option maxRecDepth 100000
theorem w3 {z a b c : Value} : wrAt (wrAt (wrAt (zrep [z] 3) 0 [a]) 1 [b]) 2 [c] = [a, b, c] := by kernel_rfl
theorem fill3 {a b c : Int} {KL : List Value → Prop} (hk : KL ([a, b, c].map vint)) : aFill (zrep [vint 0] 3) [(0, 1, vint a), (1, 1, vint b), (2, 1, vint c)] KL := by
  refine ⟨rfl, rfl, ?_, rfl, rfl, ?_, rfl, rfl, ?_, ?_⟩
  · exact Nat.le_of_ble_eq_true rfl
  · rw [wrAt_length]; exact Nat.le_of_ble_eq_true rfl
  · rw [wrAt_length, wrAt_length]; exact Nat.le_of_ble_eq_true rfl
  · show KL (wrAt (wrAt (wrAt (zrep [vint 0] 3) 0 [vint a]) 1 [vint b]) 2 [vint c])
    rw [w3]
    exact hk
theorem w18 {z0 z1 z2 z3 z4 z5 a0 a1 a2 a3 a4 a5 b0 b1 b2 b3 b4 b5 c0 c1 c2 c3 c4 c5 : Value} :
    wrAt (wrAt (wrAt (zrep [z0, z1, z2, z3, z4, z5] 3) 0 [a0, a1, a2, a3, a4, a5]) 6 [b0, b1, b2, b3, b4, b5]) 12 [c0, c1, c2, c3, c4, c5] =
      [a0, a1, a2, a3, a4, a5, b0, b1, b2, b3, b4, b5, c0, c1, c2, c3, c4, c5] := by kernel_rfl
theorem z18 {z0 z1 z2 z3 z4 z5 : Value} : (zrep [z0, z1, z2, z3, z4, z5] 3).length = 18 := by kernel_rfl
theorem fill18 {x y z : TV} {KL : List Value → Prop} (hx : (tvC x).all one = true) (hy : (tvC y).all one = true) (hz : (tvC z).all one = true) (hk : KL ([x, y, z].flatMap tvC)) :
    aFill (zrep [vint 0, vint 0, vint 0, .slice none 0 0, vint 0, .slice none 0 0] 3) [(0, 6, .agg ⟨tvC x⟩), (6, 6, .agg ⟨tvC y⟩), (12, 6, .agg ⟨tvC z⟩)] KL := by
  unfold aFill
  refine ⟨rfl, hx, by rw [z18]; decide, ?_⟩
  unfold aFill
  refine ⟨rfl, hy, by rw [wrAt_length, z18]; decide, ?_⟩
  unfold aFill
  refine ⟨rfl, hz, by rw [wrAt_length, wrAt_length, z18]; decide, ?_⟩
  unfold aFill
  show KL (wrAt (wrAt (wrAt _ 0 (tvC x)) 6 (tvC y)) 12 (tvC z))
  unfold tvC talCells
  rw [w18]
  exact hk

theorem x30 {a b c : Value} {KV : Value → Prop} (hk : KV a) : aExt (.tuple ⟨[a, b, c]⟩) 0 KV := hk
theorem x31 {a b c : Value} {KV : Value → Prop} (hk : KV b) : aExt (.tuple ⟨[a, b, c]⟩) 1 KV := hk
theorem x32 {a b c : Value} {KV : Value → Prop} (hk : KV c) : aExt (.tuple ⟨[a, b, c]⟩) 2 KV := hk

structure Reg14 (p14 p15 p16 p17 i : Nat) (F : RG) : Prop where
  ds : F.ds = []
  r14 : F.r 14 = .slice (some ⟨p14, 0, none⟩) 3 3
  r15 : F.r 15 = .slice (some ⟨p15, 0, none⟩) 3 3
  r16 : F.r 16 = .slice (some ⟨p16, 0, none⟩) 3 3
  r17 : F.r 17 = .slice (some ⟨p17, 0, none⟩) 3 3
  r18 : F.r 18 = vint (i : Nat)

structure Rd14 (p14 p15 p16 p17 i : Nat) (x : TV) (a b m : Int) (H : List AObj) : Prop where
  lt : i < 3
  xs : ∃ c, H[p14]? = some (.cells c true 0) ∧ c.length = 18 ∧ (c.drop (i * 6)).take 6 = tvC x
  fs : ∃ c, H[p15]? = some (.cells c true 0) ∧ c[i]? = some (vint a)
  gs : ∃ c, H[p16]? = some (.cells c true 0) ∧ c[i]? = some (vint b)
  ms : ∃ c, H[p17]? = some (.cells c true 0) ∧ c[i]? = some (vint m)
  tx : TalAt H (.agg ⟨tvC x⟩) x.1 x.2.1 x.2.2
  small : x.1.changes.length < 1000 ∧ x.1.counts.length < 1000

section
variable {main : Bool} {J : JT} {h H : List AObj} {K : Value → List AObj → Prop} {KV : Value → Prop} {n0 p14 p15 p16 p17 i : Nat} {x : TV} {a b m : Int} {F : RG} {nx0 : RG → List AObj → Prop}
theorem Rd14.same {H' : List AObj} (R : Rd14 p14 p15 p16 p17 i x a b m H) (S : SameX [] H H') : Rd14 p14 p15 p16 p17 i x a b m H' := by
  obtain ⟨h0, ⟨c1, a1, a2, a3⟩, ⟨c2, b1, b2⟩, ⟨c3, d1, d2⟩, ⟨c4, e1, e2⟩, tx, sm⟩ := R
  exact ⟨h0, ⟨c1, S.get a1 (by simp), a2, a3⟩, ⟨c2, S.get b1 (by simp), b2⟩, ⟨c3, S.get d1 (by simp), d2⟩, ⟨c4, S.get e1 (by simp), e2⟩, talAt_same tx S (by simp), sm⟩

theorem Rd14.idx (R : Rd14 p14 p15 p16 p17 i x a b m H) (hk : ∀ p, (∀ {KW : Value → Prop}, KW (.agg ⟨tvC x⟩) → aLoad true 6 p H KW) → ptrBlk p = some p14 → KV p) : aIdx 6 (.slice (some ⟨p14, 0, none⟩) 3 3) (vint (i : Nat)) KV := by
  have hi := R.lt
  refine idxI ⟨by omega, by omega⟩ ?_
  rw [Int.toNat_natCast, Nat.zero_add]
  obtain ⟨c, h1, h2, h3⟩ := R.xs
  exact hk _ (fun hw => load_part (c := tvC x) h1 (by omega) h3 (talAt_kc R.tx) hw) rfl
theorem Rd14.idf (R : Rd14 p14 p15 p16 p17 i x a b m H) (hk : ∀ p, (∀ {KW : Value → Prop}, KW (vint a) → aLoad false 1 p H KW) → ptrBlk p = some p15 → KV p) : aIdx 1 (.slice (some ⟨p15, 0, none⟩) 3 3) (vint (i : Nat)) KV := by
  have hi := R.lt
  refine idxI ⟨by omega, by omega⟩ ?_
  rw [Int.toNat_natCast, Nat.zero_add, Nat.mul_one]
  obtain ⟨c, h1, h2⟩ := R.fs
  exact hk _ (fun hw => ldI h1 h2 rfl hw) rfl
theorem Rd14.idg (R : Rd14 p14 p15 p16 p17 i x a b m H) (hk : ∀ p, (∀ {KW : Value → Prop}, KW (vint b) → aLoad false 1 p H KW) → ptrBlk p = some p16 → KV p) : aIdx 1 (.slice (some ⟨p16, 0, none⟩) 3 3) (vint (i : Nat)) KV := by
  have hi := R.lt
  refine idxI ⟨by omega, by omega⟩ ?_
  rw [Int.toNat_natCast, Nat.zero_add, Nat.mul_one]
  obtain ⟨c, h1, h2⟩ := R.gs
  exact hk _ (fun hw => ldI h1 h2 rfl hw) rfl
theorem Rd14.idm (R : Rd14 p14 p15 p16 p17 i x a b m H) (hk : ∀ p, (∀ {KW : Value → Prop}, KW (vint m) → aLoad false 1 p H KW) → ptrBlk p = some p17 → KV p) : aIdx 1 (.slice (some ⟨p17, 0, none⟩) 3 3) (vint (i : Nat)) KV := by
  have hi := R.lt
  refine idxI ⟨by omega, by omega⟩ ?_
  rw [Int.toNat_natCast, Nat.zero_add, Nat.mul_one]
  obtain ⟨c, h1, h2⟩ := R.ms
  exact hk _ (fun hw => ldI h1 h2 rfl hw) rfl

theorem j14_4 (hJ : Closed prog main J) {p7 p20 p22 : Nat} {cv nv : Value} {r : Rng} {e : Int} (R : Rd14 p14 p15 p16 p17 i x a b m H) (G : Reg14 p14 p15 p16 p17 i F)
    (c7 : H[p7]? = some (.cells (talCells x.1 cv nv) true 0)) (ta : TalAt H (.agg ⟨talCells x.1 cv nv⟩) x.1 cv nv) (c20 : H[p20]? = some (.cells r.cells true 0)) (c22 : H[p22]? = some (.cells r.cells true 0))
    (r19 : F.r 19 = ptr p7 0) (r20 : F.r 20 = ptr p20 0) (r21 : F.r 21 = vint e) (r22 : F.r 22 = ptr p22 0) (r23 : F.r 23 = vint e)
    (hn : ∀ F', Reg14 p14 p15 p16 p17 (i + 1) F' → nx0 F' H) :
    W prog J 187 n0 14 (subC [1, 1, 1, 1, 1, 1, 0, 1, 0, 0, 1, 0, 0, 1, 1, 1] (codeOf f14)) F H (contX pl14 prog J 187 n0 14 ct14 [1, 1, 1, 1, 1, 1, 0, 1, 0, 0, 1, 0, 0, 1, 1, 1] (codeOf f14) [nx0] (RetQ prog [.tmp 10] n0 K)) := by
  rw [s14_4, r19, r20, r21, r22, r23, G.r14, G.r17, G.r18]
  have k7 : ∀ {KW : Value → Prop}, KW (.agg ⟨talCells x.1 cv nv⟩) → aLoad true 6 (ptr p7 0) H KW := fun hw => load_part (c := talCells x.1 cv nv) c7 (by rw [cs_val]; omega) rfl (talAt_kc ta) hw
  have k20 : ∀ {KW : Value → Prop}, KW r.val → aLoad true 2 (ptr p20 0) H KW := fun hw => load_part (c := r.cells) c20 (Nat.le_refl _) rfl rfl hw
  have k22 : ∀ {KW : Value → Prop}, KW r.val → aLoad true 2 (ptr p22 0) H KW := fun hw => load_part (c := r.cells) c22 (Nat.le_refl _) rfl rfl hw
  refine k7 (R.idm fun q lq _ => lq (good41' hJ ta (ext0 (ext1 ?_))))
  refine R.idx fun q lq _ => lq (R.idm fun q lq _ => lq (good54' hJ R.tx (ext0 (ext1 ?_))))
  refine k7 (good55' hJ ta (x30 (x31 (x32 ?_))))
  refine R.idx fun q lq _ => lq (good56' hJ R.tx (x30 (x31 (x32 ?_))))
  refine ⟨[p20, p22, p7, p14], ?_⟩
  refine k20 ⟨by simp [RdOk, ptrBlk, ptr], k22 ⟨by simp [RdOk, ptrBlk, ptr], ?_⟩⟩
  refine neqR (cndI (fun hx => absurd rfl hx) fun _ => neqI (cndI (fun hx => absurd rfl hx) fun _ => neqI (cndI (fun hx => absurd rfl hx) fun _ => neqI (cndI (fun hx => absurd rfl hx) fun _ => neqI (cndI (fun hx => absurd rfl hx) fun _ => neqI (cndI (fun hx => absurd rfl hx) fun _ => neqI (cndI (fun hx => absurd rfl hx) fun _ => ?_)))))))
  have sm := R.small
  refine k7 ⟨by simp [RdOk, ptrBlk, ptr], R.idx fun q lq hq => lq ⟨by simp [RdOk, hq], ?_⟩⟩
  refine good48 hJ ta R.tx ⟨by omega, by omega⟩ ⟨fun _ _ => rfl, notI (hold.2 ?_)⟩
  rw [s14_5]
  have hi := R.lt
  refine cnd_false.2 (addR (a := (i : Int)) G.r18 (by omega) ?_)
  exact hn _ ⟨G.ds, G.r14, G.r15, G.r16, G.r17, by show vint _ = vint _; congr 1⟩

theorem j14_3 (hJ : Closed prog main J) {p7 p20 : Nat} {cv nv : Value} (R : Rd14 p14 p15 p16 p17 i x a b m H) (G : Reg14 p14 p15 p16 p17 i F)
    (c7 : H[p7]? = some (.cells (talCells x.1 cv nv) true 0)) (ta : TalAt H (.agg ⟨talCells x.1 cv nv⟩) x.1 cv nv) (c20 : H[p20]? = some (.cells (lostP x.1 a b).1.cells true 0))
    (r19 : F.r 19 = ptr p7 0) (r20 : F.r 20 = ptr p20 0) (r21 : F.r 21 = vint (lostP x.1 a b).2)
    (hn : ∀ F' H', SameX [] H H' → Reg14 p14 p15 p16 p17 (i + 1) F' → nx0 F' H') :
    W prog J 187 n0 14 (subC [1, 1, 1, 1, 1, 1, 0, 1, 0, 0, 1, 0, 0, 1, 1] (codeOf f14)) F H (contX pl14 prog J 187 n0 14 ct14 [1, 1, 1, 1, 1, 1, 0, 1, 0, 0, 1, 0, 0, 1, 1] (codeOf f14) [nx0] (RetQ prog [.tmp 10] n0 K)) := by
  rw [s14_3, G.r14, G.r15, G.r16, G.r18]
  refine ⟨[p14, p15, p16], ?_⟩
  refine R.idx fun q lq hq => lq ⟨by simp [RdOk, hq], R.idf fun q lq hq => lq ⟨by simp [RdOk, hq], R.idg fun q lq hq => lq ⟨by simp [RdOk, hq], ?_⟩⟩⟩
  have hsb : ∀ {H' : List AObj}, SameX [] H H' → SameB (some [p14, p15, p16]) H H' := fun S b hb => S.2 b (by
    obtain ⟨_, ⟨c1, a1, _⟩, ⟨c2, b1, _⟩, ⟨c3, d1, _⟩, _⟩ := R
    have := lt_of_get a1
    have := lt_of_get b1
    have := lt_of_get d1
    simp at hb
    rcases hb with rfl | rfl | rfl <;> assumption) (by simp)
  refine ⟨?_, ?_⟩
  · refine good53' hJ R.tx (ext0 (ext1 (qAl fun H1 p1 e1 S1 c1 l1 => ⟨hsb S1, qStA (c := (lostP x.1 a b).1.cells) c1 rfl rfl rfl fun H2 S2 c2 l2 => hold.2 ?_⟩)))
    have S12 : SameX [] H H2 := (SameX.refl.trans S1).thru S2 (by simp; omega)
    exact j14_4 hJ (R.same S12) ⟨G.ds, G.r14, G.r15, G.r16, G.r17, G.r18⟩ (S12.get c7 (by simp)) (talAt_same ta S12 (by simp)) (S12.get c20 (by simp)) c2 r19 r20 r21 rfl rfl fun F' G' => hn F' H2 S12 G'
  · refine qAl fun H1 p1 e1 S1 c1 l1 => ⟨hsb S1, good53' hJ (R.same S1).tx (ext0 (ext1 (qStA (c := (lostP x.1 a b).1.cells) c1 rfl rfl rfl fun H2 S2 c2 l2 => hold.2 ?_)))⟩
    have S12 : SameX [] H H2 := (SameX.refl.trans S1).thru S2 (by simp; omega)
    exact j14_4 hJ (R.same S12) ⟨G.ds, G.r14, G.r15, G.r16, G.r17, G.r18⟩ (S12.get c7 (by simp)) (talAt_same ta S12 (by simp)) (S12.get c20 (by simp)) c2 r19 r20 r21 rfl rfl fun F' G' => hn F' H2 S12 G'

theorem loop14 (hJ : Closed prog main J) {H0 : List AObj} {F : RG} (G : Reg14 p14 p15 p16 p17 0 F) (hR : ∀ i : Nat, i < 3 → ∃ x a b m, Rd14 p14 p15 p16 p17 i x a b m H0)
    (fin : ∀ H, Good prog J 18 [] H fun v h' => retL n0 K [] [v] h') :
    Sem J 187 n0 14 (subC [1, 1, 1, 1, 1, 1, 0, 1, 0] (codeOf f14)) F H0 (contX pl14 prog J 187 n0 14 ct14 [1, 1, 1, 1, 1, 1, 0, 1, 0] (codeOf f14) [] (RetQ prog [.tmp 10] n0 K)) := by
  refine l14_2 hJ (fun i : Nat => 3 - i) (fun i f H => SameX [] H0 H ∧ i ≤ 3 ∧ Reg14 p14 p15 p16 p17 i f) ?_ (s := 0) (.inl ⟨SameX.refl, by omega, G⟩)
  rintro i f H ⟨S, hi, G⟩ ok' hn'
  rw [s14_2]
  simp only [G.r14, G.r15, G.r16, G.r18, G.ds, lenS]
  refine lssI (cndI (fun hlt => ?_) fun hge => fin _)
  obtain ⟨x, a, b, m, R0⟩ := hR i (by omega)
  have R := R0.same S
  have sm := R.small
  refine R.idx fun q lq _ => lq (good38 hJ R.tx sm fun H1 cv' nv' o1 o2 S1 O1 O2 _ _ _ => ?_)
  have ta1 : TalAt H1 (.agg ⟨talCells x.1 cv' nv'⟩) x.1 cv' nv' := ⟨rfl, ownX_sli O1, ownX_sli O2⟩
  refine qAl fun H2 p7 e2 S2 c2 l2 => qStA (c := talCells x.1 cv' nv') c2 rfl rfl (tal_one ta1) fun H3 S3 c3 l3 => ?_
  have S13 : SameX [] H1 H3 := (SameX.refl.trans S2).thru S3 (by simp; omega)
  have ta3 := talAt_same ta1 S13 (by simp)
  have SH3 : SameX [] H H3 := S1.trans S13
  have R3 := R.same SH3
  have nx : ∀ F' H', SameX [] H3 H' → Reg14 p14 p15 p16 p17 (i + 1) F' → Nx n0 (fun i : Nat => 3 - i) (fun i f H => SameX [] H0 H ∧ i ≤ 3 ∧ Reg14 p14 p15 p16 p17 i f) i F' H' := fun F' H' S' G' =>
    ⟨i + 1, by dsimp only; omega, .inl ⟨(S.trans SH3).trans S', by omega, G'⟩⟩
  have hsb : ∀ {H' : List AObj}, SameX [] H3 H' → SameB (some [p7, p15, p16]) H3 H' := fun S b hb => S.2 b (by
    obtain ⟨_, _, ⟨y2, b1, _⟩, ⟨y3, d1, _⟩, _⟩ := R3
    have := lt_of_get c3
    have := lt_of_get b1
    have := lt_of_get d1
    simp at hb
    rcases hb with rfl | rfl | rfl <;> assumption) (by simp)
  refine ⟨[p7, p15, p16], load_part (c := talCells x.1 cv' nv') c3 (by rw [cs_val]; omega) rfl (talAt_kc ta3) ⟨by simp [RdOk, ptrBlk, ptr], ?_⟩⟩
  refine R3.idf fun q lq hq => lq ⟨by simp [RdOk, hq], R3.idg fun q lq hq => lq ⟨by simp [RdOk, hq], ?_⟩⟩
  refine ⟨?_, ?_⟩
  · refine good31' hJ ta3 (ext0 (ext1 (qAl fun H4 p4 e4 S4 c4 l4 => ⟨hsb S4, qStA (c := (lostP x.1 a b).1.cells) c4 rfl rfl rfl fun H5 S5 c5 l5 => hold.2 ?_⟩)))
    have S45 : SameX [] H3 H5 := (SameX.refl.trans S4).thru S5 (by simp; omega)
    exact j14_3 hJ (R3.same S45) ⟨G.ds, G.r14, G.r15, G.r16, G.r17, G.r18⟩ (S45.get c3 (by simp)) (talAt_same ta3 S45 (by simp)) c5 rfl rfl rfl fun F' H' S' G' => nx F' H' (S45.trans S') G'
  · refine qAl fun H4 p4 e4 S4 c4 l4 => ⟨hsb S4, good31' hJ (talAt_same ta3 S4 (by simp)) (ext0 (ext1 (qStA (c := (lostP x.1 a b).1.cells) c4 rfl rfl rfl fun H5 S5 c5 l5 => hold.2 ?_)))⟩
    have S45 : SameX [] H3 H5 := (SameX.refl.trans S4).thru S5 (by simp; omega)
    exact j14_3 hJ (R3.same S45) ⟨G.ds, G.r14, G.r15, G.r16, G.r17, G.r18⟩ (S45.get c3 (by simp)) (talAt_same ta3 S45 (by simp)) c5 rfl rfl rfl fun F' H' S' G' => nx F' H' (S45.trans S') G'

theorem rd14 {x y : TV} {a ya b yb m ym : Int} (h14 : H[p14]? = some (.cells ([x, y, y].flatMap tvC) true 0)) (h15 : H[p15]? = some (.cells ([a, ya, a].map vint) true 0)) (h16 : H[p16]? = some (.cells ([b, yb, b].map vint) true 0)) (h17 : H[p17]? = some (.cells ([m, ym, m].map vint) true 0))
    (tx : TalAt H (.agg ⟨tvC x⟩) x.1 x.2.1 x.2.2) (sx : x.1.changes.length < 1000 ∧ x.1.counts.length < 1000) (ty : TalAt H (.agg ⟨tvC y⟩) y.1 y.2.1 y.2.2) (sy : y.1.changes.length < 1000 ∧ y.1.counts.length < 1000) :
    ∀ i : Nat, i < 3 → ∃ x a b m, Rd14 p14 p15 p16 p17 i x a b m H
  | 0, hi => ⟨x, a, b, m, hi, ⟨_, h14, rfl, rfl⟩, ⟨_, h15, rfl⟩, ⟨_, h16, rfl⟩, ⟨_, h17, rfl⟩, tx, sx⟩
  | 1, hi => ⟨y, ya, yb, ym, hi, ⟨_, h14, rfl, rfl⟩, ⟨_, h15, rfl⟩, ⟨_, h16, rfl⟩, ⟨_, h17, rfl⟩, ty, sy⟩
  | 2, hi => ⟨y, a, b, m, hi, ⟨_, h14, rfl, rfl⟩, ⟨_, h15, rfl⟩, ⟨_, h16, rfl⟩, ⟨_, h17, rfl⟩, ty, sy⟩

theorem walk14 (hJ : Closed prog main J) {tv ct nt nv : Value} {t : Tal} {from_ to many : Int} {ns : List Int} (ht : TalAt h tv t ct nt) (sn : Sli h nv 1 ns.length (ns.map vint)) (hln : ns.length < 4611686018427387904) (hK : ∀ h', K (.bool true) h') :
    W prog J 187 h.length 14 (codeOf f14) (RG.mk (regs [tv, vint from_, vint to, vint many, nv]) []) h (RetQ prog [.tmp 10] h.length K) := by
  rw [e14, ht.val]
  have fin : ∀ {n0 : Nat} (H : List AObj), Good prog J 18 [] H fun v h' => retL n0 K [] [v] h' := fun H => good18 hJ (retL_same (by simp [unk]) (hK _))
  refine qBox (tal_one ht) fun Hb p5 ea Sab ca la => ?_
  have tb : TalAt Hb (.agg ⟨talCells t ct nt⟩) t ct nt := ⟨rfl, Sab.sli ht.ch (by simp), Sab.sli ht.co (by simp)⟩
  refine load_part (c := talCells t ct nt) ca (by rw [cs_val]; omega) rfl (talAt_kc tb) ?_
  refine good43 hJ tb (cndI (fun _ => fin _) fun hsm => ?_)
  refine newX hJ (Sab.sli sn (by simp)) hln fun H0 a0 => talY hJ a0 (by omega) (by omega) (by omega) fun t2 cv co q1 q2 H1 T S1 a1 OT => ?_
  have ta := OT.at
  have fine := T.fine (by omega) (by omega)
  have hg := fine.gates
  have hchl := fine.chl
  have hcol := fine.few
  have hla0 := a0.lt
  have hS1 := S1.1
  refine qAl fun H2 p12 e2 S2 c2 l2 => qStA (c := talCells t2 cv co) c2 rfl rfl (tal_one ta) fun H3 S3 c3 l3 => ?_
  have S13 : SameX [] H1 H3 := (SameX.refl.trans S2).thru S3 (by simp; omega)
  have ta3 := talAt_same ta S13 (by simp)
  refine offI (ldI (v := vint t2.gates) c3 rfl rfl (subI (by omega) ?_))
  have a3 : HX Hb H3 ns 120 := (a1.mono (by omega)).same S13 (by simp)
  have hS13 := S13.1
  refine upX hJ a3 (by omega) (by omega) fun ya H4 b1 b2 S4 _ a4 => ?_
  have hS4 := S4.1
  -- what is known at last
  have OT4 := (OT.same S13 (by simp) (by simp)).same S4 (fun i hi => by have := OT.b1 i hi; simp; omega) (fun i hi => by have := OT.b2 i hi; simp; omega)
  have SB4 : SameX [Hb.length] Hb H4 := (a1.pre.trans S13).weak0.trans S4
  have d5 := SB4.get ca (by simp; omega)
  have d12 := S4.get c3 (by simp; omega)
  have t1' : TalAt H4 (.agg ⟨talCells t ct nt⟩) t ct nt := talAt_same tb SB4 (by simp)
  have t2' := OT4.at
  have kn : Kn Hb H4 H4 ns 121 [] := ⟨a4, SameX.refl, by simp⟩
  have hsb : ∀ b ∈ [p5, p12], b < H4.length ∧ b ≠ Hb.length := by
    have := lt_of_get d5
    have := lt_of_get d12
    intro b hb
    simp at hb
    rcases hb with rfl | rfl <;> omega
  refine ⟨[p5, p12], ?_⟩
  refine load_part (c := talCells t ct nt) d5 (by rw [cs_val]; omega) rfl (talAt_kc t1') ⟨by simp [RdOk, ptrBlk, ptr], ?_⟩
  refine load_part (c := talCells t2 cv co) d12 (by rw [cs_val]; omega) rfl (talAt_kc t2') ⟨by simp [RdOk, ptrBlk, ptr], ?_⟩
  refine load_part (c := talCells t2 cv co) d12 (by rw [cs_val]; omega) rfl (talAt_kc t2') ⟨by simp [RdOk, ptrBlk, ptr], ?_⟩
  refine offI (ldI (v := vint t2.gates) d12 rfl rfl ⟨by simp [RdOk, ptrBlk, ptr], subI (by omega) ?_⟩)
  have n1 : (tvC (t, ct, nt)).all one = true := tal_one t1'
  have n2 : (tvC (t2, cv, co)).all one = true := tal_one t2'
  have fT : ∀ {KL : List Value → Prop}, KL ([(t, ct, nt), (t2, cv, co), (t2, cv, co)].flatMap tvC) → aFill (zrep [vint 0, vint 0, vint 0, .slice none 0 0, vint 0, .slice none 0 0] 3) [(0, 6, .agg ⟨talCells t ct nt⟩), (6, 6, .agg ⟨talCells t2 cv co⟩), (12, 6, .agg ⟨talCells t2 cv co⟩)] KL := fun hk => fill18 n1 n2 n2 hk
  have hd : t.changes.length < 1000 ∧ t.counts.length < 1000 := by omega
  have hd2 : t2.changes.length < 1000 ∧ t2.counts.length < 1000 := by omega
  have tB : ∀ {H}, SameX [Hb.length] H4 H → TalAt H (.agg ⟨tvC (t, ct, nt)⟩) t ct nt := fun S => talAt_same tb (SB4.trans S) (by simp)
  have t2B : ∀ {H}, SameX [Hb.length] H4 H → TalAt H (.agg ⟨tvC (t2, cv, co)⟩) t2 cv co := fun S => (OT4.same S (fun i hi => by have := OT4.b1 i hi; simp; omega) (fun i hi => by have := OT4.b2 i hi; simp; omega)).at
  clear n1 n2 d5 d12 t1' t2' a3 a4 SB4 OT4
  repeat' (first
    | (refine ⟨by decide, fT (kn.new fun H' p kn => ⟨kn.sb hsb, ?_⟩)⟩)
    | (refine ⟨by decide, fill3 (kn.new fun H' p kn => ⟨kn.sb hsb, ?_⟩)⟩)
    | (refine kn.up hJ (by omega) (by omega) fun yU H' y1 y2 kn => ⟨kn.sb hsb, ?_⟩)
    | (refine kn.am hJ (by omega) (by omega) (by omega) fun yA H' z1 z2 kn => ⟨kn.sb hsb, ?_⟩)
    | (refine hold.2 ?_
       rw [s14_1]
       refine loop14 hJ ⟨rfl, rfl, rfl, rfl, rfl, rfl⟩ (rd14 (x := (t, ct, nt)) (y := (t2, cv, co)) (a := from_) (ya := ya) (b := to) (yb := yA) (m := many) (ym := yU) ?_ ?_ ?_ ?_ (tB kn.S) hd (t2B kn.S) hd2) fin <;> first | exact kn.get (.head _) | exact kn.get (.tail _ (.head _)) | exact kn.get (.tail _ (.tail _ (.head _))) | exact kn.get (.tail _ (.tail _ (.tail _ (.head _)))))
    | refine ⟨?_, ?_⟩)
end
end Go.Proofs.Ytdgpacdknpahnaa

namespace Go.Proofs.Ytdgpacdknpahnaa
open Go.Conc
open Go.ConcN (sumTo upd sumTo_upd upd_ne upd_same)
def Ends (P : Program) (Post : Value → World → Prop) (m : Machine) (t : Trace) : Prop :=
  ∃ N last o w' t', runNT P (N + 1) m t = (.ended o w', t') ∧ runN P N m = .next last ∧ step P last = .ended o w' ∧ Go.Conc.Good P Post last o w' t'

structure Base (W0 w : World) : Prop where
  tape : w.tape = W0.tape
  os : w.os = W0.os
  output : w.output = W0.output
  size : W0.heap.size ≤ w.heap.size

def J1 (P : Program) (W0 : World) (Post : Value → World → Prop) (g : Goroutine) (w : World) (ft : Foot) : Prop :=
  ∀ (gs : Array Goroutine) (w₁ : World) (sl : Option (Nat × Nat)) (t : Trace) (q : Nat → Nat), (∀ b, ft.rd b → b < w₁.heap.size) → (∀ b, ft.wr b → ft.rd b) → RelyW ft w w₁ → Base W0 w₁ → gs[0]? = some g → Leavers P t gs q → Past (fun _ => False) w₁.heap.size t →
    Ends P Post (crowd gs w₁ sl) t

section
variable {P : Program} {W0 : World} {Post : Value → World → Prop} {g : Goroutine} {w w₁ : World} {ft : Foot}
theorem Ends.next {m m' : Machine} {t : Trace} {ops : Array MemOp} (hs : stepT P m = (.next m', ops)) (h : Ends P Post m' (t ++ ops)) : Ends P Post m t := by
  obtain ⟨n, last, o, w, t', h1, h2, h3, h4⟩ := h
  exact ⟨n + 1, last, o, w, t', by rw [runNT_succ_next hs]; exact h1, by rw [runN_succ_next hs]; exact h2, h3, h4⟩

theorem evL_of {e : Event} {B : Nat} (he : EvOk ft e) (hb : ∀ b, ft.rd b → b < B) : EvL (fun _ => False) B e := by
  obtain ⟨loc, wr, sync⟩ := e
  unfold EvOk at he
  refine ⟨fun x _ hs => hs.elim, ?_, ?_, ?_⟩
  · intro hl
    simp only at hl
    subst hl
    exact he
  · intro hl
    simp only at hl
    subst hl
    exact he
  · cases loc with
    | cell a => exact hb _ he.2.1
    | obj r =>
      have hs : sync = false := he.1
      subst hs
      have := hb _ he.2.1
      cases wr <;> exact this
    | mark m =>
      cases m <;> first | exact he.elim | trivial
    | output => trivial
    | goroutines => trivial

theorem mem_g {i : Nat} {fn : FuncId} {pos : String} {es : Array Event} {op : MemOp} (h : op ∈ MemOp.ofEvents i fn pos es) : op.g = i := by
  rw [ofEvents_eq] at h
  obtain ⟨e, he, rfl⟩ := Array.mem_map.1 h
  rfl

theorem relyW_at (ft : Foot) (w : World) (d : Nat) : RelyW ft w (w.at d) := ⟨fun _ _ => rfl, Nat.le_refl _, rfl, rfl, rfl⟩

theorem J1.both (hrun : g.status = .running)
    (h : ∀ w₁, RelyW ft w w₁ → Base W0 w₁ → (∃ g' w' es, stepG P true g w₁ = .go g' w' es ∧ g'.status = .running ∧ GuarW ft w₁ w' es ∧ J1 P W0 Post g' w' (ft.ext w₁.heap.size w'.heap.size)) ∨
      ∃ v es, stepG P true g w₁ = .ended (.done v) w₁ es ∧ (∀ e ∈ es, EvOk ft e) ∧ Post v w₁) : J1 P W0 Post g w ft := by
  intro gs w₁ sl t q hbd hsub hrel hbase h0 hL hP
  generalize hM : sumTo gs.size q = M
  induction M using Nat.strongRecOn generalizing gs w₁ sl t q with
  | ind M ih =>
    have haw : ∀ g ∈ gs, awake g := by
      intro x hx
      obtain ⟨i, hi, rfl⟩ := Array.mem_iff_getElem.1 hx
      rcases Nat.eq_zero_or_pos i with rfl | hpos
      · have : gs[0] = g := by simpa [Array.getElem?_eq_getElem hi] using h0
        rw [this]; exact awake_of (.inl hrun)
      · exact awake_of ((hL.old i _ hpos (Array.getElem?_eq_getElem hi)).status.elim .inl fun x => .inr (.inr x))
    obtain ⟨i, x, d, sl', hi, hg, hst⟩ := crowd_pick (P := P) (w := w₁) (sl := sl) haw ⟨0, g, h0, hrun⟩
    rcases Nat.eq_zero_or_pos i with rfl | hpos
    · obtain rfl : x = g := by rw [h0] at hi; exact (Option.some.inj hi).symm
      rcases h (w₁.at d) (hrel.trans (relyW_at ft w₁ d)) ⟨hbase.tape, hbase.os, hbase.output, hbase.size⟩ with ⟨g', w', es, hgo, hrun', hgu, hJ⟩ | ⟨v, es, hend, hes, hpost⟩
      · have hrunT := runT_crowd_go (P := P) (sl := sl') (i := 0) hi (show stepG P (0 == 0) x (w₁.at d) = _ from hgo)
        have hsz : ((gs.map (woken P x g' w')).setIfInBounds 0 g').size = gs.size := by simp
        have hlt : 0 < gs.size := (Array.getElem?_eq_some_iff.1 h0).1
        have hw' : w₁.heap.size ≤ w'.heap.size := hgu.size
        refine Ends.next (hst.trans hrunT) ?_
        refine hJ _ w' sl' _ q (fun b hb => ?_) (fun b hb => ?_) (RelyW.refl _ _) ⟨hgu.tape.trans hbase.tape, hgu.os.trans hbase.os, hgu.output.trans hbase.output, Nat.le_trans hbase.size hgu.size⟩ (by simp [hlt]) ⟨fun j y hj hy => ?_, fun j hj => ?_⟩ ?_
        · rcases hb with hb | hb
          · exact Nat.lt_of_lt_of_le (hbd b hb) hw'
          · exact hb.2
        · rcases hb with hb | hb
          · exact .inl (hsub b hb)
          · exact .inr hb
        · have hne : 0 ≠ j := by omega
          rw [Array.getElem?_setIfInBounds_ne hne, Array.getElem?_map] at hy
          obtain ⟨z, hz, rfl⟩ := Option.map_eq_some_iff.1 hy
          have hq := hL.old j z hj hz
          rw [woken_quitsD hq, Deaf_other t (by omega) _ (fun op hop => mem_g hop)]
          exact hq
        · rw [Deaf_other t (g' := 0) (by simp at hj; omega) _ (fun op hop => mem_g hop)]
          exact hL.above j (by simpa using hj)
        · exact (hP.mono hw').own fun e he => evL_of (hgu.evs e he) fun b hb => Nat.lt_of_lt_of_le (hbd b hb) hw'
      · have hrunT := runT_many_ended (P := P) (sl := sl') (i := 0) hi (show stepG P (0 == 0) x (w₁.at d) = _ from hend)
        have hP' := hP.own (fn := x.frame.fn) (pos := x.frame.place) fun e he => evL_of (hes e he) hbd
        refine ⟨0, crowd gs w₁ sl, .done v, w₁.at d, _, by simp only [runNT, hst.trans hrunT], rfl, by simp [step, hst.trans hrunT], v, rfl, hpost, hP'.clean, hP'.over, ⟨fun y hy => ?_, rfl⟩, fun j y hy hj => ?_⟩
        · obtain ⟨j, hj⟩ := List.mem_iff_getElem?.1 hy
          rw [List.getElem?_drop] at hj
          exact ⟨_, (hL.old (1 + j) y (by omega) (by simpa [crowd] using hj)).leaves⟩
        · have hq := hL.old j y (by omega) hy
          refine ⟨q j, ?_⟩
          have e : (t ++ MemOp.ofEvents 0 x.frame.fn x.frame.place es).deaf j (t ++ MemOp.ofEvents 0 x.frame.fn x.frame.place es).size = Deaf t j :=
            Deaf_other t (g := j) (g' := 0) (by omega) _ (fun op hop => mem_g hop)
          rw [e]
          exact hq.hears _
    · have hq := hL.old i x hpos hi
      have hi0 : (i == 0) = false := by simp; omega
      have hlt : i < gs.size := (Array.getElem?_eq_some_iff.1 hi).1
      cases hqi : q i with
      | zero => rw [hqi] at hq; rw [hq.1] at hg; cases hg
      | succ k =>
        rw [hqi] at hq
        rcases hq with ⟨hf, _⟩ | ⟨_, g', es, hm, hstp, hq'⟩
        · rw [hf] at hg; cases hg
        have hrunT := runT_crowd_go (P := P) (sl := sl') (i := i) hi (by rw [hi0]; exact hstp (w₁.at d))
        have hsz : ((gs.map (woken P x g' (w₁.at d))).setIfInBounds i g').size = gs.size := by simp
        have hsum : sumTo gs.size (upd q i k) + (k + 1) = sumTo gs.size q + k := by
          have := sumTo_upd q k id hlt
          simpa [hqi] using this
        refine Ends.next (hst.trans hrunT) (ih (sumTo gs.size (upd q i k)) (by omega) _ (w₁.at d) sl' _ (upd q i k) hbd (hrel.trans (relyW_at ft w₁ d)) ⟨hbase.tape, hbase.os, hbase.output, hbase.size⟩ ?_ ⟨fun j y hj hy => ?_, fun j hj => ?_⟩ (hP.mute (by omega) hm) (by rw [hsz]))
        · have hne : i ≠ 0 := by omega
          rw [Array.getElem?_setIfInBounds_ne hne, Array.getElem?_map, h0]
          simp [woken_run hrun]
        · by_cases hji : i = j
          · subst hji
            rw [Array.getElem?_setIfInBounds_self_of_lt (by simpa using hlt)] at hy
            obtain rfl := Option.some.inj hy
            rw [upd_same, Deaf_own]
            exact hq'
          · rw [Array.getElem?_setIfInBounds_ne hji, Array.getElem?_map] at hy
            obtain ⟨z, hz, rfl⟩ := Option.map_eq_some_iff.1 hy
            have hqj := hL.old j z hj hz
            rw [woken_quitsD hqj, upd_ne q k (Ne.symm hji), Deaf_other t hji _ (fun op hop => mem_g hop)]
            exact hqj
        · rw [Deaf_other t (g' := i) (by simp at hj; omega) _ (fun op hop => mem_g hop)]
          exact hL.above j (by simpa using hj)

theorem J1.closed (P : Program) (W0 : World) (Post : Value → World → Prop) : Closed P true (J1 P W0 Post) where
  rely := fun h hr gs w₂ sl t q hbd hsub hrel hbase h0 hL hP => h gs w₂ sl t q hbd hsub (hr.trans hrel) hbase h0 hL hP
  step := fun hrun h => J1.both hrun fun w₁ h₁ _ => by
    obtain ⟨g', w', es, a, b, c, d⟩ := h w₁ h₁
    exact .inl ⟨g', w', es, a, b, c, d⟩
end
end Go.Proofs.Ytdgpacdknpahnaa

namespace Go.Proofs.Ytdgpacdknpahnaa
open Go.Conc
section
variable {P : Program} {W0 : World} {Post : Value → World → Prop} {ρ : Env} {h : List AObj} {FC : Frm} {w : World} {ft : Foot} {f : RG} {a : Act} {b : FB} {K : Value → List AObj → Prop} {n0 : Nat}
theorem leave_top {fn : Func} (hk : b.kind = .normal) (hf : P.funcs[b.fn]? = some fn) (hin : P.inits.idxOf? b.fn = none)
    (hc : ∀ v h' ρ' w' ft' cv, K v h' → HRel ρ' h' FC w' ft' → Env.upto n0 ρ ρ' → n0 ≤ h'.length → VRel h'.length ρ' v cv → Base W0 w' → Post cv w') :
    ∀ (ds : List Nat) (h : List AObj) (w : World) (ft : Foot) (a : Act) (fr : Frame), fr.fn = b.fn → fr.kind = .normal → fr.mode = .returning → fr.tmps = a.tmps → fr.defers = ds.map (fun d => { target := .collected (ρ.blk d), args := #[] }) → RegRel h.length ρ f.r a.tmps → HRel ρ h FC w ft → n0 ≤ h.length →
      takeW ds h (fun h => resW P fn.results.toList f.r h fun vs => K (pack vs) h ∨ ∃ σ h' v, GC n0 σ h h' ∧ pack vs = sub σ v ∧ VOk h'.length v ∧ K v h') → J1 P W0 Post (G fr []) w ft
  | [], h, w, ft, a, fr, e1, e2, e3, e4, e5, hr, H, hn, hq => by
    obtain ⟨fn', tmps, todo, defers, mode, kind, ro⟩ := fr
    simp only at e1 e2 e3 e4 e5
    subst e1 e2 e3 e4 e5
    refine J1.both rfl fun w₁ h₁ hbase => .inr ?_
    have H₁ := H.rely h₁
    have hrun : RunsTo P (EvOk ft) (results fn a.tmps) w₁ fun cv w' => w' = w₁ ∧ ∃ vs, cv = ren ρ (pack vs) ∧ (∀ v ∈ vs, VOk h.length v) ∧ (K (pack vs) h ∨ ∃ σ h' v, GC n0 σ h h' ∧ pack vs = sub σ v ∧ VOk h'.length v ∧ K v h') := by
      unfold results
      have : (fn.results.mapM (resF a.tmps)) = List.toArray <$> fn.results.toList.mapM (resF a.tmps) := by
        rw [Array.mapM_eq_mapM_toList]
      show RunsTo P (EvOk ft) (do
        let vs ← fn.results.mapM (resF a.tmps)
        pure (if h : vs.size = 1 then vs[0] else .tuple vs)) w₁ _
      rw [this]
      refine RunsTo.bind (RunsTo.map (res_run (n := 0) H₁ hr fn.results.toList hq fun vs hvs hok => RunsTo.pure ⟨rfl, vs, ?_, hok, hvs⟩))
      exact pack_ren vs
    obtain ⟨cv, w', es, hr', he, rfl, vs, rfl, hvok, hvs⟩ := hrun #[] (by simp)
    have hes : ∀ e ∈ seen P b.fn es, EvOk ft e := fun e hm => he e (mem_seen hm)
    refine ⟨ren ρ (pack vs), seen P b.fn es, ?_, hes, ?_⟩
    · simp only [G, stepG, unwind, List.map_nil, hf, hr']
      simp [doReturn, GStep.after, hin]
    · rcases hvs with hK | ⟨σ, h', v, g, hp, hok, hK⟩
      · exact hc _ h _ w' ft _ hK H₁ (Env.upto_refl _ _) hn (.inr ⟨pack_ok hvok, rfl⟩) hbase
      · rw [hp, ren_sub]
        exact hc v h' _ w' ft _ hK (g.rel H₁) g.upto g.le (.inr ⟨hok, rfl⟩) hbase
  | d :: ds, h, w, ft, a, fr, e1, e2, e3, e4, e5, hr, H, hn, hq => by
    obtain ⟨fn', tmps, todo, defers, mode, kind, ro⟩ := fr
    simp only at e1 e2 e3 e4 e5
    subst e1 e2 e3 e4 e5
    obtain ⟨hd, hq⟩ := hq
    refine (J1.closed P W0 Post).step rfl fun w₁ h₁ => ?_
    have H₁ := H.rely h₁
    obtain ⟨cv, w', es, hr', he, rfl, H', hst, hsz⟩ := take_run (P := P) H₁ hd (Q := fun l w' => l = [] ∧ HRel ρ (h.set d .dead) FC w' ft ∧ Stays ft w₁ w' ∧ w'.heap.size = w₁.heap.size) (fun w' a1 a2 a3 => ⟨rfl, a1, a2, a3⟩) #[] (by simp)
    have hes : ∀ e ∈ seen P b.fn es, EvOk ft e := fun e hm => he e (mem_seen hm)
    refine ⟨G { fn := b.fn, tmps := a.tmps, todo := todo, defers := ds.map (fun d => { target := .collected (ρ.blk d), args := #[] }), mode := .returning, kind := .normal, roundOf := ro } [], w', seen P b.fn es, ?_, rfl, hst.guar hes, ?_⟩
    · simp only [G, stepG, unwind, List.map_cons, hr']
      simp [GStep.after]
    · rw [hsz, Foot.ext_self]
      exact leave_top hk hf hin hc ds _ w' ft a _ rfl rfl rfl rfl rfl (by rw [List.length_set]; exact hr) H' (by rw [List.length_set]; exact hn) hq

theorem top_of_W (hm : P.follows .mixedOrders = true) {g : FuncId} {fn : Func} (hf : P.funcs[g]? = some fn) {c : Code} (hb : fn.body = some c) (hin : P.inits.idxOf? g = none) {args : List Value} {cargs : Array Value} (ha : args.length ≤ fn.ntmps) (hl : cargs.size = args.length)
    (hr : ∀ i : Nat, VRel h.length ρ (args.getD i unk) (cargs.toList.getD i undef)) (H : HRel ρ h FC w ft)
    (hs : W P (J1 P W0 Post) fn.ntmps h.length g c ⟨regs args, []⟩ h (RetQ P fn.results.toList h.length K))
    (hc : ∀ v h' ρ' w' ft' cv, K v h' → HRel ρ' h' FC w' ft' → Env.upto h.length ρ ρ' → h.length ≤ h'.length → VRel h'.length ρ' v cv → Base W0 w' → Post cv w') : J1 P W0 Post (G (Frame.enter P g cargs .normal) []) w ft := by
  have hJ := J1.closed P W0 Post
  obtain ⟨cargs⟩ := cargs
  simp only at hl hr
  have he : Frame.enter P g ⟨cargs⟩ .normal = FB.at ⟨g, .normal, none⟩ ⟨⟨cargs⟩ ++ Array.replicate (fn.ntmps - cargs.length) undef, []⟩ [.code c] := by
    simp [Frame.enter, FB.at, hf, hb]
  rw [he]
  have A : ActRel h.length ρ fn.ntmps ⟨regs args, []⟩ ⟨⟨cargs⟩ ++ Array.replicate (fn.ntmps - cargs.length) undef, []⟩ := by
    refine ⟨fun t => ?_, by simp at hl ⊢; omega, rfl, by simp⟩
    have := hr t
    have ht : ((⟨cargs⟩ : Array Value) ++ Array.replicate (fn.ntmps - cargs.length) undef).getD t undef = cargs.getD t undef := by
      rw [Array.getD_eq_getD_getElem?, List.getD_eq_getElem?_getD]
      by_cases hx : t < cargs.length
      · rw [Array.getElem?_append_left (by simpa using hx)]
        simp
      · rw [Array.getElem?_append_right (by simp; omega), List.getElem?_eq_none (by omega)]
        simp only [Array.getElem?_replicate]
        split <;> rfl
    rw [ht]
    exact this
  have last : ∀ f' h' ρ' w' ft' a' todo, RetQ P fn.results.toList h.length K .ret f' h' → ActRel h'.length ρ' fn.ntmps f' a' → HRel ρ' h' FC w' ft' → Env.upto h.length ρ ρ' → h.length ≤ h'.length →
      J1 P W0 Post (G { (FB.at ⟨g, .normal, none⟩ a' todo) with mode := .returning } []) w' ft' := by
    intro f' h' ρ' w' ft' a' todo q A' H' hu hl
    exact leave_top (b := ⟨g, .normal, none⟩) (f := f') (n0 := h.length) (ρ := ρ') rfl hf hin (fun v h2 ρ2 w2 ft2 cv k H2 u2 l2 v2 => hc v h2 ρ2 w2 ft2 cv k H2 (Env.upto_trans hu u2) l2 v2) f'.ds h' w' ft' a' _ rfl rfl rfl rfl A'.defers A'.regs H' hl q
  refine W_sound hJ hm c hs ⟨g, .normal, none⟩ _ [] [] (fun jump a w ft => jump = some .ret ∧ ∀ todo, J1 P W0 Post (G { (FB.at ⟨g, .normal, none⟩ a todo) with mode := .returning } []) w ft) ρ FC w ft rfl (by simp) ?_ A H (Nat.le_refl _) ?_
  · rintro jump a w ft todo ⟨rfl, hj⟩ hh
    rcases hh with ⟨_, k, rfl⟩ | ⟨id, k, e, _⟩ | ⟨e, _⟩
    · exact hJ.ctrl rfl rfl (fun w => by simp [G, stepG, stepG.exec, FB.at]) (hj (.code .ret :: k))
    · cases e
    · cases e
  · intro e f' h' ρ' w' ft' a' q A' H' hu hl
    cases e with
    | normal => exact hJ.ctrl rfl rfl (fun w => by simp [G, stepG, stepG.exec, FB.at]) (last f' h' ρ' w' ft' a' [] q A' H' hu hl)
    | ret => exact ⟨rfl, fun todo => last f' h' ρ' w' ft' a' todo q A' H' hu hl⟩
    | exit id => exact q.elim
    | goto l => exact q.elim
    | panic l => exact q.elim
    | outgrown => exact q.elim

theorem run_of_J1 {g : Goroutine} {w : World} {ft : Foot} (h : J1 P W0 Post g w ft) (hb : ∀ b, ft.rd b → b < w.heap.size) (hs : ∀ b, ft.wr b → ft.rd b) (hw : W0 = w) : Ends P Post (solo g w) #[] := by
  rw [solo_eq_crowd]
  exact h #[g] w none #[] (fun _ => 0) hb hs (RelyW.refl _ _) (by subst hw; exact ⟨rfl, rfl, rfl, Nat.le_refl _⟩) rfl (leavers_one P g) (past_nil.mono (Nat.zero_le _))
end
end Go.Proofs.Ytdgpacdknpahnaa

namespace Go.Proofs.Ytdgpacdknpahnaa
open Go.Conc Go.RowKit
def idEnv : Env := ⟨fun b => b, fun _ => 0⟩
def startFt (w : World) : Foot := ⟨fun b => b < w.heap.size, fun _ => False⟩
def startFC (w : World) : Frm := ⟨fun b => w.heap[b]?, fun _ => False⟩

def Fine (n : Nat) (v : Value) : Prop := VOk n v ∧ one v = true ∧ ren idEnv v = v

open Classical in
noncomputable def clean (n : Nat) (v : Value) : Value := if Fine n v then v else unk

noncomputable def absO (n : Nat) : Obj → AObj
  | .cells c _ _ => .cells (c.toList.map (clean n)) false 0
  | _ => .dead

noncomputable def absH (w : World) : List AObj := w.heap.toList.map (absO w.heap.size)

section
variable {w w' : World} {n : Nat}
theorem clean_fine {v : Value} (h : Fine n v) : clean n v = v := by simp [clean, h]
theorem absH_len : (absH w).length = w.heap.size := by simp [absH]
theorem absH_get {b : Nat} : (absH w)[b]? = (w.heap[b]?).map (absO w.heap.size) := by simp [absH]

theorem absO_wrt (x : Obj) : (absO n x).wrt = false := by cases x <;> rfl

theorem start_rel (w : World) : HRel idEnv (absH w) (startFC w) w (startFt w) where
  obj := fun b o hb => by
    rw [absH_get] at hb
    obtain ⟨x, hx, rfl⟩ := Option.map_eq_some_iff.1 hb
    show ORel (absH w).length idEnv b (absO w.heap.size x) w.heap[b]?
    rw [absH_len, hx]
    cases x with
    | cells c ty fr =>
      refine ⟨fun i v hv => ?_, fun _ => by simp, fun hz => absurd rfl hz, fun e => by cases e⟩
      rw [List.getElem?_map] at hv
      obtain ⟨u, hu, rfl⟩ := Option.map_eq_some_iff.1 hv
      by_cases hf : Fine w.heap.size u
      · rw [clean_fine hf]
        exact .inr ⟨hf.1, hf.2.1, by rw [hf.2.2]; simpa using hu⟩
      · exact .inl ⟨by simp [clean, hf], rfl⟩
    | _ => trivial
  inj := fun b b' o o' _ _ _ _ e => e
  rd := fun b o hb _ => by
    have : b < (absH w).length := (List.getElem?_eq_some_iff.1 hb).1
    rw [absH_len] at this
    exact this
  wr := fun b o hb hw => by
    rw [absH_get] at hb
    obtain ⟨x, hx, rfl⟩ := Option.map_eq_some_iff.1 hb
    rw [absO_wrt] at hw
    cases hw
  lt := fun b hb => hb
  sub := fun b hb => hb.elim
  kept := fun b o hb => by
    refine ⟨hb, ?_, fun a oa ha hw => ?_⟩
    · exact (Array.getElem?_eq_some_iff.1 hb).1
    · rw [absH_get] at ha
      obtain ⟨x, hx, rfl⟩ := Option.map_eq_some_iff.1 ha
      rw [absO_wrt] at hw
      cases hw
  keptW := fun b hb => hb.elim

theorem absH_cell {b o : Nat} {v : Value} (hc : w.cell? ⟨b, o, none⟩ = some v) (hf : Fine w.heap.size v) : ∃ c, (absH w)[b]? = some (.cells c false 0) ∧ c[o]? = some v := by
  unfold World.cell? at hc
  simp only at hc
  split at hc
  · rename_i c ty fr hx
    refine ⟨c.toList.map (clean w.heap.size), by rw [absH_get, hx]; rfl, ?_⟩
    have hc' : c[o]? = some v := by simpa using hc
    rw [List.getElem?_map, Array.getElem?_toList, hc']
    simp [clean_fine hf]
  · cases hc

theorem below_of {ρ' : Env} {h' : List AObj} {ft' : Foot} (H : HRel ρ' h' (startFC w) w' ft') (B : Base w w') : Below w.heap.size w w' :=
  ⟨B.os, B.tape, B.output, B.size, fun k hk => by
    have : (startFC w).ob k = some w.heap[k] := by simp [startFC, hk]
    rw [(H.kept k _ this).1, Array.getElem?_eq_getElem hk]⟩
end
end Go.Proofs.Ytdgpacdknpahnaa

namespace Go.Proofs.Ytdgpacdknpahnaa
open Go.Conc Go.ChangeShapes Go.WideShapes Go.ChangeAt Go.RowKit Go.Proofs.Try
set_option maxRecDepth 100000
theorem own : ownKnob prog.godebug = none := by kernel_rfl
theorem laidOut : laidOutB prog = true := by kernel_rfl

def ArgOk (W : World) (v : Value) : Prop := VOk W.heap.size v ∧ ren idEnv v = v

theorem law_run {g : FuncId} {fn : Func} {c : Code} (hf : prog.funcs[g]? = some fn) (hb : fn.body = some c) (hin : prog.inits.idxOf? g = none) (W₀ : World) (args : List Value) (ha : args.length ≤ fn.ntmps) (hok : ∀ v ∈ args, ArgOk W₀ v)
    (walk : ∀ J : JT, Closed prog true J → W prog J fn.ntmps (absH W₀).length g c ⟨regs args, []⟩ (absH W₀) (RetQ prog fn.results.toList (absH W₀).length fun v _ => v = .bool true)) :
    Ends prog (fun v w' => v = .bool true ∧ Below W₀.heap.size W₀ w') (solo (G (Frame.enter prog g ⟨args⟩ .normal) []) W₀) #[] := by
  refine run_of_J1 (W0 := W₀) (ft := startFt W₀) (top_of_W mixed hf hb hin ha rfl (fun i => ?_) (start_rel W₀) (walk _ (J1.closed prog W₀ _)) ?_) (fun b hb => hb) (fun b hb => hb.elim) rfl
  · show VRel (absH W₀).length idEnv (args.getD i unk) (args.getD i undef)
    simp only [List.getD_eq_getElem?_getD]
    cases hi : args[i]? with
    | none => exact .inl rfl
    | some v =>
      obtain ⟨h1, h2⟩ := hok v (List.mem_of_getElem? hi)
      exact .inr ⟨by rw [absH_len]; exact h1, h2.symm⟩
  · intro v h' ρ' w' ft' cv hv H' _ _ hcv hB
    subst hv
    refine ⟨?_, below_of H' hB⟩
    rcases hcv with e | ⟨_, e⟩
    · cases e
    · rw [e]
      rfl

theorem argOk_int {W : World} {k : IntKind} {n : Int} : ArgOk W (.int k n) := ⟨by simp [VOk], by simp [ren]⟩

section
variable {H : Type} {enc : TypeId × Value → H}
theorem arg_ints {t e : TypeId} (ht : prog.underlying t = some (.slice e)) (he : prog.underlying e = some (.int .i64)) (hc : prog.cellsOf e = 1) {W : World} {base : Nat} {v : Value} {d : DataW H} {ps : List MemPlace}
    (hval : Value.okWide prog W .any base t v) (hd : DataW.Trod enc prog W 0 (fun _ => true) true t v d ps) :
    ∃ zs : List Int, Sli (absH W) v 1 zs.length (zs.map vint) ∧ ArgOk W v ∧ (zs = [] ∨ ∃ es sp, d = .slice es sp ∧ zs.length ≤ es.length + sp.length) := by
  obtain ⟨a0, len, cap, rfl⟩ := okWide_slice ht hval
  obtain ⟨fuel, hf⟩ := hd
  rcases open_ints ht he hc hf with ⟨hcs, hx⟩ | ⟨a, len', cap', zs, hcs, _, hl, hm, hz, hx, hcell, hwz⟩
  · simp [Value.cells] at hcs
    obtain ⟨rfl, rfl, rfl⟩ := hcs
    exact ⟨[], sli_nil, ⟨by simp [VOk], by simp [ren]⟩, .inl rfl⟩
  · simp [Value.cells] at hcs
    obtain ⟨rfl, rfl, rfl⟩ := hcs
    simp only [Prod.mk.injEq] at hx
    obtain ⟨rfl, rfl⟩ := hx
    simp only [if_true] at hz
    simp only [Value.okWide, ht, Cell.okWide, Cell.ok, World.has] at hval
    obtain ⟨_, _, _, hspot, row, cells, hshape, _⟩ := hval
    obtain ⟨b, o, spot⟩ := a
    simp only at hspot hshape
    subst hspot
    have hb : b < W.heap.size := by
      unfold World.shape? at hshape
      split at hshape
      · rename_i h
        exact (Array.getElem?_eq_some_iff.1 h).1
      · cases hshape
    have hlen : (zs.take len).length = len := by simp; omega
    have hcell' : ∀ i, i < zs.length → W.cell? ⟨b, o + i, none⟩ = some (vint (zs.getD i 0)) := by
      intro i hi
      have := hcell i hi
      unfold Addr.add at this
      by_cases h0 : i = 0
      · subst h0; simpa using this
      · simpa [h0] using this
    have hmax : cap < fz := by
      simp only [maxLen] at hm
      unfold fz
      omega
    refine ⟨zs.take len, ?_, ⟨by simp only [VOk, AddrOk]; exact ⟨hb, trivial⟩, ?_⟩, .inr ⟨_, _, rfl, ?_⟩⟩
    · refine ⟨some ⟨b, o, none⟩, cap, by rw [hlen], ⟨by simp, kn_ints _⟩, .inr ⟨b, o, rfl, ?_⟩⟩
      rw [hlen]
      by_cases h0 : len = 0
      · exact .inl h0
      · right
        have fine : ∀ n : Int, Fine W.heap.size (vint n) := fun n => ⟨by simp [VOk], rfl, by simp [ren]⟩
        obtain ⟨c, hc1, hc2⟩ := absH_cell (hcell' 0 (by omega)) (fine _)
        refine ⟨c, false, 0, hc1, ?_⟩
        apply List.ext_getElem?
        intro i
        rw [Nat.mul_one]
        by_cases hi : i < len
        · obtain ⟨c', hc1', hc2'⟩ := absH_cell (hcell' i (by omega)) (fine _)
          rw [hc1] at hc1'
          cases hc1'
          rw [List.getElem?_take, if_pos hi, List.getElem?_drop, hc2']
          have hzi : i < zs.length := by omega
          simp [hi, hzi]
        · rw [List.getElem?_take, if_neg hi, List.getElem?_eq_none (by simp; omega)]
    · have hnf : ¬ fz ≤ cap := by omega
      simp [ren, renAddr, renCap, idEnv, hnf]
    · simp only [lits, List.length_map, List.length_take, List.length_drop]
      omega
end
end Go.Proofs.Ytdgpacdknpahnaa

namespace Go.Proofs.Ytdgpacdknpahnaa
open Go.Conc Go.ChangeShapes Go.WideShapes Go.ChangeAt Go.RowKit Go.Proofs.Try
set_option maxRecDepth 100000
theorem flat_get {α : Type} {enc : α → List Value} {s : Nat} (hen : ∀ x, (enc x).length = s) (xs : List α) {i j : Nat} (hi : i < xs.length) (hj : j < s) : (xs.flatMap enc)[i * s + j]? = (enc xs[i])[j]? := by
  have := flat_take hen xs i hi
  rw [← this, List.getElem?_take, if_pos hj, List.getElem?_drop]
theorem flat_len {α : Type} {enc : α → List Value} {s : Nat} (hen : ∀ x, (enc x).length = s) : ∀ xs : List α, (xs.flatMap enc).length = xs.length * s
  | [] => by simp
  | x :: xs => by rw [List.flatMap_cons, List.length_append, flat_len hen xs, hen, List.length_cons, Nat.succ_mul]; omega
theorem flat_kn {α : Type} {enc : α → List Value} (hk : ∀ x, kn (enc x) = true) : ∀ xs : List α, kn (xs.flatMap enc) = true
  | [] => rfl
  | x :: xs => by
    have h1 := hk x
    have h2 := flat_kn hk xs
    unfold kn at *
    rw [List.flatMap_cons, List.all_append, h1, h2]
    rfl

theorem trodAll_cons {H : Type} {enc : TypeId × Value → H} {P : Program} {w : World} {base : Nat} {spare : Nat → Bool} {held : Bool} {t : TypeId} {ts : List TypeId} {vs : List Value} {ds : List (DataW H)} {ps : List MemPlace}
    (h : DataW.TrodAll enc P w base spare held (t :: ts) vs ds ps) : ∃ v vs' d ds' p q, vs = v :: vs' ∧ ds = d :: ds' ∧ ps = p ++ q ∧ DataW.Trod enc P w base spare held t v d p ∧ DataW.TrodAll enc P w base spare held ts vs' ds' q := by
  match vs, ds, h with
  | v :: vs, d :: ds, ⟨p, q, h1, h2, h3⟩ => exact ⟨v, vs, d, ds, p, q, rfl, rfl, h3, h1, h2⟩
theorem trodAll_nil {H : Type} {enc : TypeId × Value → H} {P : Program} {w : World} {base : Nat} {spare : Nat → Bool} {held : Bool} {vs : List Value} {ds : List (DataW H)} {ps : List MemPlace}
    (h : DataW.TrodAll enc P w base spare held [] vs ds ps) : vs = [] ∧ ds = [] ∧ ps = [] := by
  match vs, ds, h with
  | [], [], h => exact ⟨rfl, rfl, h⟩
theorem trodAll_mkc {H : Type} {enc : TypeId × Value → H} {P : Program} {w : World} {base : Nat} {spare : Nat → Bool} {held : Bool} {t : TypeId} {ts : List TypeId} {v : Value} {vs : List Value} {d : DataW H} {ds : List (DataW H)} {p q : List MemPlace}
    (h1 : DataW.Trod enc P w base spare held t v d p) (h2 : DataW.TrodAll enc P w base spare held ts vs ds q) : DataW.TrodAll enc P w base spare held (t :: ts) (v :: vs) (d :: ds) (p ++ q) := ⟨p, q, h1, h2, rfl⟩

section
variable {H : Type} {enc : TypeId × Value → H}
theorem arg_sliE {α : Type} [Inhabited α] {encE : α → List Value} {t e : TypeId} {s : Nat} (ht : prog.underlying t = some (.slice e)) (hc : prog.cellsOf e = s) (hs : 0 < s) {W : World} {base n : Nat} {v : Value} {x : DataW H × List MemPlace}
    (hlen : ∀ x, (encE x).length = s) (hkn : ∀ x, kn (encE x) = true) (hfine : ∀ x, ∀ y ∈ encE x, ∀ m, Fine m y)
    (dec : ∀ n cs r, DataW.trod enc prog W 0 (fun _ => true) true n e cs = some r → ∃ x, cs = encE x)
    (hval : Cell.okWide prog W .any base t v) (hf : DataW.trod enc prog W 0 (fun _ => true) true n t v.cells.toList = some x) :
    ∃ xs : List α, SliE (absH W) v s encE xs ∧ ArgOk W v := by
  have hval' : Value.okWide prog W .any base t v := by
    unfold Value.okWide
    rw [ht]
    exact hval
  obtain ⟨a0, len0, cap0, rfl⟩ := okWide_slice ht hval'
  clear hval'
  rcases Deep.open_slice ht hf with ⟨hcs, hx⟩ | ⟨a, len, cap, m, n', D, Pl, hcs, _, hl, hm, hmm, hx, hel⟩
  · simp [Value.cells] at hcs
    obtain ⟨rfl, rfl, rfl⟩ := hcs
    exact ⟨[], ⟨none, 0, rfl, ⟨by simp, rfl⟩, .inl ⟨rfl, rfl⟩⟩, ⟨by simp [VOk], by simp [ren]⟩⟩
  · simp [Value.cells] at hcs
    obtain ⟨rfl, rfl, rfl⟩ := hcs
    simp only [if_true] at hmm
    subst hmm
    simp only [ht, Cell.okWide, Cell.ok, World.has] at hval
    obtain ⟨_, _, _, hspot, row, cells, hshape, _⟩ := hval
    obtain ⟨b, o, spot⟩ := a
    simp only at hspot hshape
    subst hspot
    have hb : b < W.heap.size := by
      unfold World.shape? at hshape
      split at hshape
      · rename_i h
        exact (Array.getElem?_eq_some_iff.1 h).1
      · cases hshape
    have hmax : m < fz := by
      simp only [maxLen] at hm
      unfold fz
      omega
    obtain ⟨f, hfx⟩ := Deep.choose_lt (α := α) (p := fun i x => W.cells? 0 ((⟨b, o, none⟩ : Addr).add (i * prog.cellsOf e)) (prog.cellsOf e) = some (encE x)) (fun i (hi : i < m) => by
      obtain ⟨cs', h1, h2⟩ := hel i hi
      obtain ⟨x, rfl⟩ := dec _ _ _ h2
      exact ⟨x, h1⟩)
    rw [hc] at hfx
    have hcell : ∀ i j, i < m → j < s → W.cell? ⟨b, o + (i * s + j), none⟩ = (encE (f i))[j]? := fun i j hi hj => by
      have := (World.cells?_some (hfx i hi)).2.2 j hj
      rw [Deep.add_add] at this
      revert this
      generalize i * s + j = k
      intro this
      unfold Addr.add at this
      by_cases h0 : k = 0
      · subst h0
        simpa using this
      · simpa [h0] using this
    have hxl : ((List.range len0).map f).length = len0 := by simp
    refine ⟨(List.range len0).map f, ?_, ⟨by simp only [VOk, AddrOk]; exact ⟨hb, trivial⟩, ?_⟩⟩
    · refine ⟨some ⟨b, o, none⟩, m, by rw [hxl], ⟨flat_len hlen _, flat_kn hkn _⟩, .inr ⟨b, o, rfl, ?_⟩⟩
      rw [hxl]
      by_cases h0 : len0 = 0
      · exact .inl h0
      · right
        have key : ∀ i j, i < len0 → j < s → ∃ c, (absH W)[b]? = some (.cells c false 0) ∧ c[o + (i * s + j)]? = (encE (f i))[j]? := fun i j hi hj => by
          have h1 := hcell i j (by omega) hj
          have h2 : j < (encE (f i)).length := by rw [hlen]; exact hj
          rw [List.getElem?_eq_getElem h2] at h1 ⊢
          exact absH_cell h1 (hfine _ _ (List.getElem_mem h2) _)
        obtain ⟨c, hc1, _⟩ := key 0 0 (by omega) hs
        refine ⟨c, false, 0, hc1, ?_⟩
        apply List.ext_getElem?
        intro k
        by_cases hk : k < len0 * s
        · have hq : k / s < len0 := Nat.div_lt_of_lt_mul (by rw [Nat.mul_comm]; exact hk)
          have hr : k % s < s := Nat.mod_lt _ hs
          have hkk : k / s * s + k % s = k := by rw [Nat.mul_comm]; exact Nat.div_add_mod k s
          obtain ⟨c', hc1', hc2'⟩ := key _ _ hq hr
          rw [hc1] at hc1'
          cases hc1'
          rw [List.getElem?_take, if_pos hk, List.getElem?_drop]
          rw [hkk] at hc2'
          rw [hc2']
          have := flat_get hlen ((List.range len0).map f) (i := k / s) (j := k % s) (by rw [hxl]; exact hq) hr
          rw [hkk] at this
          rw [this]
          simp
        · rw [List.getElem?_take, if_neg hk, List.getElem?_eq_none (by rw [flat_len hlen, hxl]; omega)]
    · have hnf : ¬ fz ≤ m := by omega
      simp [ren, renAddr, renCap, idEnv, hnf]

theorem fine_int {m : Nat} {n : Int} : Fine m (vint n) := ⟨by simp [VOk], rfl, by simp [ren]⟩

theorem trod_vint {W : World} {n : Nat} {cs : List Value} {r : DataW H × List MemPlace} {t : TypeId} (u : prog.underlying t = some (.int .i64)) (h : DataW.trod enc prog W 0 (fun _ => true) true n t cs = some r) : ∃ z, cs = [vint z] := by
  obtain ⟨z, h1, _⟩ := DataW.trod_int u h
  exact ⟨z, h1⟩
end
instance : Inhabited Rng := ⟨⟨0, 0⟩⟩
instance : Inhabited Cnt := ⟨⟨0, 0, 0, 0⟩⟩

section
variable {H : Type} {enc : TypeId × Value → H} {W : World} {n base : Nat} {cs : List Value} {r : DataW H × List MemPlace}
def structOf : Option TypeDesc → Option (List (TypeId × Nat))
  | some (.struct fs) => some (fs.toList.map fun f => (f.type, f.offset))
  | _ => none

theorem trod_fields {t : TypeId} {l : List (TypeId × Nat)} (hs : structOf (prog.underlying t) = some l) (h : DataW.trod enc prog W 0 (fun _ => true) true n t cs = some r) :
    cs.length = prog.cellsOf t ∧ ∃ n' : Nat, ∀ (i : Nat) (ty : TypeId) (off : Nat), l[i]? = some (ty, off) → ∃ r', DataW.trod enc prog W 0 (fun _ => true) true n' ty ((cs.drop off).take (prog.cellsOf ty)) = some r' := by
  unfold structOf at hs
  split at hs
  · rename_i fs hu
    cases hs
    obtain ⟨xs, n', _, rfl, hl, hxl, hf⟩ := DataW.trod_struct hu h
    refine ⟨hl, n', fun i ty off hi => ?_⟩
    rw [List.getElem?_map, Option.map_eq_some_iff] at hi
    obtain ⟨f, hfi, he⟩ := hi
    cases he
    have hfi' : fs[i]? = some f := by simpa using hfi
    have hil : i < xs.length := by rw [hxl]; exact (Array.getElem?_eq_some_iff.1 hfi').1
    exact ⟨xs[i], by rw [hf i f hfi', List.getElem?_eq_getElem hil]⟩
  · cases hs

theorem dec_rng (h : DataW.trod enc prog W 0 (fun _ => true) true n 38 cs = some r) : ∃ x : Rng, cs = x.cells := by
  have u3 : prog.underlying 3 = some (.int .i64) := by kernel_rfl
  have c3 : prog.cellsOf 3 = 1 := by kernel_rfl
  have c38 : prog.cellsOf 38 = 2 := by kernel_rfl
  obtain ⟨hl, n', hf⟩ := trod_fields (l := [(3, 0), (3, 1)]) (by kernel_rfl) h
  rw [c38] at hl
  obtain ⟨a, b, rfl⟩ : ∃ a b, cs = [a, b] := by
    match cs, hl with
    | [a, b], _ => exact ⟨a, b, rfl⟩
  obtain ⟨_, g0⟩ := hf 0 3 0 rfl
  obtain ⟨_, g1⟩ := hf 1 3 1 rfl
  rw [c3] at g0 g1
  obtain ⟨z0, w0⟩ := trod_vint u3 g0
  obtain ⟨z1, w1⟩ := trod_vint u3 g1
  simp at w0 w1
  exact ⟨⟨z0, z1⟩, by rw [w0, w1]; rfl⟩
theorem dec_cnt (h : DataW.trod enc prog W 0 (fun _ => true) true n 61 cs = some r) : ∃ x : Cnt, cs = x.cells := by
  have u3 : prog.underlying 3 = some (.int .i64) := by kernel_rfl
  have c3 : prog.cellsOf 3 = 1 := by kernel_rfl
  have c61 : prog.cellsOf 61 = 4 := by kernel_rfl
  obtain ⟨hl, n', hf⟩ := trod_fields (l := [(3, 0), (3, 1), (3, 2), (3, 3)]) (by kernel_rfl) h
  rw [c61] at hl
  obtain ⟨a, b, c, d, rfl⟩ : ∃ a b c d, cs = [a, b, c, d] := by
    match cs, hl with
    | [a, b, c, d], _ => exact ⟨a, b, c, d, rfl⟩
  obtain ⟨_, g0⟩ := hf 0 3 0 rfl
  obtain ⟨_, g1⟩ := hf 1 3 1 rfl
  obtain ⟨_, g2⟩ := hf 2 3 2 rfl
  obtain ⟨_, g3⟩ := hf 3 3 3 rfl
  rw [c3] at g0 g1 g2 g3
  obtain ⟨z0, w0⟩ := trod_vint u3 g0
  obtain ⟨z1, w1⟩ := trod_vint u3 g1
  obtain ⟨z2, w2⟩ := trod_vint u3 g2
  obtain ⟨z3, w3⟩ := trod_vint u3 g3
  simp at w0 w1 w2 w3
  exact ⟨⟨z0, z1, z2, z3⟩, by rw [w0, w1, w2, w3]; rfl⟩

theorem fine_rng (x : Rng) : ∀ y ∈ x.cells, ∀ m, Fine m y := fun y hy m => by
  simp only [Rng.cells, List.mem_cons, List.not_mem_nil, or_false] at hy
  rcases hy with rfl | rfl <;> exact fine_int
theorem fine_cnt (x : Cnt) : ∀ y ∈ x.cells, ∀ m, Fine m y := fun y hy m => by
  simp only [Cnt.cells, List.mem_cons, List.not_mem_nil, or_false] at hy
  rcases hy with rfl | rfl | rfl | rfl <;> exact fine_int

theorem lok_of : ∀ {l : List Value} {m : Nat}, (∀ v ∈ l, VOk m v) → LOk m l
  | [], _, _ => by simp [LOk]
  | v :: l, m, h => by
    simp only [LOk]
    exact ⟨h v (by simp), lok_of fun u hu => h u (by simp [hu])⟩
theorem argOk_agg {l : List Value} (h : ∀ v ∈ l, ArgOk W v) : ArgOk W (.agg ⟨l⟩) := by
  refine ⟨?_, ?_⟩
  · simp only [VOk, AOk]
    exact lok_of fun v hv => (h v hv).1
  · simp only [ren, renA, renL_eq]
    congr 2
    rw [List.map_congr_left (g := id) fun v hv => (h v hv).2, List.map_id]
theorem agg_of {t : TypeId} {l : List (TypeId × Nat)} {v : Value} (hs : structOf (prog.underlying t) = some l) (hval : Value.okWide prog W .any base t v) : ∃ cs, v = .agg cs ∧ Row.okWide prog W .any base t cs := by
  unfold structOf at hs
  split at hs
  · rename_i fs hu
    simp only [Value.okWide, hu] at hval
    obtain ⟨cs, h1, _, h3⟩ := hval
    exact ⟨cs, h1, h3⟩
  · cases hs

theorem arg_tal {v : Value} {d : DataW H} {ps : List MemPlace} (hval : Value.okWide prog W .any base 42 v) (hd : DataW.Trod enc prog W 0 (fun _ => true) true 42 v d ps) : ∃ (t : Tal) (cv nv : Value), TalAt (absH W) v t cv nv ∧ ArgOk W v := by
  have u3 : prog.underlying 3 = some (.int .i64) := by kernel_rfl
  have u39 : prog.underlying 39 = some (.slice 38) := by kernel_rfl
  have u40 : prog.underlying 40 = some (.slice 61) := by kernel_rfl
  have c3 : prog.cellsOf 3 = 1 := by kernel_rfl
  have c38 : prog.cellsOf 38 = 2 := by kernel_rfl
  have c39 : prog.cellsOf 39 = 1 := by kernel_rfl
  have c40 : prog.cellsOf 40 = 1 := by kernel_rfl
  have c61 : prog.cellsOf 61 = 4 := by kernel_rfl
  have c42 : prog.cellsOf 42 = 6 := by kernel_rfl
  have hst : structOf (prog.underlying 42) = some [(3, 0), (38, 1), (39, 3), (3, 4), (40, 5)] := by kernel_rfl
  have hct : prog.cellTypes prog.depth 42 = some [3, 3, 3, 39, 3, 40] := by kernel_rfl
  obtain ⟨fuel, hf⟩ := hd
  obtain ⟨⟨cs⟩, rfl, ts, hts, _, hrow⟩ := agg_of hst hval
  rw [hct] at hts
  cases hts
  have hf' : DataW.trod enc prog W 0 (fun _ => true) true fuel 42 cs = some (d, ps) := by simpa [Value.cells] using hf
  obtain ⟨hl, n', hfl⟩ := trod_fields hst hf'
  rw [c42] at hl
  obtain ⟨x0, x1, x2, x3, x4, x5, rfl⟩ : ∃ a b c d e f, cs = [a, b, c, d, e, f] := by
    match cs, hl with
    | [a, b, c, d, e, f], _ => exact ⟨a, b, c, d, e, f, rfl⟩
  obtain ⟨_, g0⟩ := hfl 0 3 0 rfl
  obtain ⟨_, g1⟩ := hfl 1 38 1 rfl
  obtain ⟨y3, g3⟩ := hfl 2 39 3 rfl
  obtain ⟨_, g4⟩ := hfl 3 3 4 rfl
  obtain ⟨y5, g5⟩ := hfl 4 40 5 rfl
  rw [c3] at g0 g4
  rw [c38] at g1
  rw [c39] at g3
  rw [c40] at g5
  obtain ⟨z0, w0⟩ := trod_vint u3 g0
  obtain ⟨z4, w4⟩ := trod_vint u3 g4
  obtain ⟨fr, w1⟩ := dec_rng g1
  simp at w0 w4
  simp [Rng.cells] at w1
  obtain ⟨w1, w2⟩ := w1
  subst w0 w4 w1 w2
  obtain ⟨u, hu, k3⟩ := hrow 3 x3 rfl
  cases hu
  obtain ⟨u, hu, k5⟩ := hrow 5 x5 rfl
  cases hu
  have v3 : x3.cells.toList = [x3] := by
    obtain ⟨a0, a1, a2, rfl⟩ := okWide_slice u39 (show Value.okWide prog W .any base 39 x3 by unfold Value.okWide; rw [u39]; exact k3)
    rfl
  have v5 : x5.cells.toList = [x5] := by
    obtain ⟨a0, a1, a2, rfl⟩ := okWide_slice u40 (show Value.okWide prog W .any base 40 x5 by unfold Value.okWide; rw [u40]; exact k5)
    rfl
  obtain ⟨chs, s3, ok3⟩ := arg_sliE (encE := Rng.cells) (n := n') (x := y3) u39 c38 (by omega) (fun _ => rfl) (fun _ => rfl) fine_rng (fun _ _ _ h => dec_rng h) k3 (by rw [v3]; exact g3)
  obtain ⟨cos, s5, ok5⟩ := arg_sliE (encE := Cnt.cells) (n := n') (x := y5) u40 c61 (by omega) (fun _ => rfl) (fun _ => rfl) fine_cnt (fun _ _ _ h => dec_cnt h) k5 (by rw [v5]; exact g5)
  refine ⟨⟨z0, fr, chs, z4, cos⟩, x3, x5, ⟨rfl, s3, s5⟩, argOk_agg fun v hv => ?_⟩
  simp only [List.mem_cons, List.not_mem_nil, or_false] at hv
  rcases hv with rfl | rfl | rfl | rfl | rfl | rfl
  · exact argOk_int
  · exact argOk_int
  · exact argOk_int
  · exact ok3
  · exact argOk_int
  · exact ok5
end
end Go.Proofs.Ytdgpacdknpahnaa

namespace Go.Proofs.Ytdgpacdknpahnaa
open Go.Conc Go.ChangeShapes Go.WideShapes Go.ChangeAt Go.RowKit Go.Proofs.Try
set_option maxRecDepth 100000
theorem lifted14 (os : Os) (started : os.Started) (H : Type) (enc : TypeId × Value → H) :
    ReturnsInLeavingWide {} checked os 14 .any (Rows.tallyLossesSpec.pre6 enc prog f14 Rows.tallyLossesRow.domain false) (Rows.tallyLossesSpec.post enc prog f14 false true false false) := by
  refine returnsInLeavingWide_of_change_sized (C := checked) own started at14
    (ChangeSpec.witness6 (enc := enc) (C := checked) false ⟨#[], #[.agg #[.int .i64 0, .int .i64 0, .int .i64 0, .slice none 0 0, .int .i64 0, .slice none 0 0], .int .i64 0, .int .i64 0, .int .i64 0, .slice none 0 0], []⟩ 8 (by kernel_rfl) (by kernel_rfl) (by kernel_rfl) (by kernel_rfl)) ?_
  intro W base args ds gs before hval0 hW _ hsz0 _
  have hsz : (DataW.weightsEach prog (f14.params.toList ++ Rows.tallyLossesSpec.plain.varTypes prog) (ds ++ gs)).all (· ≤ reachBytes) = true := hsz0
  clear hsz0
  have hval : ∀ (j : Nat) t v, f14.params[j]? = some t → args[j]? = some v → Value.okWide prog W .any base t v := hval0
  have hW' := hW
  obtain ⟨p, q, hA0, hV, rfl, _, _⟩ := hW
  have hA : DataW.TrodAll enc prog W 0 (fun _ => true) true f14.params.toList args.toList ds p := hA0
  have hps : f14.params = #[42, 3, 3, 3, 22] := by kernel_rfl
  rw [hps] at hA hval hsz
  obtain ⟨args⟩ := args
  have r0 : DataW.TrodAll enc prog W 0 (fun _ => true) true [42, 3, 3, 3, 22] args ds p := hA
  obtain ⟨v0, vs0, d0, ds0, p0, q0, hv0, hd0, hp0, h0, r1⟩ := trodAll_cons r0
  obtain ⟨v1, vs1, d1, ds1, p1, q1, hv1, hd1, hp1, h1, r2⟩ := trodAll_cons r1
  obtain ⟨v2, vs2, d2, ds2, p2, q2, hv2, hd2, hp2, h2, r3⟩ := trodAll_cons r2
  obtain ⟨v3, vs3, d3, ds3, p3, q3, hv3, hd3, hp3, h3, r4⟩ := trodAll_cons r3
  obtain ⟨v4, vs4, d4, ds4, p4, q4, hv4, hd4, hp4, h4, r5⟩ := trodAll_cons r4
  obtain ⟨hvn, hdn, hpn⟩ := trodAll_nil r5
  subst hvn hdn hpn
  subst hv4 hd4 hp4
  subst hv3 hd3 hp3
  subst hv2 hd2 hp2
  subst hv1 hd1 hp1
  subst hv0 hd0 hp0
  obtain ⟨rfl, rfl⟩ := trodVars_none hV
  have u3 : prog.underlying 3 = some (.int .i64) := by kernel_rfl
  have u22 : prog.underlying 22 = some (.slice 3) := by kernel_rfl
  have u4 : prog.underlying 4 = some .bool := by kernel_rfl
  have c3 : prog.cellsOf 3 = 1 := by kernel_rfl
  have b3 : prog.bytesOf 3 = 8 := by kernel_rfl
  have hlt : ∀ x ∈ p0 ++ (p1 ++ (p2 ++ (p3 ++ (p4 ++ [])))), x.block < W.heap.size := fun x hx => by simpa using hW'.lt x (by simpa using hx)
  have hargs : ∀ (W' : World), Below W.heap.size W W' → DataW.TrodAll enc prog W' 0 (fun b => decide (b < W.heap.size)) true [42, 3, 3, 3, 22] [v0, v1, v2, v3, v4] [d0, d1, d2, d3, d4] (p0 ++ (p1 ++ (p2 ++ (p3 ++ (p4 ++ []))))) := fun W' hn =>
    trodAll_mkc (Below.trod laidOut (by kernel_rfl) (of_decide_eq_true (by kernel_rfl)) h0 hn fun x hx => hlt x (by simp [hx])) (trodAll_mkc (Below.trod laidOut (by kernel_rfl) (of_decide_eq_true (by kernel_rfl)) h1 hn fun x hx => hlt x (by simp [hx])) (trodAll_mkc (Below.trod laidOut (by kernel_rfl) (of_decide_eq_true (by kernel_rfl)) h2 hn fun x hx => hlt x (by simp [hx])) (trodAll_mkc (Below.trod laidOut (by kernel_rfl) (of_decide_eq_true (by kernel_rfl)) h3 hn fun x hx => hlt x (by simp [hx])) (trodAll_mkc (Below.trod laidOut (by kernel_rfl) (of_decide_eq_true (by kernel_rfl)) h4 hn fun x hx => hlt x (by simp [hx])) (rfl)))))
  obtain ⟨t0, cv0, nv0, ht0, ok0⟩ := arg_tal (hval 0 42 v0 rfl rfl) h0
  obtain ⟨z1, rfl, _, _, _⟩ := open_int u3 (hval 1 3 v1 rfl rfl) h1
  obtain ⟨z2, rfl, _, _, _⟩ := open_int u3 (hval 2 3 v2 rfl rfl) h2
  obtain ⟨z3, rfl, _, _, _⟩ := open_int u3 (hval 3 3 v3 rfl rfl) h3
  obtain ⟨ns4, sn4, ok4, hbig4⟩ := arg_ints u22 u3 c3 (hval 4 22 v4 rfl rfl) h4
  have hln4 : ns4.length < 4611686018427387904 := by
    rcases hbig4 with rfl | ⟨es, sp, rfl, hle⟩
    · simp
    · have := sized_slice hsz (j := 4) (t := 22) (e := 3) rfl rfl u22
      rw [b3] at this
      simp only [reachBytes] at this
      omega
  obtain ⟨M, last, o, w', t', r1, r2, r3, r4⟩ := law_run (g := 14) (fn := f14) at14 body14 (by kernel_rfl) W [v0, vint z1, vint z2, vint z3, v4] (Nat.le_of_ble_eq_true (by kernel_rfl : Nat.ble 5 f14.ntmps = true))
    (by
      intro v hv
      simp only [List.mem_cons, List.not_mem_nil, or_false] at hv
      rcases hv with rfl | rfl | rfl | rfl | rfl
      · exact ok0
      · exact argOk_int
      · exact argOk_int
      · exact argOk_int
      · exact ok4)
    (fun J hJ => walk14 (K := fun v _ => v = .bool true) hJ ht0 sn4 hln4 fun _ => rfl)
  refine ⟨M, last, o, w', t', r1, r2, r3, r4.mono fun v hF => ?_⟩
  obtain ⟨rfl, hbelow⟩ := hF
  refine ⟨_, _, _, [], _, [], hW', ?_, hargs _ hbelow, by rfl, hbelow.frame _, fun h => by cases h⟩
  exact trodAll_mk1 (shut_bool u4 true)

theorem tallyLosses_holds : Rows.TallyLossesSaid :=
  OpenClaim.holds_of_wide_leaving 14 f14 rfl rfl rfl rfl rfl rfl rfl ⟨rfl, rfl, rfl, rfl, rfl⟩ rfl rfl rfl rfl rfl (by kernel_rfl) at14 (by kernel_rfl)
    (of_decide_eq_true (by kernel_rfl)) (by unfold Func.isWrapper; first | (rw [if_pos (by decide +kernel)]; kernel_rfl) | (rw [if_neg (by decide +kernel)]; exact ⟨rfl, rfl⟩))
    (fun os started H enc _ => lifted14 os started H enc)

#print axioms tallyLosses_holds
end Go.Proofs.Ytdgpacdknpahnaa
