/- Parts of the proof, 5. No conditions. -/
import Derived.Test.YtindillghipjjaaK4
import Derived.Test.YtindillghipjjaaK2
namespace Go.Proofs.Ytindillghipjjaa
open Go.Conc
def JF : JT := fun _ _ _ => False
theorem closedF (P : Program) (main : Bool) : Closed P main JF where
  rely := fun h _ => h
  step := fun _ h => by
    obtain ⟨_, _, _, _, _, _, h⟩ := h _ (RelyW.refl _ _)
    exact h
section
variable {P : Program} {main : Bool} {J : JT} {C : CB} {N n0 : Nat} {ds : List Nat} {fn : FuncId} {ops : Array Oper}
def QP (Q : QB) : QT := fun e f h => ∃ l ds x, f = rgOf l ds ∧ h = hOf x ∧ Q e l ds x = true
theorem xjump_t {pend : Option Code} {Q : QB} {l : T Value} {ds : List Nat} {x : XH} (hx : xjump pend Q l ds x = true) : jumpQ pend (QP Q) ⟨gt l, ds⟩ (hOf x) := by
  unfold xjump at hx
  unfold jumpQ
  split at hx
  · exact ⟨l, ds, x, rfl, rfl, hx⟩
  · exact ⟨l, ds, x, rfl, rfl, hx⟩
  · exact ⟨l, ds, x, rfl, rfl, hx⟩
  · cases hx
def LSound (J : JT) (N n0 : Nat) (fn : FuncId) (lp : Code → T Value → List Nat → XH → QB → Bool) : Prop := ∀ b l ds x Q, lp b l ds x Q = true → Sem J N n0 fn (.loop b) (rgOf l ds) (hOf x) (QP Q)
theorem first_run (hC : CSound P JF C) {todo : List Nat} {l : T Value} {x : XH} {K : LB} (hx : xops P C N ops todo l x [] K = true) {ρ : Env} {FC : Frm} {w : World} {ft : Foot} {a : Act}
    (A : ActRel (hOf x).length ρ N (rgOf l ds) a) (H : HRel ρ (hOf x) FC w ft) : ∃ l1 x1, K l1 x1 = true ∧ heapOk (hOf x1) ∧ (∀ t, gt l1 t = unk ∨ VOk (hOf x1).length (gt l1 t)) ∧ (hOf x).length ≤ (hOf x1).length := by
  have hs := SemOps_of (J := JF) (N := N) (n0 := (hOf x).length) (fn := 0) (Q := fun e f h => e = .normal ∧ LP ds K f h) (closedF P true) todo (dec := []) (fun j b e => by cases e) (by simpa using xops_t (ds := ds) hC todo (fun j b e => by cases e) (fun j hj => by cases hj) hx)
  refine Classical.byContradiction fun hn => ?_
  refine hs ⟨0, .normal, none⟩ a [] [] (fun _ _ _ _ => False) ρ FC w ft rfl (by simp) (fun _ _ _ _ _ z _ => z.elim) A H (Nat.le_refl _) ?_
  intro e f' h' ρ' w' ft' a' q A' H' hu hl
  obtain ⟨rfl, l1, x1, rfl, rfl, hk⟩ := q
  exact hn ⟨l1, x1, hk, H'.ok, fun t => (A'.regs t).imp id fun z => z.1, hl⟩
theorem simT_t {σ : Nat → Nat} : ∀ {l1 l2 : T Value}, simT σ l1 l2 = true → ∀ t, gt l2 t = sub σ (gt l1 t)
  | .nil, .nil, _, t => by simp [gt, tget_nil, sub_undef]
  | .node a l r, .node b l' r', hx, t => by
    unfold simT at hx
    obtain ⟨x, y⟩ := and_t hx
    obtain ⟨x, z⟩ := and_t x
    cases t with
    | zero => exact simV_t x
    | succ t =>
      unfold gt
      rw [tget_node, tget_node]
      split
      · exact simT_t z _
      · exact simT_t y _
  | .nil, .node b l' r', hx, t => by cases hx
  | .node a l r, .nil, hx, t => by cases hx
theorem addP_ex {n0 : Nat} {a b : Value} {acc : List (Nat × Nat)} {k : List (Nat × Nat) → Bool} (hx : addP n0 a b acc k = true) : ∃ s, k s = true := by
  unfold addP at hx
  split at hx
  · rename_i x y _ _
    cases hc : (Nat.ble n0 x && !(acc.any fun p => Nat.beq p.1 x)) with
    | true =>
      rw [hc, cond_true, fN_eq, fN_eq] at hx
      exact ⟨_, hx⟩
    | false =>
      rw [hc, cond_false] at hx
      exact ⟨_, hx⟩
  · exact ⟨_, hx⟩
theorem prs_ex {n0 : Nat} : ∀ (l1 l2 : T Value) {acc : List (Nat × Nat)} {k : List (Nat × Nat) → Bool}, prs n0 l1 l2 acc k = true → ∃ s, k s = true
  | .node a l r, .node b l' r', acc, k, hx => by
    unfold prs at hx
    obtain ⟨s1, hx⟩ := addP_ex hx
    obtain ⟨s2, hx⟩ := prs_ex l l' hx
    exact prs_ex r r' hx
  | .nil, l2, acc, k, hx => by
    unfold prs at hx
    exact ⟨_, hx⟩
  | .node a l r, .nil, acc, k, hx => by
    unfold prs at hx
    exact ⟨_, hx⟩
theorem sg_same {n : Nat} : ∀ {s : List (Nat × Nat)}, (s.all fun p => Nat.ble n p.1) = true → Same n (sg s)
  | [], _, b, _ => rfl
  | (a, c) :: l, hx, b, hb => by
    simp only [List.all_cons, Bool.and_eq_true] at hx
    have := ble_t hx.1
    unfold sg
    have hne : Nat.beq a b = false := by
      cases h : Nat.beq a b with
      | false => rfl
      | true => have := Nat.eq_of_beq_eq_true h; omega
    rw [hne, cond_false]
    exact sg_same hx.2 b hb
theorem xsim_t {n0 n1 : Nat} {l1 l2 : T Value} {x1 x2 : XH} (hx : xsim n1 l1 x1 l2 x2 = true) (ok : heapOk (hOf x1)) (hr : ∀ t, gt l1 t = unk ∨ VOk (hOf x1).length (gt l1 t)) (hn : n0 ≤ n1) (hl : n1 ≤ (hOf x1).length) (hd : ∀ d ∈ ds, d < n1) :
    ∃ σ, GCR n0 σ (rgOf l2 ds) (hOf x2) (rgOf l1 ds) (hOf x1) := by
  unfold xsim at hx
  obtain ⟨s, hx⟩ := prs_ex l1 l2 hx
  obtain ⟨a, b⟩ := and_t hx
  obtain ⟨a1, a2⟩ := and_t a
  have hs := sg_same a1
  have hb : ∀ i, i < x1.n → sg (swp s) (sg s i) = i ∧ (isDead (tget .dead x1.t i) = true ∨ hg x2 (sg s i) (fun o => simO (sg s) (tget .dead x1.t i) o) = true) := by
    intro i hi
    have := List.all_eq_true.1 b i (List.mem_range.2 hi)
    obtain ⟨p, q⟩ := and_t this
    exact ⟨Nat.eq_of_beq_eq_true p, by simpa using q⟩
  have hat : ∀ {i : Nat} {o : AObj}, (hOf x1)[i]? = some o → i < x1.n ∧ o = tget .dead x1.t i := by
    intro i o hi
    have hlt := (List.getElem?_eq_some_iff.1 hi).1
    rw [hOf_len] at hlt
    refine ⟨hlt, ?_⟩
    unfold hOf at hi
    rw [List.getElem?_map, List.getElem?_range hlt] at hi
    simpa using hi.symm
  refine ⟨sg s, ⟨Nat.le_trans hn hl, fun b hb => hs b (Nat.lt_of_lt_of_le hb hn), fun i o hi => ?_, fun i j o o' hi hj _ _ e => ?_, ok⟩, fun t => ?_, ?_, fun b hb => Nat.lt_of_lt_of_le (hd b hb) hl⟩
  · obtain ⟨hlt, rfl⟩ := hat hi
    rcases (hb i hlt).2 with h | h
    · left
      unfold isDead at h
      split at h
      · assumption
      · cases h
    · obtain ⟨o, ho, h⟩ := hg_t h
      right
      rw [ho, (simO_t h).1]
  · have h1 := (hb i (hat hi).1).1
    have h2 := (hb j (hat hj).1).1
    rw [← h1, ← h2, e]
  · rcases hr t with h | h
    · exact .inl h
    · exact .inr ⟨simT_t a2 t, h⟩
  · show ds = ds.map (sg s)
    exact ((List.map_congr_left fun d hd' => hs d (hd d hd')).trans (List.map_id _)).symm
theorem joinOf_t {a : Code} {ops : Array Oper} (h : joinOf P a = some ops) : ∃ id, a = .region id ops true := by
  unfold joinOf at h
  split at h
  · rename_i id ops'
    cases hm : multi P ops' ops'.size (Array.replicate ops'.size false) with
    | true => rw [hm] at h; cases h; exact ⟨id, rfl⟩
    | false => rw [hm] at h; cases h
  · cases h
theorem xjoin_t (hJ : Closed P main J) (hm : P.follows .mixedOrders = true) (hC : CSound P J C) (hC0 : CSound P JF C) {id : Nat} {b : Code} {l : T Value} {x : XH} {k : T Value → XH → Bool} {Q : QT} (hx : xjoin P C N ops l x k = true)
    (hb : ∀ l x, k l x = true → Sem J N n0 fn b (rgOf l ds) (hOf x) Q) : Sem J N n0 fn (.seq (.region id ops true) b) (rgOf l ds) (hOf x) Q := by
  intro b' a' k' cs' L' ρ FC w ft g1 g2 g3 g4 g5 g6 gc
  unfold xjoin at hx
  obtain ⟨l1, x1, hk, ok, hr, hl⟩ := first_run (ds := ds) hC0 hx g4 g5
  obtain ⟨k1, k2⟩ := and_t hk
  have hs : Sem J N n0 fn (.seq (.region id ops true) b) (rgOf l ds) (hOf x) Q := by
    refine Sem_seq hJ ((Sem_region_draw hJ hm (Q := fun e f h => e = .normal ∧ LP ds (fun l2 x2 => xsim x.n l1 x1 l2 x2) f h) (by simpa using xdraw_t (ds := ds) hC k1)).mono ?_)
    rintro e f h ⟨rfl, l2, x2, rfl, rfl, hsim⟩
    rw [hOf_len] at hl g6
    obtain ⟨σ, hg⟩ := xsim_t (ds := ds) hsim ok hr g6 hl (fun d hd => by
      have := g4.ok d hd
      rw [hOf_len] at this
      exact this)
    exact Sem.gc hg (hb l1 x1 k2)
  exact hs b' a' k' cs' L' ρ FC w ft g1 g2 g3 g4 g5 g6 gc
theorem xseq_t (hJ : Closed P main J) (hm : P.follows .mixedOrders = true) (hC : CSound P J C) (hC0 : CSound P JF C) {a b : Code} {ra rb : T Value → List Nat → XH → QB → Bool}
    (ha : ∀ l ds x Q, ra l ds x Q = true → Sem J N n0 fn a (rgOf l ds) (hOf x) (QP Q)) (hb : ∀ l ds x Q, rb l ds x Q = true → Sem J N n0 fn b (rgOf l ds) (hOf x) (QP Q)) {l : T Value} {ds : List Nat} {x : XH} {Q : QB} (hx : xseq P C N a ra rb l ds x Q = true) :
    Sem J N n0 fn (.seq a b) (rgOf l ds) (hOf x) (QP Q) := by
  unfold xseq at hx
  split at hx
  · rename_i ops hj
    obtain ⟨id, rfl⟩ := joinOf_t hj
    exact xjoin_t hJ hm hC hC0 hx fun l x hk => hb l ds x Q hk
  · refine Sem_seq hJ ((ha l ds x _ hx).mono fun e f h q => ?_)
    obtain ⟨l', ds', x', rfl, rfl, hq⟩ := q
    cases e with
    | normal => exact hb _ _ _ _ hq
    | _ => exact ⟨l', ds', x', rfl, rfl, hq⟩
theorem xC_t (hJ : Closed P main J) (hm : P.follows .mixedOrders = true) (hC : CSound P J C) (hC0 : CSound P JF C) {lp : Code → T Value → List Nat → XH → QB → Bool} (hL : LSound J N n0 fn lp) : ∀ (c : Code) (l : T Value) (ds : List Nat) (x : XH) (Q : QB), xC P C N fn lp c l ds x Q = true → Sem J N n0 fn c (rgOf l ds) (hOf x) (QP Q)
  | .skip, l, ds, x, Q, hx => Sem_skip hJ ⟨l, ds, x, rfl, rfl, hx⟩
  | .label _, l, ds, x, Q, hx => Sem_label hJ ⟨l, ds, x, rfl, rfl, hx⟩
  | .ret, l, ds, x, Q, hx => Sem_ret ⟨l, ds, x, rfl, rfl, hx⟩
  | .exit id, l, ds, x, Q, hx => Sem_exit hJ ⟨l, ds, x, rfl, rfl, hx⟩
  | .seq a b, l, ds, x, Q, hx => xseq_t hJ hm hC hC0 (ra := xC P C N fn lp a) (rb := xC P C N fn lp b) (fun l ds x Q h => xC_t hJ hm hC hC0 hL a l ds x Q h) (fun l ds x Q h => xC_t hJ hm hC hC0 hL b l ds x Q h) hx
  | .cond c a b, l, ds, x, Q, hx => by
    change xcnd (ev (gt l) c) (xC P C N fn lp a l ds x Q) (xC P C N fn lp b l ds x Q) = true at hx
    unfold xcnd at hx
    split at hx
    · rename_i e
      exact Sem_cond hJ (t := true) e (by simpa using xC_t hJ hm hC hC0 hL a l ds x Q hx)
    · rename_i e
      exact Sem_cond hJ (t := false) e (by simpa using xC_t hJ hm hC hC0 hL b l ds x Q hx)
    · cases hx
  | .block id a, l, ds, x, Q, hx => by
    refine Sem_block hJ ((xC_t hJ hm hC hC0 hL a l ds x (blkQ id Q) hx).mono fun e f h q => ?_)
    obtain ⟨l', ds', x', rfl, rfl, hq⟩ := q
    cases e with
    | exit i =>
      unfold blkQ at hq
      simp only at hq
      unfold blockK
      simp only
      cases hi : i == id with
      | true => rw [hi, cond_true] at hq; exact ⟨l', ds', x', rfl, rfl, hq⟩
      | false => rw [hi, cond_false] at hq; exact ⟨l', ds', x', rfl, rfl, hq⟩
    | _ => exact ⟨l', ds', x', rfl, rfl, hq⟩
  | .scope a, l, ds, x, Q, hx => Sem_scope hJ (xC_t hJ hm hC hC0 hL a l ds x Q hx)
  | .region id ops draw, l, ds, x, Q, hx => by
    change (bif draw then xdraw P C N ops l x fun l x => Q .normal l ds x else xops P C N ops (List.range ops.size) l x [] fun l x => Q .normal l ds x) = true at hx
    cases draw with
    | true =>
      rw [cond_true] at hx
      refine (Sem_region_draw hJ hm (Q := fun e f h => e = .normal ∧ LP ds (fun l x => Q .normal l ds x) f h) ?_).mono ?_
      · simpa using xdraw_t (ds := ds) hC hx
      · rintro e f h ⟨rfl, l', x', rfl, rfl, hq⟩
        exact ⟨l', ds, x', rfl, rfl, hq⟩
    | false =>
      rw [cond_false] at hx
      refine (Sem_region_text hJ (Q := fun e f h => e = .normal ∧ LP ds (fun l x => Q .normal l ds x) f h) ?_).mono ?_
      · simpa using xops_t (ds := ds) hC (List.range ops.size) (dec := []) (fun j b e => by cases e) (fun j hj => by cases hj) hx
      · rintro e f h ⟨rfl, l', x', rfl, rfl, hq⟩
        exact ⟨l', ds, x', rfl, rfl, hq⟩
  | .loop b, l, ds, x, Q, hx => hL b l ds x Q hx
  | .rangeFunc fop params assign body, l, ds, x, Q, hx => by
    change xrange P C N fn (ev (gt l) fop) params assign body l ds x Q = true at hx
    unfold xrange at hx
    split at hx
    · rename_i g first cap e
      obtain ⟨a, hx⟩ := and_t hx
      obtain ⟨a1, a2⟩ := and_t a
      obtain ⟨y1, e1, hx⟩ := hpush_t hx
      obtain ⟨y2, e2, hx⟩ := hpush_t hx
      have hg := hC _ _ _ _ hx
      rw [← e2, ← e1, ← hOf_len x] at hg
      refine Sem_range hJ (blt_t a1) (f := rgOf l ds) e (blt_t a2) (hg.mono fun v h' hk => ?_)
      obtain ⟨x', rfl, hk⟩ := hk
      obtain ⟨o, ho, hk⟩ := hg_t hk
      split at hk
      · rename_i st pend fn' r size params' assign' body' dfr
        obtain ⟨k1, k2⟩ := and_t hk
        obtain ⟨y, ey, k2⟩ := hset_t k2
        refine ⟨st, pend, fn', r, size, params', assign', body', dfr, ho, fun e => ?_, ?_⟩
        · subst e
          cases k1
        · rw [ey]
          exact xjump_t k2
      · cases hk
    · cases hx
  | .goto _, l, ds, x, Q, hx => by cases hx
  | .refuse _, l, ds, x, Q, hx => by cases hx
theorem xtake_t : ∀ (ds : List Nat) {x : XH} {K : XH → Bool}, xtake ds x K = true → takeW ds (hOf x) (HP K)
  | [], x, K, hx => ⟨x, rfl, hx⟩
  | d :: ds, x, K, hx => by
    unfold xtake at hx
    obtain ⟨o, ho, hx⟩ := hg_t hx
    split at hx
    · obtain ⟨y, e, hx⟩ := hset_t hx
      refine ⟨ho, ?_⟩
      rw [e]
      exact xtake_t ds hx
    · cases hx
theorem takeW_mono : ∀ (ds : List Nat) {h : List AObj} {K K' : List AObj → Prop}, takeW ds h K → (∀ h, K h → K' h) → takeW ds h K'
  | [], h, K, K', hx, hk => hk _ hx
  | d :: ds, h, K, K', hx, hk => ⟨hx.1, takeW_mono ds hx.2 hk⟩
theorem resW_mono : ∀ (rs : List ResultVar) {r : Nat → Value} {h : List AObj} {K K' : List Value → Prop}, resW P rs r h K → (∀ vs, K vs → K' vs) → resW P rs r h K'
  | [], r, h, K, K', hx, hk => hk _ hx
  | .tmp t :: rs, r, h, K, K', hx, hk => ⟨hx.1, resW_mono rs hx.2 fun vs => hk _⟩
  | .cell a t :: rs, r, h, K, K', hx, hk => by
    unfold resW at hx ⊢
    split at hx
    · obtain ⟨v, k1, k2⟩ := pin_aLoad _ hx
      exact k2 (fun v => resW P rs r h fun vs => K' (v :: vs)) (resW_mono rs k1 fun vs => hk _)
    · exact hx.elim
theorem xres_t : ∀ (rs : List ResultVar) {r : Nat → Value} {x : XH} {K : List Value → Bool}, xres P rs r x K = true → resW P rs r (hOf x) fun vs => K vs = true
  | [], r, x, K, hx => hx
  | .tmp t :: rs, r, x, K, hx => by
    unfold xres at hx
    rw [fV_eq] at hx
    obtain ⟨a, b⟩ := and_t hx
    refine ⟨fun e => ?_, xres_t rs b⟩
    rw [e] at a
    cases a
  | .cell a t :: rs, r, x, K, hx => by
    unfold xres at hx
    unfold resW
    split at hx
    · rename_i e
      simp only [e]
      obtain ⟨v, k1, k2⟩ := pin_aLoad _ (xLoad_t hx)
      exact k2 (fun v => resW P rs r (hOf x) fun vs => K (v :: vs) = true) (xres_t rs k1)
    · cases hx
theorem xret_t {rs : List ResultVar} {K : KB} {e : Exit} {f : RG} {h : List AObj} (hq : QP (xret P rs K) e f h) : RetQ P rs n0 (KP K) e f h := by
  obtain ⟨l, ds, x, rfl, rfl, hq⟩ := hq
  have main : xtake ds x (fun h => xres P rs (gt l) h fun vs => K (pack vs) h) = true → takeW (rgOf l ds).ds (hOf x) fun h => resW P rs (rgOf l ds).r h fun vs => KP K (pack vs) h ∨ ∃ σ h' v, GC n0 σ h h' ∧ pack vs = sub σ v ∧ VOk h'.length v ∧ KP K v h' := by
    intro hq
    refine takeW_mono ds (xtake_t ds hq) fun h hk => ?_
    obtain ⟨y, rfl, hk⟩ := hk
    exact resW_mono rs (xres_t rs hk) fun vs hv => .inl ⟨y, rfl, hv⟩
  unfold xret at hq
  unfold RetQ
  split at hq
  · exact main hq
  · exact main hq
  · cases hq
theorem xputs_t : ∀ (ts : List Nat) (vs : List Value) {l : T Value} {K : T Value → Bool}, xputs l ts vs K = true → ∃ l', gt l' = putAll (gt l) ts vs ∧ K l' = true
  | [], vs, l, K, hx => by
    cases vs <;> exact ⟨l, rfl, hx⟩
  | t :: ts, [], l, K, hx => ⟨l, rfl, hx⟩
  | t :: ts, v :: vs, l, K, hx => by
    unfold xputs at hx
    obtain ⟨l1, h1, h2⟩ := tset_t _ hx
    obtain ⟨l', e1, e2⟩ := xputs_t ts vs h1
    refine ⟨l', ?_, e2⟩
    show gt l' = putAll (fun i => bif i == t then v else gt l i) ts vs
    rw [gt_set h2]
    exact e1
theorem xround_t {l n0 : Nat} {K : KB} {e : Exit} {f : RG} {h : List AObj} (hq : QP (xround l K) e f h) : roundQ l n0 (KP K) e f h := by
  obtain ⟨l', ds, x, rfl, rfl, hq⟩ := hq
  obtain ⟨o, ho, hq⟩ := hg_t hq
  unfold xroundC at hq
  split at hq
  · rename_i st pend fn r size params assign body dfr
    refine ⟨st, pend, fn, r, size, params, assign, body, dfr, ho, ?_⟩
    split at hq
    · exact .inl (hset_t hq)
    · exact .inl (hset_t hq)
    · exact .inl (hset_t hq)
    · cases hq
  · cases hq
theorem putAll_range : ∀ (args : List Value) (k : Nat) (r : Nat → Value) (t : Nat), putAll r (List.range' k args.length) args t = if k ≤ t ∧ t < k + args.length then args.getD (t - k) unk else r t
  | [], k, r, t => by
    rw [if_neg (by simp)]
    rfl
  | v :: args, k, r, t => by
    show putAll (fun i => bif i == k then v else r i) (List.range' (k + 1) args.length) args t = _
    rw [putAll_range args (k + 1)]
    simp only [List.length_cons]
    by_cases h1 : k + 1 ≤ t ∧ t < k + 1 + args.length
    · rw [if_pos h1, if_pos (by omega)]
      have : t - k = (t - (k + 1)) + 1 := by omega
      rw [this, List.getD_cons_succ]
    · rw [if_neg h1]
      by_cases e : t = k
      · subst e
        rw [if_pos (by omega)]
        simp
      · have : (t == k) = false := by simpa using e
        rw [this, if_neg (by omega)]
        rfl
theorem regT_t {r : Nat → Value} : ∀ (n : Nat) {k : T Value → Bool}, regT r n k = true → ∃ l, k l = true ∧ ∀ t, gt l t = if t < n then r t else unk
  | 0, k, hx => ⟨.nil, hx, fun t => by simp [gt, tget_nil]⟩
  | n + 1, k, hx => by
    unfold regT at hx
    obtain ⟨l, h1, h2⟩ := regT_t n hx
    rw [fV_eq] at h1
    obtain ⟨l', h3, h4⟩ := tset_t _ h1
    refine ⟨l', h3, fun t => ?_⟩
    show tget unk l' t = _
    rw [h4]
    by_cases e : t = n
    · subst e; simp
    · rw [if_neg e]
      show gt l t = _
      rw [h2]
      by_cases e2 : t < n
      · rw [if_pos e2, if_pos (by omega)]
      · rw [if_neg e2, if_neg (by omega)]
theorem Sem.less {h : List AObj} {c : Code} {f f' : RG} {Q : QT} (hr : ∀ t, f'.r t = unk ∨ f'.r t = f.r t) (hd : f'.ds = f.ds) (hs : Sem J N n0 fn c f' h Q) : Sem J N n0 fn c f h Q := by
  intro b a k cs L ρ FC w ft h1 h2 h3 h4 h5 h6 hc
  refine hs b a k cs L ρ FC w ft h1 h2 h3 ⟨fun t => ?_, h4.size, by rw [hd]; exact h4.defers, by rw [hd]; exact h4.ok⟩ h5 h6 hc
  rcases hr t with e | e
  · exact .inl e
  · rw [e]
    exact h4.regs t
theorem putAll_less : ∀ (ps : List Nat) (vs : List Value) {r r' : Nat → Value}, (∀ t, r' t = unk ∨ r' t = r t) → ∀ t, putAll r' ps vs t = unk ∨ putAll r' ps vs t = putAll r ps vs t
  | [], vs, r, r', h, t => by cases vs <;> exact h t
  | p :: ps, [], r, r', h, t => h t
  | p :: ps, v :: vs, r, r', h, t => by
    refine putAll_less ps vs (fun x => ?_) t
    by_cases e : x = p
    · have : (x == p) = true := by simpa using e
      simp [this]
    · have : (x == p) = false := by simpa using e
      simpa [this] using h x
def SemL (J : JT) (N n0 : Nat) (fn : FuncId) (c : Code) (f : RG) (h : List AObj) (Q : QT) : Prop :=
  ∀ (b : FB) (a : Act) (k : List Item) (cs : List Frame) (L : Option Code → Act → World → Foot → Prop) (ρ : Env) (FC : Frm) (w : World) (ft : Foot), b.tag = fn → b.kind ≠ .early → LeaveOk J b cs L →
    ActRel h.length ρ N f a → HRel ρ h FC w ft → n0 ≤ h.length → Cont J N n0 b k cs L ρ FC Q → J (G (b.at a (.code c :: .inLoop c :: k)) cs) w ft
theorem SemL_step {h : List AObj} (hJ : Closed P main J) {c : Code} {f : RG} {Q : QT} (hx : Sem J N n0 fn c f h (thenK (fun f h => SemL J N n0 fn c f h Q) Q)) : SemL J N n0 fn c f h Q := by
  intro b a k cs L ρ FC w ft h1 h2 h3 h4 h5 h6 hc
  refine hx b a (.inLoop c :: k) cs L ρ FC w ft h1 h2 h3 h4 h5 h6 fun e f' h' ρ' w' ft' a' q g1 g2 g3 g4 => ?_
  cases e with
  | normal =>
    refine hJ.ctrl rfl rfl (g' := G (b.at a' (.code c :: .inLoop c :: k)) cs) (fun w => by simp [G, stepG, stepG.exec, FB.at]) ?_
    exact q b a' k cs L ρ' FC w' ft' h1 h2 h3 g1 g2 g4 fun e f3 h3' ρ3 w3 ft3 a3 q r1 r2 r3 r4 => hc e f3 h3' ρ3 w3 ft3 a3 q r1 r2 (Env.upto_trans g3 r3) r4
  | exit id => exact AfterJ.push (fun _ => rfl) (by simp) (hc _ _ _ _ _ _ _ q g1 g2 g3 g4)
  | ret => exact AfterJ.push (fun _ => rfl) (by simp) (hc _ _ _ _ _ _ _ q g1 g2 g3 g4)
  | goto l => exact hc _ _ _ _ _ _ _ q g1 g2 g3 g4
  | panic l => exact hc _ _ _ _ _ _ _ q g1 g2 g3 g4
  | outgrown => exact hc _ _ _ _ _ _ _ q g1 g2 g3 g4
theorem Sem_of_SemL {h : List AObj} (hJ : Closed P main J) {c : Code} {f : RG} {Q : QT} (hx : SemL J N n0 fn c f h Q) : Sem J N n0 fn (.loop c) f h Q := by
  intro b a k cs L ρ FC w ft h1 h2 h3 h4 h5 h6 hc
  refine hJ.ctrl rfl rfl (g' := G (b.at a (.code c :: .inLoop c :: k)) cs) (fun w => by simp [G, stepG, stepG.exec, FB.at]) ?_
  exact hx b a k cs L ρ FC w ft h1 h2 h3 h4 h5 h6 hc
def XS (P : Program) (n : Nat) : Prop := ∀ (main : Bool) (J : JT), Closed P main J → CSound P J (xcall P n) ∧ ∀ N n0 fn b l ds x Q, xloop P n N fn b l ds x Q = true → SemL J N n0 fn b (rgOf l ds) (hOf x) (QP Q)
theorem x_sound (hm : P.follows .mixedOrders = true) : ∀ n : Nat, XS P n
  | 0 => fun main J hJ => ⟨fun g args x K hx => (by unfold xcall at hx; cases hx), fun N n0 fn b l ds x Q hx => (by unfold xloop at hx; cases hx)⟩
  | n + 1 => by
    intro main J hJ
    obtain ⟨hC, hL⟩ := x_sound hm n main J hJ
    have hC0 := (x_sound hm n true JF (closedF P true)).1
    have hL' : ∀ N n0 fn, LSound J N n0 fn (xloop P n N fn) := fun N n0 fn b l ds x Q hx => Sem_of_SemL hJ (hL N n0 fn b l ds x Q hx)
    refine ⟨fun g args x K hx => ?_, fun N n0 fn b l ds x Q hx => ?_⟩
    · unfold xcall at hx
      split at hx
      · rename_i fn hf
        unfold xenter at hx
        split at hx
        · rename_i c hb
          obtain ⟨a, hx⟩ := and_t hx
          obtain ⟨a1, a2⟩ := and_t a
          have a1 := ble_t a1
          obtain ⟨l, e, hx⟩ := xputs_t _ _ hx
          refine good_of_sem hJ hf hb (by simpa using a2) a1 fun ok => ?_
          have := xC_t hJ hm hC hC0 (hL' fn.ntmps (hOf x).length g) c l [] x _ hx
          have hr : rgOf l [] = ⟨regs args, []⟩ := by
            unfold rgOf regs
            congr 1
            rw [e, List.range_eq_range']
            funext t
            rw [putAll_range]
            by_cases ht : t < args.length
            · rw [if_pos (by omega)]
              simp
            · rw [if_neg (by omega), List.getD_eq_getElem?_getD, List.getElem?_eq_none (by omega)]
              rfl
          rw [hr] at this
          exact this.mono fun e f h q => xret_t q
        · cases hx
      · obtain ⟨a, hx⟩ := and_t hx
        obtain ⟨o, ho, hx⟩ := hg_t hx
        unfold xinto at hx
        split at hx
        · rename_i pend fn r size params assign body dfr
          obtain ⟨a1, hx⟩ := and_t hx
          obtain ⟨a1, a2⟩ := and_t a1
          obtain ⟨l0, hx, e0⟩ := regT_t _ hx
          obtain ⟨l', e1, hx⟩ := xputs_t params.toList args hx
          have a1 : params.size = args.length := by simpa using a1
          have hyid : g = yid P (g - P.funcs.size) := (Nat.add_sub_cancel' (ble_t a)).symm
          rw [hyid]
          refine good_round hJ ho a1 (fun t ht => blt_t (List.all_eq_true.1 a2 t ht)) fun ok => ?_
          refine Sem.less (f' := rgOf l' []) (fun t => ?_) rfl ((xC_t hJ hm hC hC0 (hL' size (hOf x).length (fn + 1000000)) assign l' [] x _ hx).mono fun e f h1 q => ?_)
          · show gt l' t = unk ∨ gt l' t = putAll r params.toList args t
            rw [e1]
            refine putAll_less _ _ (fun x => ?_) t
            rw [e0]
            split
            · exact .inr rfl
            · exact .inl rfl
          · obtain ⟨l2, ds2, x2, rfl, rfl, hq⟩ := q
            simp only at hq
            split at hq
            · obtain ⟨o2, ho2, hq⟩ := hg_t hq
              split at hq
              · rename_i pend' fn' r' size' params' assign' body' dfr'
                obtain ⟨y, ey, hq⟩ := hset_t hq
                refine ⟨rfl, pend', fn', r', size', params', assign', body', dfr', ho2, ?_⟩
                rw [ey]
                exact (xC_t hJ hm hC hC0 (hL' size (hOf x).length (fn + 1000000)) body l2 [] y _ hq).mono fun e f h2 q => xround_t q
              · cases hq
            · cases hq
        · cases hx
    · unfold xloop at hx
      refine SemL_step hJ ((xC_t hJ hm hC hC0 (hL' N n0 fn) b l ds x _ hx).mono fun e f h q => ?_)
      obtain ⟨l', ds', x', rfl, rfl, hq⟩ := q
      cases e with
      | normal => exact hL N n0 fn b l' ds' x' Q hq
      | _ => exact ⟨l', ds', x', rfl, rfl, hq⟩
end
section
variable {P : Program} {main : Bool} {J : JT} {g : FuncId} {args : List Value} {h : List AObj} {K K' : Value → List AObj → Prop}
theorem good_frame (hg : Good P J g args [] K) (hlt : g < P.funcs.size) (ha : ∀ v ∈ args, VOk 0 v) (hk : ∀ v h', K v h' → VOk 0 v ∧ K' v h) : Good P J g args h K' := by
  obtain ⟨ho, hg⟩ := hg
  have hcall : callable P g = true := by
    rcases ho with ⟨_, e⟩ | ⟨e, _⟩
    · exact e
    · exact absurd hlt (Nat.not_lt.2 e)
  refine ⟨.inl ⟨hlt, hcall⟩, fun ρ FC w ft cs c cargs fr H hargs hl hent hc => ?_⟩
  have hfr : fr = Frame.enter P g ⟨cargs⟩ .normal := by
    rcases hent with ⟨_, e⟩ | ⟨e, _⟩
    · exact e
    · exact absurd hlt (Nat.not_lt.2 e)
  have ob : ∃ ob : Nat → Option Obj, (∀ b, ft.rd b → ob b = w.heap[b]?) ∧ (∀ b, ¬ ft.rd b → ob b = none) := by
    classical
    exact ⟨fun b => if ft.rd b then w.heap[b]? else none, fun b hb => if_pos hb, fun b hb => if_neg hb⟩
  obtain ⟨ob, ob1, ob2⟩ := ob
  have H0 : HRel ρ [] ⟨ob, ft.wr⟩ w ft := by
    refine ⟨fun b o hb => by simp at hb, fun b b' o o' hb => by simp at hb, fun b o hb => by simp at hb, fun b o hb => by simp at hb, H.lt, H.sub, fun b o hb => ?_, fun b hb => hb⟩
    by_cases hr : ft.rd b
    · refine ⟨?_, hr, fun a oa ha => by simp at ha⟩
      rw [← ob1 b hr]
      exact hb
    · have : ob b = some o := hb
      rw [ob2 b hr] at this
      cases this
  refine hg ρ ⟨ob, ft.wr⟩ w ft cs c cargs fr H0 (fun i => ?_) hl (.inl ⟨hlt, hfr⟩) fun v h' ρ' w' ft' cv hK H' hu hl' hv => ?_
  · rcases hargs i with e | ⟨_, e⟩
    · exact .inl e
    · by_cases hi : i < args.length
      · have : args.getD i unk ∈ args := by
          rw [List.getD_eq_getElem?_getD, List.getElem?_eq_getElem hi]
          exact List.getElem_mem hi
        exact .inr ⟨ha _ this, e⟩
      · left
        rw [List.getD_eq_getElem?_getD, List.getElem?_eq_none (by omega)]
        rfl
  · obtain ⟨hv0, hK'⟩ := hk v h' hK
    have kp : ∀ b, ft.rd b → w'.heap[b]? = w.heap[b]? ∧ ft'.rd b := by
      intro b hb
      have hlt' := H.lt b hb
      have : (⟨ob, ft.wr⟩ : Frm).ob b = some w.heap[b] := by
        show ob b = _
        rw [ob1 b hb, Array.getElem?_eq_getElem hlt']
      obtain ⟨a1, a2, _⟩ := H'.kept b _ this
      exact ⟨by rw [a1, Array.getElem?_eq_getElem hlt'], a2⟩
    refine hc v h ρ w' ft' cv hK' ⟨fun b o hb => ?_, H.inj, fun b o hb hl => (kp _ (H.rd b o hb hl)).2, fun b o hb hw => H'.keptW _ (H.wr b o hb hw), H'.lt, H'.sub, fun b o hb => ?_, fun b hb => H'.keptW _ (H.keptW b hb)⟩ (Env.upto_refl _ _) (Nat.le_refl _) ?_
    · cases hlv : o.live with
      | false => cases o <;> first | trivial | cases hlv
      | true =>
        rw [(kp _ (H.rd b o hb hlv)).1]
        exact H.obj b o hb
    · obtain ⟨a1, a2, a3⟩ := H.kept b o hb
      exact ⟨by rw [(kp b a2).1]; exact a1, (kp b a2).2, a3⟩
    · rcases hv with e | ⟨_, e⟩
      · exact .inl e
      · exact .inr ⟨VOk.mono (Nat.zero_le _) v hv0, by rw [e, ren0 v hv0, ren0 v hv0]⟩
end
section
variable {P : Program} {J : JT} {g : FuncId} {args : List Value} {h h0 : List AObj} {K K' : Value → List AObj → Prop} {σ : Nat → Nat}
structure Lies (σ : Nat → Nat) (h0 h : List AObj) : Prop where
  cell : ∀ (i : Nat) (o : AObj), h0[i]? = some o → ∃ c wr, o = .cells c false 0 ∧ LOk h0.length c ∧ h[σ i]? = some (.cells (c.map (sub σ)) wr 0)
  inj : ∀ i j, i < h0.length → j < h0.length → σ i = σ j → i = j
theorem good_in (hg : Good P J g args h0 K) (hlt : g < P.funcs.size) (L : Lies σ h0 h) (ha : ∀ v ∈ args, VOk h0.length v)
    (hk : ∀ v h', K v h' → (VOk 0 v ∧ K' v h) ∨ ∃ k c sz v1, h'[k]? = some (.cells c true sz) ∧ LOk 0 c ∧ v = sub (fun _ => k) v1 ∧ v ≠ unk ∧ VOk (h.length + 1) (sub (fun _ => h.length) v1) ∧ K' (sub (fun _ => h.length) v1) (h ++ [.cells c true sz])) :
    Good P J g (args.map (sub σ)) h K' := by
  obtain ⟨ho, hg⟩ := hg
  have hcall : callable P g = true := by
    rcases ho with ⟨_, e⟩ | ⟨e, _⟩
    · exact e
    · exact absurd hlt (Nat.not_lt.2 e)
  refine ⟨.inl ⟨hlt, hcall⟩, fun ρ FC w ft cs c cargs fr H hargs hl hent hc => ?_⟩
  have hfr : fr = Frame.enter P g ⟨cargs⟩ .normal := by
    rcases hent with ⟨_, e⟩ | ⟨e, _⟩
    · exact e
    · exact absurd hlt (Nat.not_lt.2 e)
  have ob : ∃ ob : Nat → Option Obj, (∀ b, ft.rd b → ob b = w.heap[b]?) ∧ (∀ b, ¬ ft.rd b → ob b = none) := by
    classical
    exact ⟨fun b => if ft.rd b then w.heap[b]? else none, fun b hb => if_pos hb, fun b hb => if_neg hb⟩
  obtain ⟨ob, ob1, ob2⟩ := ob
  have lt0 : ∀ {b : Nat} {o : AObj}, h0[b]? = some o → b < h0.length := fun hb => (List.getElem?_eq_some_iff.1 hb).1
  have H0 : HRel (ρ.comp σ) h0 ⟨ob, ft.wr⟩ w ft := by
    refine ⟨fun b o hb => ?_, fun b b' o o' hb hb' _ _ e => ?_, fun b o hb _ => ?_, fun b o hb hw => ?_, H.lt, H.sub, fun b o hb => ?_, fun b hb => hb⟩
    · obtain ⟨c, wr, rfl, ok, hs⟩ := L.cell b o hb
      have hr := H.obj _ _ hs
      have h2 : ORel h0.length (ρ.comp σ) b (.cells c wr 0) w.heap[ρ.blk (σ b)]? := ORel.sub (o := .cells c wr 0) hr ok
      show ORel h0.length (ρ.comp σ) b (.cells c false 0) w.heap[ρ.blk (σ b)]?
      match w.heap[ρ.blk (σ b)]?, h2 with
      | some (.cells c' ty fr), ⟨h1, h2, h3, h4⟩ => exact ⟨fun i v hv => (h1 i v hv).imp (fun u => ⟨u.1, rfl⟩) id, h2, h3, fun x => by cases x⟩
    · obtain ⟨c, wr, rfl, ok, hs⟩ := L.cell b o hb
      obtain ⟨c2, wr2, rfl, ok2, hs2⟩ := L.cell b' o' hb'
      exact L.inj b b' (lt0 hb) (lt0 hb') (H.inj _ _ _ _ hs hs2 rfl rfl e)
    · obtain ⟨c, wr, rfl, ok, hs⟩ := L.cell b o hb
      exact H.rd _ _ hs rfl
    · obtain ⟨c, wr, rfl, ok, hs⟩ := L.cell b o hb
      cases hw
    · by_cases hr : ft.rd b
      · refine ⟨?_, hr, fun a oa ha hw => ?_⟩
        · rw [← ob1 b hr]
          exact hb
        · obtain ⟨c, wr, rfl, ok, hs⟩ := L.cell a oa ha
          cases hw
      · have : ob b = some o := hb
        rw [ob2 b hr] at this
        cases this
  refine hg (ρ.comp σ) ⟨ob, ft.wr⟩ w ft cs c cargs fr H0 (fun i => ?_) (by rw [hl, List.length_map]) (.inl ⟨hlt, hfr⟩) fun v h' ρ' w' ft' cv hK H' hu hl' hv => ?_
  · have hi' := hargs i
    by_cases hi : i < args.length
    · have e1 : args.getD i unk = args[i] := by rw [List.getD_eq_getElem?_getD, List.getElem?_eq_getElem hi]; rfl
      have e2 : (args.map (sub σ)).getD i unk = sub σ args[i] := by rw [List.getD_eq_getElem?_getD, List.getElem?_map, List.getElem?_eq_getElem hi]; rfl
      rw [e1]
      rw [e2] at hi'
      rcases hi' with e | ⟨_, e⟩
      · exact .inl (sub_inv e)
      · exact .inr ⟨ha _ (List.getElem_mem hi), by rw [e, ren_sub]⟩
    · left
      rw [List.getD_eq_getElem?_getD, List.getElem?_eq_none (by omega)]
      rfl
  · have kp : ∀ b, ft.rd b → w'.heap[b]? = w.heap[b]? ∧ ft'.rd b := by
      intro b hb
      have hlt' := H.lt b hb
      have : (⟨ob, ft.wr⟩ : Frm).ob b = some w.heap[b] := by
        show ob b = _
        rw [ob1 b hb, Array.getElem?_eq_getElem hlt']
      obtain ⟨a1, a2, _⟩ := H'.kept b _ this
      exact ⟨by rw [a1, Array.getElem?_eq_getElem hlt'], a2⟩
    rcases hk v h' hK with ⟨hv0, hK'⟩ | ⟨k, c2, sz, v1, hk1, hk2, rfl, hk3, hk4, hK'⟩
    · refine hc v h ρ w' ft' cv hK' ⟨fun b o hb => ?_, H.inj, fun b o hb hl => (kp _ (H.rd b o hb hl)).2, fun b o hb hw => H'.keptW _ (H.wr b o hb hw), H'.lt, H'.sub, fun b o hb => ?_, fun b hb => H'.keptW _ (H.keptW b hb)⟩ (Env.upto_refl _ _) (Nat.le_refl _) ?_
      · cases hlv : o.live with
        | false => cases o <;> first | trivial | cases hlv
        | true =>
          rw [(kp _ (H.rd b o hb hlv)).1]
          exact H.obj b o hb
      · obtain ⟨a1, a2, a3⟩ := H.kept b o hb
        exact ⟨by rw [(kp b a2).1]; exact a1, (kp b a2).2, a3⟩
      · rcases hv with e | ⟨_, e⟩
        · exact .inl e
        · exact .inr ⟨VOk.mono (Nat.zero_le _) v hv0, by rw [e, ren0 v hv0, ren0 v hv0]⟩
    · obtain ⟨ρ2, hρ2⟩ : ∃ ρ2 : Env, ρ2 = ⟨fun b => if b = h.length then ρ'.blk k else ρ.blk b, fun b => if b = h.length then ρ'.cap k else ρ.cap b⟩ := ⟨_, rfl⟩
      have rn : ρ2.blk h.length = ρ'.blk k ∧ ρ2.cap h.length = ρ'.cap k := by subst hρ2; simp
      have ro : ∀ b, b < h.length → ρ2.blk b = ρ.blk b ∧ ρ2.cap b = ρ.cap b := fun b hb => by subst hρ2; simp [Nat.ne_of_lt hb]
      have hup : Env.upto h.length ρ ρ2 := ro
      have split : ∀ {b : Nat} {o : AObj}, (h ++ [AObj.cells c2 true sz])[b]? = some o → (b < h.length ∧ h[b]? = some o) ∨ (b = h.length ∧ o = .cells c2 true sz) := fun {b o} hb => by
        rcases Nat.lt_or_ge b h.length with x | x
        · rw [List.getElem?_append_left x] at hb
          exact .inl ⟨x, hb⟩
        · have hlt2 := (List.getElem?_eq_some_iff.1 hb).1
          simp at hlt2
          have : b = h.length := by omega
          subst this
          exact .inr ⟨rfl, by simpa using hb.symm⟩
      have nw : ∀ b, ft.rd b → ρ'.blk k ≠ b := fun b hb => by
        have hlt' := H.lt b hb
        have : (⟨ob, ft.wr⟩ : Frm).ob b = some w.heap[b] := by
          show ob b = _
          rw [ob1 b hb, Array.getElem?_eq_getElem hlt']
        exact (H'.kept b _ this).2.2 k _ hk1 rfl
      refine hc _ _ ρ2 w' ft' cv hK' ⟨fun b o hb => ?_, fun b b' o o' hb hb' l l' e => ?_, fun b o hb hl => ?_, fun b o hb hw => ?_, H'.lt, H'.sub, fun b o hb => ?_, fun b hb => H'.keptW _ (H.keptW b hb)⟩ hup (by simp) ?_
      · rcases split hb with ⟨x, hb⟩ | ⟨rfl, rfl⟩
        · cases hlv : o.live with
          | false => cases o <;> first | trivial | cases hlv
          | true =>
            have := (H.obj b o hb).congr hup (Nat.le_of_lt (by simp : h.length < (h ++ [AObj.cells c2 true sz]).length)) x
            rw [(ro b x).1, (kp _ (H.rd b o hb hlv)).1]
            exact this
        · have hr := H'.obj k _ hk1
          rw [rn.1]
          match w'.heap[ρ'.blk k]?, hr with
          | some (.cells c' ty fr), ⟨h1, h2, h3, h4⟩ =>
            refine ⟨fun i v hv => ?_, h2, fun hz => by rw [rn.2]; exact h3 hz, h4⟩
            have v0 : VOk 0 v := (LOk_iff _).1 hk2 v (List.mem_of_getElem? hv)
            rcases h1 i v hv with u | ⟨_, a2, a3⟩
            · exact .inl u
            · exact .inr ⟨VOk.mono (Nat.zero_le _) v v0, a2, by rw [a3, ren0 v v0, ren0 v v0]⟩
      · rcases split hb with ⟨x, hb⟩ | ⟨rfl, rfl⟩
        · rcases split hb' with ⟨x', hb'⟩ | ⟨rfl, rfl⟩
          · rw [(ro b x).1, (ro b' x').1] at e
            exact H.inj _ _ _ _ hb hb' l l' e
          · rw [(ro b x).1, rn.1] at e
            exact absurd e.symm (nw _ (H.rd b o hb l))
        · rcases split hb' with ⟨x', hb'⟩ | ⟨rfl, rfl⟩
          · rw [(ro b' x').1, rn.1] at e
            exact absurd e (nw _ (H.rd b' o' hb' l'))
          · rfl
      · rcases split hb with ⟨x, hb⟩ | ⟨rfl, rfl⟩
        · rw [(ro b x).1]
          exact (kp _ (H.rd b o hb hl)).2
        · rw [rn.1]
          exact H'.rd k _ hk1 rfl
      · rcases split hb with ⟨x, hb⟩ | ⟨rfl, rfl⟩
        · rw [(ro b x).1]
          exact H'.keptW _ (H.wr b o hb hw)
        · rw [rn.1]
          exact H'.wr k _ hk1 rfl
      · obtain ⟨a1, a2, a3⟩ := H.kept b o hb
        refine ⟨by rw [(kp b a2).1]; exact a1, (kp b a2).2, fun a oa ha hw => ?_⟩
        rcases split ha with ⟨x, ha⟩ | ⟨rfl, rfl⟩
        · rw [(ro a x).1]
          exact a3 a oa ha hw
        · rw [rn.1]
          exact nw b a2
      · rcases hv with e | ⟨_, e⟩
        · exact absurd e hk3
        · refine .inr ⟨by simpa using hk4, ?_⟩
          rw [e, ren_sub, ren_sub]
          congr 1
          show Env.mk (fun _ => ρ'.blk k) (fun _ => ρ'.cap k) = Env.mk (fun _ => ρ2.blk h.length) (fun _ => ρ2.cap h.length)
          rw [rn.1, rn.2]
noncomputable def isInts (l : List Int) (e : Int) : KB := fun v x =>
  match v with
  | .tuple ⟨[.slice (some ⟨k, 0, none⟩) n _, .int .i64 e']⟩ => (Nat.beq n l.length && decide (e' = e)) && hg x k fun o =>
    match o with
    | .cells c true _ => simL eqP c (l.map vint)
    | _ => false
  | _ => false
def isTwo (a b : Int) : KB := fun v _ =>
  match v with
  | .tuple ⟨[.int .i64 a', .int .i64 b']⟩ => decide (a' = a) && decide (b' = b)
  | _ => false
theorem isInts_t {l : List Int} {e : Int} {v : Value} {h' : List AObj} (hx : KP (isInts l e) v h') : ∃ k c sz, h'[k]? = some (.cells (l.map vint) true sz) ∧ v = .tuple ⟨[.slice (some ⟨k, 0, none⟩) l.length c, vint e]⟩ := by
  obtain ⟨x, rfl, hx⟩ := hx
  unfold isInts at hx
  split at hx
  · rename_i k n c e'
    obtain ⟨a, hy⟩ := and_t hx
    clear hx
    obtain ⟨a1, a2⟩ := and_t a
    have a1 := Nat.eq_of_beq_eq_true a1
    have a2 : e' = e := of_decide_eq_true a2
    subst a1 a2
    obtain ⟨o, ho, hz⟩ := hg_t hy
    clear hy
    split at hz
    · rename_i cs sz
      have := simL_t (g := id) (fun a b h => eqP_t h) hz
      rw [List.map_id] at this
      exact ⟨k, c, sz, by rw [this]; exact ho, rfl⟩
    · cases hz
  · cases hx
theorem isTwo_t {a b : Int} {v : Value} {h' : List AObj} (hx : KP (isTwo a b) v h') : v = .tuple ⟨[vint a, vint b]⟩ := by
  obtain ⟨x, rfl, hx⟩ := hx
  unfold isTwo at hx
  split at hx
  · obtain ⟨a1, a2⟩ := and_t hx
    have a1 := of_decide_eq_true a1
    have a2 := of_decide_eq_true a2
    subst a1 a2
    rfl
  · cases hx
theorem run_ints {l : List Int} {e : Int} (hg : Good P J g args h0 (KP (isInts l e))) (hlt : g < P.funcs.size) (L : Lies σ h0 h) (ha : ∀ v ∈ args, VOk h0.length v)
    (hk : ∀ c sz, K' (.tuple ⟨[.slice (some ⟨h.length, 0, none⟩) l.length c, vint e]⟩) (h ++ [.cells (l.map vint) true sz])) : Good P J g (args.map (sub σ)) h K' :=
  good_in hg hlt L ha fun v h' hx => by
    obtain ⟨k, c, sz, hk1, rfl⟩ := isInts_t hx
    refine .inr ⟨k, _, sz, .tuple ⟨[.slice (some ⟨0, 0, none⟩) l.length c, vint e]⟩, hk1, ?_, by simp [sub, subA, subL], by simp [unk], ?_, ?_⟩
    · rw [LOk_iff]
      intro v hv
      obtain ⟨x, _, rfl⟩ := List.mem_map.1 hv
      simp [VOk]
    · simp [sub, subA, subL, VOk, AOk, LOk, AddrOk]
    · simpa [sub, subA, subL] using hk c sz
theorem run_two {a b : Int} (hg : Good P J g args h0 (KP (isTwo a b))) (hlt : g < P.funcs.size) (L : Lies σ h0 h) (ha : ∀ v ∈ args, VOk h0.length v)
    (hk : K' (.tuple ⟨[vint a, vint b]⟩) h) : Good P J g (args.map (sub σ)) h K' :=
  good_in hg hlt L ha fun v h' hx => by
    cases isTwo_t hx
    exact .inl ⟨by simp [VOk, AOk, LOk], hk⟩
end
end Go.Proofs.Ytindillghipjjaa
namespace Go.Proofs.Ytindillghipjjaa
open Go.Conc Go.Proofs.Try
set_option maxRecDepth 100000
def exV (p : Nat) : Value := .agg ⟨troCells exTro (.slice (some ⟨p, 0, none⟩) 2 2)⟩
def exF : AObj := .cells [vint 4, vint 3, vint 5, vint 4] false 0
def exH1 : XH := ⟨1, .node exF .nil .nil⟩
def exH (l : List Int) : XH := ⟨2, .node exF (.node (.cells (l.map vint) false 0) .nil .nil) .nil⟩
theorem run37 : xcall prog 200 37 [exV 0, .slice (some ⟨1, 0, none⟩) 3 3, vint 4] (exH [0, 1, -1]) (isInts [5, 3, 6, 5] 0) = true := by kernel_rfl
theorem run38 : xcall prog 200 38 [exV 0, .slice (some ⟨1, 0, none⟩) 2 2] (exH [0, 1]) (isTwo 2 0) = true := by kernel_rfl
theorem run39 : xcall prog 200 39 [exV 0] exH1 (isInts [-1, 0, 1] 0) = true := by kernel_rfl
theorem run34 : xcall prog 200 34 [exTro.well.val, .agg ⟨[vint 12, vint 20, vint 1, vint 4, vint 3, vint 2]⟩, .agg ⟨[vint 3, vint 2, vint 2]⟩, vint 0, vint 3] ⟨0, .nil⟩ (isTwo 4 0) = true := by kernel_rfl
section
variable {main : Bool} {J : JT} {h : List AObj} {K : Value → List AObj → Prop} {p q : Nat}
theorem lies1 {wr : Bool} (hp : h[p]? = some (.cells (exTro.flocks.flatMap Dro.cells) wr 0)) : Lies (fun _ => p) (hOf exH1) h := by
  have e : hOf exH1 = [exF] := rfl
  rw [e]
  refine ⟨fun i o hi => ?_, fun i j hi hj _ => by simp at hi hj; omega⟩
  match i, hi with
  | 0, hi =>
    cases hi
    exact ⟨_, wr, rfl, by simp [LOk, VOk], hp⟩
theorem lies2 {l : List Int} {wr wr2 : Bool} (hp : h[p]? = some (.cells (exTro.flocks.flatMap Dro.cells) wr 0)) (hq : h[q]? = some (.cells (l.map vint) wr2 0)) (hne : p ≠ q) : Lies (fun i => if i = 0 then p else q) (hOf (exH l)) h := by
  have e : hOf (exH l) = [exF, .cells (l.map vint) false 0] := rfl
  have hs : ∀ v ∈ l.map vint, sub (fun i => if i = 0 then p else q) v = v := fun v hv => by
    obtain ⟨x, _, rfl⟩ := List.mem_map.1 hv
    simp [sub]
  rw [e]
  refine ⟨fun i o hi => ?_, fun i j hi hj he => ?_⟩
  · match i, hi with
    | 0, hi =>
      cases hi
      exact ⟨_, wr, rfl, by simp [LOk, VOk], hp⟩
    | 1, hi =>
      cases hi
      refine ⟨_, wr2, rfl, ints_ok _ _, ?_⟩
      rw [List.map_congr_left hs, List.map_id']
      exact hq
  · simp at hi hj
    have hi2 : i = 0 ∨ i = 1 := by omega
    have hj2 : j = 0 ∨ j = 1 := by omega
    rcases hi2 with rfl | rfl <;> rcases hj2 with rfl | rfl <;> simp at he ⊢ <;> omega
theorem ex37 (hJ : Closed prog main J) {wr wr2 : Bool} (hp : h[p]? = some (.cells (exTro.flocks.flatMap Dro.cells) wr 0)) (hq : h[q]? = some (.cells ([0, 1, -1].map vint) wr2 0)) (hne : p ≠ q)
    (hK : ∀ H lv, SameX [] h H → Sli H lv 1 4 [vint 5, vint 3, vint 6, vint 5] → K (.tuple ⟨[lv, vint 0]⟩) H) : Good prog J 37 [exV p, .slice (some ⟨q, 0, none⟩) 3 3, vint 4] h K := by
  have hg := (x_sound mixed 200 main J hJ).1 37 _ _ _ run37
  have := run_ints (K' := K) hg (blt_t (by kernel_rfl : Nat.blt 37 prog.funcs.size = true)) (lies2 hp hq hne) (by simp [exV, troCells, VOk, AOk, LOk, AddrOk, exH, hOf]) fun c sz => hK _ _ SameX.refl.app (sli_new (wr := true) (sz := sz) (by simp) rfl rfl)
  simpa [sub, subA, subL, exV, troCells] using this
theorem ex38 (hJ : Closed prog main J) {wr wr2 : Bool} (hp : h[p]? = some (.cells (exTro.flocks.flatMap Dro.cells) wr 0)) (hq : h[q]? = some (.cells ([0, 1].map vint) wr2 0)) (hne : p ≠ q)
    (hK : K (.tuple ⟨[vint 2, vint 0]⟩) h) : Good prog J 38 [exV p, .slice (some ⟨q, 0, none⟩) 2 2] h K := by
  have hg := (x_sound mixed 200 main J hJ).1 38 _ _ _ run38
  have := run_two (K' := K) hg (blt_t (by kernel_rfl : Nat.blt 38 prog.funcs.size = true)) (lies2 hp hq hne) (by simp [exV, troCells, VOk, AOk, LOk, AddrOk, exH, hOf]) hK
  simpa [sub, subA, subL, exV, troCells] using this
theorem ex39 (hJ : Closed prog main J) {wr : Bool} (hp : h[p]? = some (.cells (exTro.flocks.flatMap Dro.cells) wr 0))
    (hK : ∀ H lv, SameX [] h H → Sli H lv 1 3 [vint (-1), vint 0, vint 1] → K (.tuple ⟨[lv, vint 0]⟩) H) : Good prog J 39 [exV p] h K := by
  have hg := (x_sound mixed 200 main J hJ).1 39 _ _ _ run39
  have := run_ints (K' := K) hg (blt_t (by kernel_rfl : Nat.blt 39 prog.funcs.size = true)) (lies1 hp) (by simp [exV, troCells, VOk, AOk, LOk, AddrOk, exH1, hOf]) fun c sz => hK _ _ SameX.refl.app (sli_new (wr := true) (sz := sz) (by simp) rfl rfl)
  simpa [sub, subA, subL, exV, troCells] using this
theorem ex34 (hJ : Closed prog main J) (hK : K (.tuple ⟨[vint 4, vint 0]⟩) h) : Good prog J 34 [exTro.well.val, .agg ⟨[vint 12, vint 20, vint 1, vint 4, vint 3, vint 2]⟩, .agg ⟨[vint 3, vint 2, vint 2]⟩, vint 0, vint 3] h K := by
  have hg := (x_sound mixed 200 main J hJ).1 34 _ _ _ run34
  refine good_frame hg (blt_t (by kernel_rfl : Nat.blt 34 prog.funcs.size = true)) (by simp [exTro, Wel.val, Wel.cells, VOk, AOk, LOk]) fun v h' hx => ?_
  cases isTwo_t hx
  exact ⟨by simp [VOk, AOk, LOk], hK⟩
end
section
variable {W0 : World} {Post : Value → World → Prop} {h : List AObj} {K : Value → List AObj → Prop}
theorem fld_wel {fv : Value} {KV : Value → Prop} (hk : KV exTro.well.val) : aField true 3 0 (.agg ⟨troCells exTro fv⟩) KV :=
  ⟨(Nat.le_of_ble_eq_true rfl : 0 + 3 ≤ 4), hk⟩
theorem good19f (hK : ∀ H, SameX [] (unch h) H → K (.bool true) H) : Good prog (J1 prog W0 Post) 19 [] h K := by
  have hJ := J1.closed prog W0 Post
  refine g19 hJ fun ok => ?_
  rw [e19]
  refine good66 hJ fun H1 f1 S1 q1 T1 => ?_
  refine ⟨by decide, fill_one rfl rfl rfl (by decide) (fill_one rfl rfl rfl (by decide) (fill_one rfl rfl rfl (by decide) (fillI (qNew fun H2 p2 e2 S2 c2 l2 => ?_))))⟩
  have := lt_of_get q1
  refine ex37 hJ (S2.get q1 (by simp)) c2 (by omega) fun H3 lv S3 L3 => ?_
  refine vext0 (vext1 ?_)
  refine good66 hJ fun H4 f4 S4 q4 T4 => ?_
  refine ⟨by decide, fill_one rfl rfl rfl (by decide) (fill_one rfl rfl rfl (by decide) (fillI (qNew fun H5 p5 e5 S5 c5 l5 => ?_)))⟩
  have := lt_of_get q4
  refine ex38 hJ (S5.get q4 (by simp)) c5 (by omega) ?_
  refine vext0 (vext1 ?_)
  refine good66 hJ fun H7 f7 S7 q7 T7 => ?_
  refine ex39 hJ q7 fun H8 rv S8 R8 => ?_
  refine vext0 (vext1 ?_)
  refine good66 hJ fun H9 f9 S9 q9 T9 => ?_
  refine ⟨by decide, fill_one rfl rfl rfl (by decide) (fill_one rfl rfl rfl (by decide) (fillI (qNew fun H10 p10 e10 S10 c10 l10 => ?_)))⟩
  have s10 := ownX_sli (ownX_new (s := 1) (n := 2) (l := [vint 2, vint 0]) c10 rfl rfl)
  refine good26 (t := exTro) (cs := [2, 0]) ⟨T9.val, S10.sli T9.fl (by simp)⟩ s10 (by decide) (fun he => absurd ex_servE he) (fun _ hp => absurd hp (by rw [ex_pick]; decide)) fun _ i c os H hp hos S O => ?_
  have hi : i = 1 := by
    rw [ex_pick] at hp
    omega
  subst hi
  have ho : os = [1, 0] := by
    rw [ex_all] at hos
    exact (Option.some.inj hos).symm
  subst ho
  rw [ex_wait]
  -- what is kept till the end
  have A10 : SameX [] H3 H10 := (((S4.trans S5).trans S7).trans S8).trans (S9.trans S10)
  have B10 : SameX [] H8 H10 := S9.trans S10
  have L : Sli H lv 1 4 [vint 5, vint 3, vint 6, vint 5] := S.sli (unch_sli (A10.sli L3 (by simp))) (by simp)
  have R : Sli H rv 1 3 [vint (-1), vint 0, vint 1] := S.sli (unch_sli (B10.sli R8 (by simp))) (by simp)
  show aExt _ 0 _
  refine good66 hJ fun H11 f11 S11 q11 T11 => ?_
  rw [T11.val]
  refine fld_wel ?_
  refine good67 hJ (good68 hJ (ex34 hJ (vext0 (vext1 ?_))))
  have S11' : SameX [] H H11 := S11
  have ct : ∀ {a b : Int} {A B : Prop}, a = b → A → cnd (.bool (decide (a = b))) A B := fun e hA => by rw [decide_eq_true e]; exact cnd_true.2 hA
  refine eqlI (ct rfl (eqlI (ct rfl (eqlI (ct rfl (eqlI (ct rfl (eqlI (ct rfl (eqlI (ct rfl (eqlI (ct rfl (eqlI (ct rfl ?_)))))))))))))))
  refine ⟨by decide, fill_one rfl rfl rfl (by decide) (fill_one rfl rfl rfl (by decide) (fill_one rfl rfl rfl (by decide) (fill_one rfl rfl rfl (by decide) (fillI (qNew fun H13 p13 e13 S13 c13 l13 => ?_)))))⟩
  have s13 := ownX_sli (ownX_new (s := 1) (n := 4) (l := [vint 5, vint 3, vint 6, vint 5]) c13 rfl rfl)
  have S1113 : SameX [] H H13 := S11'.trans S13
  refine good28 (xs := [5, 3, 6, 5]) (ys := [5, 3, 6, 5]) hJ (S1113.sli L (by simp)) s13 (by decide) (cnd_true.2 ?_)
  refine ⟨by decide, fill_one rfl rfl rfl (by decide) (fill_one rfl rfl rfl (by decide) (fill_one rfl rfl rfl (by decide) (fillI (qNew fun H14 p14 e14 S14 c14 l14 => ?_))))⟩
  have s14 := ownX_sli (ownX_new (s := 1) (n := 3) (l := [vint (-1), vint 0, vint 1]) c14 rfl rfl)
  refine good28 (xs := [-1, 0, 1]) (ys := [-1, 0, 1]) hJ ((S1113.trans S14).sli R (by simp)) s14 (by decide) (cnd_true.2 ?_)
  refine ⟨by decide, fill_one rfl rfl rfl (by decide) (fill_one rfl rfl rfl (by decide) (fillI (qNew fun H15 p15 e15 S15 c15 l15 => ?_)))⟩
  have s15 := ownX_sli (ownX_new (s := 1) (n := 2) (l := [vint 1, vint 0]) c15 rfl rfl)
  refine good28 (xs := [1, 0]) (ys := [1, 0]) hJ (((S1113.trans S14).trans S15).sli O (by simp)) s15 (by decide) ?_
  have A0 : SameX [] h H10 := ((S1.trans S2).trans S3).trans A10
  have U : SameX [] (unch h) (unch H10) := by
    have := same_unch (g := []) A0
    rwa [List.append_nil] at this
  exact retL_same (by simp [unk]) (hK _ (((U.trans S).trans (S1113.trans S14)).trans S15))
theorem good19 (hK : ∀ H, K (.bool true) H) : Good prog (J1 prog W0 Post) 19 [] h K := good19f fun H _ => hK H
end
end Go.Proofs.Ytindillghipjjaa
namespace Go.Proofs.Ytindillghipjjaa
open Go.Conc Go.Proofs.Try
set_option maxRecDepth 100000
set_option maxHeartbeats 4000000
set_option linter.unusedVariables false
section
variable {main : Bool} {J : JT} {n0 : Nat} {h : List AObj} {K : Value → List AObj → Prop}
theorem at30 : prog.funcs[30]? = some f30 := by kernel_rfl
theorem body30 : f30.body = some (codeOf f30) := by kernel_rfl
def pl30 : Plans := [(2, false, .take 0 (.take 1 (.take 2 (.take 3 (.take 4 (.take 5 (.take 9 (.take 10 (.last 6 true (.last 7 true (.last 8 true (.take 14 (.last 11 true (.last 12 true (.last 13 true (.last 15 false (.take 16 (.last 17 false (.fin)))))))))))))))))))]
def ct30 : Cuts := .go
theorem pok30 : plansOk prog pl30 (codeOf f30) = true := by kernel_rfl
theorem e30 {a0 a1 : Value} : W prog J 29 h.length 30 (codeOf f30) (RG.mk (regs [a0, a1]) []) h (RetQ prog [.cell 4 23] h.length K) =
(aAlloc [(vint 0), (vint 0), (vint 0)] h fun v1 h2 =>
aMin a1 [(vint 40)] fun v3 =>
aMax (vint 2) [v3] fun v4 =>
Good prog J 33 [a0, (vint 2), v4] h2 fun v5 h6 =>
aFill [(vint 0), (vint 0), (vint 0)] [(1, 1, v5)] fun c7 =>
aAlloc [(vint 0), (vint 0), (vint 0)] h6 fun v8 h9 =>
aStore 3 v8 (Value.agg ⟨c7⟩) h9 fun h10 =>
(∃ B, aOff v8 1 fun v11 =>
aLoad false 1 v11 h10 fun v12 =>
RdOk (some B) (ptrBlk v11) ∧ (aOff v8 1 fun v13 =>
aLoad false 1 v13 h10 fun v14 =>
RdOk (some B) (ptrBlk v13) ∧ (Good prog J 23 [a0, v14] h10 fun v15 h16 =>
SameB (some B) h10 h16 ∧ ((((1 * 1 : Nat) ≤ 16777216 ∧ (1 : Nat) ≤ 16777216 ∧ List.length [(vint 0)] = 1) ∧ aFill (zrep [(vint 0)] 1) [(0, 1, v15)] fun c17 =>
aNewS 1 c17 h16 fun v18 h19 =>
SameB (some B) h10 h19 ∧ (Good prog J 22 [a0, v12, v18] h19 fun v20 h21 =>
SameB (some B) h10 h21 ∧ (aOff v8 0 fun v22 =>
Good prog J 23 [a0, (vint 6)] h21 fun v23 h24 =>
SameB (some B) h10 h24 ∧ ((((3 * 1 : Nat) ≤ 16777216 ∧ (3 : Nat) ≤ 16777216 ∧ List.length [(vint 0)] = 1) ∧ aFill (zrep [(vint 0)] 3) [(0, 1, (vint 2)), (1, 1, (vint 3)), (2, 1, v23)] fun c25 =>
aNewS 3 c25 h24 fun v26 h27 =>
SameB (some B) h10 h27 ∧ (Good prog J 22 [a0, (vint 1), v26] h27 fun v28 h29 =>
SameB (some B) h10 h29 ∧ (aStore 1 v22 v20 h29 fun h30 =>
aOff v8 2 fun v31 =>
aStore 1 v31 v28 h30 fun h32 =>
aLoad true 3 v8 h32 fun v33 =>
aStore 3 v1 v33 h32 fun h34 =>
RetQ prog [.cell 4 23] h.length K .ret (RG.p (RG.p (RG.p (RG.p (RG.p (RG.p (RG.p (RG.p (RG.p (RG.p (RG.p (RG.p (RG.p (RG.p (RG.p (RG.p (RG.p (RG.p (RG.p (RG.p (RG.p (RG.p (RG.p (RG.p (RG.p (RG.mk (regs [a0, a1]) []) 4 v1) 6 a0) 7 a1) 8 v3) 9 v4) 10 v5) 11 (Value.agg ⟨c7⟩)) 5 v8) 12 a0) 13 v11) 14 v12) 15 a0) 16 v13) 17 v14) 21 a0) 22 a0) 18 v15) 19 v18) 20 v20) 26 v22) 23 v23) 24 v26) 25 v28) 27 v31) 28 v33) h34)))))))))))) := top_eq pok30 ct30 (by kernel_rfl)
theorem g30 (hJ : Closed prog main J) {a0 a1 : Value} (hs : heapOk h → W prog J 29 h.length 30 (codeOf f30) (RG.mk (regs [a0, a1]) []) h (RetQ prog [.cell 4 23] h.length K)) : Good prog J 30 [a0, a1] h K :=
  good_of_W hJ mixed at30 body30 (by kernel_rfl) (Nat.le_of_ble_eq_true rfl) hs
theorem at21 : prog.funcs[21]? = some f21 := by kernel_rfl
theorem body21 : f21.body = some (codeOf f21) := by kernel_rfl
def pl21 : Plans := [(5, false, .take 0 (.take 1 (.take 2 (.take 3 (.take 4 (.take 5 (.take 6 (.take 7 (.take 8 (.take 10 (.take 11 (.take 12 (.take 13 (.take 17 (.last 9 true (.last 14 true (.last 15 true (.last 16 true (.last 18 true (.take 19 (.last 20 true (.last 21 true (.take 22 (.last 23 false (.fin)))))))))))))))))))))))))]
def ct21 : Cuts := .go
theorem pok21 : plansOk prog pl21 (codeOf f21) = true := by kernel_rfl
theorem e21 {a0 a1 a2 : Value} : W prog J 45 h.length 21 (codeOf f21) (RG.mk (regs [a0, a1, a2]) []) h (RetQ prog [.cell 6 26] h.length K) =
(aAlloc [(vint 0), (vint 0), (vint 0), (Value.slice none 0 0)] h fun v1 h2 =>
Good prog J 30 [a0, a2] h2 fun v3 h4 =>
aFill [(vint 0), (vint 0), (vint 0), (Value.slice none 0 0)] [(0, 3, v3)] fun c5 =>
aAlloc [(vint 0), (vint 0), (vint 0), (Value.slice none 0 0)] h4 fun v6 h7 =>
aStore 4 v6 (Value.agg ⟨c5⟩) h7 fun h8 =>
aMin a1 [(vint 3)] fun v9 =>
Good prog J 33 [a0, (vint 1), v9] h8 fun v10 h11 =>
Sem J 45 h.length 21 (subC [1, 1, 0, 1, 0] (codeOf f21)) (RG.p (RG.p (RG.p (RG.p (RG.p (RG.p (RG.p (RG.p (RG.p (RG.p (RG.p (RG.mk (regs [a0, a1, a2]) []) 6 v1) 9 a0) 10 a2) 11 v3) 12 (Value.agg ⟨c5⟩)) 7 v6) 13 a0) 14 a1) 15 v9) 16 v10) 8 v10) h11 (contX pl21 prog J 45 h.length 21 ct21 [1, 1, 0, 1, 0] (codeOf f21) [] (RetQ prog [.cell 6 26] h.length K))) := top_eq pok21 ct21 (by kernel_rfl)
theorem g21 (hJ : Closed prog main J) {a0 a1 a2 : Value} (hs : heapOk h → W prog J 45 h.length 21 (codeOf f21) (RG.mk (regs [a0, a1, a2]) []) h (RetQ prog [.cell 6 26] h.length K)) : Good prog J 21 [a0, a1, a2] h K :=
  good_of_W hJ mixed at21 body21 (by kernel_rfl) (Nat.le_of_ble_eq_true rfl) hs
theorem s21_1 {f : RG} {nx0 : RG → List AObj → Prop} : W prog J 45 n0 21 (subC [1, 1, 0, 1, 0, 0] (codeOf f21)) f h (thenK nx0 (contX pl21 prog J 45 n0 21 ct21 [1, 1, 0, 1, 0] (codeOf f21) [] (RetQ prog [.cell 6 26] n0 K))) =
(aBin prog .gtr 3 (f.r 8) (vint 0) fun v1 =>
cnd v1
((∃ B, aOff (f.r 7) 3 fun v2 =>
aLoad false 1 v2 h fun v3 =>
RdOk (some B) (ptrBlk v2) ∧ (aOff (f.r 7) 0 fun v4 =>
aOff v4 1 fun v5 =>
aLoad false 1 v5 h fun v6 =>
RdOk (some B) (ptrBlk v5) ∧ (aBin prog .quo 3 v6 (vint 2) fun v7 =>
aMax (vint 1) [v7] fun v8 =>
aOff (f.r 7) 0 fun v9 =>
aOff v9 1 fun v10 =>
aLoad false 1 v10 h fun v11 =>
RdOk (some B) (ptrBlk v10) ∧ (Good prog J 33 [(f.r 0), (vint 1), v8] h fun v12 h13 =>
SameB (some B) h h13 ∧ (Good prog J 33 [(f.r 0), (vint 1), v11] h13 fun v14 h15 =>
SameB (some B) h h15 ∧ ((((3 * 1 : Nat) ≤ 16777216 ∧ (3 : Nat) ≤ 16777216 ∧ List.length [(vint 0)] = 1) ∧ aFill (zrep [(vint 0)] 3) [(0, 1, (vint 2)), (1, 1, v12), (2, 1, v14)] fun c16 =>
aNewS 3 c16 h15 fun v17 h18 =>
SameB (some B) h h18 ∧ (Good prog J 22 [(f.r 0), (vint 1), v17] h18 fun v19 h20 =>
SameB (some B) h h20 ∧ (Good prog J 33 [(f.r 0), (vint 1), (vint 6)] h20 fun v21 h22 =>
SameB (some B) h h22 ∧ (aFill [(vint 0), (vint 0)] [(0, 1, v19), (1, 1, v21)] fun c23 =>
(((1 * 2 : Nat) ≤ 16777216 ∧ (1 : Nat) ≤ 16777216 ∧ List.length [(vint 0), (vint 0)] = 2) ∧ aFill (zrep [(vint 0), (vint 0)] 1) [(0, 2, (Value.agg ⟨c23⟩))] fun c24 =>
aNewS 1 c24 h22 fun v25 h26 =>
SameB (some B) h h26 ∧ (((List.length [(vint 0), (vint 0)] = 2 ∧ 0 < (2 : Nat) ∧ 0 < (16 : Nat) ∧ (16 : Nat) ≤ 1024) ∧ aApp 2 v3 v25 h26 fun v27 h28 =>
SameB (some B) h h28 ∧ (aOff (f.r 7) 3 fun v29 =>
aStore 1 v29 v27 h28 fun h30 =>
aBin prog .sub 3 (f.r 8) (vint 1) fun v31 =>
nx0 (RG.p (RG.p (RG.p (RG.p (RG.p (RG.p (RG.p (RG.p (RG.p (RG.p (RG.p (RG.p (RG.p (RG.p (RG.p (RG.p (RG.p (RG.p (RG.p (RG.p (RG.p (RG.p (RG.p (RG.p (RG.p (RG.p (RG.p (RG.p f 17 (f.r 8)) 18 v1) 21 v2) 22 v3) 23 (f.r 0)) 24 (f.r 0)) 25 v4) 26 v5) 27 v6) 28 v7) 29 v8) 31 (f.r 0)) 32 v9) 33 v10) 34 v11) 38 (f.r 0)) 30 v12) 35 v14) 36 v17) 37 v19) 39 v21) 40 (Value.agg ⟨c23⟩)) 41 v25) 42 v27) 43 v29) 19 (f.r 8)) 20 v31) 8 v31) h30)))))))))))))))
(aLoad true 4 (f.r 7) h fun v32 =>
aStore 4 (f.r 6) v32 h fun h33 =>
RetQ prog [.cell 6 26] n0 K .ret (RG.p (RG.p (RG.p f 17 (f.r 8)) 18 v1) 44 v32) h33)) := sub_eq pok21 ct21 (by kernel_rfl)
theorem l21_1 (hJ : Closed prog main J) {S : Type} (μ : S → Nat) (I : S → RG → List AObj → Prop) (hI : ∀ s f h, I s f h → heapOk h → n0 ≤ h.length → W prog J 45 n0 21 (subC [1, 1, 0, 1, 0, 0] (codeOf f21)) f h (thenK (Nx n0 μ I s) (contX pl21 prog J 45 n0 21 ct21 [1, 1, 0, 1, 0] (codeOf f21) [] (RetQ prog [.cell 6 26] n0 K))))
  {s : S} {f : RG} (hi : Gets n0 I s f h) : Sem J 45 n0 21 (subC [1, 1, 0, 1, 0] (codeOf f21)) f h (contX pl21 prog J 45 n0 21 ct21 [1, 1, 0, 1, 0] (codeOf f21) [] (RetQ prog [.cell 6 26] n0 K)) :=
  loop_rule hJ mixed (b := subC [1, 1, 0, 1, 0, 0] (codeOf f21)) (by kernel_rfl) μ I hI hi
end
end Go.Proofs.Ytindillghipjjaa
namespace Go.Proofs.Ytindillghipjjaa
open Go.Conc Go.Proofs.Try
def drinkOf (t : Tro) (who : Int) : Int := if 0 ≤ who then (droAt t who.toNat).drinks else 0
def nextL (t : Tro) (who now : Int) : Int := min t.well.holds (now - min now (drinkOf t who) + t.well.fill)
def turnOf (r : List Int) (h : Nat) : Int := r.getD (h % r.length) 0
def lvl (t : Tro) (r : List Int) : Nat → Int
  | 0 => t.well.now
  | h + 1 => nextL t (turnOf r h) (lvl t r h)
def dry (t : Tro) (r : List Int) (h : Nat) : Prop := lvl t r h < drinkOf t (turnOf r h)
instance (t : Tro) (r : List Int) (h : Nat) : Decidable (dry t r h) := by unfold dry; infer_instance
structure TroFine (t : Tro) : Prop where
  holds : 1 ≤ t.well.holds ∧ t.well.holds ≤ 40
  now : 0 ≤ t.well.now ∧ t.well.now ≤ t.well.holds
  fill : 0 ≤ t.well.fill ∧ t.well.fill ≤ 20
  len : 1 ≤ t.flocks.length ∧ t.flocks.length ≤ 3
  dro : ∀ d ∈ t.flocks, droOk d
section
variable {t x : Tro} {r : List Int} {h k a b : Nat}
def occ (r : List Int) (f : Int) (i : Nat) : Prop := turnOf r i = f
instance (r : List Int) (f : Int) (i : Nat) : Decidable (occ r f i) := by unfold occ; infer_instance
end
end Go.Proofs.Ytindillghipjjaa
namespace Go.Proofs.Ytindillghipjjaa
open Go.Conc Go.Proofs.Try
set_option maxRecDepth 100000
section
variable {main : Bool} {J : JT} {h H : List AObj} {K : Value → List AObj → Prop} {KV : Value → Prop} {HL : List AObj → Prop} {n0 : Nat} {ns : List Int} {k : Nat}
theorem HX.lt (a : HX h H ns k) : h.length < H.length := by
  obtain ⟨nv, k1, s, rest, rfl, _⟩ := a
  rw [hf_len]
  omega
theorem sb1 {X : List Nat} {p : Nat} {H H' : List AObj} (S : SameX X H H') (hp : p < H.length) (hX : p ∉ X) : SameB (some [p]) H H' := fun b hb => by
  simp at hb
  subst hb
  exact S.2 _ hp hX
theorem quoI {t : TypeId} {a b : Int} (ha : 0 ≤ a ∧ a ≤ 1000000) (hb : 0 < b) (hk : KV (vint (a / b))) : aBin prog .quo t (vint a) (vint b) KV := by
  have h1 : Int.tdiv a b = a / b := Int.tdiv_eq_ediv_of_nonneg ha.1
  have h2 : 0 ≤ a / b := Int.ediv_nonneg ha.1 (by omega)
  have h3 : a / b ≤ a := Int.ediv_le_self _ ha.1
  simp only [aBin, aInt, true_and]
  rw [h1, wrap64 (by omega) (by omega)]
  exact ⟨by omega, hk⟩
theorem ofX (hJ : Closed prog main J) (a : HX h H ns k) (hk : k < 1000000) {x : Int} {others : List Int} {p n c : Nat} (hp : H[p]? = some (.cells (others.map vint) true 0)) (hne : p ≠ h.length) (hn : others.length = n) (hl : n < 1000)
    (hK : ∀ y H', (y = x ∨ y ∈ others) → SameX [h.length] H H' → H'.length = H.length → HX h H' ns (k + 1) → K (vint y) H') : Good prog J 22 [ptr h.length 0, vint x, .slice (some ⟨p, 0, none⟩) n c] H K := by
  subst hn
  obtain ⟨nv, k1, s, rest, rfl, b1, b2, b3⟩ := a
  refine good22 hJ (hf_hand b3.list b3.sane (by omega) b2.1 b2.2) (others := others) (fun h' hd => ?_) (by omega) fun y h1 hy hd => ?_
  · obtain ⟨k', s', c1, c2, c3, rfl⟩ := hf_dealt hd
    have S := hf_same (h := h) (nv := nv) (k1 := k1) (k2 := k') (s1 := s) (s2 := s') (rest := rest) (g := [])
    rw [List.append_nil] at S
    exact sli_new (wr := true) (sz := 0) (S.get hp (by simpa using hne)) (by simp) (kn_ints _)
  · obtain ⟨k', s', c1, c2, c3, rfl⟩ := hf_dealt hd
    have S := hf_same (h := h) (nv := nv) (k1 := k1) (k2 := k') (s1 := s) (s2 := s') (rest := rest) (g := [])
    rw [List.append_nil] at S
    exact hK y _ hy S (by simp [hf_len]) ⟨nv, k', s', rest, rfl, by omega, ⟨c2, c3⟩, b3⟩
structure WelOk (B : Int) (w : Wel) : Prop where
  holds : 2 ≤ w.holds ∧ w.holds ≤ B ∧ w.holds ≤ 40
  now : 0 ≤ w.now ∧ w.now ≤ w.holds
  fill : 0 ≤ w.fill ∧ w.fill ≤ 6
theorem good30 (hJ : Closed prog main J) (a : HX h H ns k) (hk : k < 500000) {B : Int} (hB : 2 ≤ B ∧ B ≤ 1000)
    (hK : ∀ w H', WelOk B w → SameX [h.length] H H' → HX h H' ns (k + 5) → K w.val H') : Good prog J 30 [ptr h.length 0, vint B] H K := by
  refine g30 hJ fun ok => ?_
  rw [e30]
  have hlt := a.lt
  refine qAl fun H1 p1 e1 S1 c1 l1 => minI (maxI ?_)
  have a1 := a.same S1 (by simp)
  refine amX hJ a1 (by omega) (by omega) (by omega) fun hd H2 b1 b2 S2 l2 a2 => ?_
  refine fill_one rfl rfl rfl (by decide) (fillI ?_)
  refine qAl fun H3 p3 e3 S3 c3 l3 => qStA (c := [vint 0, vint hd, vint 0]) c3 rfl rfl rfl fun H4 S4 c4 l4 => ?_
  have a4 := (a2.same S3 (by simp)).same S4 (by simp; omega)
  refine ⟨[p3], offI (ldI (v := vint hd) c4 rfl rfl ⟨by simp [RdOk, ptrBlk, ptr], offI (ldI (v := vint hd) c4 rfl rfl ⟨by simp [RdOk, ptrBlk, ptr], ?_⟩)⟩)⟩
  have hp4 : p3 < H4.length := lt_of_get c4
  refine upX hJ a4 (by omega) (by omega) fun now H5 d1 d2 S5 l5 a5 => ⟨sb1 S5 hp4 (by simp; omega), ⟨by decide, fill_one rfl rfl rfl (by decide) (fillI (qNew fun H6 p6 e6 S6 c6 l6 => ?_))⟩⟩
  have c6 : H6[p6]? = some (.cells ([now].map vint) true 0) := c6
  have T6 : SameX [h.length] H4 H6 := S5.trans S6.weak0
  refine ⟨sb1 T6 hp4 (by simp; omega), ?_⟩
  have a6 := a5.same S6 (by simp)
  refine ofX hJ a6 (by omega) c6 (by omega) rfl (by simp) fun nw H7 m7 S7 l7 a7 => ?_
  have T7 : SameX [h.length] H4 H7 := T6.trans S7
  refine ⟨sb1 T7 hp4 (by simp; omega), offI ?_⟩
  refine upX hJ a7 (by omega) (by omega) fun f0 H8 g1 g2 S8 l8 a8 => ?_
  have T8 : SameX [h.length] H4 H8 := T7.trans S8
  refine ⟨sb1 T8 hp4 (by simp; omega), ⟨by decide, fill_one rfl rfl rfl (by decide) (fill_one rfl rfl rfl (by decide) (fill_one rfl rfl rfl (by decide) (fillI (qNew fun H9 p9 e9 S9 c9 l9 => ?_))))⟩⟩
  have c9 : H9[p9]? = some (.cells ([2, 3, f0].map vint) true 0) := c9
  have T9 : SameX [h.length] H4 H9 := T8.trans S9.weak0
  refine ⟨sb1 T9 hp4 (by simp; omega), ?_⟩
  have hh := a8.lt
  have a9 := a8.same S9 (by simp)
  refine ofX hJ a9 (by omega) c9 (by omega) rfl (by simp) fun fl H10 m10 S10 l10 a10 => ?_
  have T10 : SameX [h.length] H4 H10 := T9.trans S10
  refine ⟨sb1 T10 hp4 (by simp; omega), ?_⟩
  refine qSt (T10.get c4 (by simp; omega)) (by simp) rfl rfl fun H11 S11 c11 l11 => offI (qSt c11 (by simp) rfl rfl fun H12 S12 c12 l12 => ?_)
  refine load_part (c := [vint nw, vint hd, vint fl]) c12 (by simp) rfl rfl ?_
  have T1 : SameX [h.length] H H1 := S1.weak0
  have T4 : SameX [h.length] H H4 := ((T1.trans S2).trans S3.weak0).thru S4 (by simp; omega)
  have T12 : SameX [h.length] H H12 := ((T4.trans T10).thru S11 (by simp; omega)).thru S12 (by simp; omega)
  have c1' : H12[p1]? = some (.cells [vint 0, vint 0, vint 0] true 0) := S12.get (S11.get (T10.get (S4.get (S3.get (S2.get c1 (by simp; omega)) (by simp)) (by simp; omega)) (by simp; omega)) (by simp; omega)) (by simp; omega)
  refine qStA (c := [vint nw, vint hd, vint fl]) c1' rfl rfl rfl fun H13 S13 c13 l13 => ?_
  refine retQ_same rfl (resW_cell (gg := true) (s := 3) (by kernel_rfl) (load_part (c := [vint nw, vint hd, vint fl]) c13 (by simp) rfl rfl (resW_nil ?_)))
  refine hK ⟨nw, hd, fl⟩ H13 ⟨?_, ?_, ?_⟩ (T12.thru S13 (by simp; omega)) (((a10.same S11 (by simp; omega)).same S12 (by simp; omega)).same S13 (by simp; omega))
  · show 2 ≤ hd ∧ hd ≤ B ∧ hd ≤ 40
    omega
  · show 0 ≤ nw ∧ nw ≤ hd
    rcases m7 with rfl | m7
    · omega
    · simp at m7
      omega
  · show 0 ≤ fl ∧ fl ≤ 6
    rcases m10 with rfl | m10
    · omega
    · simp at m10
      omega
structure TroOk (F B : Int) (t : Tro) : Prop where
  well : WelOk B t.well
  len : 1 ≤ t.flocks.length ∧ (t.flocks.length : Int) ≤ F
  dro : ∀ d ∈ t.flocks, (1 ≤ d.drinks ∧ d.drinks ≤ 40) ∧ (1 ≤ d.every ∧ d.every ≤ 6)
theorem TroOk.fine {F B : Int} {t : Tro} (o : TroOk F B t) (hF : F ≤ 3) : TroFine t := by
  obtain ⟨⟨h1, h2, h3⟩, h4, h5⟩ := o
  refine ⟨by omega, h2, by omega, by omega, fun d hd => ?_⟩
  have := h5 d hd
  exact ⟨this.1, by omega⟩
structure TroO (h H : List AObj) (t : Tro) (fv : Value) (o : Option Nat) : Prop where
  fl : OwnX H 2 (t.flocks.flatMap Dro.cells) t.flocks.length fv o
  b : ∀ i, o = some i → h.length < i
theorem TroO.at {t : Tro} {fv : Value} {o : Option Nat} (a : TroO h H t fv o) : TroAt H (.agg ⟨troCells t fv⟩) t fv := ⟨rfl, ownX_sli a.fl⟩
theorem TroO.same {H' : List AObj} {t : Tro} {fv : Value} {o : Option Nat} {X : List Nat} (a : TroO h H t fv o) (S : SameX X H H') (hX : ∀ i, o = some i → i ∉ X) : TroO h H' t fv o := ⟨ownX_keep a.fl S hX, a.b⟩
theorem good21 (hJ : Closed prog main J) (a : HX h H ns k) (hk : k < 400000) {F B : Int} (hF : 1 ≤ F ∧ F ≤ 3) (hB : 2 ≤ B ∧ B ≤ 40)
    (hK : ∀ t fv o H', TroOk F B t → SameX [h.length] H H' → HX h H' ns (k + 30) → TroO h H' t fv o → K (.agg ⟨troCells t fv⟩) H') : Good prog J 21 [ptr h.length 0, vint F, vint B] H K := by
  refine g21 hJ fun ok => ?_
  rw [e21]
  have hlt := a.lt
  refine qAl fun H1 p1 e1 S1 c1 l1 => ?_
  have a1 := a.same S1 (by simp)
  refine good30 hJ a1 (by omega) (by omega) fun w H2 ow S2 a2 => ?_
  refine fill_one rfl rfl rfl (by decide) (fillI ?_)
  have hl2 := S2.1
  refine qAl fun H3 p3 e3 S3 c3 l3 => qStA (c := troCells ⟨w, []⟩ (.slice none 0 0)) c3 rfl rfl rfl fun H4 S4 c4 l4 => minI ?_
  have a4 := (a2.same S3 (by simp)).same S4 (by simp; omega)
  refine amX hJ a4 (by omega) (by omega) (by omega) fun i0 H5 b1 b2 S5 l5 a5 => ?_
  have T4 : SameX [h.length] H H4 := ((S1.weak0.trans S2).trans S3.weak0).thru S4 (by simp; omega)
  have T5 : SameX [h.length] H H5 := T4.trans S5
  have c1' : H5[p1]? = some (.cells (troCells ⟨⟨0, 0, 0⟩, []⟩ (.slice none 0 0)) true 0) := S5.get (S4.get (S3.get (S2.get c1 (by simp; omega)) (by simp)) (by simp; omega)) (by simp; omega)
  have c3' : H5[p3]? = some (.cells (troCells ⟨w, []⟩ (.slice none 0 0)) true 0) := S5.get c4 (by simp; omega)
  obtain ⟨⟨w1, w2, w3⟩, w4, w5⟩ := id ow
  refine l21_1 hJ (fun i : Nat => i) (fun i f H' => ∃ ds fv o, SameX [h.length] H H' ∧ HX h H' ns (k + 30 - 5 * i) ∧ i ≤ 3 ∧ (i0 = i + List.length ds) ∧ (∀ d ∈ ds, (1 ≤ d.drinks ∧ d.drinks ≤ 40) ∧ (1 ≤ d.every ∧ d.every ≤ 6)) ∧
      TroO h H' ⟨w, ds⟩ fv o ∧ H'[p3]? = some (.cells (troCells ⟨w, ds⟩ fv) true 0) ∧ H'[p1]? = some (.cells (troCells ⟨⟨0, 0, 0⟩, []⟩ (.slice none 0 0)) true 0) ∧ (∀ j, o = some j → j ≠ p1 ∧ j ≠ p3 ∧ H.length ≤ j) ∧ f.ds = [] ∧ f.r 0 = ptr h.length 0 ∧ f.r 6 = ptr p1 0 ∧ f.r 7 = ptr p3 0 ∧ f.r 8 = vint (i : Nat)) ?_ (s := i0.toNat)
    (.inl ⟨[], .slice none 0 0, none, T5, a5.mono (by omega), by omega, by simp; omega, by simp, ⟨⟨rfl, rfl, .inl ⟨rfl, rfl, rfl⟩⟩, by simp⟩, c3', c1', by simp, rfl, rfl, rfl, rfl, by show vint i0 = vint _; congr 1; omega⟩)
  rintro i f Hc ⟨ds, fv, o, Sc, ac, hi, hsum, hds, TO, cp3, cp1, hoj, fds, r0, r6, r7, r8⟩ okc hnc
  rw [s21_1, r0, r6, r7, r8]
  have hp3 := lt_of_get cp3
  have hp1 := lt_of_get cp1
  refine gtrI (cndI (fun hpos => ?_) fun hz => ?_)
  · have kf := (ownX_val TO.fl).2.2
    refine ⟨[p3], offI (ldI (v := fv) cp3 rfl kf ⟨by simp [RdOk, ptrBlk, ptr], offI (offI (ldI (v := vint w.holds) cp3 rfl rfl ⟨by simp [RdOk, ptrBlk, ptr], quoI (by omega) (by omega) (maxI (offI (offI (ldI (v := vint w.holds) cp3 rfl rfl ⟨by simp [RdOk, ptrBlk, ptr], ?_⟩))))⟩))⟩)⟩
    have hq : 0 ≤ w.holds / 2 ∧ w.holds / 2 ≤ w.holds := ⟨Int.ediv_nonneg (by omega) (by omega), Int.ediv_le_self _ (by omega)⟩
    refine amX hJ ac (by omega) (by omega) (by omega) fun x1 Ha q1 q2 Sa la aa => ⟨sb1 Sa hp3 (by simp; omega), ?_⟩
    refine amX hJ aa (by omega) (by omega) (by omega) fun x2 Hb q3 q4 Sb lb ab => ⟨sb1 (Sa.trans Sb) hp3 (by simp; omega), ?_⟩
    refine ⟨by decide, fill_one rfl rfl rfl (by decide) (fill_one rfl rfl rfl (by decide) (fill_one rfl rfl rfl (Nat.le_of_ble_eq_true rfl) (fillI (qNew fun Hd pd ed Sd cd ld => ?_))))⟩
    have cd : Hd[pd]? = some (.cells ([2, x1, x2].map vint) true 0) := cd
    have Td : SameX [h.length] Hc Hd := (Sa.trans Sb).trans Sd.weak0
    have hlb := ab.lt
    have ad := ab.same Sd (by simp)
    refine ⟨sb1 Td hp3 (by simp; omega), ?_⟩
    refine ofX hJ ad (by omega) cd (by omega) rfl (by simp) fun dr He me Se le ae => ⟨sb1 (Td.trans Se) hp3 (by simp; omega), ?_⟩
    refine amX hJ ae (by omega) (by omega) (by omega) fun ev Hf q5 q6 Sf lf af => ?_
    have Tf : SameX [h.length] Hc Hf := (Td.trans Se).trans Sf
    refine ⟨sb1 Tf hp3 (by simp; omega), ?_⟩
    refine fill_one rfl rfl rfl (by decide) (fill_one rfl rfl rfl (Nat.le_of_ble_eq_true rfl) (fillI ?_))
    refine ⟨by decide, fill_one (l := [vint dr, vint ev]) rfl rfl rfl (Nat.le_of_ble_eq_true rfl) (fillI (qNew fun Hg pg eg Sg cg lg => ?_))⟩
    have cg : Hg[pg]? = some (.cells [vint dr, vint ev] true 0) := cg
    have Tg : SameX [h.length] Hc Hg := Tf.trans Sg.weak0
    refine ⟨sb1 Tg hp3 (by simp; omega), ⟨by decide, ?_⟩⟩
    have TOg := TO.same Tg (fun j hj => by have := TO.b j hj; simp; omega)
    have hdl : ds.length ≤ 3 := by omega
    refine ownX_more TOg.fl (by omega) (by show ds.length < 100000; omega) (ownX_sli (ownX_new (s := 2) (n := 1) (l := [vint dr, vint ev]) cg rfl rfl)) fun fv' Hh ph eh Oh Sh => ?_
    have hlc := Tg.1
    have Th : SameX (h.length :: o.toList) Hc Hh := (Tg.weak (by simp)).trans (Sh.weak fun x hx => List.mem_cons_of_mem _ hx)
    have hno : ∀ b, b = p1 ∨ b = p3 → b ∉ o.toList := fun b hb hm => by
      have := hoj b (by simpa using hm)
      omega
    refine ⟨sb1 Th hp3 (by simp only [List.mem_cons, not_or]; exact ⟨by omega, hno p3 (.inr rfl)⟩), offI ?_⟩
    refine qSt (Th.get cp3 (by simp only [List.mem_cons, not_or]; exact ⟨by omega, hno p3 (.inr rfl)⟩)) (by simp [troCells]) (ownX_val Oh).1 (ownX_val Oh).2.1 fun Hi Si ci li => subI (by omega) ?_
    refine ⟨i - 1, by dsimp only; omega, .inl ⟨ds ++ [⟨dr, ev⟩], fv', some ph, ?_, ?_, by omega, by simp; omega, fun d hd => ?_, ⟨ownX_keep ?_ Si (by intro j hj; cases hj; simp; omega), fun j hj => by cases hj; omega⟩, ci, ?_, fun j hj => by cases hj; omega, fds, r0, r6, r7, by show vint _ = vint _; congr 1; omega⟩⟩
    · refine ((Sc.trans Tg).thru Sh ?_).thru Si (by simp; omega)
      intro y hy
      have hy' : o = some y := by simpa using hy
      exact .inr (hoj y hy').2.2
    · refine HX.mono (k := k + 30 - 5 * i + 5) (HX.same (HX.same ((af.same Sg (by simp)).mono (by omega)) Sh ?_) Si (by simp; omega)) (by omega)
      intro y hy
      exact TO.b y (by simpa using hy)
    · rcases List.mem_append.1 hd with hd | hd
      · exact hds d hd
      · have : d = ⟨dr, ev⟩ := by simpa using hd
        subst this
        refine ⟨?_, by show 1 ≤ ev ∧ ev ≤ 6; omega⟩
        show 1 ≤ dr ∧ dr ≤ 40
        rcases me with rfl | me
        · omega
        · simp at me
          omega
    · simpa [List.flatMap_append, Dro.cells] using Oh
    · exact Si.get (Th.get cp1 (by simp only [List.mem_cons, not_or]; exact ⟨by omega, hno p1 (.inl rfl)⟩)) (by simp; omega)
  · have hi0 : i = 0 := by omega
    subst hi0
    have kf := (ownX_val TO.fl).2
    have k4 : (troCells ⟨w, ds⟩ fv).all one = true ∧ kn (troCells ⟨w, ds⟩ fv) = true := ⟨tro_one TO.at, tro_kn TO.at⟩
    refine load_part (c := troCells ⟨w, ds⟩ fv) cp3 (by simp [troCells]) rfl k4.2 ?_
    refine qStA (c := troCells ⟨w, ds⟩ fv) cp1 rfl rfl k4.1 fun Hz Sz cz lz => ?_
    refine retQ_same fds (resW_cell (gg := true) (s := 4) (by kernel_rfl) ?_)
    show aLoad true 4 (f.r 6) Hz _
    rw [r6]
    refine load_part (c := troCells ⟨w, ds⟩ fv) cz (by simp [troCells]) rfl k4.2 (resW_nil ?_)
    refine hK ⟨w, ds⟩ fv o Hz ⟨ow, ?_, hds⟩ (Sc.thru Sz (by simp; omega)) ((ac.same Sz (by simp; omega)).mono (by omega)) (TO.same Sz fun j hj => by have := hoj j hj; simp; omega)
    show 1 ≤ ds.length ∧ (ds.length : Int) ≤ F
    omega
structure RotO (h H : List AObj) (r : List Int) (v : Value) (o : Option Nat) : Prop where
  l : OwnX H 1 (r.map vint) r.length v o
  b : ∀ i, o = some i → h.length < i
theorem RotO.sli {r : List Int} {v : Value} {o : Option Nat} (a : RotO h H r v o) : Sli H v 1 r.length (r.map vint) := ownX_sli a.l
theorem RotO.same {H' : List AObj} {r : List Int} {v : Value} {o : Option Nat} {X : List Nat} (a : RotO h H r v o) (S : SameX X H H') (hX : ∀ i, o = some i → i ∉ X) : RotO h H' r v o := ⟨ownX_keep a.l S hX, a.b⟩
end
def Till (n : Nat) (O : List Nat) (h H : List AObj) : Prop := h.length ≤ H.length ∧ ∀ i, i < n ∨ i ∈ O → H[i]? = h[i]?
section
variable {main : Bool} {J : JT} {h H : List AObj} {K : Value → List AObj → Prop} {KV : Value → Prop} {n0 : Nat}
theorem ownX_to {H' : List AObj} {s len : Nat} {cs : List Value} {v : Value} {o : Option Nat} (ho : OwnX H s cs len v o) (e : ∀ i, o = some i → H'[i]? = H[i]?) : OwnX H' s cs len v o := by
  obtain ⟨h1, h2, h3 | ⟨i, c, sz, rfl, h4, h5, h6⟩⟩ := ho
  · exact ⟨h1, h2, .inl h3⟩
  · exact ⟨h1, h2, .inr ⟨i, c, sz, rfl, h4, by rw [e i rfl]; exact h5, h6⟩⟩
def GrowI (po : Nat) (L : Nat → List Int) (k : Nat) (O : List Nat) (H : List AObj) : Prop :=
  ∃ lv o, O = Option.toList o ∧ H[po]? = some (.cells [lv] true 0) ∧ OwnX H 1 ((L k).map vint) (L k).length lv o ∧ (∀ i, o = some i → i ≠ po) ∧ (L k).length ≤ k
theorem GrowI.lt {po k : Nat} {L : Nat → List Int} {O : List Nat} (a : GrowI po L k O H) : ∀ x ∈ O, x < H.length := by
  obtain ⟨lv, o, rfl, c, A, ho, hl⟩ := a
  intro x hx
  exact ownX_lt A x (by simpa using hx)
theorem GrowI.to {po k n : Nat} {L : Nat → List Int} {O : List Nat} {H1 H2 : List AObj} (hp : po < n) (T : Till n O H1 H2) (a : GrowI po L k O H1) : GrowI po L k O H2 := by
  obtain ⟨lv, o, rfl, c, A, ho, hl⟩ := a
  exact ⟨lv, o, rfl, by rw [T.2 po (.inl hp)]; exact c, ownX_to A fun i hi => T.2 i (.inr (by simpa using hi)), ho, hl⟩
end
end Go.Proofs.Ytindillghipjjaa
namespace Go.Proofs.Ytindillghipjjaa
open Go.Conc Go.Proofs.Try
set_option maxRecDepth 100000
set_option maxHeartbeats 4000000
set_option linter.unusedVariables false
section
variable {main : Bool} {J : JT} {n0 : Nat} {h : List AObj} {K : Value → List AObj → Prop}
def pl7 : Plans := []
def ct7 : Cuts := .go
theorem pok7 : plansOk prog pl7 (codeOf f7) = true := by kernel_rfl
theorem e7 {a0 : Value} : W prog J 82 h.length 7 (codeOf f7) (RG.mk (regs [a0]) []) h (RetQ prog [.tmp 2] h.length K) =
(Good prog J 20 [a0] h fun v1 h2 =>
Good prog J 21 [v1, (vint 2), (vint 10)] h2 fun v3 h4 =>
aAlloc [(vint 0), (vint 0), (vint 0), (Value.slice none 0 0)] h4 fun v5 h6 =>
aStore 4 v5 v3 h6 fun h7 =>
aLoad true 4 v5 h7 fun v8 =>
Good prog J 39 [v8] h7 fun v9 h10 =>
aExt v9 0 fun v11 =>
aExt v9 1 fun v12 =>
Sem J 82 h.length 7 (subC [1, 1, 1, 0, 1, 0] (codeOf f7)) (RG.p (RG.p (RG.p (RG.p (RG.p (RG.p (RG.p (RG.p (RG.p (RG.p (RG.p (RG.p (RG.p (RG.mk (regs [a0]) []) 2 (Value.bool false)) 13 a0) 14 v1) 15 v3) 3 v5) 17 v8) 18 v9) 16 v9) 19 v11) 20 v12) 4 v11) 5 v12) 6 (vint 1)) h10 (contX pl7 prog J 82 h.length 7 ct7 [1, 1, 1, 0, 1, 0] (codeOf f7) [] (RetQ prog [.tmp 2] h.length K))) := top_eq pok7 ct7 (by kernel_rfl)
end
section
variable {main : Bool} {J : JT} {n0 : Nat} {h : List AObj} {K : Value → List AObj → Prop}
def pl14 : Plans := []
def ct14 : Cuts := .bin (.go) (.bin (.go) (.bin (.go) (.bin (.go) (.bin (.bin (.go) (.cut (.go))) (.bin (.bin (.go) (.un (.un (.bin (.go) (.bin (.un (.bin (.go) (.bin (.go) (.cut (.bin (.go) (.cut (.bin (.bin (.go) (.cut (.go))) (.bin (.go) (.un (.un (.bin (.go) (.bin (.un (.bin (.go) (.bin (.go) (.cut (.bin (.go) (.bin (.go) (.cut (.go)))))))) (.go))))))))))))) (.go)))))) (.go))))))
theorem pok14 : plansOk prog pl14 (codeOf f14) = true := by kernel_rfl
theorem e14 {a0 : Value} : W prog J 116 h.length 14 (codeOf f14) (RG.mk (regs [a0]) []) h (RetQ prog [.tmp 2] h.length K) =
(Good prog J 20 [a0] h fun v1 h2 =>
Good prog J 21 [v1, (vint 2), (vint 10)] h2 fun v3 h4 =>
aAlloc [(vint 0), (vint 0), (vint 0), (Value.slice none 0 0)] h4 fun v5 h6 =>
aStore 4 v5 v3 h6 fun h7 =>
aLoad true 4 v5 h7 fun v8 =>
Good prog J 55 [v8] h7 fun v9 h10 =>
aExt v9 0 fun v11 =>
aExt v9 1 fun v12 =>
aLoad true 4 v5 h10 fun v13 =>
Good prog J 57 [v13] h10 fun v14 h15 =>
aExt v14 0 fun v16 =>
aExt v14 1 fun v17 =>
aBin prog .neq 39 v12 (vint 0) fun v18 =>
cnd v18
(aBin prog .neq 39 v12 (vint 11) fun v19 =>
cnd v19
(Hold (W prog J 116 h.length 14 (subC [1, 1, 1, 1, 0, 1] (codeOf f14)) (RG.p (RG.p (RG.p (RG.p (RG.p (RG.p (RG.p (RG.p (RG.p (RG.p (RG.p (RG.p (RG.p (RG.p (RG.p (RG.p (RG.p (RG.p (RG.p (RG.p (RG.p (RG.p (RG.p (RG.p (RG.p (RG.p (RG.p (RG.p (RG.p (RG.p (RG.p (RG.p (RG.p (RG.p (RG.p (RG.mk (regs [a0]) []) 2 (Value.bool false)) 17 a0) 18 v1) 19 v3) 3 v5) 21 v8) 22 v9) 20 v9) 23 v11) 24 v12) 4 v11) 5 v12) 26 v13) 27 v14) 25 v14) 28 v16) 29 v17) 6 v16) 7 v17) 30 v12) 31 v18) 32 v18) 32 (Value.bool true)) 33 v12) 34 v19) 35 v19) 36 v19) 36 (Value.bool true)) 37 undef) 38 undef) 39 undef) 40 undef) 41 undef) 42 undef) 43 (Value.bool true)) h15 (contX pl14 prog J 116 h.length 14 ct14 [1, 1, 1, 1, 0, 1] (codeOf f14) [] (RetQ prog [.tmp 2] h.length K))))
(aBin prog .neq 39 v17 (vint 0) fun v20 =>
cnd v20
(aBin prog .neq 39 v17 (vint 11) fun v21 =>
Hold (W prog J 116 h.length 14 (subC [1, 1, 1, 1, 0, 1] (codeOf f14)) (RG.p (RG.p (RG.p (RG.p (RG.p (RG.p (RG.p (RG.p (RG.p (RG.p (RG.p (RG.p (RG.p (RG.p (RG.p (RG.p (RG.p (RG.p (RG.p (RG.p (RG.p (RG.p (RG.p (RG.p (RG.p (RG.p (RG.p (RG.p (RG.p (RG.p (RG.p (RG.p (RG.p (RG.p (RG.p (RG.p (RG.mk (regs [a0]) []) 2 (Value.bool false)) 17 a0) 18 v1) 19 v3) 3 v5) 21 v8) 22 v9) 20 v9) 23 v11) 24 v12) 4 v11) 5 v12) 26 v13) 27 v14) 25 v14) 28 v16) 29 v17) 6 v16) 7 v17) 30 v12) 31 v18) 32 v18) 32 (Value.bool true)) 33 v12) 34 v19) 35 v19) 36 v19) 36 (Value.bool false)) 37 v17) 38 v20) 39 v20) 39 (Value.bool true)) 40 v17) 41 v21) 42 v21) 43 v21) h15 (contX pl14 prog J 116 h.length 14 ct14 [1, 1, 1, 1, 0, 1] (codeOf f14) [] (RetQ prog [.tmp 2] h.length K))))
(Hold (W prog J 116 h.length 14 (subC [1, 1, 1, 1, 0, 1] (codeOf f14)) (RG.p (RG.p (RG.p (RG.p (RG.p (RG.p (RG.p (RG.p (RG.p (RG.p (RG.p (RG.p (RG.p (RG.p (RG.p (RG.p (RG.p (RG.p (RG.p (RG.p (RG.p (RG.p (RG.p (RG.p (RG.p (RG.p (RG.p (RG.p (RG.p (RG.p (RG.p (RG.p (RG.p (RG.p (RG.p (RG.p (RG.mk (regs [a0]) []) 2 (Value.bool false)) 17 a0) 18 v1) 19 v3) 3 v5) 21 v8) 22 v9) 20 v9) 23 v11) 24 v12) 4 v11) 5 v12) 26 v13) 27 v14) 25 v14) 28 v16) 29 v17) 6 v16) 7 v17) 30 v12) 31 v18) 32 v18) 32 (Value.bool true)) 33 v12) 34 v19) 35 v19) 36 v19) 36 (Value.bool false)) 37 v17) 38 v20) 39 v20) 39 (Value.bool false)) 40 undef) 41 undef) 42 (Value.bool false)) 43 (Value.bool false)) h15 (contX pl14 prog J 116 h.length 14 ct14 [1, 1, 1, 1, 0, 1] (codeOf f14) [] (RetQ prog [.tmp 2] h.length K))))))
(aBin prog .neq 39 v17 (vint 0) fun v22 =>
cnd v22
(aBin prog .neq 39 v17 (vint 11) fun v23 =>
Hold (W prog J 116 h.length 14 (subC [1, 1, 1, 1, 0, 1] (codeOf f14)) (RG.p (RG.p (RG.p (RG.p (RG.p (RG.p (RG.p (RG.p (RG.p (RG.p (RG.p (RG.p (RG.p (RG.p (RG.p (RG.p (RG.p (RG.p (RG.p (RG.p (RG.p (RG.p (RG.p (RG.p (RG.p (RG.p (RG.p (RG.p (RG.p (RG.p (RG.p (RG.p (RG.p (RG.p (RG.p (RG.p (RG.mk (regs [a0]) []) 2 (Value.bool false)) 17 a0) 18 v1) 19 v3) 3 v5) 21 v8) 22 v9) 20 v9) 23 v11) 24 v12) 4 v11) 5 v12) 26 v13) 27 v14) 25 v14) 28 v16) 29 v17) 6 v16) 7 v17) 30 v12) 31 v18) 32 v18) 32 (Value.bool false)) 33 undef) 34 undef) 35 (Value.bool false)) 36 (Value.bool false)) 36 (Value.bool false)) 37 v17) 38 v22) 39 v22) 39 (Value.bool true)) 40 v17) 41 v23) 42 v23) 43 v23) h15 (contX pl14 prog J 116 h.length 14 ct14 [1, 1, 1, 1, 0, 1] (codeOf f14) [] (RetQ prog [.tmp 2] h.length K))))
(Hold (W prog J 116 h.length 14 (subC [1, 1, 1, 1, 0, 1] (codeOf f14)) (RG.p (RG.p (RG.p (RG.p (RG.p (RG.p (RG.p (RG.p (RG.p (RG.p (RG.p (RG.p (RG.p (RG.p (RG.p (RG.p (RG.p (RG.p (RG.p (RG.p (RG.p (RG.p (RG.p (RG.p (RG.p (RG.p (RG.p (RG.p (RG.p (RG.p (RG.p (RG.p (RG.p (RG.p (RG.p (RG.p (RG.mk (regs [a0]) []) 2 (Value.bool false)) 17 a0) 18 v1) 19 v3) 3 v5) 21 v8) 22 v9) 20 v9) 23 v11) 24 v12) 4 v11) 5 v12) 26 v13) 27 v14) 25 v14) 28 v16) 29 v17) 6 v16) 7 v17) 30 v12) 31 v18) 32 v18) 32 (Value.bool false)) 33 undef) 34 undef) 35 (Value.bool false)) 36 (Value.bool false)) 36 (Value.bool false)) 37 v17) 38 v22) 39 v22) 39 (Value.bool false)) 40 undef) 41 undef) 42 (Value.bool false)) 43 (Value.bool false)) h15 (contX pl14 prog J 116 h.length 14 ct14 [1, 1, 1, 1, 0, 1] (codeOf f14) [] (RetQ prog [.tmp 2] h.length K)))))) := top_eq pok14 ct14 (by kernel_rfl)
end
section
variable {main : Bool} {J : JT} {n0 : Nat} {h : List AObj} {K : Value → List AObj → Prop}
theorem at24 : prog.funcs[24]? = some f24 := by kernel_rfl
theorem body24 : f24.body = some (codeOf f24) := by kernel_rfl
def pl24 : Plans := []
def ct24 : Cuts := .go
theorem pok24 : plansOk prog pl24 (codeOf f24) = true := by kernel_rfl
theorem e24 {a0 : Value} : W prog J 9 h.length 24 (codeOf f24) (RG.mk (regs [a0]) []) h (RetQ prog [.cell 2 26] h.length K) =
(aBox a0 h fun v1 h2 =>
aAlloc [(vint 0), (vint 0), (vint 0), (Value.slice none 0 0)] h2 fun v3 h4 =>
(((0 * 2 : Nat) ≤ 16777216 ∧ (0 : Nat) ≤ 16777216 ∧ List.length [(vint 0), (vint 0)] = 2) ∧ aFill (zrep [(vint 0), (vint 0)] 0) [] fun c5 =>
aNewS 0 c5 h4 fun v6 h7 =>
aOff v1 3 fun v8 =>
aLoad false 1 v8 h7 fun v9 =>
((List.length [(vint 0), (vint 0)] = 2 ∧ 0 < (2 : Nat) ∧ 0 < (16 : Nat) ∧ (16 : Nat) ≤ 1024) ∧ aApp 2 v6 v9 h7 fun v10 h11 =>
aOff v1 3 fun v12 =>
aStore 1 v12 v10 h11 fun h13 =>
aLoad true 4 v1 h13 fun v14 =>
aStore 4 v3 v14 h13 fun h15 =>
RetQ prog [.cell 2 26] h.length K .ret (RG.p (RG.p (RG.p (RG.p (RG.p (RG.p (RG.p (RG.p (RG.mk (regs [a0]) []) 1 v1) 2 v3) 3 v6) 4 v8) 5 v9) 6 v10) 7 v12) 8 v14) h15))) := top_eq pok24 ct24 (by kernel_rfl)
theorem g24 (hJ : Closed prog main J) {a0 : Value} (hs : heapOk h → W prog J 9 h.length 24 (codeOf f24) (RG.mk (regs [a0]) []) h (RetQ prog [.cell 2 26] h.length K)) : Good prog J 24 [a0] h K :=
  good_of_W hJ mixed at24 body24 (by kernel_rfl) (Nat.le_of_ble_eq_true rfl) hs
theorem at5 : prog.funcs[5]? = some f5 := by kernel_rfl
theorem body5 : f5.body = some (codeOf f5) := by kernel_rfl
def pl5 : Plans := [(5, false, .take 0 (.take 1 (.take 2 (.take 3 (.take 4 (.take 5 (.take 6 (.take 8 (.take 9 (.take 10 (.take 11 (.last 7 true (.take 13 (.take 14 (.last 12 false (.last 15 false (.take 16 (.take 17 (.last 18 false (.fin)))))))))))))))))))),
  (14, true, .take 0 (.take 1 (.take 2 (.take 3 (.take 4 (.take 5 (.take 6 (.take 7 (.take 8 (.fin))))))))))]
def ct5 : Cuts := .bin (.go) (.bin (.go) (.bin (.go) (.bin (.go) (.bin (.go) (.bin (.go) (.bin (.go) (.bin (.go) (.bin (.go) (.bin (.bin (.go) (.cut (.go))) (.bin (.go) (.bin (.go) (.bin (.go) (.bin (.bin (.go) (.cut (.go))) (.go))))))))))))))
theorem pok5 : plansOk prog pl5 (codeOf f5) = true := by kernel_rfl
theorem e5 {a0 : Value} : W prog J 171 h.length 5 (codeOf f5) (RG.mk (regs [a0]) []) h (RetQ prog [.tmp 2] h.length K) =
(Good prog J 20 [a0] h fun v1 h2 =>
Good prog J 21 [v1, (vint 2), (vint 10)] h2 fun v3 h4 =>
aAlloc [(vint 0), (vint 0), (vint 0), (Value.slice none 0 0)] h4 fun v5 h6 =>
aStore 4 v5 v3 h6 fun h7 =>
aLoad true 4 v5 h7 fun v8 =>
Good prog J 24 [v8] h7 fun v9 h10 =>
aAlloc [(vint 0), (vint 0), (vint 0), (Value.slice none 0 0)] h10 fun v11 h12 =>
aStore 4 v11 v9 h12 fun h13 =>
aOff v5 0 fun v14 =>
aOff v14 1 fun v15 =>
aLoad false 1 v15 h13 fun v16 =>
Good prog J 33 [v1, v16, (vint 14)] h13 fun v17 h18 =>
aOff v11 0 fun v19 =>
aOff v19 1 fun v20 =>
aStore 1 v20 v17 h18 fun h21 =>
(∃ B, aOff v5 0 fun v22 =>
aOff v22 0 fun v23 =>
aLoad false 1 v23 h21 fun v24 =>
RdOk (some B) (ptrBlk v23) ∧ (aOff v11 0 fun v25 =>
aOff v25 1 fun v26 =>
aLoad false 1 v26 h21 fun v27 =>
RdOk (some B) (ptrBlk v26) ∧ (aOff v5 0 fun v28 =>
aOff v28 2 fun v29 =>
aLoad false 1 v29 h21 fun v30 =>
RdOk (some B) (ptrBlk v29) ∧ (Good prog J 33 [v1, v24, v27] h21 fun v31 h32 =>
SameB (some B) h21 h32 ∧ (aOff v11 0 fun v33 =>
aOff v33 0 fun v34 =>
Good prog J 33 [v1, v30, (vint 8)] h32 fun v35 h36 =>
aStore 1 v34 v31 h36 fun h37 =>
aOff v11 0 fun v38 =>
aOff v38 2 fun v39 =>
aStore 1 v39 v35 h37 fun h40 =>
aLoad true 4 v5 h40 fun v41 =>
Good prog J 36 [v1, v41, (vint 5)] h40 fun v42 h43 =>
aLoad true 4 v5 h43 fun v44 =>
Good prog J 37 [v44, v42, (vint 40)] h43 fun v45 h46 =>
aExt v45 0 fun v47 =>
aExt v45 1 fun v48 =>
aLoad true 4 v11 h46 fun v49 =>
Good prog J 37 [v49, v42, (vint 40)] h46 fun v50 h51 =>
aExt v50 0 fun v52 =>
aExt v50 1 fun v53 =>
aBin prog .neq 39 v48 (vint 0) fun v54 =>
cnd v54
(Hold (W prog J 171 h.length 5 (subC [1, 1, 1, 1, 1, 1, 1, 1, 1, 0, 1] (codeOf f5)) (RG.p (RG.p (RG.p (RG.p (RG.p (RG.p (RG.p (RG.p (RG.p (RG.p (RG.p (RG.p (RG.p (RG.p (RG.p (RG.p (RG.p (RG.p (RG.p (RG.p (RG.p (RG.p (RG.p (RG.p (RG.p (RG.p (RG.p (RG.p (RG.p (RG.p (RG.p (RG.p (RG.p (RG.p (RG.p (RG.p (RG.p (RG.p (RG.p (RG.p (RG.p (RG.p (RG.p (RG.p (RG.p (RG.p (RG.p (RG.p (RG.p (RG.p (RG.p (RG.p (RG.p (RG.p (RG.p (RG.p (RG.p (RG.p (RG.p (RG.p (RG.p (RG.p (RG.p (RG.p (RG.p (RG.p (RG.p (RG.p (RG.p (RG.p (RG.p (RG.p (RG.p (RG.mk (regs [a0]) []) 2 (Value.bool false)) 16 a0) 17 v1) 3 v1) 18 v1) 19 v3) 4 v5) 20 v8) 21 v9) 5 v11) 22 v1) 23 v14) 24 v15) 25 v16) 26 v17) 27 v19) 28 v20) 29 v1) 30 v22) 31 v23) 32 v24) 33 v25) 34 v26) 35 v27) 37 v1) 38 v28) 39 v29) 40 v30) 36 v31) 42 v33) 43 v34) 41 v35) 44 v38) 45 v39) 46 v1) 47 v41) 48 v42) 6 v42) 50 v44) 51 v42) 52 v45) 49 v45) 53 v47) 54 v48) 7 v47) 8 v48) 56 v49) 57 v42) 58 v50) 55 v50) 59 v52) 60 v53) 9 v52) 10 v53) 61 v48) 62 v54) 63 v54) 63 (Value.bool true)) 64 undef) 65 undef) 66 (Value.bool true)) 67 (Value.bool true)) 67 (Value.bool true)) 68 undef) 69 undef) 70 undef) 71 (Value.bool true)) 72 (Value.bool true)) 72 (Value.bool true)) 73 undef) 74 undef) 75 undef) 76 (Value.bool true)) h51 (contX pl5 prog J 171 h.length 5 ct5 [1, 1, 1, 1, 1, 1, 1, 1, 1, 0, 1] (codeOf f5) [] (RetQ prog [.tmp 2] h.length K))))
(aBin prog .neq 39 v53 (vint 0) fun v55 =>
cnd v55
(Hold (W prog J 171 h.length 5 (subC [1, 1, 1, 1, 1, 1, 1, 1, 1, 0, 1] (codeOf f5)) (RG.p (RG.p (RG.p (RG.p (RG.p (RG.p (RG.p (RG.p (RG.p (RG.p (RG.p (RG.p (RG.p (RG.p (RG.p (RG.p (RG.p (RG.p (RG.p (RG.p (RG.p (RG.p (RG.p (RG.p (RG.p (RG.p (RG.p (RG.p (RG.p (RG.p (RG.p (RG.p (RG.p (RG.p (RG.p (RG.p (RG.p (RG.p (RG.p (RG.p (RG.p (RG.p (RG.p (RG.p (RG.p (RG.p (RG.p (RG.p (RG.p (RG.p (RG.p (RG.p (RG.p (RG.p (RG.p (RG.p (RG.p (RG.p (RG.p (RG.p (RG.p (RG.p (RG.p (RG.p (RG.p (RG.p (RG.p (RG.p (RG.p (RG.p (RG.p (RG.p (RG.p (RG.mk (regs [a0]) []) 2 (Value.bool false)) 16 a0) 17 v1) 3 v1) 18 v1) 19 v3) 4 v5) 20 v8) 21 v9) 5 v11) 22 v1) 23 v14) 24 v15) 25 v16) 26 v17) 27 v19) 28 v20) 29 v1) 30 v22) 31 v23) 32 v24) 33 v25) 34 v26) 35 v27) 37 v1) 38 v28) 39 v29) 40 v30) 36 v31) 42 v33) 43 v34) 41 v35) 44 v38) 45 v39) 46 v1) 47 v41) 48 v42) 6 v42) 50 v44) 51 v42) 52 v45) 49 v45) 53 v47) 54 v48) 7 v47) 8 v48) 56 v49) 57 v42) 58 v50) 55 v50) 59 v52) 60 v53) 9 v52) 10 v53) 61 v48) 62 v54) 63 v54) 63 (Value.bool false)) 64 v53) 65 v55) 66 v55) 67 v55) 67 (Value.bool true)) 68 undef) 69 undef) 70 undef) 71 (Value.bool true)) 72 (Value.bool true)) 72 (Value.bool true)) 73 undef) 74 undef) 75 undef) 76 (Value.bool true)) h51 (contX pl5 prog J 171 h.length 5 ct5 [1, 1, 1, 1, 1, 1, 1, 1, 1, 0, 1] (codeOf f5) [] (RetQ prog [.tmp 2] h.length K))))
(aLenS v47 fun v56 =>
aBin prog .neq 3 v56 (vint 40) fun v57 =>
cnd v57
(Hold (W prog J 171 h.length 5 (subC [1, 1, 1, 1, 1, 1, 1, 1, 1, 0, 1] (codeOf f5)) (RG.p (RG.p (RG.p (RG.p (RG.p (RG.p (RG.p (RG.p (RG.p (RG.p (RG.p (RG.p (RG.p (RG.p (RG.p (RG.p (RG.p (RG.p (RG.p (RG.p (RG.p (RG.p (RG.p (RG.p (RG.p (RG.p (RG.p (RG.p (RG.p (RG.p (RG.p (RG.p (RG.p (RG.p (RG.p (RG.p (RG.p (RG.p (RG.p (RG.p (RG.p (RG.p (RG.p (RG.p (RG.p (RG.p (RG.p (RG.p (RG.p (RG.p (RG.p (RG.p (RG.p (RG.p (RG.p (RG.p (RG.p (RG.p (RG.p (RG.p (RG.p (RG.p (RG.p (RG.p (RG.p (RG.p (RG.p (RG.p (RG.p (RG.p (RG.p (RG.p (RG.p (RG.mk (regs [a0]) []) 2 (Value.bool false)) 16 a0) 17 v1) 3 v1) 18 v1) 19 v3) 4 v5) 20 v8) 21 v9) 5 v11) 22 v1) 23 v14) 24 v15) 25 v16) 26 v17) 27 v19) 28 v20) 29 v1) 30 v22) 31 v23) 32 v24) 33 v25) 34 v26) 35 v27) 37 v1) 38 v28) 39 v29) 40 v30) 36 v31) 42 v33) 43 v34) 41 v35) 44 v38) 45 v39) 46 v1) 47 v41) 48 v42) 6 v42) 50 v44) 51 v42) 52 v45) 49 v45) 53 v47) 54 v48) 7 v47) 8 v48) 56 v49) 57 v42) 58 v50) 55 v50) 59 v52) 60 v53) 9 v52) 10 v53) 61 v48) 62 v54) 63 v54) 63 (Value.bool false)) 64 v53) 65 v55) 66 v55) 67 v55) 67 (Value.bool false)) 68 v47) 69 v56) 70 v57) 71 v57) 72 v57) 72 (Value.bool true)) 73 undef) 74 undef) 75 undef) 76 (Value.bool true)) h51 (contX pl5 prog J 171 h.length 5 ct5 [1, 1, 1, 1, 1, 1, 1, 1, 1, 0, 1] (codeOf f5) [] (RetQ prog [.tmp 2] h.length K))))
(aLenS v52 fun v58 =>
aBin prog .neq 3 v58 (vint 40) fun v59 =>
Hold (W prog J 171 h.length 5 (subC [1, 1, 1, 1, 1, 1, 1, 1, 1, 0, 1] (codeOf f5)) (RG.p (RG.p (RG.p (RG.p (RG.p (RG.p (RG.p (RG.p (RG.p (RG.p (RG.p (RG.p (RG.p (RG.p (RG.p (RG.p (RG.p (RG.p (RG.p (RG.p (RG.p (RG.p (RG.p (RG.p (RG.p (RG.p (RG.p (RG.p (RG.p (RG.p (RG.p (RG.p (RG.p (RG.p (RG.p (RG.p (RG.p (RG.p (RG.p (RG.p (RG.p (RG.p (RG.p (RG.p (RG.p (RG.p (RG.p (RG.p (RG.p (RG.p (RG.p (RG.p (RG.p (RG.p (RG.p (RG.p (RG.p (RG.p (RG.p (RG.p (RG.p (RG.p (RG.p (RG.p (RG.p (RG.p (RG.p (RG.p (RG.p (RG.p (RG.p (RG.p (RG.p (RG.mk (regs [a0]) []) 2 (Value.bool false)) 16 a0) 17 v1) 3 v1) 18 v1) 19 v3) 4 v5) 20 v8) 21 v9) 5 v11) 22 v1) 23 v14) 24 v15) 25 v16) 26 v17) 27 v19) 28 v20) 29 v1) 30 v22) 31 v23) 32 v24) 33 v25) 34 v26) 35 v27) 37 v1) 38 v28) 39 v29) 40 v30) 36 v31) 42 v33) 43 v34) 41 v35) 44 v38) 45 v39) 46 v1) 47 v41) 48 v42) 6 v42) 50 v44) 51 v42) 52 v45) 49 v45) 53 v47) 54 v48) 7 v47) 8 v48) 56 v49) 57 v42) 58 v50) 55 v50) 59 v52) 60 v53) 9 v52) 10 v53) 61 v48) 62 v54) 63 v54) 63 (Value.bool false)) 64 v53) 65 v55) 66 v55) 67 v55) 67 (Value.bool false)) 68 v47) 69 v56) 70 v57) 71 v57) 72 v57) 72 (Value.bool false)) 73 v52) 74 v58) 75 v59) 76 v59) h51 (contX pl5 prog J 171 h.length 5 ct5 [1, 1, 1, 1, 1, 1, 1, 1, 1, 0, 1] (codeOf f5) [] (RetQ prog [.tmp 2] h.length K)))))))))))) := top_eq pok5 ct5 (by kernel_rfl)
theorem g5 (hJ : Closed prog main J) {a0 : Value} (hs : heapOk h → W prog J 171 h.length 5 (codeOf f5) (RG.mk (regs [a0]) []) h (RetQ prog [.tmp 2] h.length K)) : Good prog J 5 [a0] h K :=
  good_of_W hJ mixed at5 body5 (by kernel_rfl) (Nat.le_of_ble_eq_true rfl) hs
end
section
variable {main : Bool} {J : JT} {n0 : Nat} {h : List AObj} {K : Value → List AObj → Prop}
def pl12 : Plans := [(13, true, .take 0 (.take 1 (.take 4 (.take 5 (.alt 2 false (.alt 3 false (.last 6 false (.last 7 false (.take 8 (.fin)))) (.last 6 false (.last 3 false (.last 7 false (.take 8 (.fin)))))) (.last 6 false (.last 2 false (.last 3 false (.last 7 false (.take 8 (.fin)))))))))))]
def ct12 : Cuts := .bin (.go) (.bin (.go) (.bin (.go) (.bin (.go) (.bin (.go) (.bin (.go) (.bin (.go) (.bin (.go) (.bin (.bin (.go) (.cut (.go))) (.bin (.bin (.go) (.un (.un (.bin (.go) (.bin (.un (.bin (.go) (.cut (.bin (.go) (.bin (.go) (.bin (.go) (.bin (.go) (.cut (.go))))))))) (.go)))))) (.go))))))))))
theorem pok12 : plansOk prog pl12 (codeOf f12) = true := by kernel_rfl
theorem e12 {a0 : Value} : W prog J 120 h.length 12 (codeOf f12) (RG.mk (regs [a0]) []) h (RetQ prog [.tmp 2] h.length K) =
(Good prog J 20 [a0] h fun v1 h2 =>
Good prog J 21 [v1, (vint 3), (vint 12)] h2 fun v3 h4 =>
aAlloc [(vint 0), (vint 0), (vint 0), (Value.slice none 0 0)] h4 fun v5 h6 =>
aStore 4 v5 v3 h6 fun h7 =>
aOff v5 0 fun v8 =>
aOff v8 1 fun v9 =>
aLoad false 1 v9 h7 fun v10 =>
aOff v5 0 fun v11 =>
aOff v11 0 fun v12 =>
aStore 1 v12 v10 h7 fun h13 =>
aLoad true 4 v5 h13 fun v14 =>
Good prog J 36 [v1, v14, (vint 5)] h13 fun v15 h16 =>
aLoad true 4 v5 h16 fun v17 =>
Good prog J 53 [v17, v15] h16 fun v18 h19 =>
aExt v18 0 fun v20 =>
aExt v18 1 fun v21 =>
aLoad true 4 v5 h19 fun v22 =>
Good prog J 52 [v22, v15] h19 fun v23 h24 =>
aExt v23 0 fun v25 =>
aExt v23 1 fun v26 =>
aLoad true 4 v5 h24 fun v27 =>
Good prog J 38 [v27, v15] h24 fun v28 h29 =>
aExt v28 0 fun v30 =>
aExt v28 1 fun v31 =>
aBin prog .neq 39 v21 (vint 0) fun v32 =>
cnd v32
(Hold (W prog J 120 h.length 12 (subC [1, 1, 1, 1, 1, 1, 1, 1, 0, 1] (codeOf f12)) (RG.p (RG.p (RG.p (RG.p (RG.p (RG.p (RG.p (RG.p (RG.p (RG.p (RG.p (RG.p (RG.p (RG.p (RG.p (RG.p (RG.p (RG.p (RG.p (RG.p (RG.p (RG.p (RG.p (RG.p (RG.p (RG.p (RG.p (RG.p (RG.p (RG.p (RG.p (RG.p (RG.p (RG.p (RG.p (RG.p (RG.p (RG.p (RG.p (RG.p (RG.p (RG.p (RG.p (RG.p (RG.p (RG.p (RG.p (RG.p (RG.p (RG.p (RG.p (RG.p (RG.p (RG.p (RG.p (RG.p (RG.mk (regs [a0]) []) 2 (Value.bool false)) 20 a0) 21 v1) 3 v1) 22 v1) 23 v3) 4 v5) 24 v8) 25 v9) 26 v10) 27 v11) 28 v12) 29 v1) 30 v14) 31 v15) 5 v15) 33 v17) 34 v15) 35 v18) 32 v18) 36 v20) 37 v21) 6 v20) 7 v21) 39 v22) 40 v15) 41 v23) 38 v23) 42 v25) 43 v26) 8 v25) 9 v26) 45 v27) 46 v15) 47 v28) 44 v28) 48 v30) 49 v31) 10 v30) 11 v31) 50 v21) 51 v32) 52 v32) 52 (Value.bool true)) 53 undef) 54 undef) 55 (Value.bool true)) 56 (Value.bool true)) 56 (Value.bool true)) 57 undef) 58 undef) 59 undef) 60 undef) 61 undef) 62 undef) 63 (Value.bool true)) h29 (contX pl12 prog J 120 h.length 12 ct12 [1, 1, 1, 1, 1, 1, 1, 1, 0, 1] (codeOf f12) [] (RetQ prog [.tmp 2] h.length K))))
(aBin prog .neq 39 v26 (vint 0) fun v33 =>
cnd v33
(Hold (W prog J 120 h.length 12 (subC [1, 1, 1, 1, 1, 1, 1, 1, 0, 1] (codeOf f12)) (RG.p (RG.p (RG.p (RG.p (RG.p (RG.p (RG.p (RG.p (RG.p (RG.p (RG.p (RG.p (RG.p (RG.p (RG.p (RG.p (RG.p (RG.p (RG.p (RG.p (RG.p (RG.p (RG.p (RG.p (RG.p (RG.p (RG.p (RG.p (RG.p (RG.p (RG.p (RG.p (RG.p (RG.p (RG.p (RG.p (RG.p (RG.p (RG.p (RG.p (RG.p (RG.p (RG.p (RG.p (RG.p (RG.p (RG.p (RG.p (RG.p (RG.p (RG.p (RG.p (RG.p (RG.p (RG.p (RG.p (RG.mk (regs [a0]) []) 2 (Value.bool false)) 20 a0) 21 v1) 3 v1) 22 v1) 23 v3) 4 v5) 24 v8) 25 v9) 26 v10) 27 v11) 28 v12) 29 v1) 30 v14) 31 v15) 5 v15) 33 v17) 34 v15) 35 v18) 32 v18) 36 v20) 37 v21) 6 v20) 7 v21) 39 v22) 40 v15) 41 v23) 38 v23) 42 v25) 43 v26) 8 v25) 9 v26) 45 v27) 46 v15) 47 v28) 44 v28) 48 v30) 49 v31) 10 v30) 11 v31) 50 v21) 51 v32) 52 v32) 52 (Value.bool false)) 53 v26) 54 v33) 55 v33) 56 v33) 56 (Value.bool true)) 57 undef) 58 undef) 59 undef) 60 undef) 61 undef) 62 undef) 63 (Value.bool true)) h29 (contX pl12 prog J 120 h.length 12 ct12 [1, 1, 1, 1, 1, 1, 1, 1, 0, 1] (codeOf f12) [] (RetQ prog [.tmp 2] h.length K))))
(aBin prog .neq 39 v31 (vint 0) fun v34 =>
cnd v34
(aBin prog .neq 39 v31 (vint 11) fun v35 =>
Hold (W prog J 120 h.length 12 (subC [1, 1, 1, 1, 1, 1, 1, 1, 0, 1] (codeOf f12)) (RG.p (RG.p (RG.p (RG.p (RG.p (RG.p (RG.p (RG.p (RG.p (RG.p (RG.p (RG.p (RG.p (RG.p (RG.p (RG.p (RG.p (RG.p (RG.p (RG.p (RG.p (RG.p (RG.p (RG.p (RG.p (RG.p (RG.p (RG.p (RG.p (RG.p (RG.p (RG.p (RG.p (RG.p (RG.p (RG.p (RG.p (RG.p (RG.p (RG.p (RG.p (RG.p (RG.p (RG.p (RG.p (RG.p (RG.p (RG.p (RG.p (RG.p (RG.p (RG.p (RG.p (RG.p (RG.p (RG.p (RG.p (RG.mk (regs [a0]) []) 2 (Value.bool false)) 20 a0) 21 v1) 3 v1) 22 v1) 23 v3) 4 v5) 24 v8) 25 v9) 26 v10) 27 v11) 28 v12) 29 v1) 30 v14) 31 v15) 5 v15) 33 v17) 34 v15) 35 v18) 32 v18) 36 v20) 37 v21) 6 v20) 7 v21) 39 v22) 40 v15) 41 v23) 38 v23) 42 v25) 43 v26) 8 v25) 9 v26) 45 v27) 46 v15) 47 v28) 44 v28) 48 v30) 49 v31) 10 v30) 11 v31) 50 v21) 51 v32) 52 v32) 52 (Value.bool false)) 53 v26) 54 v33) 55 v33) 56 v33) 56 (Value.bool false)) 57 v31) 58 v34) 59 v34) 59 (Value.bool true)) 60 v31) 61 v35) 62 v35) 63 v35) h29 (contX pl12 prog J 120 h.length 12 ct12 [1, 1, 1, 1, 1, 1, 1, 1, 0, 1] (codeOf f12) [] (RetQ prog [.tmp 2] h.length K))))
(Hold (W prog J 120 h.length 12 (subC [1, 1, 1, 1, 1, 1, 1, 1, 0, 1] (codeOf f12)) (RG.p (RG.p (RG.p (RG.p (RG.p (RG.p (RG.p (RG.p (RG.p (RG.p (RG.p (RG.p (RG.p (RG.p (RG.p (RG.p (RG.p (RG.p (RG.p (RG.p (RG.p (RG.p (RG.p (RG.p (RG.p (RG.p (RG.p (RG.p (RG.p (RG.p (RG.p (RG.p (RG.p (RG.p (RG.p (RG.p (RG.p (RG.p (RG.p (RG.p (RG.p (RG.p (RG.p (RG.p (RG.p (RG.p (RG.p (RG.p (RG.p (RG.p (RG.p (RG.p (RG.p (RG.p (RG.p (RG.p (RG.p (RG.mk (regs [a0]) []) 2 (Value.bool false)) 20 a0) 21 v1) 3 v1) 22 v1) 23 v3) 4 v5) 24 v8) 25 v9) 26 v10) 27 v11) 28 v12) 29 v1) 30 v14) 31 v15) 5 v15) 33 v17) 34 v15) 35 v18) 32 v18) 36 v20) 37 v21) 6 v20) 7 v21) 39 v22) 40 v15) 41 v23) 38 v23) 42 v25) 43 v26) 8 v25) 9 v26) 45 v27) 46 v15) 47 v28) 44 v28) 48 v30) 49 v31) 10 v30) 11 v31) 50 v21) 51 v32) 52 v32) 52 (Value.bool false)) 53 v26) 54 v33) 55 v33) 56 v33) 56 (Value.bool false)) 57 v31) 58 v34) 59 v34) 59 (Value.bool false)) 60 undef) 61 undef) 62 (Value.bool false)) 63 (Value.bool false)) h29 (contX pl12 prog J 120 h.length 12 ct12 [1, 1, 1, 1, 1, 1, 1, 1, 0, 1] (codeOf f12) [] (RetQ prog [.tmp 2] h.length K))))))) := top_eq pok12 ct12 (by kernel_rfl)
end
section
variable {main : Bool} {J : JT} {n0 : Nat} {h : List AObj} {K : Value → List AObj → Prop}
def pl52 : Plans := []
def ct52 : Cuts := .go
theorem pok52 : plansOk prog pl52 (codeOf f52) = true := by kernel_rfl
theorem e52 {a0 a1 : Value} : W prog J 16 h.length 52 (codeOf f52) (RG.mk (regs [a0, a1]) []) h (RetQ prog [.tmp 4, .tmp 5] h.length K) =
(aBox a0 h fun v1 h2 =>
aLoad true 4 v1 h2 fun v3 =>
Good prog J 86 [v3, a1] h2 fun v4 h5 =>
aBin prog .neq 39 v4 (vint 0) fun v6 =>
cnd v6
(retL h.length K [] [(Value.slice none 0 0), v4] h5)
(aLoad true 4 v1 h5 fun v7 =>
Good prog J 94 [v7, a1] h5 fun v8 h9 =>
retL h.length K [] [v8, (vint 0)] h9)) := top_eq pok52 ct52 (by kernel_rfl)
def pl53 : Plans := []
def ct53 : Cuts := .go
theorem pok53 : plansOk prog pl53 (codeOf f53) = true := by kernel_rfl
theorem e53 {a0 a1 : Value} : W prog J 29 h.length 53 (codeOf f53) (RG.mk (regs [a0, a1]) []) h (RetQ prog [.tmp 4, .tmp 5] h.length K) =
(aBox a0 h fun v1 h2 =>
aLoad true 4 v1 h2 fun v3 =>
Good prog J 86 [v3, a1] h2 fun v4 h5 =>
aBin prog .neq 39 v4 (vint 0) fun v6 =>
cnd v6
(retL h.length K [] [(Value.slice none 0 0), v4] h5)
(aOff v1 3 fun v7 =>
aLoad false 1 v7 h5 fun v8 =>
aLenS v8 fun v9 =>
Sem J 29 h.length 53 (subC [1, 1, 1, 0, 1, 0] (codeOf f53)) (RG.p (RG.p (RG.p (RG.p (RG.p (RG.p (RG.p (RG.p (RG.p (RG.p (RG.p (RG.p (RG.p (RG.p (RG.mk (regs [a0, a1]) []) 2 v1) 4 (Value.slice none 0 0)) 5 (vint 0)) 9 v3) 10 a1) 11 v4) 6 v4) 12 v4) 13 v6) 7 (Value.slice none 0 0)) 15 v7) 16 v8) 17 v9) 18 (vint 0)) h5 (contX pl53 prog J 29 h.length 53 ct53 [1, 1, 1, 0, 1, 0] (codeOf f53) [] (RetQ prog [.tmp 4, .tmp 5] h.length K)))) := top_eq pok53 ct53 (by kernel_rfl)
end
end Go.Proofs.Ytindillghipjjaa
namespace Go.Proofs.Ytindillghipjjaa
open Go.Conc Go.Proofs.Try
set_option maxRecDepth 100000
section
variable {main : Bool} {J : JT} {h H : List AObj} {K : Value → List AObj → Prop} {KV : Value → Prop} {n0 : Nat}
theorem len0 {K' : Value → Prop} (hk : K' (vint 0)) : aLenS (.slice none 0 0) K' := hk
end
def Found (n : Nat) (H : List AObj) (v : Value) : Option (List Int) → Prop
  | none => v = .slice none 0 0
  | some r => ∃ o, OwnX H 1 (r.map vint) r.length v (some o) ∧ n ≤ o
theorem Found.val {n : Nat} {H : List AObj} {v : Value} {o : Option (List Int)} (a : Found n H v o) : ∃ b k c, v = .slice b k c ∧ b.isNone = o.isNone := by
  cases o with
  | none => exact ⟨none, 0, 0, a, rfl⟩
  | some r =>
    obtain ⟨o, O, _⟩ := a
    obtain ⟨h1, h2, ⟨_, _, h3⟩ | ⟨i, c, sz, hi, rfl, h5, h6⟩⟩ := O
    · cases h3
    · exact ⟨_, _, _, rfl, rfl⟩
theorem Found.unk {n : Nat} {H : List AObj} {v : Value} {o : Option (List Int)} (a : Found n H v o) : v ≠ unk := by
  obtain ⟨b, k, c, rfl, _⟩ := a.val
  intro e
  cases e
theorem Found.to {n m : Nat} {H H' : List AObj} {v : Value} {o : Option (List Int)} (a : Found n H v o) (hm : m ≤ n) {X : List Nat} (S : SameX X H H') (hX : ∀ x ∈ X, x < n) : Found m H' v o := by
  cases o with
  | none => exact a
  | some r =>
    obtain ⟨o, O, h⟩ := a
    exact ⟨o, ownX_keep O S fun i hi => by cases hi; exact fun hx => absurd (hX _ hx) (by omega), by omega⟩
section
variable {main : Bool} {J : JT} {h H : List AObj} {K : Value → List AObj → Prop} {KV : Value → Prop} {HL : List AObj → Prop} {n0 : Nat}
theorem good24 (hJ : Closed prog main J) {v fv : Value} {t : Tro} (ht : TroAt H v t fv) (hl : t.flocks.length < 1000000)
    (hK : ∀ H' fv' o, SameX [] H H' → OwnX H' 2 (t.flocks.flatMap Dro.cells) t.flocks.length fv' (some o) → H.length ≤ o → K (.agg ⟨troCells t fv'⟩) H') : Good prog J 24 [v] H K := by
  refine g24 hJ fun ok => ?_
  rw [e24, ht.val]
  have kf := (sli_val ht.fl).2.2
  refine qBox (tro_one ht) fun H1 p1 e1 S1 c1 l1 => qAl fun H2 p2 e2 S2 c2 l2 => ⟨by decide, fillI (qNew fun H3 p3 e3 S3 c3 l3 => ?_)⟩
  have c3 : H3[p3]? = some (.cells [] true 0) := c3
  have T3 : SameX [] H H3 := (S1.trans S2).trans S3
  have c13 := S3.get (S2.get c1 (by simp)) (by simp)
  have c23 := S3.get c2 (by simp)
  refine offI (ldI (v := fv) c13 rfl kf ⟨by decide, ?_⟩)
  refine appX c3 (by omega) hl (T3.sli ht.fl (by simp)) fun fv' H4 p4 O4 S4 hp4 => offI ?_
  refine qSt (S4.get c13 (by simp)) (by simp [troCells]) (ownX_val O4).1 (ownX_val O4).2.1 fun H5 S5 c5 l5 => ?_
  have hS4 := S4.1
  have O5 := ownX_keep O4 S5 (by intro i hi; cases hi; simp; omega)
  have tA : TroAt H5 (.agg ⟨troCells t fv'⟩) t fv' := ⟨rfl, ownX_sli O5⟩
  refine load_part (c := troCells t fv') c5 (by simp [troCells]) rfl (tro_kn tA) ?_
  refine qStA (c := troCells t fv') (S5.get (S4.get c23 (by simp)) (by simp; omega)) rfl rfl (tro_one tA) fun H6 S6 c6 l6 => ?_
  have O6 := ownX_keep O5 S6 (by intro i hi; cases hi; simp; omega)
  have T6 : SameX [] H H6 := ((T3.trans S4).thru S5 (by simp; omega)).thru S6 (by simp; omega)
  refine retQ_same rfl (resW_cell (gg := true) (s := 4) (by kernel_rfl) ?_)
  refine load_part (c := troCells t fv') c6 (by simp [troCells]) rfl (tro_kn tA) (resW_nil ?_)
  exact hK H6 fv' p4 T6 O6 (by omega)
end
section
variable {main : Bool} {J : JT} {h H : List AObj} {K : Value → List AObj → Prop} {KV : Value → Prop} {n0 : Nat}
theorem good25X (hJ : Closed prog main J) {av : Value} {xs : List Int} (ha : Sli H av 1 xs.length (xs.map vint)) (hl : xs.length < 1000000)
    (hK : ∀ H' v o, SameX [] H H' → OwnX H' 1 (xs.map vint) xs.length v (some o) → H.length ≤ o → K v H') : Good prog J 25 [av] H K := by
  refine g25 hJ fun ok => ?_
  rw [e25]
  refine ⟨by decide, fillI (qNew fun H1 p1 e1 S1 c1 l1 => ⟨by decide, ?_⟩)⟩
  have c1 : H1[p1]? = some (.cells [] true 0) := c1
  refine appX c1 (by omega) hl (S1.sli ha (by simp)) fun v' H2 p' O S hp => retL_same ?_ (hK H2 v' p' (S1.trans S) O (by omega))
  intro v hv
  have : v = v' := by simpa using hv
  subst this
  intro e
  have := (ownX_val O).2.2
  rw [e] at this
  cases this
end
def OwnL (n : Nat) (H : List AObj) (v : Value) (ls : List (List Int)) (o : Option Nat) : Prop :=
  (∀ j, o = some j → n ≤ j) ∧ ∃ cs, OwnX H 1 cs ls.length v o ∧ ∀ (i : Nat) l, ls[i]? = some l → ∃ lv b, cs[i]? = some lv ∧ OwnX H 1 (l.map vint) l.length lv b ∧ ∀ j, b = some j → some j ≠ o ∧ n ≤ j
theorem OwnL.keep {n : Nat} {H H' : List AObj} {v : Value} {ls : List (List Int)} {o : Option Nat} (a : OwnL n H v ls o) (S : SameX [] H H') : OwnL n H' v ls o := by
  obtain ⟨h1, cs, O, he⟩ := a
  refine ⟨h1, cs, ownX_keep O S (by simp), fun i l hl => ?_⟩
  obtain ⟨lv, b, e1, e2, e3⟩ := he i l hl
  exact ⟨lv, b, e1, ownX_keep e2 S (by simp), e3⟩
section
variable {main : Bool} {J : JT} {h H : List AObj} {K : Value → List AObj → Prop} {KV : Value → Prop} {HL : List AObj → Prop} {n0 : Nat}
theorem OwnL.get {n i : Nat} {v : Value} {ls : List (List Int)} {o : Option Nat} (a : OwnL n H v ls o) {l : List Int} (hl : ls[i]? = some l) {K2 : Value → Value → Prop} (hK : ∀ p lv b, OwnX H 1 (l.map vint) l.length lv b → (∀ j, b = some j → n ≤ j) → K2 p lv) : aIdx 1 v (vint (i : Nat)) fun p => aLoad false 1 p H (K2 p) := by
  obtain ⟨h1, cs, O, he⟩ := a
  obtain ⟨lv, b, e1, e2, e3⟩ := he i l hl
  have hi := (List.getElem?_eq_some_iff.1 hl).1
  exact idx_load (ownX_sli O) ⟨by omega, by omega⟩ (by rw [Int.toNat_natCast]; exact e1) fun p => hK p lv b e2 fun j hj => (e3 j hj).2
theorem app_zero {x y : Value} {p : Nat} (hp : H[p]? = some (.cells [x] true 0)) (hk : kn1 x = true) (hy : Sli H y 1 0 []) (hK : K (.slice (some ⟨p, 0, none⟩) 1 1) H) : aApp 1 (.slice (some ⟨p, 0, none⟩) 1 1) y H K := by
  have hfz : (1000 : Nat) < fz := by decide
  have hrm : (2000 : Nat) < room := by decide
  obtain ⟨yb, yc, rfl, hyk, hh⟩ := id hy
  refine ⟨by omega, src_sli hy (by omega) ?_⟩
  simp only [hp]
  refine ⟨⟨by simp, by simp [kn]; exact hk⟩, fun _ => ⟨fun _ => ⟨trivial, by simp, ?_⟩, fun h => absurd h (by omega)⟩, fun h => absurd h (by omega)⟩
  have e : H.set p (.cells (wrAt [x] (0 + 1 * 1) []) true 0) = H := by
    apply List.ext_getElem?
    intro i
    rw [List.getElem?_set]
    split
    · rename_i e
      subst e
      rw [if_pos (lt_of_get hp)]
      simpa [wrAt] using hp.symm
    · rfl
  rw [e]
  exact hK
end
end Go.Proofs.Ytindillghipjjaa
namespace Go.Proofs.Ytindillghipjjaa
open Go.Conc Go.Proofs.Try
structure Ref where
  now : Int
  next : Nat
  out : List Int
def refStep (t : Tro) (cs : List Int) (os : List Nat) (h : Nat) (s : Ref) : Ref :=
  if s.next < os.length then
    if (h : Int) ≥ cs.getD (os.getD s.next 0) 0 ∧ s.now ≥ (droAt t (os.getD s.next 0)).drinks then
      ⟨min t.well.holds (s.now - (droAt t (os.getD s.next 0)).drinks + t.well.fill), s.next + 1, s.out.set (os.getD s.next 0) h⟩
    else ⟨min t.well.holds (s.now + t.well.fill), s.next, s.out⟩
  else s
def refSt (t : Tro) (cs : List Int) (os : List Nat) : Nat → Ref
  | 0 => ⟨t.well.now, 0, List.replicate os.length 0⟩
  | h + 1 => refStep t cs os h (refSt t cs os h)
def gapS (out cs : List Int) (x : Nat) : Int := out.getD x 0 - cs.getD x 0
def sumS (out cs : List Int) : List Nat → Int
  | [] => 0
  | x :: l => gapS out cs x + sumS out cs l
def refW (t : Tro) (cs : List Int) (os : List Nat) : Int :=
  if (refSt t cs os 257).next = os.length then sumS (refSt t cs os 257).out cs (List.range os.length) else -1
section
variable {t : Tro} {cs out : List Int} {os l : List Nat} {s : Srv}
theorem sumS_app : ∀ {l l' : List Nat}, sumS out cs (l ++ l') = sumS out cs l + sumS out cs l'
  | [], l' => by simp [sumS]
  | x :: l, l' => by
    have : sumS out cs (l ++ l') = sumS out cs l + sumS out cs l' := sumS_app
    show gapS out cs x + sumS out cs (l ++ l') = gapS out cs x + sumS out cs l + sumS out cs l'
    omega
theorem sumS_one {x : Nat} : sumS out cs [x] = gapS out cs x := by simp [sumS]
theorem sumS_range {k : Nat} : sumS out cs (List.range (k + 1)) = sumS out cs (List.range k) + gapS out cs k := by
  rw [List.range_succ, sumS_app, sumS_one]
theorem sumS_set {f : Nat} {v : Int} : ∀ {l : List Nat}, f ∉ l → sumS (out.set f v) cs l = sumS out cs l
  | [], _ => rfl
  | x :: l, h => by
    have h1 : sumS (out.set f v) cs l = sumS out cs l := sumS_set fun y => h (List.mem_cons_of_mem _ y)
    have hx : f ≠ x := fun e => h (e ▸ List.mem_cons_self)
    show gapS (out.set f v) cs x + _ = gapS out cs x + _
    have : gapS (out.set f v) cs x = gapS out cs x := by
      unfold gapS
      rw [List.getD_eq_getElem?_getD, List.getElem?_set_ne hx, ← List.getD_eq_getElem?_getD]
    omega
theorem refSt_end {h : Nat} (he : ¬ (refSt t cs os h).next < os.length) : ∀ k, refSt t cs os (h + k) = refSt t cs os h
  | 0 => rfl
  | k + 1 => by
    have ih := refSt_end he k
    show refStep t cs os (h + k) (refSt t cs os (h + k)) = _
    rw [ih]
    unfold refStep
    rw [if_neg he]
theorem refSt_stuck {h : Nat} (hn : (refSt t cs os h).next < os.length) (h1 : (h : Int) ≥ cs.getD (os.getD (refSt t cs os h).next 0) 0) (h2 : (refSt t cs os h).now < (droAt t (os.getD (refSt t cs os h).next 0)).drinks) (h3 : min t.well.holds ((refSt t cs os h).now + t.well.fill) = (refSt t cs os h).now) : ∀ k, refSt t cs os (h + k) = refSt t cs os h
  | 0 => rfl
  | k + 1 => by
    have ih := refSt_stuck hn h1 h2 h3 k
    show refStep t cs os (h + k) (refSt t cs os (h + k)) = _
    rw [ih]
    unfold refStep
    rw [if_pos hn, if_neg (by omega), h3]
theorem perms3 {n : Nat} (h : 1 ≤ n ∧ n ≤ 3) {os : List Nat} (ho : os ∈ perms n n []) : os.Nodup ∧ os.length = n ∧ (∀ x ∈ os, x < n) ∧ ∀ out cs : List Int, sumS out cs os = sumS out cs (List.range n) := by
  have hn : n = 1 ∨ n = 2 ∨ n = 3 := by omega
  rcases hn with rfl | rfl | rfl
  · have e : perms 1 1 [] = [[0]] := by decide
    rw [e] at ho
    simp only [List.mem_singleton] at ho
    subst ho
    exact ⟨by decide, by decide, by decide, fun _ _ => rfl⟩
  · have e : perms 2 2 [] = [[0, 1], [1, 0]] := by decide
    rw [e] at ho
    simp only [List.mem_cons, List.not_mem_nil, or_false] at ho
    have e2 : List.range 2 = [0, 1] := by decide
    rw [e2]
    rcases ho with rfl | rfl
    all_goals exact ⟨by decide, by decide, by decide, fun out cs => by first | rfl | (simp only [sumS]; omega)⟩
  · have e : perms 3 3 [] = [[0, 1, 2], [0, 2, 1], [1, 0, 2], [1, 2, 0], [2, 0, 1], [2, 1, 0]] := by decide
    rw [e] at ho
    simp only [List.mem_cons, List.not_mem_nil, or_false] at ho
    have e2 : List.range 3 = [0, 1, 2] := by decide
    rw [e2]
    rcases ho with rfl | rfl | rfl | rfl | rfl | rfl
    all_goals exact ⟨by decide, by decide, by decide, fun out cs => by first | rfl | (simp only [sumS]; omega)⟩
theorem srvIn_of (ok : servE t cs = 0) (ho : os ∈ allOf26 cs) : SrvIn t cs os := by
  obtain ⟨a, b, c⟩ := servE_ok ok
  have wl := (troE_well a).2.1
  obtain ⟨p1, p2, p3, p4⟩ := perms3 (n := cs.length) (by omega) ho
  exact ⟨a, b, c, by omega, by omega, fun o hm => by have := p3 o hm; omega⟩
def srvH (os : List Nat) (s : Srv) : Nat := (48 - s.hour) + (os.length - 1 - s.next) * 41 + (40 - s.now).toNat
theorem ref_is (I : SrvIn t cs os) (hnd : os.Nodup) : ∀ (m : Nat) (s : Srv), srvM t os s = m → SrvOk t os s → (refSt t cs os s.hour).now = s.now → (refSt t cs os s.hour).next = s.next → s.wait = sumS (refSt t cs os s.hour).out cs (os.take s.next) →
      (∀ x, x ∈ os → x < (refSt t cs os s.hour).out.length) → s.hour + srvH os s ≤ 200 →
      srvFrom t cs os s = if (refSt t cs os 257).next = os.length then sumS (refSt t cs os 257).out cs os else -1 := by
  intro m
  induction m using Nat.strongRecOn with
  | ind m ih =>
    intro s hm O e1 e2 e3 e4 hb
    obtain ⟨w1, w2, w3⟩ := (troE_well I.ok).1
    obtain ⟨o, ho, g1, hol, ⟨c, _, g2, c1, c2⟩, d, _, g3, d1, d2⟩ := I.at_ O
    have hlo := O.lo
    have hhi := O.hi
    have hne := O.next
    have hstep : refSt t cs os (s.hour + 1) = refStep t cs os s.hour (refSt t cs os s.hour) := rfl
    have hcl : os.take (s.next + 1) = os.take s.next ++ [o] := by rw [List.take_add_one, ho]; rfl
    have hom : o ∈ os := List.mem_of_getElem? ho
    have hnm : o ∉ os.take s.next := by
      intro hx
      obtain ⟨j, hj⟩ := List.getElem?_of_mem hx
      have hjl := (List.getElem?_eq_some_iff.1 hj).1
      rw [List.getElem?_take] at hj
      split at hj
      · rename_i hjn
        have hjo : j < os.length := by omega
        have a1 := (List.getElem?_eq_some_iff.1 hj).2
        have a2 := (List.getElem?_eq_some_iff.1 ho).2
        exact (List.pairwise_iff_getElem.1 hnd) j s.next hjo hne hjn (by rw [a1, a2])
      · cases hj
    cases hs : srvStep t cs os s with
    | inr r =>
      rw [srvFrom_inr hs]
      unfold srvStep at hs
      simp only [g1, g2, g3] at hs
      split at hs
      · rename_i hc
        split at hs
        · rename_i hl
          injection hs with hs
          have e5 : refSt t cs os (s.hour + 1) = ⟨min t.well.holds (s.now - d.drinks + t.well.fill), s.next + 1, (refSt t cs os s.hour).out.set o s.hour⟩ := by
            rw [hstep]
            unfold refStep
            rw [e1, e2, if_pos hne, g1, g2, g3, if_pos hc]
          have e6 : refSt t cs os 257 = refSt t cs os (s.hour + 1) := by
            have := refSt_end (t := t) (cs := cs) (os := os) (h := s.hour + 1) (by rw [e5]; dsimp only; omega) (257 - (s.hour + 1))
            rw [show s.hour + 1 + (257 - (s.hour + 1)) = 257 from by omega] at this
            exact this
          rw [e6, e5]
          dsimp only
          rw [if_pos hl]
          have e7 : os = os.take s.next ++ [o] := by rw [← hcl, hl, List.take_length]
          rw [congrArg (sumS ((refSt t cs os s.hour).out.set o (s.hour : Int)) cs) e7, sumS_app, sumS_one, sumS_set hnm, ← e3, ← hs]
          have : gapS ((refSt t cs os s.hour).out.set o (s.hour : Int)) cs o = s.hour - c := by
            unfold gapS
            rw [g2, List.getD_eq_getElem?_getD, List.getElem?_set_self (e4 o hom)]
            rfl
          omega
        · cases hs
      · rename_i hc
        split at hs
        · rename_i hst
          injection hs with hs
          have hwho : os.getD (refSt t cs os s.hour).next 0 = o := by rw [e2]; exact g1
          have e6 := refSt_stuck (t := t) (cs := cs) (os := os) (h := s.hour) (by rw [e2]; exact hne) (by rw [hwho, g2]; exact hst.2) (by rw [hwho, g3, e1]; have := hst.2; omega) (by rw [e1]; exact hst.1) (257 - s.hour)
          rw [show s.hour + (257 - s.hour) = 257 from by omega] at e6
          rw [e6, if_neg (by rw [e2]; omega), ← hs]
        · cases hs
    | inl s' =>
      rw [srvFrom_inl I O hs]
      obtain ⟨O', hl, hh⟩ := srv_next I O hs
      refine ih _ (by omega) s' rfl O' ?_ ?_ ?_ ?_ ?_
      all_goals rw [hh]
      all_goals unfold srvStep at hs
      all_goals simp only [g1, g2, g3] at hs
      all_goals split at hs
      all_goals rename_i hc
      all_goals split at hs
      all_goals first | (cases hs; done) | skip
      all_goals rename_i hn
      all_goals cases hs
      all_goals first
        | (rw [hstep]; unfold refStep; rw [e1, e2, if_pos hne, g1, g2, g3, if_pos hc]; done)
        | (rw [hstep]; unfold refStep; rw [e1, e2, if_pos hne, g1, g2, g3, if_neg hc]; done)
        | skip
      · rw [hstep]
        unfold refStep
        rw [e1, e2, if_pos hne, g1, g2, g3, if_pos hc]
        dsimp only
        rw [hcl, sumS_app, sumS_one, sumS_set hnm, ← e3]
        have : gapS ((refSt t cs os s.hour).out.set o (s.hour : Int)) cs o = s.hour - c := by
          unfold gapS
          rw [g2, List.getD_eq_getElem?_getD, List.getElem?_set_self (e4 o hom)]
          rfl
        omega
      · rw [hstep]
        unfold refStep
        rw [e1, e2, if_pos hne, g1, g2, g3, if_neg hc]
        exact e3
      · rw [hstep]
        unfold refStep
        rw [e1, e2, if_pos hne, g1, g2, g3, if_pos hc]
        dsimp only
        intro x hx
        rw [List.length_set]
        exact e4 x hx
      · rw [hstep]
        unfold refStep
        rw [e1, e2, if_pos hne, g1, g2, g3, if_neg hc]
        exact e4
      · unfold srvH at hb ⊢
        dsimp only at hb ⊢
        have : (os.length - 1 - s.next) * 41 = (os.length - 1 - (s.next + 1)) * 41 + 41 := by omega
        omega
      · unfold srvH at hb ⊢
        dsimp only at hb ⊢
        by_cases hh2 : (s.hour : Int) ≥ c
        · have : min t.well.holds (s.now + t.well.fill) ≠ s.now := fun e => hn ⟨e, hh2⟩
          omega
        · omega
theorem refW_is (ok : servE t cs = 0) (ho : os ∈ allOf26 cs) : refW t cs os = serveW t cs os := by
  have I := srvIn_of ok ho
  obtain ⟨a, b, c⟩ := servE_ok ok
  have wl := (troE_well a).2.1
  have ww := (troE_well a).1
  obtain ⟨p1, p2, p3, p4⟩ := perms3 (n := cs.length) (by omega) ho
  have hx : ∀ x, x ∈ os → x < (refSt t cs os 0).out.length := fun x hx => by
    show x < (List.replicate os.length (0 : Int)).length
    rw [List.length_replicate]
    have := p3 x hx
    omega
  have hb : 0 + srvH os ⟨t.well.now, 0, 0, 0⟩ ≤ 200 := by
    unfold srvH
    dsimp only
    have := I.few
    omega
  have key := ref_is I p1 _ ⟨t.well.now, 0, 0, 0⟩ rfl ⟨ww.2.1.1, ww.2.1.2, I.pos⟩ rfl rfl rfl hx hb
  unfold serveW
  rw [key]
  unfold refW
  rw [p4, p2]
end
def restTo (l : List Int) (i : Nat) : Nat → List Int
  | 0 => []
  | k + 1 => if k = i then restTo l i k else restTo l i k ++ [l.getD k 0]
theorem restTo_len (l : List Int) (i : Nat) : ∀ k, (restTo l i k).length = if k ≤ i then k else k - 1
  | 0 => by simp [restTo]
  | k + 1 => by
    have := restTo_len l i k
    unfold restTo
    split
    · rw [this]
      split <;> split <;> omega
    · rw [List.length_append, this, List.length_singleton]
      split <;> split <;> omega
def ordersR : Nat → List Int → List (List Int)
  | 0, _ => [[]]
  | n + 1, l => (List.range (n + 1)).flatMap fun i => (ordersR n (restTo l i (n + 1))).map (l.getD i 0 :: ·)
theorem orders_is {n : Nat} (h : 1 ≤ n ∧ n ≤ 3) : ordersR n ((List.range n).map Int.ofNat) = (perms n n []).map (·.map Int.ofNat) := by
  have hn : n = 1 ∨ n = 2 ∨ n = 3 := by omega
  rcases hn with rfl | rfl | rfl <;> decide
theorem ordersR_len : ∀ {n : Nat} (l : List Int), n ≤ 3 → (ordersR n l).length ≤ 3 ^ n
  | 0, _, _ => by simp [ordersR]
  | n + 1, l, h => by
    have h1 := len_flat (fun i => (ordersR n (restTo l i (n + 1))).map (l.getD i 0 :: ·)) (3 ^ n) (List.range (n + 1)) fun i => by
      rw [List.length_map]
      exact ordersR_len _ (by omega)
    rw [List.length_range] at h1
    have h2 := Nat.mul_le_mul_right (3 ^ n) h
    rw [Nat.pow_succ]
    unfold ordersR
    omega
theorem ordersR_mem : ∀ {n : Nat} {l w : List Int}, w ∈ ordersR n l → w.length = n
  | 0, l, w, h => by
    have : w = [] := by simpa [ordersR] using h
    subst this
    rfl
  | n + 1, l, w, h => by
    unfold ordersR at h
    obtain ⟨i, _, h⟩ := List.mem_flatMap.1 h
    obtain ⟨u, hu, rfl⟩ := List.mem_map.1 h
    rw [List.length_cons, ordersR_mem hu]
def partG (hd : Nat → Int) (g : Nat → List (List Int)) (i k : Nat) : List (List Int) := ((List.range i).flatMap fun j => (g j).map (hd j :: ·)) ++ ((g i).take k).map (hd i :: ·)
section
variable {hd : Nat → Int} {g : Nat → List (List Int)} {i k : Nat}
theorem partG_zero : partG hd g i 0 = (List.range i).flatMap fun j => (g j).map (hd j :: ·) := by unfold partG; simp
theorem partG_all : partG hd g i (g i).length = partG hd g (i + 1) 0 := by
  rw [partG_zero]
  unfold partG
  rw [List.take_length, List.range_succ, List.flatMap_append]
  simp
theorem partG_succ {w : List Int} (hw : (g i)[k]? = some w) : partG hd g i (k + 1) = partG hd g i k ++ [hd i :: w] := by
  unfold partG
  rw [List.take_add_one, hw, List.map_append, List.append_assoc]
  rfl
theorem partG_le {B : Nat} (hB : ∀ j, (g j).length ≤ B) : (partG hd g i k).length ≤ (i + 1) * B := by
  have h : ∀ i, ((List.range i).flatMap fun j => (g j).map (hd j :: ·)).length ≤ i * B := by
    intro i
    induction i with
    | zero => simp
    | succ i ih =>
      rw [List.range_succ, List.flatMap_append, List.length_append, Nat.succ_mul]
      have := hB i
      simp only [List.flatMap_cons, List.flatMap_nil, List.append_nil, List.length_map]
      omega
  have h1 := h i
  have h2 := hB i
  unfold partG
  rw [List.length_append, List.length_map, List.length_take, Nat.succ_mul]
  have := Nat.min_le_right k (g i).length
  omega
end
end Go.Proofs.Ytindillghipjjaa
namespace Go.Proofs.Ytindillghipjjaa
open Go.Conc Go.Proofs.Try
set_option maxRecDepth 100000
section
variable {h H : List AObj} {K : Value → List AObj → Prop}
theorem app_cons {He : List AObj} {pe : Nat} {x : Int} {w : List Int} {lv : Value} (ce : He[pe]? = some (.cells [vint x] true 0)) (hw : Sli He lv 1 w.length (w.map vint)) (hwl : w.length < 900)
    (hK : ∀ H' wv b, SameX [pe] He H' → OwnX H' 1 ((x :: w).map vint) (x :: w).length wv (some b) → (b = pe ∨ He.length ≤ b) → K wv H') : aApp 1 (.slice (some ⟨pe, 0, none⟩) 1 1) lv He K := by
  have Op := ownX_new (s := 1) (n := 1) (l := [vint x]) ce rfl rfl
  by_cases h0 : w.length = 0
  · have : w = [] := List.length_eq_zero_iff.1 h0
    subst this
    exact app_zero ce rfl hw (hK He _ pe SameX.refl Op (.inl rfl))
  · refine ownX_app Op (by omega) (by omega) (by omega) hw fun v8 H9 p9 e9 O9 S9 l9 => hK H9 v8 p9 S9 ?_ (.inr (by omega))
    have e1 : (x :: w).length = 1 + w.length := by simp; omega
    rw [e1]
    exact O9
theorem OwnL.more {lo : Nat} {H : List AObj} {ls : List (List Int)} {o : Option Nat} {v y wv : Value} {l : List Int} {bf : Nat} {K : Value → List AObj → Prop}
    (L : OwnL lo H v ls o) (hlo : lo ≤ H.length) (hpl : ls.length < 90000) (Of : OwnX H 1 (l.map vint) l.length wv (some bf)) (hbf : lo ≤ bf) (hne : some bf ≠ o) (hyv : Sli H y 1 1 [wv])
    (hK : ∀ v' H' o', SameX o.toList H H' → OwnL lo H' v' (ls ++ [l]) (some o') → H.length ≤ o' → v' ≠ unk → K v' H') : aApp 1 v y H K := by
  obtain ⟨hl0, cs, Oc, he⟩ := L
  have bfl := ownX_lt Of bf rfl
  refine ownX_more Oc (by omega) (by omega) hyv fun v' Hh ph eh Oh Sh => ?_
  have hno : ∀ j, some j ≠ o → j ∉ o.toList := fun j hj hm => hj (by rw [Option.mem_toList.1 hm])
  refine hK v' Hh ph Sh ⟨fun j hj => by cases hj; omega, cs ++ [wv], by rw [List.length_append]; exact Oh, fun m l' hl => ?_⟩ (by omega) ?_
  · have hcl : cs.length = ls.length := by have := Oc.1; omega
    rcases Nat.lt_or_ge m ls.length with hm | hm
    · rw [List.getElem?_append_left hm] at hl
      obtain ⟨lv2, b2, e2, e3, e4⟩ := he m l' hl
      refine ⟨lv2, b2, by rw [List.getElem?_append_left (by omega)]; exact e2, ownX_keep e3 Sh fun j hj => hno j (e4 j hj).1, fun j hj => ⟨?_, (e4 j hj).2⟩⟩
      have := ownX_lt e3 j hj
      intro e
      injection e with e
      omega
    · rw [List.getElem?_append_right hm] at hl
      have hm0 : m - ls.length = 0 := by
        have := (List.getElem?_eq_some_iff.1 hl).1
        simp at this
        omega
      rw [hm0] at hl
      have : l' = l := by simpa using hl.symm
      subst this
      refine ⟨wv, some bf, by rw [List.getElem?_append_right (by omega), hcl, hm0]; rfl, ownX_keep Of Sh fun j hj => ?_, fun j hj => ?_⟩
      · cases hj
        exact hno _ hne
      · cases hj
        refine ⟨fun e => ?_, hbf⟩
        injection e with e
        omega
  · have := (ownX_val Oh).2.2
    intro e
    rw [e] at this
    cases this
theorem OwnL.get' {n i : Nat} {v : Value} {ls : List (List Int)} {o : Option Nat} (a : OwnL n H v ls o) {l : List Int} (hl : ls[i]? = some l) {K2 : Value → Value → Prop}
    (hK : ∀ b0 off lv b, o = some b0 → b0 < H.length → OwnX H 1 (l.map vint) l.length lv b → (∀ j, b = some j → some j ≠ o ∧ n ≤ j) → K2 (ptr b0 off) lv) : aIdx 1 v (vint (i : Nat)) fun p => aLoad false 1 p H (K2 p) := by
  obtain ⟨h1, cs, O, he⟩ := a
  obtain ⟨lv, b, e1, e2, e3⟩ := he i l hl
  have hi := (List.getElem?_eq_some_iff.1 hl).1
  obtain ⟨_, _, ⟨h0, _⟩ | ⟨b0, c, sz, rfl, rfl, hb, _⟩⟩ := O
  · omega
  · refine idxI ⟨by omega, by omega⟩ (ldI (v := lv) hb (by simpa using e1) (ownX_val e2).2.2 (hK b0 _ lv b rfl (lt_of_get hb) e2 e3))
theorem one_nil {lo : Nat} {p : Nat} (c : H[p]? = some (.cells [.slice none 0 0] true 0)) (hp : lo ≤ p) : OwnL lo H (.slice (some ⟨p, 0, none⟩) 1 1) [[]] (some p) := by
  refine ⟨fun j hj => by cases hj; exact hp, _, ownX_new (s := 1) (n := 1) c rfl rfl, fun i l hl => ?_⟩
  cases i with
  | zero =>
    have : l = [] := by simpa using hl.symm
    subst this
    exact ⟨_, none, rfl, ⟨rfl, rfl, .inl ⟨rfl, rfl, rfl⟩⟩, by simp⟩
  | succ i => simp at hl
theorem OwnL.nil {lo : Nat} : OwnL lo H (.slice none 0 0) [] none := ⟨by simp, [], ⟨rfl, rfl, .inl ⟨rfl, rfl, rfl⟩⟩, by simp⟩
theorem OwnL.lo {n m : Nat} {v : Value} {ls : List (List Int)} {o : Option Nat} (a : OwnL n H v ls o) (h : m ≤ n) : OwnL m H v ls o := by
  obtain ⟨a1, cs, a2, a3⟩ := a
  exact ⟨fun j hj => by have := a1 j hj; omega, cs, a2, fun i l hl => by
    obtain ⟨lv, b, q1, q2, q3⟩ := a3 i l hl
    exact ⟨lv, b, q1, q2, fun j hj => ⟨(q3 j hj).1, by have := (q3 j hj).2; omega⟩⟩⟩
theorem OwnL.keepX {n : Nat} {H' : List AObj} {X : List Nat} {v : Value} {ls : List (List Int)} {o : Option Nat} (a : OwnL n H v ls o) (S : SameX X H H') (hX : ∀ x ∈ X, x < n) : OwnL n H' v ls o := by
  obtain ⟨h1, cs, O, he⟩ := a
  refine ⟨h1, cs, ownX_keep O S fun i hi hm => ?_, fun i l hl => ?_⟩
  · have := h1 i hi
    have := hX i hm
    omega
  · obtain ⟨lv, b, e1, e2, e3⟩ := he i l hl
    exact ⟨lv, b, e1, ownX_keep e2 S fun j hj hm => by have := (e3 j hj).2; have := hX j hm; omega, e3⟩
theorem OwnL.lt {n : Nat} {v : Value} {ls : List (List Int)} {o : Option Nat} (a : OwnL n H v ls o) : ∀ j, o = some j → n ≤ j ∧ j < H.length := fun j hj => ⟨a.1 j hj, ownX_lt a.2.choose_spec.1 j hj⟩
theorem OwnL.sli {n : Nat} {v : Value} {ls : List (List Int)} {o : Option Nat} (a : OwnL n H v ls o) : ∃ cs, Sli H v 1 ls.length cs := ⟨_, ownX_sli a.2.choose_spec.1⟩
theorem OwnL.nunk {n : Nat} {v : Value} {ls : List (List Int)} {o : Option Nat} (a : OwnL n H v ls o) : v ≠ unk := by
  have := (ownX_val a.2.choose_spec.1).2.2
  intro e
  rw [e] at this
  cases this
end
section
variable {main : Bool} {J : JT} {h H : List AObj} {K : Value → List AObj → Prop} {KV : Value → Prop} {HL : List AObj → Prop} {n0 : Nat}
theorem good41 (hJ : Closed prog main J) : ∀ (n : Nat) {H : List AObj} {K : Value → List AObj → Prop} {lv : Value} {l : List Int}, n ≤ 3 → l.length = n → Sli H lv 1 l.length (l.map vint) →
    (∀ H' v o, SameX [] H H' → OwnL H.length H' v (ordersR n l) o → v ≠ unk → K v H') → Good prog J 41 [lv] H K
  | 0, H, K, lv, l, _, hl, hs, hK => by
    refine g41 hJ fun ok => ?_
    rw [e41]
    refine lenI hs (eqlI (cndI (fun _ => ?_) fun hx => absurd (by rw [hl]; rfl) hx))
    refine ⟨by decide, fill_one (l := [.slice none 0 0]) rfl rfl rfl (by decide) (fillI (qNew fun H1 p1 e1 S1 c1 l1 => retL_same (by simp [unk]) ?_))⟩
    have L := one_nil (lo := H.length) (p := p1) c1 (by omega)
    exact hK H1 _ _ S1 L L.nunk
  | n + 1, H, K, lv, l, hn, hl, hs, hK => by
    refine g41 hJ fun ok => ?_
    rw [e41]
    refine lenI hs (eqlI (cndI (fun hx => absurd hx (by omega)) fun _ => ?_))
    let hd : Nat → Int := fun j => l.getD j 0
    let g : Nat → List (List Int) := fun j => ordersR n (restTo l j (n + 1))
    have gle : ∀ j, (g j).length ≤ 9 := fun j => by
      have h1 := ordersR_len (n := n) (restTo l j (n + 1)) (by omega)
      have h2 : 3 ^ n ≤ 3 ^ 2 := Nat.pow_le_pow_right (by decide) (by omega)
      have h3 : 3 ^ 2 = 9 := rfl
      show (ordersR n (restTo l j (n + 1))).length ≤ 9
      omega
    refine l41_1 hJ (fun i : Nat => n + 1 - i) (fun i Fr H' => ∃ v o, SameX [] H H' ∧ i ≤ n + 1 ∧ OwnL H.length H' v (partG hd g i 0) o ∧ Fr.ds = [] ∧ Fr.r 0 = lv ∧ Fr.r 3 = v ∧ Fr.r 4 = vint (i : Nat)) ?_ (s := 0)
      (.inl ⟨.slice none 0 0, none, SameX.refl, by omega, by rw [partG_zero]; exact OwnL.nil, rfl, rfl, rfl, rfl⟩)
    rintro i Fr Hc ⟨v, o, Sc, hi, Lc, ds, r0, r3, r4⟩ okc hnc
    rw [s41_1, r0, r3, r4, ds]
    refine lenI (Sc.sli hs (by simp)) (lssI (cndI (fun hlt => ?_) fun hge => ?_))
    rotate_left
    · have : i = n + 1 := by omega
      subst this
      refine retL_same (by simpa using Lc.nunk) (hK Hc v o Sc ?_ Lc.nunk)
      rw [partG_zero] at Lc
      exact Lc
    have hin : i < n + 1 := by omega
    have hSc := Sc.1
    -- the rest
    refine l41_2 hJ (fun k : Nat => n + 1 - k) (fun k Fr H' => ∃ rv ro, SameX [] Hc H' ∧ k ≤ n + 1 ∧ OwnX H' 1 ((restTo l i k).map vint) (restTo l i k).length rv ro ∧ (∀ j, ro = some j → Hc.length ≤ j) ∧ Fr.ds = [] ∧ Fr.r 0 = lv ∧ Fr.r 3 = v ∧ Fr.r 4 = vint (i : Nat) ∧ Fr.r 5 = rv ∧ Fr.r 6 = vint (k : Nat)) ?_ (s := 0)
      (.inl ⟨.slice none 0 0, none, SameX.refl, by omega, ⟨rfl, rfl, .inl ⟨rfl, rfl, rfl⟩⟩, by simp, ds, r0, r3, r4, rfl, rfl⟩)
    rintro k Fr Hk ⟨rv, ro, Sk, hk, Rk, hro, ds, r0, r3, r4, r5, r6⟩ okk hnk
    have hrl := restTo_len l i k
    have hSk := Sk.1
    rw [s41_2, r0, r4, r5, r6]
    refine lenI ((Sc.trans Sk).sli hs (by simp)) (lssI (cndI (fun hlt2 => ?_) fun hge2 => ?_))
    · have hkl : k < l.length := by omega
      have hx := List.getElem?_eq_getElem hkl
      have gx : l.getD k 0 = l[k] := by rw [List.getD_eq_getElem?_getD, hx]; rfl
      refine neqI (cndI (fun hne => ?_) fun heq => ?_)
      · refine sli_num' ((Sc.trans Sk).sli hs (by simp)) hx fun q => ⟨by decide, fill_one (l := [vint l[k]]) rfl rfl rfl (by decide) (fillI (qNew fun H1 p1 e1 S1 c1 l1 => ⟨by decide, ?_⟩))⟩
        have c1 : H1[p1]? = some (.cells [vint l[k]] true 0) := c1
        refine ownX_more (ownX_keep Rk S1 (by simp)) (by omega) (by split at hrl <;> omega) (ownX_sli (ownX_new (s := 1) (n := 1) (l := [vint l[k]]) c1 rfl rfl)) fun rv' H2 p2 e2 O2 S2 => addI (by omega) ?_
        have er : restTo l i (k + 1) = restTo l i k ++ [l[k]] := by
          conv => lhs; unfold restTo
          rw [if_neg (by omega), gx]
        refine ⟨k + 1, by dsimp only; omega, .inl ⟨rv', some p2, (Sk.trans S1).thru S2 (fun y hy => .inr (hro y (by simpa using hy))), by omega, ?_, fun j hj => by cases hj; have := S1.1; omega, ds, r0, r3, r4, rfl, by show vint _ = vint _; congr 1⟩⟩
        rw [er, List.map_append, List.length_append]
        exact O2
      · have hki : k = i := by omega
        have er : restTo l i (k + 1) = restTo l i k := by
          conv => lhs; unfold restTo
          rw [if_pos hki]
        refine addI (by omega) ⟨k + 1, by dsimp only; omega, .inl ⟨rv, ro, Sk, by omega, by rw [er]; exact Rk, hro, ds, r0, r3, r4, r5, by show vint _ = vint _; congr 1⟩⟩
    have hkn : k = n + 1 := by omega
    subst hkn
    have hrn : (restTo l i (n + 1)).length = n := by
      rw [hrl, if_neg (by omega)]
      omega
    refine good41 hJ n (by omega) hrn (ownX_sli Rk) fun H3 av ao S3 A3 _ => ?_
    have hS3 := S3.1
    have hlc := Lc.lt
    -- all with this one ahead
    refine l41_3 hJ (fun k : Nat => (g i).length - k) (fun k Fr H' => ∃ v o, SameX [] H H' ∧ k ≤ (g i).length ∧ OwnL H.length H' v (partG hd g i k) o ∧ SameX (List.range Hk.length) H3 H' ∧ (∀ j, o = some j → j < Hk.length ∨ H3.length ≤ j) ∧ Fr.ds = [] ∧ Fr.r 0 = lv ∧ Fr.r 3 = v ∧ Fr.r 4 = vint (i : Nat) ∧ Fr.r 7 = av ∧ Fr.r 8 = vint (k : Nat)) ?_ (s := 0)
      (.inl ⟨v, o, (Sc.trans Sk).trans S3, by omega, (Lc.keep Sk).keep S3, SameX.refl, fun j hj => by have := hlc j hj; omega, ds, r0, r3, r4, rfl, rfl⟩)
    rintro k Fr Hd ⟨v, o, Sd, hk, Ld, Xd, hod, ds, r0, r3, r4, r7, r8⟩ okd hnd
    have Ad := A3.keepX Xd (fun x hx => List.mem_range.1 hx)
    obtain ⟨ac, sA⟩ := Ad.sli
    have sl := Sd.sli hs (by simp)
    rw [s41_3, r0, r3, r4, r7, r8]
    refine lenI sA (lssI (cndI (fun hlt3 => ?_) fun hge3 => ?_))
    rotate_left
    · have hke : k = (g i).length := by
        have : (g i).length = (ordersR n (restTo l i (n + 1))).length := rfl
        omega
      subst hke
      refine addI (by omega) ⟨i + 1, by dsimp only; omega, .inl ⟨v, o, Sd, by omega, by rw [← partG_all]; exact Ld, ds, r0, r3, by show vint _ = vint _; congr 1⟩⟩
    have hkl : k < (ordersR n (restTo l i (n + 1))).length := by omega
    obtain ⟨w, hw⟩ : ∃ w, (ordersR n (restTo l i (n + 1)))[k]? = some w := ⟨_, List.getElem?_eq_getElem hkl⟩
    have hwl : w.length = n := ordersR_mem (List.mem_of_getElem? hw)
    have hil : i < l.length := by omega
    have hx := List.getElem?_eq_getElem hil
    have gx : hd i = l[i] := by show l.getD i 0 = _; rw [List.getD_eq_getElem?_getD, hx]; rfl
    obtain ⟨b, off, cs, wr, sz, c, hlv, hb, hg⟩ := sli_get sl (i := (i : Int)) ⟨by omega, by omega⟩
    have hgi := hg i (vint l[i]) (by rw [List.getElem?_map, hx]; rfl)
    have hbl : b < H.length := by
      obtain ⟨b', o', cs', wr', sz', c', hlv', hb', _⟩ := sli_get hs (i := (i : Int)) ⟨by omega, by omega⟩
      rw [hlv] at hlv'
      injection hlv' with h1
      injection h1 with h1
      injection h1 with h1
      rw [h1]
      exact lt_of_get hb'
    have hSd := Sd.1
    have hXd := Xd.1
    have hld := Ld.lt
    have hnA : ∀ j, ao = some j → o ≠ some j := fun j hj e => by
      have h1 := A3.lt j hj
      have h2 := hod j e
      omega
    have hAd := Ad.lt
    obtain ⟨b0, hb0⟩ : ∃ b0, ao = some b0 := by
      obtain ⟨_, cs0, ⟨_, _, ⟨h0, _⟩ | ⟨b0, c0, sz0, he, _⟩⟩, _⟩ := Ad
      · omega
      · exact ⟨b0, he⟩
    have sb : ∀ {H'}, SameX o.toList Hd H' → SameB (some [b, b0]) Hd H' := fun S' x hx => S'.2 x (by
      simp at hx
      have := hAd b0 hb0
      rcases hx with rfl | rfl <;> omega) (fun hm => by
      have hm : o = some x := Option.mem_toList.1 hm
      have h1 := hld x hm
      simp at hx
      rcases hx with rfl | rfl
      · omega
      · exact hnA _ hb0 hm)
    refine ⟨[b, b0], ?_⟩
    rw [hlv]
    refine idxI ⟨by omega, by omega⟩ ?_
    have ei : off + (i : Int).toNat * 1 = off + i := by omega
    rw [ei]
    refine ldI (v := vint l[i]) hb hgi rfl ⟨by simp [RdOk, ptr, ptrBlk], ?_⟩
    refine Ad.get' hw fun b1 off1 wv bw hb1 hb1l Ow hbw => ⟨?_, ?_⟩
    · rw [hb0] at hb1
      injection hb1 with hb1
      subst hb1
      simp [RdOk, ptr, ptrBlk]
    refine ⟨by decide, fill_one (l := [vint l[i]]) rfl rfl rfl (by decide) (fillI (qNew fun He pe ee Se ce le => ⟨sb (Se.weak0), ?_⟩))⟩
    have ce : He[pe]? = some (.cells [vint l[i]] true 0) := ce
    refine ⟨by decide, app_cons ce (Se.sli (ownX_sli Ow) (by simp)) (by omega) fun Hf wv2 bf Sf Of hbf => ?_⟩
    have hSe := Se.1
    have Tf : SameX [] Hd Hf := Se.thru Sf (by simp; omega)
    have hbfl := ownX_lt Of bf rfl
    have hbf2 : Hd.length ≤ bf := by omega
    refine ⟨sb Tf.weak0, ?_⟩
    obtain ⟨w1, w2, w3⟩ := ownX_val Of
    refine ⟨by decide, fill_one (l := [wv2]) (by rw [w1]) rfl (by simp [w2]) (by decide) (fillI (qNew fun Hg pg eg Sg cg lg => ⟨sb (Tf.trans Sg).weak0, by decide, ?_⟩))⟩
    have cg : Hg[pg]? = some (.cells [wv2] true 0) := cg
    have Tg := Tf.trans Sg
    have hpl := partG_le (hd := hd) (g := g) (i := i) (k := k) gle
    refine ((Ld.keep Tg).more (by have := Tg.1; omega) (by omega) (ownX_keep Of Sg (by simp)) (by omega) (fun e => by have := hld bf e.symm; omega) (ownX_sli (ownX_new (s := 1) (n := 1) (l := [wv2]) cg rfl (by simp [kn]; exact w3))) fun v' Hh o' Sh Lh ho' _ => ?_)
    have Th : SameX o.toList Hd Hh := Tg.weak0.trans Sh
    have hTg := Tg.1
    have hgl : (g i).length = (ordersR n (restTo l i (n + 1))).length := rfl
    have hgi9 := gle i
    have hH3 : H3.length ≤ o' := by omega
    refine ⟨sb Th, addI (by omega) ⟨k + 1, by dsimp only; omega, .inl ⟨v', some o', Sd.thru Th (fun y hy => .inr (hld y (Option.mem_toList.1 hy)).1), by omega, ?_, ?_, fun j hj => by cases hj; omega, ds, by rw [← hlv]; exact r0, rfl, r4, r7, by show vint _ = vint _; congr 1⟩⟩⟩
    · rw [partG_succ (w := w) hw, gx]
      exact Lh
    · refine ⟨by have := Th.1; omega, fun x hx1 hx2 => ?_⟩
      rw [Th.2 x (by omega) (fun hm => ?_), Xd.2 x hx1 hx2]
      have := hod x (Option.mem_toList.1 hm)
      have : ¬ x < Hk.length := fun y => hx2 (List.mem_range.2 y)
      omega
end
structure Reg110 (cv ov : Value) (p1 p4 n : Nat) (s : Ref) (hh : Nat) (F : RG) : Prop where
  ds : F.ds = []
  r1 : F.r 1 = cv
  r2 : F.r 2 = ov
  r3 : F.r 3 = ptr p1 0
  r8 : F.r 8 = .slice (some ⟨p4, 0, none⟩) n n
  r9 : F.r 9 = vint s.now
  r10 : F.r 10 = vint (s.next : Nat)
  r11 : F.r 11 = vint (hh : Nat)
structure At110 (H : List AObj) (t : Tro) (cs : List Int) (os : List Nat) (fv cv ov : Value) (p1 p4 : Nat) (s : Ref) : Prop where
  fl : SliE H fv 2 Dro.cells t.flocks
  hc : Sli H cv 1 cs.length (cs.map vint)
  ho : Sli H ov 1 os.length ((os.map Int.ofNat).map vint)
  c1 : H[p1]? = some (.cells (troCells t fv) true 0)
  c4 : H[p4]? = some (.cells (s.out.map vint) true 0)
  ol : s.out.length = os.length
  now : 0 ≤ s.now ∧ s.now ≤ t.well.holds
  next : s.next ≤ os.length
section
variable {main : Bool} {J : JT} {h H : List AObj} {K : Value → List AObj → Prop} {KV : Value → Prop} {HL : List AObj → Prop} {n0 : Nat} {nx0 : RG → List AObj → Prop}
variable {t : Tro} {cs : List Int} {os : List Nat} {fv cv ov : Value} {p1 p4 hh : Nat} {s : Ref} {F : RG}
theorem nuA {a b : Value} (ha : a ≠ unk) (hb : b ≠ unk) : ∀ v ∈ [a, b], v ≠ unk := by
  intro v hv
  simp only [List.mem_cons, List.not_mem_nil, or_false] at hv
  rcases hv with rfl | rfl <;> assumption
theorem nuB {a b c : Value} (ha : a ≠ unk) (hb : b ≠ unk) (hc : c ≠ unk) : ∀ v ∈ [a, b, c], v ≠ unk := by
  intro v hv
  simp only [List.mem_cons, List.not_mem_nil, or_false] at hv
  rcases hv with rfl | rfl | rfl <;> assumption
theorem qMk {z : List Value} {n : Nat} (hn : n ≤ 100000) (hk : ∀ H' p, p = H.length → SameX [] H H' → H'[p]? = some (.cells (zrep z n) true 0) → H'.length = p + 1 → K (.slice (some ⟨p, 0, none⟩) n n) H') : aMkS z (vint n) (vint n) H K := by
  have hr : room = 1073741824 := rfl
  simp only [aMkS, Int.toNat_natCast]
  exact ⟨by omega, by omega, by omega, hk _ _ rfl SameX.refl.app (by simp) (by simp)⟩
theorem hour110 (hJ : Closed prog main J) {b : Bool} {o : Nat} {c : Int} {d : Dro} (I : SrvIn t cs os) (A : At110 H t cs os fv cv ov p1 p4 s) (G : Reg110 cv ov p1 p4 os.length s hh F) (hb : hh ≤ 256)
    (hn : s.next < os.length) (g1 : os.getD s.next 0 = o) (ho : o < os.length) (g2 : cs.getD o 0 = c) (hd : t.flocks[o]? = some d) (g3 : droAt t o = d) (hdd : 1 ≤ d.drinks ∧ d.drinks ≤ 40)
    (r12 : F.r 12 = vint (o : Nat)) (r48 : F.r 48 = .bool b) (hbb : b = decide ((hh : Int) ≥ c ∧ s.now ≥ d.drinks))
    (hnx : ∀ F' H'', SameX [p4] H H'' → H''[p4]? = some (.cells ((refStep t cs os hh s).out.map vint) true 0) → Reg110 cv ov p1 p4 os.length (refStep t cs os hh s) (hh + 1) F' → nx0 F' H'') :
    W prog J 77 n0 110 (subC [1, 1, 1, 0, 1, 0, 0, 1, 0, 0, 1, 0, 1] (codeOf f110)) F H (contX pl110 prog J 77 n0 110 ct110 [1, 1, 1, 0, 1, 0, 0, 1, 0, 0, 1, 0, 1] (codeOf f110) [nx0] (RetQ prog [.tmp 6, .tmp 7] n0 K)) := by
  obtain ⟨w1, w2, w3⟩ := (troE_well I.ok).1
  have kf := (sli_val A.fl).2.2
  have hfew := I.few
  have hnow := A.now
  have hol : o < t.flocks.length := (List.getElem?_eq_some_iff.1 hd).1
  have hdl : t.flocks[o] = d := by
    rw [List.getElem?_eq_getElem hol] at hd
    injection hd
  have stepE : refStep t cs os hh s = if (hh : Int) ≥ c ∧ s.now ≥ d.drinks then ⟨min t.well.holds (s.now - d.drinks + t.well.fill), s.next + 1, s.out.set o hh⟩ else ⟨min t.well.holds (s.now + t.well.fill), s.next, s.out⟩ := by
    unfold refStep
    rw [if_pos hn]
    simp only [g1, g2, g3]
  rw [s110_3, r48, r12, G.r3, G.r8, G.r9, G.r10, G.r11]
  cases b with
  | true =>
    have hc := of_decide_eq_true hbb.symm
    rw [if_pos hc] at stepE
    refine cnd_true.2 ?_
    obtain ⟨b, of, cells, wr, sz, hidx, hbk, hol', hft, hkn⟩ := sliE_elem dro_len (by omega) A.fl hol
    have hx : cells[of + 0]? = some (vint d.drinks) := part_get hft (by rw [hdl]; rfl)
    refine offI (ldI (v := fv) A.c1 rfl kf (hidx _ (offI (ldI (v := vint d.drinks) hbk hx rfl (subI (by omega) ?_)))))
    refine idxI ⟨by omega, by omega⟩ ?_
    rw [Int.toNat_natCast, Nat.zero_add, Nat.mul_one]
    have hol4 := A.ol
    refine qSt A.c4 (by rw [List.length_map]; omega) rfl rfl fun H2 S2 c2 l2 => ?_
    have hne : p1 ≠ p4 := by
      intro e
      have h1 := A.c1
      rw [e, A.c4] at h1
      injection h1 with h1
      injection h1 with h1
      have := congrArg List.length h1
      rw [List.length_map] at this
      have e4 : (troCells t fv).length = 4 := rfl
      omega
    have d1 := S2.get A.c1 (by simpa using hne)
    refine addI (by omega) (offI (offI (ldI (v := vint t.well.holds) d1 rfl rfl (offI (offI (ldI (v := vint t.well.fill) d1 rfl rfl (addI (by omega) (minI (addI (by omega) ?_)))))))))
    refine hnx _ H2 S2 ?_ ?_
    · rw [stepE, c2]
      simp [List.map_set]
    · rw [stepE]
      exact ⟨G.ds, G.r1, G.r2, G.r3, G.r8, rfl, by show vint _ = vint _; congr 1, by show vint _ = vint _; congr 1⟩
  | false =>
    have hc := of_decide_eq_false hbb.symm
    rw [if_neg hc] at stepE
    refine cnd_false.2 (offI (offI (ldI (v := vint t.well.holds) A.c1 rfl rfl (offI (offI (ldI (v := vint t.well.fill) A.c1 rfl rfl (addI (by omega) (minI (addI (by omega) ?_)))))))))
    refine hnx _ H SameX.refl ?_ ?_
    · rw [stepE]
      exact A.c4
    · rw [stepE]
      exact ⟨G.ds, G.r1, G.r2, G.r3, G.r8, rfl, G.r10, by show vint _ = vint _; congr 1⟩
theorem turn110 (hJ : Closed prog main J) {b : Bool} (I : SrvIn t cs os) (hlen : os.length = cs.length) (A : At110 H t cs os fv cv ov p1 p4 s) (G : Reg110 cv ov p1 p4 os.length s hh F)
    (r26 : F.r 26 = .bool b) (hbb : b = decide (hh ≤ 256 ∧ s.next < os.length))
    (hret : ¬ (hh ≤ 256 ∧ s.next < os.length) → retL n0 K [] [.slice (some ⟨p4, 0, none⟩) os.length os.length, .bool (decide (s.next = os.length))] H)
    (hnx : hh ≤ 256 → ∀ F' H'', SameX [p4] H H'' → H''[p4]? = some (.cells ((refStep t cs os hh s).out.map vint) true 0) → Reg110 cv ov p1 p4 os.length (refStep t cs os hh s) (hh + 1) F' → nx0 F' H'') :
    W prog J 77 n0 110 (subC [1, 1, 1, 0, 1, 0, 0, 0, 1] (codeOf f110)) F H (contX pl110 prog J 77 n0 110 ct110 [1, 1, 1, 0, 1, 0, 0, 0, 1] (codeOf f110) [nx0] (RetQ prog [.tmp 6, .tmp 7] n0 K)) := by
  have kf := (sli_val A.fl).2.2
  rw [s110_2, r26, G.r1, G.r2, G.r3, G.r8, G.r9, G.r10, G.r11, G.ds]
  cases b with
  | false =>
    have hc := of_decide_eq_false hbb.symm
    refine cnd_false.2 (lenI A.ho (eqlI ?_))
    have := hret hc
    rw [show decide (((s.next : Nat) : Int) = ((os.length : Nat) : Int)) = decide (s.next = os.length) from decide_eq_decide.2 (by omega)]
    exact this
  | true =>
    obtain ⟨h1, h2⟩ := of_decide_eq_true hbb.symm
    obtain ⟨w1, w2, w3⟩ := (troE_well I.ok).1
    have hnow := A.now
    have O : SrvOk t os ⟨s.now, s.next, 0, 0⟩ := ⟨hnow.1, hnow.2, h2⟩
    obtain ⟨o, hoo, g1, hol, ⟨c, hcc, g2, c1, c2⟩, d, hdd, g3, d1, d2⟩ := I.at_ O
    have g1 : os.getD s.next 0 = o := g1
    have hoo : os[s.next]? = some o := hoo
    have hdl : t.flocks[o] = d := by
      rw [List.getElem?_eq_getElem hol] at hdd
      injection hdd
    have hol2 : o < os.length := by rw [hlen, I.len]; exact hol
    have ho' : Sli H ov 1 (os.map Int.ofNat).length ((os.map Int.ofNat).map vint) := by rw [List.length_map]; exact A.ho
    refine cnd_true.2 (sli_num' (xs := os.map Int.ofNat) (i := s.next) (x := (o : Int)) ho' (by rw [List.getElem?_map, hoo]; rfl) fun q => ?_)
    refine sli_num' A.hc (i := o) hcc fun q2 => geqI (cndI (fun hx => ?_) fun hx => ?_)
    · obtain ⟨b, of, cells, wr, sz, hidx, hbk, hol', hft, hkn⟩ := sliE_elem dro_len (by omega) A.fl hol
      have hx2 : cells[of + 0]? = some (vint d.drinks) := part_get hft (by rw [hdl]; rfl)
      refine offI (ldI (v := fv) A.c1 rfl kf (hidx _ (offI (ldI (v := vint d.drinks) hbk hx2 rfl (geqI (hold.2 ?_))))))
      exact hour110 hJ I A ⟨G.ds, G.r1, G.r2, G.r3, G.r8, G.r9, G.r10, G.r11⟩ h1 h2 g1 hol2 g2 hdd g3 ⟨d1, d2⟩ rfl rfl (decide_eq_decide.2 ⟨fun y => ⟨hx, y⟩, fun y => y.2⟩) (hnx h1)
    · exact hold.2 (hour110 (b := false) hJ I A ⟨G.ds, G.r1, G.r2, G.r3, G.r8, G.r9, G.r10, G.r11⟩ h1 h2 g1 hol2 g2 hdd g3 ⟨d1, d2⟩ rfl rfl (decide_eq_false fun y => hx y.1).symm (hnx h1))
theorem ref_out (hn : os.length = n0) : ∀ k, (refSt t cs os k).out.length = n0 ∧ (∀ x ∈ (refSt t cs os k).out, 0 ≤ x ∧ x ≤ k) ∧ (refSt t cs os k).next ≤ n0
  | 0 => ⟨by show (List.replicate os.length (0 : Int)).length = n0; rw [List.length_replicate, hn], fun x hx => by
      have : x = 0 := List.eq_of_mem_replicate hx
      omega, Nat.zero_le _⟩
  | k + 1 => by
    obtain ⟨h1, h2, h3⟩ := ref_out hn k
    show (refStep t cs os k (refSt t cs os k)).out.length = n0 ∧ (∀ x ∈ (refStep t cs os k (refSt t cs os k)).out, 0 ≤ x ∧ x ≤ ((k + 1 : Nat) : Int)) ∧ (refStep t cs os k (refSt t cs os k)).next ≤ n0
    generalize refSt t cs os k = s at *
    have up : ∀ x ∈ s.out, 0 ≤ x ∧ x ≤ ((k + 1 : Nat) : Int) := fun x hx => by have := h2 x hx; omega
    unfold refStep
    split
    · split
      · refine ⟨by rw [List.length_set]; exact h1, fun x hx => ?_, by show s.next + 1 ≤ n0; omega⟩
        rcases List.mem_or_eq_of_mem_set hx with hx | rfl
        · exact up x hx
        · omega
      · exact ⟨h1, up, h3⟩
    · exact ⟨h1, up, h3⟩
theorem ref_now (I : SrvIn t cs os) : ∀ k, 0 ≤ (refSt t cs os k).now ∧ (refSt t cs os k).now ≤ t.well.holds
  | 0 => (troE_well I.ok).1.2.1
  | k + 1 => by
    obtain ⟨h1, h2⟩ := ref_now I k
    obtain ⟨w1, w2, w3⟩ := (troE_well I.ok).1
    show 0 ≤ (refStep t cs os k (refSt t cs os k)).now ∧ (refStep t cs os k (refSt t cs os k)).now ≤ t.well.holds
    generalize refSt t cs os k = s at *
    unfold refStep
    split
    · split
      · rename_i hc
        dsimp only
        omega
      · dsimp only
        omega
    · exact ⟨h1, h2⟩
theorem good110 (hJ : Closed prog main J) {v : Value} (ht : TroAt H v t fv) (hc : Sli H cv 1 cs.length (cs.map vint)) (ho : Sli H ov 1 os.length ((os.map Int.ofNat).map vint)) (I : SrvIn t cs os) (hlen : os.length = cs.length)
    (hK : ∀ H' w o, SameX [] H H' → OwnX H' 1 ((refSt t cs os 257).out.map vint) os.length w o → K (.tuple ⟨[w, .bool (decide ((refSt t cs os 257).next = os.length))]⟩) H') : Good prog J 110 [v, cv, ov] H K := by
  refine g110 hJ fun ok => ?_
  rw [e110, ht.val]
  have hfew := I.few
  have hpos := I.pos
  refine qBox (tro_one ht) fun H1 p1 e1 S1 c1 l1 => lenI (S1.sli ho (by simp)) ⟨by decide, qMk (n := os.length) (by omega) fun H2 p4 e2 S2 c2 l2 => ?_⟩
  have c2 : H2[p4]? = some (.cells ((List.replicate os.length (0 : Int)).map vint) true 0) := by
    rw [c2, zrep_one, List.map_replicate]
  have T2 := S1.trans S2
  have c12 := S2.get c1 (by simp)
  have hT2 := T2.1
  refine offI (offI (ldI (v := vint t.well.now) c12 rfl rfl ?_))
  refine l110_1 hJ (fun h : Nat => 257 - h) (fun hh F H' => SameX [p4] H2 H' ∧ hh ≤ 257 ∧ H'[p4]? = some (.cells ((refSt t cs os hh).out.map vint) true 0) ∧ Reg110 cv ov p1 p4 os.length (refSt t cs os hh) hh F) ?_ (s := 0)
    (.inl ⟨SameX.refl, by omega, c2, ⟨rfl, rfl, rfl, rfl, rfl, rfl, rfl, rfl⟩⟩)
  rintro hh F H' ⟨S, hle, c4, G⟩ okc hnc
  obtain ⟨o1, o2, o3⟩ := ref_out (t := t) (cs := cs) (os := os) (n0 := os.length) rfl hh
  have TT : SameX [] H H' := T2.thru S (by simp; omega)
  have A : At110 H' t cs os fv cv ov p1 p4 (refSt t cs os hh) := ⟨TT.sli ht.fl (by simp), TT.sli hc (by simp), TT.sli ho (by simp), S.get c12 (by simp; omega), c4, o1, ref_now I hh, o3⟩
  have next : hh ≤ 256 → ∀ F' H'', SameX [p4] H' H'' → H''[p4]? = some (.cells ((refStep t cs os hh (refSt t cs os hh)).out.map vint) true 0) → Reg110 cv ov p1 p4 os.length (refStep t cs os hh (refSt t cs os hh)) (hh + 1) F' → Nx H.length (fun h : Nat => 257 - h) (fun hh F H' => SameX [p4] H2 H' ∧ hh ≤ 257 ∧ H'[p4]? = some (.cells ((refSt t cs os hh).out.map vint) true 0) ∧ Reg110 cv ov p1 p4 os.length (refSt t cs os hh) hh F) hh F' H'' :=
    fun h1 F' H'' S' c' G' => ⟨hh + 1, by dsimp only; omega, .inl ⟨S.trans S', by omega, c', G'⟩⟩
  have last : ¬ (hh ≤ 256 ∧ (refSt t cs os hh).next < os.length) → retL H.length K [] [.slice (some ⟨p4, 0, none⟩) os.length os.length, .bool (decide ((refSt t cs os hh).next = os.length))] H' := fun hx => by
    have e : refSt t cs os hh = refSt t cs os 257 := by
      by_cases h2 : (refSt t cs os hh).next < os.length
      · rw [show hh = 257 by omega]
      · have := refSt_end h2 (257 - hh)
        rw [show hh + (257 - hh) = 257 by omega] at this
        exact this.symm
    rw [e] at A ⊢
    refine retL_same (nuA (by simp [unk]) (by simp [unk])) (hK H' _ (some p4) TT ?_)
    have := ownX_new (s := 1) (n := os.length) A.c4 (by rw [List.length_map, A.ol, Nat.mul_one]) (kn_ints _)
    exact this
  rw [s110_1, G.r2, G.r10, G.r11]
  refine leqI (cndI (fun hx => ?_) fun hx => ?_)
  · refine lenI A.ho (lssI (hold.2 ?_))
    exact turn110 hJ I hlen A ⟨G.ds, G.r1, G.r2, G.r3, G.r8, G.r9, G.r10, G.r11⟩ rfl (decide_eq_decide.2 (by omega)) last next
  · exact hold.2 (turn110 (b := false) hJ I hlen A ⟨G.ds, G.r1, G.r2, G.r3, G.r8, G.r9, G.r10, G.r11⟩ rfl (decide_eq_false (by omega)).symm last next)
theorem good76 (hJ : Closed prog main J) {v : Value} (ht : TroAt H v t fv) (hc : Sli H cv 1 cs.length (cs.map vint)) (ho : Sli H ov 1 os.length ((os.map Int.ofNat).map vint)) (I : SrvIn t cs os) (hlen : os.length = cs.length)
    (hK : ∀ H', SameX [] H H' → K (vint (refW t cs os)) H') : Good prog J 76 [v, cv, ov] H K := by
  refine g76 hJ fun ok => ?_
  rw [e76, ht.val]
  have hfew := I.few
  refine qBox (tro_one ht) fun H1 p1 e1 S1 c1 l1 => load_part (c := troCells t fv) c1 (by simp [troCells]) rfl (tro_kn ht) ?_
  have t1 : TroAt H1 (.agg ⟨troCells t fv⟩) t fv := ⟨rfl, S1.sli ht.fl (by simp)⟩
  refine good110 hJ t1 (S1.sli hc (by simp)) (S1.sli ho (by simp)) I hlen fun H2 w o S2 O2 => vext0 (vext1 (notI (cndN (fun hx => ?_) fun hx => ?_)))
  · have e : refW t cs os = -1 := by unfold refW; rw [if_neg hx]
    have := hK H2 (S1.trans S2)
    rw [e] at this
    exact retL_same (by simp [unk]) this
  obtain ⟨o1, o2, o3⟩ := ref_out (t := t) (cs := cs) (os := os) (n0 := os.length) rfl 257
  have e : refW t cs os = sumS (refSt t cs os 257).out cs (List.range os.length) := by unfold refW; rw [if_pos hx]
  generalize (refSt t cs os 257).out = out at *
  have sO : Sli H2 w 1 out.length (out.map vint) := by rw [o1]; exact ownX_sli O2
  have hc2 := (S1.trans S2).sli hc (by simp)
  refine l76_1 hJ (fun k : Nat => os.length - k) (fun k F H' => H' = H2 ∧ k ≤ os.length ∧ (-300 * (k : Int) ≤ sumS out cs (List.range k) ∧ sumS out cs (List.range k) ≤ 300 * (k : Int)) ∧ F.ds = [] ∧ F.r 1 = cv ∧ F.r 7 = w ∧ F.r 9 = vint (sumS out cs (List.range k)) ∧ F.r 10 = vint (k : Nat)) ?_ (s := 0)
    (.inl ⟨rfl, by omega, by simp [sumS], rfl, rfl, rfl, rfl, rfl⟩)
  rintro k F H' ⟨rfl, hk, hb, ds, r1, r7, r9, r10⟩ okc hnc
  rw [s76_1, r1, r7, r9, r10, ds]
  refine lenI (by rw [o1] at sO; exact sO) (lssI (cndI (fun hlt => ?_) fun hge => ?_))
  · have hkl : k < out.length := by omega
    have hkc : k < cs.length := by omega
    have hx1 := List.getElem?_eq_getElem hkl
    have hx2 := List.getElem?_eq_getElem hkc
    have b1 := o2 _ (List.getElem_mem hkl)
    have b2 := I.hours _ (List.getElem_mem hkc)
    have eg : gapS out cs k = out[k] - cs[k] := by
      unfold gapS
      rw [List.getD_eq_getElem?_getD, List.getD_eq_getElem?_getD, hx1, hx2]
      rfl
    have es := sumS_range (out := out) (cs := cs) (k := k)
    rw [eg] at es
    refine sli_num' sO hx1 fun q => addI (by omega) (sli_num' hc2 hx2 fun q2 => subI (by omega) (addI (by omega) ⟨k + 1, by dsimp only; omega, .inl ⟨rfl, by omega, by omega, ds, r1, r7, ?_, by show vint _ = vint _; congr 1⟩⟩))
    show vint _ = vint _
    congr 1
    omega
  · have : k = os.length := by omega
    subst this
    have := hK H' (S1.trans S2)
    rw [e] at this
    exact retL_same (by simp [unk]) this
end
end Go.Proofs.Ytindillghipjjaa
namespace Go.Proofs.Ytindillghipjjaa
open Go.Conc Go.Proofs.Try
set_option maxRecDepth 100000
set_option maxHeartbeats 4000000
set_option linter.unusedVariables false
section
variable {main : Bool} {J : JT} {n0 : Nat} {h : List AObj} {K : Value → List AObj → Prop}
theorem at83 : prog.funcs[83]? = some f83 := by kernel_rfl
theorem body83 : f83.body = some (codeOf f83) := by kernel_rfl
def pl83 : Plans := []
def ct83 : Cuts := .bin (.go) (.bin (.bin (.go) (.cut (.go))) (.go))
theorem pok83 : plansOk prog pl83 (codeOf f83) = true := by kernel_rfl
theorem e83 {a0 : Value} : W prog J 21 h.length 83 (codeOf f83) (RG.mk (regs [a0]) []) h (RetQ prog [.tmp 2] h.length K) =
(aBox a0 h fun v1 h2 =>
aOff v1 1 fun v3 =>
aLoad false 1 v3 h2 fun v4 =>
Good prog J 75 [v4, (vint 1), (vint 40)] h2 fun v5 h6 =>
aUn .not v5 fun v7 =>
cnd v7
(Hold (W prog J 21 h.length 83 (subC [1, 0, 1] (codeOf f83)) (RG.p (RG.p (RG.p (RG.p (RG.p (RG.p (RG.p (RG.p (RG.p (RG.p (RG.p (RG.p (RG.p (RG.p (RG.p (RG.p (RG.p (RG.p (RG.p (RG.p (RG.p (RG.p (RG.mk (regs [a0]) []) 1 v1) 2 (vint 0)) 3 v3) 4 v4) 5 v5) 6 v7) 7 v7) 7 (Value.bool true)) 8 undef) 9 undef) 10 undef) 11 undef) 12 undef) 13 undef) 14 (Value.bool true)) 15 (Value.bool true)) 15 (Value.bool true)) 16 undef) 17 undef) 18 undef) 19 undef) 20 (Value.bool true)) h6 (contX pl83 prog J 21 h.length 83 ct83 [1, 0, 1] (codeOf f83) [] (RetQ prog [.tmp 2] h.length K))))
(aOff v1 0 fun v8 =>
aLoad false 1 v8 h6 fun v9 =>
aOff v1 1 fun v10 =>
aLoad false 1 v10 h6 fun v11 =>
Good prog J 75 [v9, (vint 0), v11] h6 fun v12 h13 =>
aUn .not v12 fun v14 =>
cnd v14
(Hold (W prog J 21 h.length 83 (subC [1, 0, 1] (codeOf f83)) (RG.p (RG.p (RG.p (RG.p (RG.p (RG.p (RG.p (RG.p (RG.p (RG.p (RG.p (RG.p (RG.p (RG.p (RG.p (RG.p (RG.p (RG.p (RG.p (RG.p (RG.p (RG.p (RG.mk (regs [a0]) []) 1 v1) 2 (vint 0)) 3 v3) 4 v4) 5 v5) 6 v7) 7 v7) 7 (Value.bool false)) 8 v8) 9 v9) 10 v10) 11 v11) 12 v12) 13 v14) 14 v14) 15 v14) 15 (Value.bool true)) 16 undef) 17 undef) 18 undef) 19 undef) 20 (Value.bool true)) h13 (contX pl83 prog J 21 h.length 83 ct83 [1, 0, 1] (codeOf f83) [] (RetQ prog [.tmp 2] h.length K))))
(aOff v1 2 fun v15 =>
aLoad false 1 v15 h13 fun v16 =>
Good prog J 75 [v16, (vint 0), (vint 20)] h13 fun v17 h18 =>
aUn .not v17 fun v19 =>
Hold (W prog J 21 h.length 83 (subC [1, 0, 1] (codeOf f83)) (RG.p (RG.p (RG.p (RG.p (RG.p (RG.p (RG.p (RG.p (RG.p (RG.p (RG.p (RG.p (RG.p (RG.p (RG.p (RG.p (RG.p (RG.p (RG.p (RG.p (RG.p (RG.p (RG.mk (regs [a0]) []) 1 v1) 2 (vint 0)) 3 v3) 4 v4) 5 v5) 6 v7) 7 v7) 7 (Value.bool false)) 8 v8) 9 v9) 10 v10) 11 v11) 12 v12) 13 v14) 14 v14) 15 v14) 15 (Value.bool false)) 16 v15) 17 v16) 18 v17) 19 v19) 20 v19) h18 (contX pl83 prog J 21 h.length 83 ct83 [1, 0, 1] (codeOf f83) [] (RetQ prog [.tmp 2] h.length K)))))) := top_eq pok83 ct83 (by kernel_rfl)
theorem g83 (hJ : Closed prog main J) {a0 : Value} (hs : heapOk h → W prog J 21 h.length 83 (codeOf f83) (RG.mk (regs [a0]) []) h (RetQ prog [.tmp 2] h.length K)) : Good prog J 83 [a0] h K :=
  good_of_W hJ mixed at83 body83 (by kernel_rfl) (Nat.le_of_ble_eq_true rfl) hs
theorem s83_1 {f : RG} : W prog J 21 n0 83 (subC [1, 0, 1] (codeOf f83)) f h (contX pl83 prog J 21 n0 83 ct83 [1, 0, 1] (codeOf f83) [] (RetQ prog [.tmp 2] n0 K)) =
(cnd (f.r 20)
(retL n0 K f.ds [(vint 1)] h)
(retL n0 K f.ds [(vint 0)] h)) := sub_eq pok83 ct83 (by kernel_rfl)
theorem at49 : prog.funcs[49]? = some f49 := by kernel_rfl
theorem body49 : f49.body = some (codeOf f49) := by kernel_rfl
def pl49 : Plans := []
def ct49 : Cuts := .bin (.go) (.bin (.go) (.bin (.go) (.bin (.go) (.bin (.bin (.go) (.un (.un (.bin (.go) (.bin (.un (.bin (.go) (.cut (.go)))) (.go)))))) (.go)))))
theorem pok49 : plansOk prog pl49 (codeOf f49) = true := by kernel_rfl
theorem e49 {a0 : Value} : W prog J 44 h.length 49 (codeOf f49) (RG.mk (regs [a0]) []) h (RetQ prog [.tmp 2] h.length K) =
(aBox a0 h fun v1 h2 =>
aOff v1 0 fun v3 =>
aLoad true 3 v3 h2 fun v4 =>
Good prog J 83 [v4] h2 fun v5 h6 =>
aBin prog .neq 39 v5 (vint 0) fun v7 =>
cnd v7
(retL h.length K [] [v5] h6)
(aOff v1 3 fun v8 =>
aLoad false 1 v8 h6 fun v9 =>
aLenS v9 fun v10 =>
aBin prog .eql 3 v10 (vint 0) fun v11 =>
cnd v11
(retL h.length K [] [(vint 7)] h6)
(aOff v1 3 fun v12 =>
aLoad false 1 v12 h6 fun v13 =>
aLenS v13 fun v14 =>
aBin prog .gtr 3 v14 (vint 3) fun v15 =>
cnd v15
(retL h.length K [] [(vint 6)] h6)
(Sem J 44 h.length 49 (subC [1, 1, 1, 1, 0, 1, 0] (codeOf f49)) (RG.p (RG.p (RG.p (RG.p (RG.p (RG.p (RG.p (RG.p (RG.p (RG.p (RG.p (RG.p (RG.p (RG.p (RG.p (RG.p (RG.p (RG.mk (regs [a0]) []) 1 v1) 2 (vint 0)) 5 v3) 6 v4) 7 v5) 3 v5) 8 v5) 9 v7) 11 v8) 12 v9) 13 v10) 14 v11) 15 v12) 16 v13) 17 v14) 18 v15) 4 (vint 0)) h6 (contX pl49 prog J 44 h.length 49 ct49 [1, 1, 1, 1, 0, 1, 0] (codeOf f49) [] (RetQ prog [.tmp 2] h.length K)))))) := top_eq pok49 ct49 (by kernel_rfl)
theorem g49 (hJ : Closed prog main J) {a0 : Value} (hs : heapOk h → W prog J 44 h.length 49 (codeOf f49) (RG.mk (regs [a0]) []) h (RetQ prog [.tmp 2] h.length K)) : Good prog J 49 [a0] h K :=
  good_of_W hJ mixed at49 body49 (by kernel_rfl) (Nat.le_of_ble_eq_true rfl) hs
theorem s49_1 {f : RG} {nx0 : RG → List AObj → Prop} : W prog J 44 n0 49 (subC [1, 1, 1, 1, 0, 1, 0, 0] (codeOf f49)) f h (thenK nx0 (contX pl49 prog J 44 n0 49 ct49 [1, 1, 1, 1, 0, 1, 0] (codeOf f49) [] (RetQ prog [.tmp 2] n0 K))) =
(aOff (f.r 1) 3 fun v1 =>
aLoad false 1 v1 h fun v2 =>
aLenS v2 fun v3 =>
aBin prog .lss 3 (f.r 4) v3 fun v4 =>
cnd v4
(aOff (f.r 1) 3 fun v5 =>
aLoad false 1 v5 h fun v6 =>
aIdx 2 v6 (f.r 4) fun v7 =>
aOff v7 0 fun v8 =>
aLoad false 1 v8 h fun v9 =>
Good prog J 75 [v9, (vint 1), (vint 40)] h fun v10 h11 =>
aUn .not v10 fun v12 =>
cnd v12
(Hold (W prog J 44 n0 49 (subC [1, 1, 1, 1, 0, 1, 0, 0, 1, 0, 0, 1] (codeOf f49)) (RG.p (RG.p (RG.p (RG.p (RG.p (RG.p (RG.p (RG.p (RG.p (RG.p (RG.p (RG.p (RG.p (RG.p (RG.p (RG.p (RG.p (RG.p (RG.p (RG.p (RG.p (RG.p (RG.p (RG.p f 19 (f.r 4)) 20 v1) 21 v2) 22 v3) 23 v4) 26 v5) 27 v6) 28 (f.r 4)) 29 v7) 30 v8) 31 v9) 32 v10) 33 v12) 34 v12) 34 (Value.bool true)) 35 undef) 36 undef) 37 undef) 38 undef) 39 undef) 40 undef) 41 undef) 42 undef) 43 (Value.bool true)) h11 (contX pl49 prog J 44 n0 49 ct49 [1, 1, 1, 1, 0, 1, 0, 0, 1, 0, 0, 1] (codeOf f49) [nx0] (RetQ prog [.tmp 2] n0 K))))
(aOff (f.r 1) 3 fun v13 =>
aLoad false 1 v13 h11 fun v14 =>
aIdx 2 v14 (f.r 4) fun v15 =>
aOff v15 1 fun v16 =>
aLoad false 1 v16 h11 fun v17 =>
Good prog J 75 [v17, (vint 1), (vint 8)] h11 fun v18 h19 =>
aUn .not v18 fun v20 =>
Hold (W prog J 44 n0 49 (subC [1, 1, 1, 1, 0, 1, 0, 0, 1, 0, 0, 1] (codeOf f49)) (RG.p (RG.p (RG.p (RG.p (RG.p (RG.p (RG.p (RG.p (RG.p (RG.p (RG.p (RG.p (RG.p (RG.p (RG.p (RG.p (RG.p (RG.p (RG.p (RG.p (RG.p (RG.p (RG.p (RG.p f 19 (f.r 4)) 20 v1) 21 v2) 22 v3) 23 v4) 26 v5) 27 v6) 28 (f.r 4)) 29 v7) 30 v8) 31 v9) 32 v10) 33 v12) 34 v12) 34 (Value.bool false)) 35 v13) 36 v14) 37 (f.r 4)) 38 v15) 39 v16) 40 v17) 41 v18) 42 v20) 43 v20) h19 (contX pl49 prog J 44 n0 49 ct49 [1, 1, 1, 1, 0, 1, 0, 0, 1, 0, 0, 1] (codeOf f49) [nx0] (RetQ prog [.tmp 2] n0 K)))))
(retL n0 K f.ds [(vint 0)] h)) := sub_eq pok49 ct49 (by kernel_rfl)
theorem l49_1 (hJ : Closed prog main J) {S : Type} (μ : S → Nat) (I : S → RG → List AObj → Prop) (hI : ∀ s f h, I s f h → heapOk h → n0 ≤ h.length → W prog J 44 n0 49 (subC [1, 1, 1, 1, 0, 1, 0, 0] (codeOf f49)) f h (thenK (Nx n0 μ I s) (contX pl49 prog J 44 n0 49 ct49 [1, 1, 1, 1, 0, 1, 0] (codeOf f49) [] (RetQ prog [.tmp 2] n0 K))))
  {s : S} {f : RG} (hi : Gets n0 I s f h) : Sem J 44 n0 49 (subC [1, 1, 1, 1, 0, 1, 0] (codeOf f49)) f h (contX pl49 prog J 44 n0 49 ct49 [1, 1, 1, 1, 0, 1, 0] (codeOf f49) [] (RetQ prog [.tmp 2] n0 K)) :=
  loop_rule hJ mixed (b := subC [1, 1, 1, 1, 0, 1, 0, 0] (codeOf f49)) (by kernel_rfl) μ I hI hi
theorem s49_2 {f : RG} {nx0 : RG → List AObj → Prop} : W prog J 44 n0 49 (subC [1, 1, 1, 1, 0, 1, 0, 0, 1, 0, 0, 1] (codeOf f49)) f h (contX pl49 prog J 44 n0 49 ct49 [1, 1, 1, 1, 0, 1, 0, 0, 1, 0, 0, 1] (codeOf f49) [nx0] (RetQ prog [.tmp 2] n0 K)) =
(cnd (f.r 43)
(retL n0 K f.ds [(vint 1)] h)
(aBin prog .add 3 (f.r 4) (vint 1) fun v1 =>
nx0 (RG.p (RG.p (RG.p f 24 (f.r 4)) 25 v1) 4 v1) h)) := sub_eq pok49 ct49 (by kernel_rfl)
end
end Go.Proofs.Ytindillghipjjaa
namespace Go.Proofs.Ytindillghipjjaa
open Go.Conc Go.Proofs.Try
set_option maxRecDepth 100000
section
variable {main : Bool} {J : JT} {h H : List AObj} {K : Value → List AObj → Prop} {KV : Value → Prop} {HL : List AObj → Prop} {n0 : Nat}
theorem good83 (hJ : Closed prog main J) {w : Wel} (hK : ∀ H', SameX [] H H' → K (vint (welE w)) H') : Good prog J 83 [.agg ⟨w.cells⟩] H K := by
  refine g83 hJ fun ok => ?_
  rw [e83]
  refine qBox (l := w.cells) rfl fun H1 p1 e1 S1 c1 l1 => ?_
  have fin : ∀ {F' : RG} {p : Prop} [Decidable p], F'.ds = [] → F'.r 20 = .bool (decide p) → (p ↔ ¬ ((1 ≤ w.holds ∧ w.holds ≤ 40) ∧ (0 ≤ w.now ∧ w.now ≤ w.holds) ∧ (0 ≤ w.fill ∧ w.fill ≤ 20))) →
      W prog J 21 H.length 83 (subC [1, 0, 1] (codeOf f83)) F' H1 (contX pl83 prog J 21 H.length 83 ct83 [1, 0, 1] (codeOf f83) [] (RetQ prog [.tmp 2] H.length K)) := by
    intro F' p _ ds r20 hp
    rw [s83_1, r20, ds]
    have e := hK H1 S1
    unfold welE at e
    refine cndI (fun h1 => retL_same (by simp [unk]) ?_) fun h1 => retL_same (by simp [unk]) ?_
    · rw [if_neg (hp.1 h1)] at e
      exact e
    · rw [if_pos (Decidable.of_not_not fun y => h1 (hp.2 y))] at e
      exact e
  refine offI (ldI (v := vint w.holds) c1 rfl rfl (good75 hJ (notI (cndN (fun g1 => hold.2 ?_) fun g1 => ?_))))
  · exact fin (p := True) rfl rfl ⟨fun _ y => g1 y.1, fun _ => trivial⟩
  refine offI (ldI (v := vint w.now) c1 rfl rfl (offI (ldI (v := vint w.holds) c1 rfl rfl (good75 hJ (notI (cndN (fun g2 => hold.2 ?_) fun g2 => ?_))))))
  · exact fin (p := True) rfl rfl ⟨fun _ y => g2 y.2.1, fun _ => trivial⟩
  refine offI (ldI (v := vint w.fill) c1 rfl rfl (good75 hJ (notI (hold.2 ?_))))
  refine fin (p := ¬ (0 ≤ w.fill ∧ w.fill ≤ 20)) rfl ?_ ⟨fun y z => y z.2.2, fun y z => y ⟨g1, g2, z⟩⟩
  show Value.bool (!decide _) = _
  rw [decide_not]
theorem good49 (hJ : Closed prog main J) {v fv : Value} {t : Tro} (ht : TroAt H v t fv) (hl : t.flocks.length ≤ 1000000) (hK : ∀ H', SameX [] H H' → K (vint (troE t)) H') : Good prog J 49 [v] H K := by
  refine g49 hJ fun ok => ?_
  rw [e49, ht.val]
  have kf := (sli_val ht.fl).2.2
  refine qBox (tro_one ht) fun H1 p1 e1 S1 c1 l1 => ?_
  refine offI (load_part (c := t.well.cells) c1 (by simp [troCells]) rfl rfl (good83 hJ fun H2 S2 => ?_))
  have T2 := S1.trans S2
  have c2 := S2.get c1 (by simp)
  have s2 : SliE H2 fv 2 Dro.cells t.flocks := T2.sli ht.fl (by simp)
  have fin : ∀ e, troE t = e → retL H.length K [] [vint e] H2 := fun e he => by
    subst he
    exact retL_same (by simp [unk]) (hK H2 T2)
  refine neqI (cndI (fun h1 => fin _ (by unfold troE; rw [if_pos h1])) fun h1 => ?_)
  refine offI (ldI (v := fv) c2 rfl kf (lenI s2 (eqlI (cndI (fun h2 => fin 7 ?_) fun h2 => ?_))))
  · unfold troE fewE
    rw [if_neg h1, if_pos (by omega : (t.flocks.length : Int) < 1), if_pos (by decide)]
  refine offI (ldI (v := fv) c2 rfl kf (lenI s2 (gtrI (cndI (fun h3 => fin 6 ?_) fun h3 => ?_))))
  · unfold troE fewE
    rw [if_neg h1, if_neg (by omega : ¬ (t.flocks.length : Int) < 1), if_pos (by omega : (t.flocks.length : Int) > 3), if_pos (by decide)]
  have hfew : ¬ fewE t.flocks.length 1 3 ≠ 0 := by
    unfold fewE
    rw [if_neg (by omega : ¬ (t.flocks.length : Int) < 1), if_neg (by omega : ¬ (t.flocks.length : Int) > 3)]
    decide
  refine l49_1 hJ (fun i : Nat => t.flocks.length - i) (fun i F H' => H' = H2 ∧ i ≤ t.flocks.length ∧ (∀ d ∈ t.flocks.take i, droOk d) ∧ F.ds = [] ∧ F.r 1 = ptr p1 0 ∧ F.r 4 = vint (i : Nat)) ?_ (s := 0)
    (.inl ⟨rfl, by omega, by simp, rfl, rfl, rfl⟩)
  rintro i F H' ⟨rfl, hi, hd, ds, r1, r4⟩ okc hnc
  rw [s49_1, r1, r4, ds]
  refine offI (ldI (v := fv) c2 rfl kf (lenI s2 (lssI (cndI (fun hlt => ?_) fun hge => fin 0 (by
    have : i = t.flocks.length := by omega
    subst this
    rw [List.take_length] at hd
    unfold troE
    rw [if_neg h1, if_neg hfew, if_pos hd])))))
  have hil : i < t.flocks.length := by omega
  obtain ⟨b, o, cs, wr, sz, hidx, hb, hol, hft, hkn⟩ := sliE_elem dro_len (by omega) s2 hil
  have hta : ∀ (x : droOk t.flocks[i]), ∀ d ∈ t.flocks.take (i + 1), droOk d := fun x d hm => by
    rw [List.take_add_one, List.getElem?_eq_getElem hil] at hm
    rcases List.mem_append.1 hm with hm | hm
    · exact hd d hm
    · have : d = t.flocks[i] := by simpa using hm
      exact this ▸ x
  have hbad : ¬ droOk t.flocks[i] → troE t = 1 := fun x => by
    unfold troE
    rw [if_neg h1, if_neg hfew, if_neg fun hall => x (hall _ (List.getElem_mem hil))]
  have last : ∀ {F' : RG} {p : Prop} [Decidable p], F'.ds = [] → F'.r 1 = ptr p1 0 → F'.r 4 = vint (i : Nat) → F'.r 43 = .bool (decide p) → (p ↔ ¬ droOk t.flocks[i]) →
      W prog J 44 H.length 49 (subC [1, 1, 1, 1, 0, 1, 0, 0, 1, 0, 0, 1] (codeOf f49)) F' H' (contX pl49 prog J 44 H.length 49 ct49 [1, 1, 1, 1, 0, 1, 0, 0, 1, 0, 0, 1] (codeOf f49) [Nx H.length (fun i : Nat => t.flocks.length - i) (fun i F H'' => H'' = H' ∧ i ≤ t.flocks.length ∧ (∀ d ∈ t.flocks.take i, droOk d) ∧ F.ds = [] ∧ F.r 1 = ptr p1 0 ∧ F.r 4 = vint (i : Nat)) i] (RetQ prog [.tmp 2] H.length K)) := by
    intro F' p _ ds r1 r4 r43 hp
    rw [s49_2, r43, r4, ds]
    refine cndI (fun h1 => fin 1 (hbad (hp.1 h1))) fun h1 => addI (by omega) ⟨i + 1, by dsimp only; omega, .inl ⟨rfl, by omega, hta (Decidable.of_not_not fun y => h1 (hp.2 y)), ds, r1, by show vint _ = vint _; congr 1⟩⟩
  refine offI (ldI (v := fv) c2 rfl kf (hidx _ (offI (ldI (v := vint t.flocks[i].drinks) hb (part_get hft rfl) rfl (good75 hJ (notI (cndN (fun g1 => hold.2 ?_) fun g1 => ?_)))))))
  · exact last (p := True) ds r1 r4 rfl ⟨fun _ y => g1 y.1, fun _ => trivial⟩
  · refine offI (ldI (v := fv) c2 rfl kf (hidx _ (offI (ldI (v := vint t.flocks[i].every) hb (part_get (j := 1) hft rfl) rfl (good75 hJ (notI (hold.2 ?_)))))))
    refine last (p := ¬ (1 ≤ t.flocks[i].every ∧ t.flocks[i].every ≤ 8)) ds r1 r4 ?_ ⟨fun y z => y z.2, fun y z => y ⟨g1, z⟩⟩
    show Value.bool (!decide _) = _
    rw [decide_not]
end
end Go.Proofs.Ytindillghipjjaa
namespace Go.Proofs.Ytindillghipjjaa
open Go.Conc Go.Proofs.Try
set_option maxRecDepth 100000
set_option maxHeartbeats 4000000
set_option linter.unusedVariables false
section
variable {main : Bool} {J : JT} {n0 : Nat} {h : List AObj} {K : Value → List AObj → Prop}
theorem at6 : prog.funcs[6]? = some f6 := by kernel_rfl
theorem body6 : f6.body = some (codeOf f6) := by kernel_rfl
def pl6 : Plans := [(14, true, .take 0 (.take 1 (.take 2 (.take 3 (.take 4 (.take 5 (.last 6 false (.take 7 (.fin))))))))),
  (15, true, .take 0 (.take 1 (.take 2 (.take 3 (.take 4 (.take 5 (.take 6 (.take 7 (.take 8 (.take 9 (.take 10 (.take 11 (.take 12 (.last 13 false (.take 14 (.take 15 (.take 16 (.fin)))))))))))))))))),
  (19, false, .take 0 (.take 1 (.take 2 (.take 3 (.take 4 (.take 5 (.take 6 (.take 7 (.last 8 true (.take 9 (.take 10 (.take 11 (.take 12 (.take 13 (.take 14 (.take 15 (.take 16 (.take 17 (.last 18 true (.take 19 (.take 20 (.take 21 (.last 22 true (.take 23 (.take 24 (.fin))))))))))))))))))))))))))]
def ct6 : Cuts := .bin (.go) (.bin (.go) (.bin (.go) (.bin (.go) (.bin (.go) (.bin (.go) (.bin (.go) (.bin (.go) (.bin (.bin (.go) (.un (.un (.bin (.go) (.bin (.un (.bin (.go) (.bin (.go) (.cut (.go))))) (.go)))))) (.go)))))))))
theorem pok6 : plansOk prog pl6 (codeOf f6) = true := by kernel_rfl
theorem e6 {a0 : Value} : W prog J 120 h.length 6 (codeOf f6) (RG.mk (regs [a0]) []) h (RetQ prog [.tmp 2] h.length K) =
(Good prog J 20 [a0] h fun v1 h2 =>
Good prog J 21 [v1, (vint 3), (vint 20)] h2 fun v3 h4 =>
aAlloc [(vint 0), (vint 0), (vint 0), (Value.slice none 0 0)] h4 fun v5 h6 =>
aStore 4 v5 v3 h6 fun h7 =>
Sem J 120 h.length 6 (subC [1, 1, 1, 1, 0, 1, 0] (codeOf f6)) (RG.p (RG.p (RG.p (RG.p (RG.p (RG.p (RG.p (RG.p (RG.p (RG.p (RG.mk (regs [a0]) []) 2 (Value.bool false)) 15 a0) 16 v1) 3 v1) 17 v1) 18 v3) 4 v5) 5 (Value.slice none 0 0)) 6 (Value.slice none 0 0)) 7 (vint 0)) h7 (contX pl6 prog J 120 h.length 6 ct6 [1, 1, 1, 1, 0, 1, 0] (codeOf f6) [] (RetQ prog [.tmp 2] h.length K))) := top_eq pok6 ct6 (by kernel_rfl)
theorem g6 (hJ : Closed prog main J) {a0 : Value} (hs : heapOk h → W prog J 120 h.length 6 (codeOf f6) (RG.mk (regs [a0]) []) h (RetQ prog [.tmp 2] h.length K)) : Good prog J 6 [a0] h K :=
  good_of_W hJ mixed at6 body6 (by kernel_rfl) (Nat.le_of_ble_eq_true rfl) hs
end
end Go.Proofs.Ytindillghipjjaa
namespace Go.Proofs.Ytindillghipjjaa
open Go.Conc Go.Proofs.Try
set_option maxRecDepth 100000
def idsI (i : Nat) : List Int := (List.range i).map Int.ofNat
theorem idsI_len (i : Nat) : (idsI i).length = i := by simp [idsI]
theorem idsI_succ (i : Nat) : idsI (i + 1) = idsI i ++ [(i : Int)] := by simp [idsI, List.range_succ]
theorem waits_get {t : Tro} {cs : List Int} {i : Nat} {os : List Nat} (h : (allOf26 cs)[i]? = some os) : (waits26 t cs).getD i 0 = serveW t cs os := by
  unfold waits26
  rw [List.getD_eq_getElem?_getD, List.getElem?_map, h]
  rfl
theorem own_nunk {H : List AObj} {s len : Nat} {cs : List Value} {v : Value} {o : Option Nat} (O : OwnX H s cs len v o) : v ≠ unk := by
  obtain ⟨_, _, rfl, _⟩ := ownX_sli O
  simp [unk]
theorem pick_pos (ws : List Int) : ∀ i, pickTo ws i ≥ 0 → ws.getD (pickTo ws i).toNat 0 ≥ 0
  | 0, h => absurd h (by simp [pickTo])
  | i + 1, h => by
    have ih := pick_pos ws i
    unfold pickTo at h ⊢
    split
    · rename_i hc
      exact hc.1
    · rename_i hc
      rw [if_neg hc] at h
      exact ih h
def Best (t : Tro) (cs : List Int) (H : List AObj) (i : Nat) (a b : Value) : Prop :=
  (pickTo (waits26 t cs) i < 0 ∧ a = .slice none 0 0 ∧ b = vint (-1)) ∨ ∃ (j : Nat) (os : List Nat), pickTo (waits26 t cs) i = j ∧ (allOf26 cs)[j]? = some os ∧ Sli H a 1 os.length (nvs os) ∧ a ≠ unk ∧ b = vint ((waits26 t cs).getD j 0)
theorem Best.same {t : Tro} {cs : List Int} {H H' : List AObj} {i : Nat} {a b : Value} (B : Best t cs H i a b) (S : SameX [] H H') : Best t cs H' i a b := by
  rcases B with h | ⟨j, os, h1, h2, h3, h4, h5⟩
  · exact .inl h
  · exact .inr ⟨j, os, h1, h2, S.sli h3 (by simp), h4, h5⟩
structure Reg27 (cv av : Value) (p1 : Nat) (a b : Value) (i : Nat) (F : RG) : Prop where
  ds : F.ds = []
  r1 : F.r 1 = cv
  r2 : F.r 2 = ptr p1 0
  r10 : F.r 10 = a
  r11 : F.r 11 = b
  r12 : F.r 12 = av
  r13 : F.r 13 = vint (i : Nat)
section
variable {main : Bool} {J : JT} {h H : List AObj} {K : Value → List AObj → Prop} {KV : Value → Prop} {HL : List AObj → Prop} {n0 : Nat} {nx0 : RG → List AObj → Prop}
theorem next27 (hJ : Closed prog main J) {t : Tro} {cs : List Int} {os : List Nat} {cv av a b : Value} {p1 i lo : Nat} {o : Option Nat} {x : Bool} {F : RG} (L : OwnL lo H av ((allOf26 cs).map (·.map Int.ofNat)) o) (hos : (allOf26 cs)[i]? = some os) (hi : i ≤ 27)
    (B : Best t cs H i a b) (G : Reg27 cv av p1 a b i F) (r14 : F.r 14 = vint (serveW t cs os)) (r73 : F.r 73 = .bool x)
    (hx : x = decide (serveW t cs os ≥ 0 ∧ (pickTo (waits26 t cs) i < 0 ∨ serveW t cs os < (waits26 t cs).getD (pickTo (waits26 t cs) i).toNat 0)))
    (hnx : ∀ F' a' b', Best t cs H (i + 1) a' b' → Reg27 cv av p1 a' b' (i + 1) F' → nx0 F' H) :
    W prog J 83 n0 27 (subC [1, 1, 1, 1, 1, 1, 1, 1, 1, 0, 1, 0, 0, 1, 0, 0, 1, 1] (codeOf f27)) F H (contX pl27 prog J 83 n0 27 ct27 [1, 1, 1, 1, 1, 1, 1, 1, 1, 0, 1, 0, 0, 1, 0, 0, 1, 1] (codeOf f27) [nx0] (RetQ prog [.tmp 4, .tmp 5, .tmp 6] n0 K)) := by
  have hw := waits_get (t := t) hos
  have e : pickTo (waits26 t cs) (i + 1) = if x = true then (i : Int) else pickTo (waits26 t cs) i := by
    conv => lhs; unfold pickTo
    rw [hw, hx]
    simp only [decide_eq_true_eq]
  have hls : ((allOf26 cs).map (·.map Int.ofNat))[i]? = some (os.map Int.ofNat) := by rw [List.getElem?_map, hos]; rfl
  rw [s27_3, r73, r14, G.r12, G.r13]
  cases x with
  | true =>
    refine cnd_true.2 (L.get hls fun q lv b1 Ob _ => addI (by omega) ?_)
    have sOb := ownX_sli Ob
    rw [List.length_map] at sOb
    refine hnx _ lv (vint (serveW t cs os)) (.inr ⟨i, os, ?_, hos, sOb, own_nunk Ob, by rw [hw]⟩) ⟨G.ds, G.r1, G.r2, rfl, rfl, G.r12, by show vint _ = vint _; congr 1⟩
    rw [e]
    rfl
  | false =>
    refine cnd_false.2 (addI (by omega) ?_)
    refine hnx _ a b ?_ ⟨G.ds, G.r1, G.r2, G.r10, G.r11, G.r12, by show vint _ = vint _; congr 1⟩
    unfold Best
    rw [e]
    exact B
theorem good27 (hJ : Closed prog main J) {v fv cv : Value} {t : Tro} {cs : List Int} (ht : TroAt H v t fv) (hc : Sli H cv 1 cs.length (cs.map vint)) (_hl : cs.length ≤ 1000) (hlt : t.flocks.length ≤ 1000000)
    (hE : servE t cs ≠ 0 → ∀ H', SameX [] H H' → K (.tuple ⟨[.slice none 0 0, vint 0, vint (servE t cs)]⟩) H')
    (hK0 : servE t cs = 0 → pick26 t cs < 0 → ∀ H', SameX [] H H' → K (.tuple ⟨[.slice none 0 0, vint 0, vint 11]⟩) H')
    (hK1 : servE t cs = 0 → ∀ (i : Nat) (c : Value) (os : List Nat) (H' : List AObj), pick26 t cs = i → (allOf26 cs)[i]? = some os → SameX [] H H' → Sli H' c 1 os.length (nvs os) → K (.tuple ⟨[c, vint ((waits26 t cs).getD i 0), vint 0]⟩) H') :
    Good prog J 27 [v, cv] H K := by
  refine g27 hJ fun ok => ?_
  rw [e27, ht.val]
  have kf := (sli_val ht.fl).2.2
  have nil : ∀ {H' : List AObj} {e : Int} {n1 : Nat}, n1 = H.length → SameX [] H H' → servE t cs = e → e ≠ 0 → retL n1 K [] [.slice none 0 0, vint 0, vint e] H' := fun {H' e n1} hn S he h0 => by
    subst he hn
    exact retL_same (nuB (by simp [unk]) (by simp [unk]) (by simp [unk])) (hE h0 H' S)
  refine qBox (tro_one ht) fun H1 p1 e1 S1 c1 l1 => load_part (c := troCells t fv) c1 (by simp [troCells]) rfl (tro_kn ht) ?_
  have t1 : TroAt H1 (.agg ⟨troCells t fv⟩) t fv := ⟨rfl, S1.sli ht.fl (by simp)⟩
  refine good49 hJ t1 hlt fun H2 S2 => neqI (cndI (fun h1 => nil rfl (S1.trans S2) (by unfold servE; rw [if_pos h1]) h1) fun h1 => ?_)
  have T2 := S1.trans S2
  have c2 := S2.get c1 (by simp)
  have h1 : troE t = 0 := Classical.not_not.1 h1
  have fl2 : SliE H2 fv 2 Dro.cells t.flocks := T2.sli ht.fl (by simp)
  have hc2 := T2.sli hc (by simp)
  have wl := (troE_well h1).2.1
  refine lenI hc2 (offI (ldI (v := fv) c2 rfl kf (lenI fl2 (lssI (cndI (fun h2 => ?_) fun h2 => ?_)))))
  · refine nil rfl T2 ?_ (by decide)
    have e : fewE cs.length t.flocks.length t.flocks.length = 7 := by unfold fewE; rw [if_pos h2]
    unfold servE
    rw [if_neg (not_not_intro h1), e]
    rfl
  refine lenI hc2 (offI (ldI (v := fv) c2 rfl kf (lenI fl2 (gtrI (cndI (fun h3 => ?_) fun h3 => ?_)))))
  · refine nil rfl T2 ?_ (by decide)
    have e : fewE cs.length t.flocks.length t.flocks.length = 6 := by unfold fewE; rw [if_neg h2, if_pos h3]
    unfold servE
    rw [if_neg (not_not_intro h1), e]
    rfl
  have hlen : cs.length = t.flocks.length := by omega
  have e0 : fewE cs.length t.flocks.length t.flocks.length = 0 := by unfold fewE; rw [if_neg h2, if_neg h3]
  refine l27_1 hJ (fun i : Nat => cs.length - i) (fun i F H' => SameX [] H2 H' ∧ i ≤ cs.length ∧ (∀ c ∈ cs.take i, 0 ≤ c ∧ c ≤ 48) ∧ (∃ o, OwnX H' 1 ((idsI i).map vint) i (F.r 8) o ∧ ∀ j, o = some j → H2.length ≤ j) ∧ F.ds = [] ∧ F.r 1 = cv ∧ F.r 2 = ptr p1 0 ∧ F.r 9 = vint (i : Nat)) ?_ (s := 0)
    (.inl ⟨SameX.refl, by omega, by simp, ⟨none, ⟨rfl, rfl, .inl ⟨rfl, rfl, rfl⟩⟩, by simp⟩, rfl, rfl, rfl, rfl⟩)
  rintro i F H' ⟨S, hi, hok, ⟨o, O, hob⟩, ds, r1, r2, r9⟩ okc hnc
  generalize hv : F.r 8 = wv at O
  rw [s27_1, r1, hv, r9, ds]
  have hc' := S.sli hc2 (by simp)
  refine lenI hc' (lssI (cndI (fun hlt2 => ?_) fun hge => ?_))
  · have hil : i < cs.length := by omega
    have hx := List.getElem?_eq_getElem hil
    refine sli_num' hc' hx fun q => good75 hJ (notI (cndN (fun hbad => ?_) fun hfine => ?_))
    · refine nil rfl (T2.trans S) ?_ (by decide)
      unfold servE
      rw [if_neg (not_not_intro h1), if_neg (not_not_intro e0), if_neg fun hall => hbad (hall _ (List.getElem_mem hil))]
    · refine ⟨by decide, fill_one (l := [vint i]) rfl rfl rfl (by decide) (fillI (qNew fun H7 p7 e7 S7 c7 l7 => ⟨by decide, ?_⟩))⟩
      have c7 : H7[p7]? = some (.cells [vint i] true 0) := c7
      refine ownX_more (ownX_keep O S7 (by simp)) (by omega) (by omega) (ownX_sli (ownX_new (s := 1) (n := 1) c7 rfl rfl)) fun v8 H8 p8 e8 O8 S8 => addI (by omega) ⟨i + 1, by dsimp only; omega, .inl ⟨(S.trans S7).thru S8 (fun y hy => .inr (hob y (Option.mem_toList.1 hy))), by omega, fun c hcm => ?_, ⟨some p8, ?_, fun j hj => ?_⟩, ds, r1, r2, by show vint _ = vint _; congr 1⟩⟩
      · rw [List.take_add_one, hx] at hcm
        rcases List.mem_append.1 hcm with hcm | hcm
        · exact hok c hcm
        · have : c = cs[i] := by simpa using hcm
          rw [this]
          exact hfine
      · rw [idsI_succ, List.map_append]
        exact O8
      · cases hj
        have := S.1
        have := S7.1
        omega
  have hie : i = cs.length := by omega
  subst hie
  rw [List.take_length] at hok
  have hs : servE t cs = 0 := by
    unfold servE
    rw [if_neg (not_not_intro h1), if_neg (not_not_intro e0), if_pos hok]
  have sO := ownX_sli O
  refine good41 hJ cs.length (l := idsI cs.length) (by omega) (idsI_len _) (by rw [idsI_len]; exact sO) fun H3 av o3 S3 L hav => ?_
  have eL : ordersR cs.length (idsI cs.length) = (allOf26 cs).map (·.map Int.ofNat) := orders_is (by omega)
  rw [eL] at L
  have few : (allOf26 cs).length ≤ 27 := by
    have h1 := perms_few (n := cs.length) (by omega) cs.length []
    have h2 := Nat.pow_le_pow_right (n := 3) (by omega) (show cs.length ≤ 3 by omega)
    unfold allOf26
    omega
  have wl2 : (waits26 t cs).length = (allOf26 cs).length := by simp [waits26]
  have T3 : SameX [] H H3 := (T2.trans S).trans S3
  have c3 := (S.trans S3).get c2 (by simp)
  clear O sO hv
  refine l27_2 hJ (fun i : Nat => (allOf26 cs).length - i) (fun i F H' => SameX [] H3 H' ∧ i ≤ (allOf26 cs).length ∧ ∃ a b, Best t cs H' i a b ∧ Reg27 cv av p1 a b i F) ?_ (s := 0)
    (.inl ⟨SameX.refl, by omega, .slice none 0 0, vint (-1), .inl ⟨by simp [pickTo], rfl, rfl⟩, ⟨ds, r1, r2, rfl, rfl, rfl, rfl⟩⟩)
  clear ds r1 r2 r9 okc hnc
  rintro i F H4 ⟨S4, hi, a, b, B, G⟩ okc hnc
  have L' := L.keep S4
  obtain ⟨lc, sL⟩ := L'.sli
  rw [List.length_map] at sL
  have T4 := T3.trans S4
  have t' : TroAt H4 (.agg ⟨troCells t fv⟩) t fv := ⟨rfl, T4.sli ht.fl (by simp)⟩
  have c' := S4.get c3 (by simp)
  have hc' := T4.sli hc (by simp)
  have pl := pickTo_lt (waits26 t cs) i
  rw [s27_2, G.r1, G.r2, G.r10, G.r11, G.r12, G.r13, G.ds]
  refine lenI sL (lssI (cndI (fun hlt => ?_) fun hge => ?_))
  · have hil : i < (allOf26 cs).length := by omega
    obtain ⟨os, hos⟩ : ∃ os, (allOf26 cs)[i]? = some os := ⟨_, List.getElem?_eq_getElem hil⟩
    have hom := List.mem_of_getElem? hos
    have I := srvIn_of hs hom
    have hol : os.length = cs.length := (perms3 (n := cs.length) (by omega) hom).2.1
    have hls : ((allOf26 cs).map (·.map Int.ofNat))[i]? = some (os.map Int.ofNat) := by rw [List.getElem?_map, hos]; rfl
    refine load_part (c := troCells t fv) c' (by simp [troCells]) rfl (tro_kn t') (L'.get hls fun q lv b1 Ob _ => ?_)
    have sOb := ownX_sli Ob
    rw [List.length_map] at sOb
    refine good76 hJ t' hc' sOb I hol fun H5 S5 => ?_
    rw [refW_is hs hom]
    have B5 := B.same S5
    have L5 := L'.keep S5
    have nx : ∀ F' a' b', Best t cs H5 (i + 1) a' b' → Reg27 cv av p1 a' b' (i + 1) F' → Nx H.length (fun i : Nat => (allOf26 cs).length - i) (fun i F H' => SameX [] H3 H' ∧ i ≤ (allOf26 cs).length ∧ ∃ a b, Best t cs H' i a b ∧ Reg27 cv av p1 a b i F) i F' H5 :=
      fun F' a' b' B' G' => ⟨i + 1, by dsimp only; omega, .inl ⟨S4.trans S5, by omega, a', b', B', G'⟩⟩
    refine geqI (cndI (fun h0 => ?_) fun h0 => hold.2 (next27 (x := false) hJ L5 hos (by omega) B5 ⟨G.ds, G.r1, G.r2, G.r10, G.r11, G.r12, G.r13⟩ rfl rfl (decide_eq_false fun e => h0 e.1).symm nx))
    rcases id B with ⟨b1, rfl, rfl⟩ | ⟨j, os2, b1, b2, b3, b4, rfl⟩
    · refine lssI (cndI (fun _ => hold.2 ?_) fun hx => absurd (by decide) hx)
      exact next27 (x := true) hJ L5 hos (by omega) B5 ⟨G.ds, G.r1, G.r2, G.r10, G.r11, G.r12, G.r13⟩ rfl rfl (decide_eq_true ⟨h0, .inl b1⟩).symm nx
    · have hp := pick_pos (waits26 t cs) i (by omega)
      rw [b1, Int.toNat_natCast] at hp
      refine lssI (cndI (fun hx => absurd hx (by omega)) fun _ => lssI (hold.2 ?_))
      refine next27 hJ L5 hos (by omega) B5 ⟨G.ds, G.r1, G.r2, G.r10, G.r11, G.r12, G.r13⟩ rfl rfl (decide_eq_decide.2 ?_) nx
      rw [b1, Int.toNat_natCast]
      exact ⟨fun e => ⟨h0, .inr e⟩, fun e => e.2.resolve_left (by omega)⟩
  · have hie : i = (allOf26 cs).length := by omega
    have hpk : pickTo (waits26 t cs) i = pick26 t cs := by
      unfold pick26
      rw [wl2, hie]
    rcases id B with ⟨b1, rfl, rfl⟩ | ⟨j, os2, b1, b2, b3, b4, rfl⟩
    · rw [hpk] at b1
      refine lssI (cndI (fun _ => ?_) fun hx => absurd (by decide) hx)
      exact retL_same (nuB (by simp [unk]) (by simp [unk]) (by simp [unk])) (hK0 hs b1 H4 T4)
    · have hp := pick_pos (waits26 t cs) i (by omega)
      rw [b1, Int.toNat_natCast] at hp
      rw [hpk] at b1
      refine lssI (cndI (fun hx => absurd hx (by omega)) fun _ => ?_)
      exact retL_same (nuB b4 (by simp [unk]) (by simp [unk])) (hK1 hs j a os2 H4 b1 b2 T4 b3)
end
structure Sm (h H : List AObj) : Prop where
  len : h.length ≤ H.length
  get : ∀ (i : Nat) (x : AObj), h[i]? = some x → H[i]? = some x ∨ (∃ cap, x = .chan cap) ∧ H[i]? = some .dead
theorem Sm.refl {h : List AObj} : Sm h h := ⟨Nat.le_refl _, fun _ _ h => .inl h⟩
theorem Sm.of {h H : List AObj} (S : SameX [] h H) : Sm h H := ⟨S.1, fun i x hx => .inl (S.get hx (by simp))⟩
theorem Sm.unch {h H : List AObj} (S : SameX [] (unch h) H) : Sm h H := ⟨by have := S.1; rwa [unch_len] at this, fun i x hx => by
  have h1 : (Go.Proofs.Ytindillghipjjaa.unch h)[i]? = some (unchO x) := by
    unfold Go.Proofs.Ytindillghipjjaa.unch
    rw [List.getElem?_map, hx]
    rfl
  have h2 := S.get h1 (by simp)
  cases x with
  | chan cap => exact .inr ⟨⟨cap, rfl⟩, h2⟩
  | _ => exact .inl h2⟩
theorem Sm.trans {h H G : List AObj} (a : Sm h H) (b : Sm H G) : Sm h G := ⟨Nat.le_trans a.1 b.1, fun i x hx => by
  rcases a.2 i x hx with h1 | ⟨h1, h2⟩
  · exact b.2 i x h1
  · rcases b.2 i _ h2 with h3 | ⟨⟨cap, h3⟩, _⟩
    · exact .inr ⟨h1, h3⟩
    · cases h3⟩
theorem Sm.at {h H : List AObj} (a : Sm h H) {i : Nat} {c : List Value} {wr : Bool} {sz : Nat} (hx : h[i]? = some (.cells c wr sz)) : H[i]? = some (.cells c wr sz) := by
  rcases a.2 i _ hx with h1 | ⟨⟨cap, h1⟩, _⟩
  · exact h1
  · cases h1
theorem Sm.sli {h H : List AObj} (a : Sm h H) {v : Value} {s n : Nat} {cs : List Value} (hs : Sli h v s n cs) : Sli H v s n cs := by
  obtain ⟨base, c, rfl, hk, hh⟩ := hs
  refine ⟨base, c, rfl, hk, hh.imp id ?_⟩
  rintro ⟨b, o, e, h0⟩
  exact ⟨b, o, e, h0.imp id fun ⟨cs, wr, sz, hb, ht⟩ => ⟨cs, wr, sz, a.at hb, ht⟩⟩
theorem Sm.tro {h H : List AObj} (a : Sm h H) {v fv : Value} {t : Tro} (ht : TroAt h v t fv) : TroAt H v t fv := ⟨ht.val, a.sli ht.fl⟩
def servX (t : Tro) (cs : List Int) : Int := if servE t cs ≠ 0 then servE t cs else if pick26 t cs < 0 then 11 else 0
def servL (t : Tro) (cs : List Int) : List Int := if servE t cs ≠ 0 then [] else if pick26 t cs < 0 then [] else ((allOf26 cs).getD (pick26 t cs).toNat []).map Int.ofNat
def servN (t : Tro) (cs : List Int) : Int := if servE t cs ≠ 0 then 0 else if pick26 t cs < 0 then 0 else (waits26 t cs).getD (pick26 t cs).toNat 0
theorem servL_len (t : Tro) (cs : List Int) : (servL t cs).length ≤ 3 := by
  unfold servL
  split
  · exact Nat.zero_le _
  · rename_i h0
    split
    · exact Nat.zero_le _
    · rw [List.length_map, List.getD_eq_getElem?_getD]
      cases e : (allOf26 cs)[(pick26 t cs).toNat]? with
      | none => exact Nat.zero_le _
      | some os => exact (srvIn_of (Classical.not_not.1 h0) (List.mem_of_getElem? e)).few
theorem sli_nilV {H : List AObj} : Sli H (.slice none 0 0) 1 0 [] := ⟨none, 0, rfl, ⟨rfl, rfl⟩, .inl ⟨rfl, rfl⟩⟩
section
variable {W0 : World} {Post : Value → World → Prop} {main : Bool} {J : JT} {h H : List AObj} {K : Value → List AObj → Prop}
theorem serv_at {t : Tro} {cs : List Int} (h0 : servE t cs = 0) {i : Nat} {os : List Nat} (hp : pick26 t cs = i) (hos : (allOf26 cs)[i]? = some os) : servX t cs = 0 ∧ servL t cs = os.map Int.ofNat ∧ servN t cs = (waits26 t cs).getD i 0 := by
  unfold servX servL servN
  have n0 : ¬ servE t cs ≠ 0 := not_not_intro h0
  have n1 : ¬ pick26 t cs < 0 := by omega
  rw [if_neg n0, if_neg n0, if_neg n0, if_neg n1, if_neg n1, if_neg n1, hp, Int.toNat_natCast, List.getD_eq_getElem?_getD, hos]
  exact ⟨rfl, rfl, rfl⟩
theorem serv_no {t : Tro} {cs : List Int} (h : servE t cs ≠ 0 ∨ servE t cs = 0 ∧ pick26 t cs < 0) : servL t cs = [] ∧ servN t cs = 0 := by
  unfold servL servN
  rcases h with h | ⟨h, h2⟩
  · rw [if_pos h, if_pos h]
    exact ⟨rfl, rfl⟩
  · have n0 : ¬ servE t cs ≠ 0 := not_not_intro h
    rw [if_neg n0, if_neg n0, if_pos h2, if_pos h2]
    exact ⟨rfl, rfl⟩
theorem good26' {a0 cv fv : Value} {t : Tro} {cs : List Int} (ht : TroAt h a0 t fv) (hc : Sli h cv 1 cs.length (cs.map vint)) (hl : cs.length ≤ 1000)
    (hK : ∀ H w, Sm h H → Sli H w 1 (servL t cs).length ((servL t cs).map vint) → K (.tuple ⟨[w, vint (servN t cs), vint (servX t cs)]⟩) H) : Good prog (J1 prog W0 Post) 26 [a0, cv] h K := by
  refine good26 ht hc hl (fun h0 => ?_) (fun h0 hp H S => ?_) fun h0 i c os H hp hos S sc => ?_
  · obtain ⟨e1, e2⟩ := serv_no (.inl h0)
    have e3 : servX t cs = servE t cs := by unfold servX; rw [if_pos h0]
    have := hK h (.slice none 0 0) Sm.refl (by rw [e1]; exact sli_nilV)
    rw [e2, e3] at this
    exact this
  · obtain ⟨e1, e2⟩ := serv_no (.inr ⟨h0, hp⟩)
    have e3 : servX t cs = 11 := by unfold servX; rw [if_neg (not_not_intro h0), if_pos hp]
    have := hK H (.slice none 0 0) (Sm.unch S) (by rw [e1]; exact sli_nilV)
    rw [e2, e3] at this
    exact this
  · obtain ⟨e1, e2, e3⟩ := serv_at h0 hp hos
    have := hK H c (Sm.unch S) (by rw [e2, List.length_map]; exact sc)
    rw [e1, e3] at this
    exact this
theorem good27' (hJ : Closed prog main J) {v fv cv : Value} {t : Tro} {cs : List Int} (ht : TroAt H v t fv) (hc : Sli H cv 1 cs.length (cs.map vint)) (hl : cs.length ≤ 1000) (hlt : t.flocks.length ≤ 1000000)
    (hK : ∀ H' w, SameX [] H H' → Sli H' w 1 (servL t cs).length ((servL t cs).map vint) → K (.tuple ⟨[w, vint (servN t cs), vint (servX t cs)]⟩) H') : Good prog J 27 [v, cv] H K := by
  refine good27 hJ ht hc hl hlt (fun h0 H' S => ?_) (fun h0 hp H' S => ?_) fun h0 i c os H' hp hos S sc => ?_
  · obtain ⟨e1, e2⟩ := serv_no (.inl h0)
    have e3 : servX t cs = servE t cs := by unfold servX; rw [if_pos h0]
    have := hK H' (.slice none 0 0) S (by rw [e1]; exact sli_nilV)
    rw [e2, e3] at this
    exact this
  · obtain ⟨e1, e2⟩ := serv_no (.inr ⟨h0, hp⟩)
    have e3 : servX t cs = 11 := by unfold servX; rw [if_neg (not_not_intro h0), if_pos hp]
    have := hK H' (.slice none 0 0) S (by rw [e1]; exact sli_nilV)
    rw [e2, e3] at this
    exact this
  · obtain ⟨e1, e2, e3⟩ := serv_at h0 hp hos
    have := hK H' c S (by rw [e2, List.length_map]; exact sc)
    rw [e1, e3] at this
    exact this
end
end Go.Proofs.Ytindillghipjjaa
namespace Go.Proofs.Ytindillghipjjaa
open Go.Conc Go.Proofs.Try
set_option maxRecDepth 100000
set_option maxHeartbeats 4000000
set_option linter.unusedVariables false
section
variable {main : Bool} {J : JT} {n0 : Nat} {h : List AObj} {K : Value → List AObj → Prop}
theorem at29 : prog.funcs[29]? = some f29 := by kernel_rfl
theorem body29 : f29.body = some (codeOf f29) := by kernel_rfl
def pl29 : Plans := [(6, true, .take 0 (.take 1 (.take 2 (.take 3 (.take 4 (.take 5 (.take 6 (.take 7 (.take 8 (.take 9 (.take 10 (.fin))))))))))))]
def ct29 : Cuts := .bin (.go) (.bin (.bin (.go) (.cut (.go))) (.go))
theorem pok29 : plansOk prog pl29 (codeOf f29) = true := by kernel_rfl
theorem e29 {a0 a1 : Value} : W prog J 38 h.length 29 (codeOf f29) (RG.mk (regs [a0, a1]) []) h (RetQ prog [.tmp 4] h.length K) =
(aBox a0 h fun v1 h2 =>
aBox a1 h2 fun v3 h4 =>
aOff v1 0 fun v5 =>
aLoad true 3 v5 h4 fun v6 =>
aOff v3 0 fun v7 =>
aLoad true 3 v7 h4 fun v8 =>
aBin prog .neq 23 v6 v8 fun v9 =>
cnd v9
(Hold (W prog J 38 h.length 29 (subC [1, 0, 1] (codeOf f29)) (RG.p (RG.p (RG.p (RG.p (RG.p (RG.p (RG.p (RG.p (RG.p (RG.p (RG.p (RG.p (RG.p (RG.p (RG.p (RG.p (RG.p (RG.p (RG.mk (regs [a0, a1]) []) 2 v1) 3 v3) 4 (Value.bool false)) 6 v5) 7 v6) 8 v7) 9 v8) 10 v9) 11 v9) 11 (Value.bool true)) 12 undef) 13 undef) 14 undef) 15 undef) 16 undef) 17 undef) 18 undef) 19 (Value.bool true)) h4 (contX pl29 prog J 38 h.length 29 ct29 [1, 0, 1] (codeOf f29) [] (RetQ prog [.tmp 4] h.length K))))
(aOff v1 3 fun v10 =>
aLoad false 1 v10 h4 fun v11 =>
aLenS v11 fun v12 =>
aOff v3 3 fun v13 =>
aLoad false 1 v13 h4 fun v14 =>
aLenS v14 fun v15 =>
aBin prog .neq 3 v12 v15 fun v16 =>
Hold (W prog J 38 h.length 29 (subC [1, 0, 1] (codeOf f29)) (RG.p (RG.p (RG.p (RG.p (RG.p (RG.p (RG.p (RG.p (RG.p (RG.p (RG.p (RG.p (RG.p (RG.p (RG.p (RG.p (RG.p (RG.p (RG.mk (regs [a0, a1]) []) 2 v1) 3 v3) 4 (Value.bool false)) 6 v5) 7 v6) 8 v7) 9 v8) 10 v9) 11 v9) 11 (Value.bool false)) 12 v10) 13 v11) 14 v12) 15 v13) 16 v14) 17 v15) 18 v16) 19 v16) h4 (contX pl29 prog J 38 h.length 29 ct29 [1, 0, 1] (codeOf f29) [] (RetQ prog [.tmp 4] h.length K))))) := top_eq pok29 ct29 (by kernel_rfl)
theorem g29 (hJ : Closed prog main J) {a0 a1 : Value} (hs : heapOk h → W prog J 38 h.length 29 (codeOf f29) (RG.mk (regs [a0, a1]) []) h (RetQ prog [.tmp 4] h.length K)) : Good prog J 29 [a0, a1] h K :=
  good_of_W hJ mixed at29 body29 (by kernel_rfl) (Nat.le_of_ble_eq_true rfl) hs
theorem s29_1 {f : RG} : W prog J 38 n0 29 (subC [1, 0, 1] (codeOf f29)) f h (contX pl29 prog J 38 n0 29 ct29 [1, 0, 1] (codeOf f29) [] (RetQ prog [.tmp 4] n0 K)) =
(cnd (f.r 19)
(retL n0 K f.ds [(Value.bool false)] h)
(Sem J 38 n0 29 (subC [1, 1, 0, 1, 0] (codeOf f29)) (RG.p f 5 (vint 0)) h (contX pl29 prog J 38 n0 29 ct29 [1, 1, 0, 1, 0] (codeOf f29) [] (RetQ prog [.tmp 4] n0 K)))) := sub_eq pok29 ct29 (by kernel_rfl)
theorem s29_2 {f : RG} {nx0 : RG → List AObj → Prop} : W prog J 38 n0 29 (subC [1, 1, 0, 1, 0, 0] (codeOf f29)) f h (thenK nx0 (contX pl29 prog J 38 n0 29 ct29 [1, 1, 0, 1, 0] (codeOf f29) [] (RetQ prog [.tmp 4] n0 K))) =
(aOff (f.r 2) 3 fun v1 =>
aLoad false 1 v1 h fun v2 =>
aLenS v2 fun v3 =>
aBin prog .lss 3 (f.r 5) v3 fun v4 =>
cnd v4
(aOff (f.r 2) 3 fun v5 =>
aLoad false 1 v5 h fun v6 =>
aIdx 2 v6 (f.r 5) fun v7 =>
aLoad true 2 v7 h fun v8 =>
aOff (f.r 3) 3 fun v9 =>
aLoad false 1 v9 h fun v10 =>
aIdx 2 v10 (f.r 5) fun v11 =>
aLoad true 2 v11 h fun v12 =>
aBin prog .neq 74 v8 v12 fun v13 =>
cnd v13
(retL n0 K f.ds [(Value.bool false)] h)
(aBin prog .add 3 (f.r 5) (vint 1) fun v14 =>
nx0 (RG.p (RG.p (RG.p (RG.p (RG.p (RG.p (RG.p (RG.p (RG.p (RG.p (RG.p (RG.p (RG.p (RG.p (RG.p (RG.p (RG.p (RG.p (RG.p f 20 (f.r 5)) 21 v1) 22 v2) 23 v3) 24 v4) 27 v5) 28 v6) 29 (f.r 5)) 30 v7) 31 v8) 32 v9) 33 v10) 34 (f.r 5)) 35 v11) 36 v12) 37 v13) 25 (f.r 5)) 26 v14) 5 v14) h))
(retL n0 K f.ds [(Value.bool true)] h)) := sub_eq pok29 ct29 (by kernel_rfl)
theorem l29_2 (hJ : Closed prog main J) {S : Type} (μ : S → Nat) (I : S → RG → List AObj → Prop) (hI : ∀ s f h, I s f h → heapOk h → n0 ≤ h.length → W prog J 38 n0 29 (subC [1, 1, 0, 1, 0, 0] (codeOf f29)) f h (thenK (Nx n0 μ I s) (contX pl29 prog J 38 n0 29 ct29 [1, 1, 0, 1, 0] (codeOf f29) [] (RetQ prog [.tmp 4] n0 K))))
  {s : S} {f : RG} (hi : Gets n0 I s f h) : Sem J 38 n0 29 (subC [1, 1, 0, 1, 0] (codeOf f29)) f h (contX pl29 prog J 38 n0 29 ct29 [1, 1, 0, 1, 0] (codeOf f29) [] (RetQ prog [.tmp 4] n0 K)) :=
  loop_rule hJ mixed (b := subC [1, 1, 0, 1, 0, 0] (codeOf f29)) (by kernel_rfl) μ I hI hi
theorem at18 : prog.funcs[18]? = some f18 := by kernel_rfl
theorem body18 : f18.body = some (codeOf f18) := by kernel_rfl
def pl18 : Plans := []
def ct18 : Cuts := .go
theorem pok18 : plansOk prog pl18 (codeOf f18) = true := by kernel_rfl
theorem e18 {a0 a1 : Value} : W prog J 14 h.length 18 (codeOf f18) (RG.mk (regs [a0, a1]) []) h (RetQ prog [.tmp 4] h.length K) =
(aBox a0 h fun v1 h2 =>
aOff v1 3 fun v3 =>
aLoad false 1 v3 h2 fun v4 =>
aLenS v4 fun v5 =>
aBin prog .gtr 3 v5 (vint 20) fun v6 =>
cnd v6
(retL h.length K [] [(Value.bool true)] h2)
(aLenS a1 fun v7 =>
aBin prog .gtr 3 v7 (vint 20) fun v8 =>
retL h.length K [] [v8] h2)) := top_eq pok18 ct18 (by kernel_rfl)
theorem g18 (hJ : Closed prog main J) {a0 a1 : Value} (hs : heapOk h → W prog J 14 h.length 18 (codeOf f18) (RG.mk (regs [a0, a1]) []) h (RetQ prog [.tmp 4] h.length K)) : Good prog J 18 [a0, a1] h K :=
  good_of_W hJ mixed at18 body18 (by kernel_rfl) (Nat.le_of_ble_eq_true rfl) hs
end
end Go.Proofs.Ytindillghipjjaa
namespace Go.Proofs.Ytindillghipjjaa
open Go.Conc Go.Proofs.Try
set_option maxRecDepth 100000
theorem teqW (a b c d e f : Int) : teq prog 10000 23 (.agg ⟨[vint a, vint b, vint c]⟩) (.agg ⟨[vint d, vint e, vint f]⟩) =
    (match some (a == d) with
    | some true => (match some (b == e) with
      | some true => (match some (c == f) with
        | some true => some true
        | some false => some false
        | none => none)
      | some false => some false
      | none => none)
    | some false => some false
    | none => none) := by kernel_rfl
theorem teqW_same (w : Wel) : teq prog 10000 23 (.agg ⟨w.cells⟩) (.agg ⟨w.cells⟩) = some true := by
  unfold Wel.cells
  rw [teqW]
  simp
theorem teqD (a b c d : Int) : teq prog 10000 74 (.agg ⟨[vint a, vint b]⟩) (.agg ⟨[vint c, vint d]⟩) =
    (match some (a == c) with
    | some true => (match some (b == d) with
      | some true => some true
      | some false => some false
      | none => none)
    | some false => some false
    | none => none) := by kernel_rfl
theorem teqD_same (d : Dro) : teq prog 10000 74 (.agg ⟨d.cells⟩) (.agg ⟨d.cells⟩) = some true := by
  unfold Dro.cells
  rw [teqD]
  simp
section
variable {main : Bool} {J : JT} {h H : List AObj} {K : Value → List AObj → Prop} {KV : Value → Prop} {HL : List AObj → Prop} {n0 : Nat}
theorem neqSame {t : TypeId} {c : Array Value} (ht : teq prog 10000 t (.agg c) (.agg c) = some true) (hg : prog.eqGuardType prog.depth t = false) (hk : KV (.bool false)) : aBin prog .neq t (.agg c) (.agg c) KV := by
  show aEq prog true t (.agg c) (.agg c) KV
  unfold aEq
  rw [ht]
  exact ⟨hg, hk⟩
theorem good18 (hJ : Closed prog main J) {v fv rv : Value} {t : Tro} {r : List Int} (ht : TroAt H v t fv) (hr : Sli H rv 1 r.length (r.map vint)) (hK : ∀ H', SameX [] H H' → K (.bool (decide ((t.flocks.length : Int) > 20 ∨ (r.length : Int) > 20))) H') : Good prog J 18 [v, rv] H K := by
  refine g18 hJ fun ok => ?_
  rw [e18, ht.val]
  have kf := (sli_val ht.fl).2.2
  refine qBox (tro_one ht) fun H1 p1 e1 S1 c1 l1 => offI (ldI (v := fv) c1 rfl kf (lenI (S1.sli ht.fl (by simp)) (gtrI (cndI (fun h1 => ?_) fun h1 => lenI (S1.sli hr (by simp)) (gtrI ?_)))))
  · have := hK H1 S1
    rw [decide_eq_true (show (t.flocks.length : Int) > 20 ∨ (r.length : Int) > 20 from .inl h1)] at this
    exact retL_same (by simp [unk]) this
  · have := hK H1 S1
    rw [show decide ((t.flocks.length : Int) > 20 ∨ (r.length : Int) > 20) = decide ((r.length : Int) > 20) from decide_eq_decide.2 ⟨fun h => h.resolve_left h1, .inr⟩] at this
    exact retL_same (by simp [unk]) this
theorem good29 (hJ : Closed prog main J) {v w fv gv : Value} {t : Tro} (ht : TroAt H v t fv) (hw : TroAt H w t gv) (hl : t.flocks.length < 1000000) (hK : ∀ H', SameX [] H H' → K (.bool true) H') : Good prog J 29 [v, w] H K := by
  refine g29 hJ fun ok => ?_
  rw [e29, ht.val, hw.val]
  have kf := (sli_val ht.fl).2.2
  have kg := (sli_val hw.fl).2.2
  refine qBox (tro_one ht) fun H1 p1 e1 S1 c1 l1 => qBox (tro_one hw) fun H2 p2 e2 S2 c2 l2 => ?_
  have c12 := S2.get c1 (by simp)
  have T2 := S1.trans S2
  have st : SliE H2 fv 2 Dro.cells t.flocks := T2.sli ht.fl (by simp)
  have sw : SliE H2 gv 2 Dro.cells t.flocks := T2.sli hw.fl (by simp)
  refine offI (load_part (c := t.well.cells) c12 (by simp [troCells]) rfl rfl (offI (load_part (c := t.well.cells) c2 (by simp [troCells]) rfl rfl ?_)))
  refine neqSame (teqW_same t.well) (by kernel_rfl) (cnd_false.2 ?_)
  refine offI (ldI (v := fv) c12 rfl kf (lenI st (offI (ldI (v := gv) c2 rfl kg (lenI sw (neqI (hold.2 ?_)))))))
  rw [s29_1]
  have e : ∀ {A B : Prop}, B → cnd (Value.bool (decide ((t.flocks.length : Int) ≠ t.flocks.length))) A B := fun hB => cndI (fun hx => absurd rfl hx) fun _ => hB
  refine e ?_
  refine l29_2 hJ (fun i : Nat => t.flocks.length - i) (fun i F H' => H' = H2 ∧ i ≤ t.flocks.length ∧ F.ds = [] ∧ F.r 2 = ptr p1 0 ∧ F.r 3 = ptr p2 0 ∧ F.r 5 = vint (i : Nat)) ?_ (s := 0)
    (.inl ⟨rfl, by omega, rfl, rfl, rfl, rfl⟩)
  rintro i F H' ⟨rfl, hi, ds, r2, r3, r5⟩ okc hnc
  rw [s29_2, r2, r3, r5, ds]
  refine offI (ldI (v := fv) c12 rfl kf (lenI st (lssI (cndI (fun hlt => ?_) fun hge => retL_same (by simp [unk]) (hK H' T2)))))
  have hil : i < t.flocks.length := by omega
  obtain ⟨b, o, cs, wr, sz, hidx, hb, hol, hft, hkn⟩ := sliE_elem dro_len (by omega) st hil
  obtain ⟨b', o', cs', wr', sz', hidx', hb', hol', hft', hkn'⟩ := sliE_elem dro_len (by omega) sw hil
  refine offI (ldI (v := fv) c12 rfl kf (hidx _ (load_part hb hol hft hkn ?_)))
  refine offI (ldI (v := gv) c2 rfl kg (hidx' _ (load_part hb' hol' hft' hkn' ?_)))
  refine neqSame (teqD_same t.flocks[i]) (by kernel_rfl) (cnd_false.2 ?_)
  exact addI (by omega) ⟨i + 1, by dsimp only; omega, .inl ⟨rfl, by omega, ds, r2, r3, by show vint _ = vint _; congr 1⟩⟩
end
abbrev TF := Tro × Value
def tfC (x : TF) : List Value := troCells x.1 x.2
theorem tfC_len (x : TF) : (tfC x).length = 4 := rfl
theorem tf12 {z0 z1 z2 z3 a0 a1 a2 a3 b0 b1 b2 b3 c0 c1 c2 c3 : Value} :
    wrAt (wrAt (wrAt (zrep [z0, z1, z2, z3] 3) 0 [a0, a1, a2, a3]) 4 [b0, b1, b2, b3]) 8 [c0, c1, c2, c3] = [a0, a1, a2, a3, b0, b1, b2, b3, c0, c1, c2, c3] := by kernel_rfl
theorem tz12 {z0 z1 z2 z3 : Value} : (zrep [z0, z1, z2, z3] 3).length = 12 := by kernel_rfl
theorem fillT {x y z : TF} {KL : List Value → Prop} (hx : (tfC x).all one = true) (hy : (tfC y).all one = true) (hz : (tfC z).all one = true) (hk : KL ([x, y, z].flatMap tfC)) :
    aFill (zrep [vint 0, vint 0, vint 0, .slice none 0 0] 3) [(0, 4, .agg ⟨tfC x⟩), (4, 4, .agg ⟨tfC y⟩), (8, 4, .agg ⟨tfC z⟩)] KL := by
  unfold aFill
  refine ⟨rfl, hx, by rw [tz12]; decide, ?_⟩
  unfold aFill
  refine ⟨rfl, hy, by rw [wrAt_length, tz12]; decide, ?_⟩
  unfold aFill
  refine ⟨rfl, hz, by rw [wrAt_length, wrAt_length, tz12]; decide, ?_⟩
  unfold aFill
  show KL (wrAt (wrAt (wrAt _ 0 (tfC x)) 4 (tfC y)) 8 (tfC z))
  unfold tfC troCells
  rw [tf12]
  exact hk
theorem t3v {z a b c : Value} : wrAt (wrAt (wrAt (zrep [z] 3) 0 [a]) 1 [b]) 2 [c] = [a, b, c] := by kernel_rfl
theorem tz3 {z : Value} : (zrep [z] 3).length = 3 := by kernel_rfl
theorem fillV {a b c z : Value} {KL : List Value → Prop} (ha : a.cells = #[a] ∧ one a = true) (hb : b.cells = #[b] ∧ one b = true) (hc : c.cells = #[c] ∧ one c = true) (hk : KL [a, b, c]) :
    aFill (zrep [z] 3) [(0, 1, a), (1, 1, b), (2, 1, c)] KL := by
  refine fill_one (l := [a]) (by rw [ha.1]) rfl (by simp [ha.2]) (by rw [tz3]; decide) ?_
  refine fill_one (l := [b]) (by rw [hb.1]) rfl (by simp [hb.2]) (by rw [wrAt_length, tz3]; decide) ?_
  refine fill_one (l := [c]) (by rw [hc.1]) rfl (by simp [hc.2]) (by rw [wrAt_length, wrAt_length, tz3]; decide) ?_
  unfold aFill
  rw [t3v]
  exact hk
section
variable {W0 : World} {Post : Value → World → Prop} {h H : List AObj} {K : Value → List AObj → Prop} {n0 : Nat} {nx0 : RG → List AObj → Prop}
theorem same28 {main : Bool} {J : JT} (hJ : Closed prog main J) {av bv : Value} {l : List Int} (ha : Sli H av 1 l.length (l.map vint)) (hb : Sli H bv 1 l.length (l.map vint)) (hl : l.length < 1000000) (hK : K (.bool true) H) : Good prog J 28 [av, bv] H K :=
  good28 hJ ha hb (by omega) (by rw [decide_eq_true rfl]; exact hK)
theorem rest3 {H0 : List AObj} {p24 p27 p14 i : Nat} {t : Tro} {fv fv' sv w : Value} {cs : List Int} {cells : List Value} {sc : List Value} {F : RG}
    (M : Sm H0 H) (h24 : H0[p24]? = some (.cells cells true 0)) (hcl : cells.length = 12) (hft : (cells.drop (i * 4)).take 4 = troCells t fv) (h27 : H0[p27]? = some (.cells sc true 0)) (hsl : sc[i]? = some sv) (hi : i < 3)
    (tx : TroAt H0 (.agg ⟨troCells t fv⟩) t fv) (ty : Sli H0 sv 1 cs.length (cs.map vint)) (hb1 : t.flocks.length ≤ 20) (hb2 : cs.length ≤ 20)
    (c14 : H[p14]? = some (.cells (troCells t fv') true 0)) (to : TroAt H (.agg ⟨troCells t fv'⟩) t fv') (so : Sli H w 1 cs.length (cs.map vint))
    (ds : F.ds = []) (r11 : F.r 11 = .slice (some ⟨p24, 0, none⟩) 3 3) (r12 : F.r 12 = .slice (some ⟨p27, 0, none⟩) 3 3) (r13 : F.r 13 = vint (i : Nat)) (r14 : F.r 14 = ptr p14 0) (r15 : F.r 15 = w)
    (hnx : ∀ F' H', Sm H H' → F'.ds = [] → F'.r 11 = .slice (some ⟨p24, 0, none⟩) 3 3 → F'.r 12 = .slice (some ⟨p27, 0, none⟩) 3 3 → F'.r 13 = vint ((i + 1 : Nat) : Int) → nx0 F' H') :
    W prog (J1 prog W0 Post) 124 n0 3 (subC [1, 1, 1, 1, 1, 1, 1, 0, 1, 0, 0, 1, 0, 0, 1] (codeOf f3)) F H (contX pl3 prog (J1 prog W0 Post) 124 n0 3 ct3 [1, 1, 1, 1, 1, 1, 1, 0, 1, 0, 0, 1, 0, 0, 1] (codeOf f3) [nx0] (RetQ prog [.tmp 6] n0 K)) := by
  have hJ := J1.closed prog W0 Post
  have kx : kn (troCells t fv) = true := tro_kn tx
  have ko : kn (troCells t fv') = true := tro_kn to
  have ks : kn1 sv = true := (sli_val ty).2.2
  have idx : ∀ {H' : List AObj} {KI : Value → Value → Prop}, Sm H0 H' → (KI (ptr p24 (i * 4)) (.agg ⟨troCells t fv⟩)) → aIdx 4 (.slice (some ⟨p24, 0, none⟩) 3 3) (vint (i : Nat)) fun v => aLoad true 4 v H' (KI v) := fun S' hk => by
    refine idxI ⟨by omega, by omega⟩ ?_
    rw [Int.toNat_natCast, Nat.zero_add]
    exact load_part (c := troCells t fv) (S'.at h24) (by omega) hft kx hk
  have ids : ∀ {H' : List AObj} {KI : Value → Value → Prop}, Sm H0 H' → (KI (ptr p27 i) sv) → aIdx 1 (.slice (some ⟨p27, 0, none⟩) 3 3) (vint (i : Nat)) fun v => aLoad false 1 v H' (KI v) := fun S' hk => by
    refine idxI ⟨by omega, by omega⟩ ?_
    rw [Int.toNat_natCast, Nat.zero_add, Nat.mul_one]
    exact ldI (S'.at h27) hsl ks hk
  rw [s3_3, r11, r12, r13, r14, r15]
  have hll := servL_len t cs
  refine load_part (c := troCells t fv') c14 (by simp [troCells]) rfl ko (good26' to so (by omega) fun H2 a2 M2 A2 => ext30 (ext31 (ext32 ?_)))
  have M02 := M.trans M2
  refine idx M02 (ids M02 (good27' hJ (M02.tro tx) (M02.sli ty) (by omega) (by omega) fun H3 b3 S3 B3 => ext30 (ext31 (ext32 ?_))))
  have M23 := Sm.of S3
  have M03 := M02.trans M23
  have A3 := M23.sli A2
  have d14 := (M2.trans M23).at c14
  have to3 := (M2.trans M23).tro to
  have so3 := (M2.trans M23).sli so
  have tx3 := M03.tro tx
  have ty3 := M03.sli ty
  have d24 := M03.at h24
  have d27 := M03.at h27
  have sb : ∀ {H''}, SameX [] H3 H'' → SameB (some [p14, p24, p27]) H3 H'' := fun S'' b hb => S''.2 b (by
    have := lt_of_get d14
    have := lt_of_get d24
    have := lt_of_get d27
    simp at hb
    rcases hb with rfl | rfl | rfl <;> omega) (by simp)
  refine ⟨[p14, p24, p27], neqI (cndI (fun hx => absurd rfl hx) fun _ => neqI (cndI (fun hx => absurd rfl hx) fun _ => ?_))⟩
  refine same28 hJ A3 B3 (by omega) ⟨fun _ _ => rfl, notI (cnd_false.2 ?_)⟩
  refine load_part (c := troCells t fv') d14 (by simp [troCells]) rfl ko ⟨by simp [RdOk, ptr, ptrBlk], ?_⟩
  refine idx M03 ⟨by simp [RdOk, ptr, ptrBlk], ?_⟩
  refine good29 hJ to3 tx3 (by omega) fun H4 S4 => ⟨sb S4, notI (cnd_false.2 ?_)⟩
  have M04 := M03.trans (Sm.of S4)
  refine ids M04 ⟨by simp [RdOk, ptr, ptrBlk], ?_⟩
  refine same28 hJ ((Sm.of S4).sli so3) ((Sm.of S4).sli ty3) (by omega) ⟨sb S4, notI (hold.2 ?_)⟩
  rw [s3_4]
  show cnd (.bool false) _ _
  refine cnd_false.2 ?_
  show aBin prog .add 3 (F.r 13) (vint 1) _
  rw [r13]
  refine addI (by omega) ?_
  exact hnx _ H4 ((M2.trans M23).trans (Sm.of S4)) ds r11 r12 (by show vint _ = vint _; congr 1)
theorem loop3 {H0 : List AObj} {p24 p27 : Nat} {xs : List TF} {ys : List (List Int × Value)} {F : RG}
    (t0 : F.ds = []) (t11 : F.r 11 = .slice (some ⟨p24, 0, none⟩) 3 3) (t12 : F.r 12 = .slice (some ⟨p27, 0, none⟩) 3 3) (t13 : F.r 13 = vint (0 : Nat))
    (h24 : H0[p24]? = some (.cells (xs.flatMap tfC) true 0)) (h27 : H0[p27]? = some (.cells (ys.map (·.2)) true 0)) (lx : xs.length = 3) (ly : ys.length = 3)
    (hx : ∀ x ∈ xs, TroAt H0 (.agg ⟨tfC x⟩) x.1 x.2 ∧ x.1.flocks.length ≤ 20) (hy : ∀ y ∈ ys, Sli H0 y.2 1 y.1.length (y.1.map vint) ∧ y.1.length ≤ 20) (hK : ∀ h', K (.bool true) h') :
    Sem (J1 prog W0 Post) 124 n0 3 (subC [1, 1, 1, 1, 1, 1, 1, 0, 1, 0] (codeOf f3)) F H0 (contX pl3 prog (J1 prog W0 Post) 124 n0 3 ct3 [1, 1, 1, 1, 1, 1, 1, 0, 1, 0] (codeOf f3) [] (RetQ prog [.tmp 6] n0 K)) := by
  have hJ := J1.closed prog W0 Post
  refine l3_2 hJ (fun i : Nat => 3 - i) (fun i f H => Sm H0 H ∧ i ≤ 3 ∧ f.ds = [] ∧ f.r 11 = .slice (some ⟨p24, 0, none⟩) 3 3 ∧ f.r 12 = .slice (some ⟨p27, 0, none⟩) 3 3 ∧ f.r 13 = vint (i : Nat)) ?_ (s := 0)
    (.inl ⟨Sm.refl, by omega, t0, t11, t12, t13⟩)
  rintro i f H ⟨M, hi, ds, r11, r12, r13⟩ ok' hn'
  rw [s3_2, r11, r12, r13, ds, lenS]
  refine lssI (cndI (fun hlt => ?_) fun hge => good19 fun H3 => retL_same (by simp [unk]) (hK _))
  have hi3 : i < 3 := by omega
  obtain ⟨tx, bx⟩ := hx xs[i] (List.getElem_mem (by omega))
  obtain ⟨ty, by_⟩ := hy ys[i] (List.getElem_mem (by omega))
  have hft := flat_take tfC_len xs i (by omega)
  have hfl : (xs.flatMap tfC).length = 12 := by
    have : ∀ l : List TF, (l.flatMap tfC).length = l.length * 4 := fun l => by
      induction l with
      | nil => rfl
      | cons x l ih => rw [List.flatMap_cons, List.length_append, ih, tfC_len, List.length_cons]; omega
    rw [this, lx]
  have hyi : (ys.map (·.2))[i]? = some ys[i].2 := by rw [List.getElem?_map, List.getElem?_eq_getElem (by omega)]; rfl
  generalize xs[i] = x at *
  generalize ys[i] = y at *
  obtain ⟨t, fv⟩ := x
  obtain ⟨cs, sv⟩ := y
  dsimp only at tx bx ty by_ hyi
  have hft : ((xs.flatMap tfC).drop (i * 4)).take 4 = troCells t fv := hft
  have tx : TroAt H0 (.agg ⟨troCells t fv⟩) t fv := tx
  have kx : kn (troCells t fv) = true := tro_kn tx
  have ks : kn1 sv = true := (sli_val ty).2.2
  have d24 := M.at h24
  have d27 := M.at h27
  have sb : ∀ {H''}, SameX [] H H'' → SameB (some [p24, p27]) H H'' := fun S'' b hb => S''.2 b (by
    have := lt_of_get d24
    have := lt_of_get d27
    simp at hb
    rcases hb with rfl | rfl <;> omega) (by simp)
  have txH := M.tro tx
  have tyH := M.sli ty
  have nx : ∀ {H2 : List AObj}, Sm H H2 → ∀ F' H', Sm H2 H' → F'.ds = [] → F'.r 11 = .slice (some ⟨p24, 0, none⟩) 3 3 → F'.r 12 = .slice (some ⟨p27, 0, none⟩) 3 3 → F'.r 13 = vint ((i + 1 : Nat) : Int) → Nx n0 (fun i : Nat => 3 - i) (fun i f H => Sm H0 H ∧ i ≤ 3 ∧ f.ds = [] ∧ f.r 11 = .slice (some ⟨p24, 0, none⟩) 3 3 ∧ f.r 12 = .slice (some ⟨p27, 0, none⟩) 3 3 ∧ f.r 13 = vint (i : Nat)) i F' H' :=
    fun M2 F' H' M' a b c d => ⟨i + 1, by dsimp only; omega, .inl ⟨(M.trans M2).trans M', by omega, a, b, c, d⟩⟩
  refine ⟨[p24, p27], idxI ⟨by omega, by omega⟩ ?_⟩
  rw [Int.toNat_natCast, Nat.zero_add]
  refine load_part (c := troCells t fv) d24 (by omega) hft kx ⟨by simp [RdOk, ptr, ptrBlk], idxI ⟨by omega, by omega⟩ ?_⟩
  rw [Int.toNat_natCast, Nat.zero_add, Nat.mul_one]
  refine ldI d27 hyi ks ⟨by simp [RdOk, ptr, ptrBlk], ?_, ?_⟩
  · refine good24 hJ txH (by omega) fun H1 fv' o1 S1 O1 ho1 => ⟨sb S1, ?_, ?_⟩
    · refine good25X hJ (S1.sli tyH (by simp)) (by omega) fun H2 w o2 S2 O2 ho2 => ?_
      refine qAl fun H3 p14 e3 S3 c3 l3 => ⟨sb ((S1.trans S2).trans S3), ?_⟩
      have S13 := S2.trans S3
      have to : TroAt H3 (.agg ⟨troCells t fv'⟩) t fv' := ⟨rfl, ownX_sli (ownX_keep O1 S13 (by simp))⟩
      have := S1.1
      have := S2.1
      refine qStA (c := troCells t fv') c3 rfl rfl (tro_one to) fun H4 S4 c4 l4 => hold.2 ?_
      have S24 : SameX [] H2 H4 := S3.thru S4 (by simp; omega)
      have S14 := S2.trans S24
      have SH4 := S1.trans S14
      exact rest3 (M.trans (Sm.of SH4)) h24 hfl hft h27 hyi hi3 tx ty bx by_ c4 ⟨rfl, ownX_sli (ownX_keep O1 S14 (by simp))⟩ (ownX_sli (ownX_keep O2 S24 (by simp))) ds r11 r12 r13 rfl rfl (nx (Sm.of SH4))
    · refine qAl fun H2 p14 e2 S2 c2 l2 => ⟨sb (S1.trans S2), ?_⟩
      refine good25X hJ ((S1.trans S2).sli tyH (by simp)) (by omega) fun H3 w o2 S3 O2 ho2 => ?_
      have S13 := S2.trans S3
      have to : TroAt H3 (.agg ⟨troCells t fv'⟩) t fv' := ⟨rfl, ownX_sli (ownX_keep O1 S13 (by simp))⟩
      have := S1.1
      have := S2.1
      refine qStA (c := troCells t fv') (S3.get c2 (by simp)) rfl rfl (tro_one to) fun H4 S4 c4 l4 => hold.2 ?_
      have S14 : SameX [] H1 H4 := (S2.trans S3).thru S4 (by simp; omega)
      have SH4 := S1.trans S14
      exact rest3 (M.trans (Sm.of SH4)) h24 hfl hft h27 hyi hi3 tx ty bx by_ c4 ⟨rfl, ownX_sli (ownX_keep O1 S14 (by simp))⟩ (ownX_sli (ownX_keep O2 S4 (fun j hj => by cases hj; simp; omega))) ds r11 r12 r13 rfl rfl (nx (Sm.of SH4))
  · refine qAl fun H1 p14 e1 S1 c1 l1 => ⟨sb S1, ?_⟩
    refine good24 hJ (troAt_same txH S1 (by simp)) (by omega) fun H2 fv' o1 S2 O1 ho1 => ⟨sb (S1.trans S2), ?_⟩
    refine good25X hJ ((S1.trans S2).sli tyH (by simp)) (by omega) fun H3 w o2 S3 O2 ho2 => ?_
    have to : TroAt H3 (.agg ⟨troCells t fv'⟩) t fv' := ⟨rfl, ownX_sli (ownX_keep O1 S3 (by simp))⟩
    have := S1.1
    have := S2.1
    have := S3.1
    refine qStA (c := troCells t fv') ((S2.trans S3).get c1 (by simp)) rfl rfl (tro_one to) fun H4 S4 c4 l4 => hold.2 ?_
    have SH4 : SameX [] H H4 := ((S1.trans S2).trans S3).thru S4 (by simp; omega)
    exact rest3 (M.trans (Sm.of SH4)) h24 hfl hft h27 hyi hi3 tx ty bx by_ c4 ⟨rfl, ownX_sli (ownX_keep (ownX_keep O1 S3 (by simp)) S4 (fun j hj => by cases hj; simp; omega))⟩ (ownX_sli (ownX_keep O2 S4 (fun j hj => by cases hj; simp; omega))) ds r11 r12 r13 rfl rfl (nx (Sm.of SH4))
theorem walk3 {tv fv cv nv : Value} {t : Tro} {cs ns : List Int} (ht : TroAt h tv t fv) (hc : Sli h cv 1 cs.length (cs.map vint)) (sn : Sli h nv 1 ns.length (ns.map vint)) (hln : ns.length < 4611686018427387904) (hK : ∀ h', K (.bool true) h') :
    W prog (J1 prog W0 Post) 124 h.length 3 (codeOf f3) (RG.mk (regs [tv, cv, nv]) []) h (RetQ prog [.tmp 6] h.length K) := by
  have hJ := J1.closed prog W0 Post
  rw [e3, ht.val]
  refine qBox (tro_one ht) fun Ha p3 ea Sa ca la => ?_
  have ta : TroAt Ha (.agg ⟨troCells t fv⟩) t fv := ⟨rfl, Sa.sli ht.fl (by simp)⟩
  refine load_part (c := troCells t fv) ca (by simp [troCells]) rfl (tro_kn ta) ?_
  refine good18 hJ ta (Sa.sli hc (by simp)) fun Hb Sb => cndI (fun _ => good19 fun H3 => retL_same (by simp [unk]) (hK _)) fun hsm => ?_
  have Sab := Sa.trans Sb
  have cab := Sb.get ca (by simp)
  have tb := troAt_same ta Sb (by simp)
  have hcb := Sab.sli hc (by simp)
  refine newX hJ (Sab.sli sn (by simp)) hln fun H0 a0 => ?_
  refine good21 hJ a0 (by omega) (by omega) (by omega) fun t2 fv2 o H1 ot S1 a1 TO => ?_
  have f := ot.fine (by omega)
  have fl := f.len
  have tt := TO.at
  refine qAl fun H2 p8 e2 S2 c2 l2 => qStA (c := troCells t2 fv2) c2 rfl rfl (tro_one tt) fun H3 S3 c3 l3 => ?_
  have S13 : SameX [] H1 H3 := S2.thru S3 (by simp; omega)
  have t3 := TO.same S13 (by simp)
  have a3 := a1.same S13 (by simp)
  have kf := (sli_val t3.at.fl).2.2
  have hlb0 := a0.lt
  have hS1 := S1.1
  refine l3_1 hJ (fun i : Nat => t2.flocks.length - i) (fun i F H' => ∃ k ds v1 o1, HX Hb H' ns k ∧ k ≤ 100 + 5 * i ∧ SameX [Hb.length] H3 H' ∧ i ≤ t2.flocks.length ∧ OwnX H' 1 ((ds : List Int).map vint) ds.length v1 o1 ∧ (∀ j, o1 = some j → H3.length ≤ j) ∧ ds.length = i ∧
      F.ds = [] ∧ F.r 1 = cv ∧ F.r 3 = ptr p3 0 ∧ F.r 7 = ptr Hb.length 0 ∧ F.r 8 = ptr p8 0 ∧ F.r 9 = v1 ∧ F.r 10 = vint (i : Nat)) ?_ (s := 0)
    (.inl ⟨_, [], .slice none 0 0, none, a3, by omega, SameX.refl, by omega, ⟨rfl, rfl, .inl ⟨rfl, rfl, rfl⟩⟩, by simp, rfl, rfl, rfl, rfl, rfl, rfl, rfl, rfl⟩)
  rintro i F H' ⟨k, ds', v1, o1, a', hk, S, hi, O1, b1, hcl, ds, r1, r3, r7, r8, r9, r10⟩ okc hnc
  have hp8 : p8 ≠ Hb.length := by
    have := a1.lt
    omega
  have c' := S.get c3 (by simpa using hp8)
  have t' := t3.same S (fun j hj => by have := t3.b j hj; simp; omega)
  rw [s3_1, r1, r3, r7, r8, r9, r10]
  refine offI (ldI (v := fv2) c' rfl kf (lenI t'.at.fl (lssI (cndI (fun hlt => ?_) fun hge => ?_))))
  · refine upX hJ a' (by omega) (by omega) fun y1 H4 y11 y12 S4 l4 a4 => upX hJ a4 (by omega) (by omega) fun y2 H5 y21 y22 S5 l5 a5 => ?_
    refine ⟨by decide, fill_one (l := [vint y1]) rfl rfl rfl (by decide) (fill_one (l := [vint y2]) rfl rfl rfl (Nat.le_of_ble_eq_true rfl) (fillI (qNew fun H6 p6 e6 S6 c6 l6 => ?_)))⟩
    have c6 : H6[p6]? = some (.cells ([y1, y2].map vint) true 0) := c6
    have a6 := a5.same S6 (by simp)
    have hl6 := a5.lt
    refine ofX hJ a6 (by omega) (others := [y1, y2]) c6 (by omega) rfl (by decide) fun y H7 hy S7 l7 a7 => ?_
    have S47 : SameX [Hb.length] H' H7 := ((S4.trans S5).trans S6.weak0).trans S7
    have hlS := S.1
    have hl3 := a3.lt
    have O17 := ownX_keep O1 S47 (fun j hj => by have := b1 j hj; simp; omega)
    refine ⟨by decide, fill_one (l := [vint y]) rfl rfl rfl (by decide) (fillI (qNew fun H8 q8 e8 S8 c8 l8 => ⟨by decide, ?_⟩))⟩
    have c8 : H8[q8]? = some (.cells [vint y] true 0) := c8
    have O18 := ownX_keep O17 S8 (by simp)
    refine ownX_more O18 (by omega) (by omega) (ownX_sli (ownX_new (s := 1) (n := 1) (l := [vint y]) c8 rfl rfl)) fun v1' H9 p9 e9 O9 S9 => addI (by omega) ?_
    have a8 := a7.same S8 (by simp)
    have hb1 : ∀ x ∈ o1.toList, Hb.length < x := fun x hx => by have := b1 x (Option.mem_toList.1 hx); omega
    have a9 := a8.same S9 hb1
    have hS7 := S47.1
    have hS8 := S8.1
    have S39 : SameX [Hb.length] H3 H9 := ((S.trans S47).trans S8.weak0).thru S9 (fun y hy => .inr (b1 y (Option.mem_toList.1 hy)))
    refine ⟨i + 1, by dsimp only; omega, .inl ⟨_, ds' ++ [y], v1', some p9, a9, by omega, S39, by omega, ?_, fun j hj => ?_, by simp [hcl], ds, r1, r3, r7, r8, rfl, by show vint _ = vint _; congr 1⟩⟩
    · rw [List.map_append, List.length_append]
      exact O9
    · cases hj
      omega
  · have hie : i = t2.flocks.length := by omega
    have bH : SameX [] Hb H' := a'.pre
    have d3 := bH.get cab (by simp)
    have t1' := troAt_same tb bH (by simp)
    have hc' := bH.sli hcb (by simp)
    refine load_part (c := troCells t fv) d3 (by simp [troCells]) rfl (tro_kn t1') ?_
    refine load_part (c := troCells t2 fv2) c' (by simp [troCells]) rfl (tro_kn t'.at) ?_
    refine load_part (c := troCells t2 fv2) c' (by simp [troCells]) rfl (tro_kn t'.at) ?_
    refine ⟨by decide, fillT (x := (t, fv)) (y := (t2, fv2)) (z := (t2, fv2)) (tro_one t1') (tro_one t'.at) (tro_one t'.at) (qNew fun Hc pc ec Sc cc lc => ⟨by decide, ?_⟩)⟩
    have vc := sli_val hc'
    have vs := sli_val (ownX_sli O1)
    refine fillV ⟨vc.1, vc.2.1⟩ ⟨vs.1, vs.2.1⟩ ⟨vc.1, vc.2.1⟩ (qNew fun Hd pd ed Sd cd ld => ?_)
    have Scd := Sc.trans Sd
    refine loop3 (xs := [(t, fv), (t2, fv2), (t2, fv2)]) (ys := [(cs, cv), (ds', v1), (cs, cv)]) ds rfl rfl rfl (Sd.get cc (by simp)) cd rfl rfl (fun x hx => ?_) (fun y hy => ?_) hK
    · simp only [List.mem_cons, List.not_mem_nil, or_false] at hx
      have q1 : TroAt Hd (.agg ⟨tfC (t, fv)⟩) t fv := troAt_same t1' Scd (by simp)
      have q2 : TroAt Hd (.agg ⟨tfC (t2, fv2)⟩) t2 fv2 := troAt_same t'.at Scd (by simp)
      rcases hx with rfl | rfl | rfl
      · exact ⟨q1, by show t.flocks.length ≤ 20; omega⟩
      · exact ⟨q2, by show t2.flocks.length ≤ 20; omega⟩
      · exact ⟨q2, by show t2.flocks.length ≤ 20; omega⟩
    · simp only [List.mem_cons, List.not_mem_nil, or_false] at hy
      rcases hy with rfl | rfl | rfl
      · exact ⟨Scd.sli hc' (by simp), by show cs.length ≤ 20; omega⟩
      · exact ⟨Scd.sli (ownX_sli O1) (by simp), by show ds'.length ≤ 20; omega⟩
      · exact ⟨Scd.sli hc' (by simp), by show cs.length ≤ 20; omega⟩
end
end Go.Proofs.Ytindillghipjjaa
