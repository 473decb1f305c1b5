/- Parts of the proof, 4. No conditions. -/
import Derived.Test.YtdgpacdknpahnaaK3
import Derived.Test.YtdgpacdknpahnaaK2

namespace Go.Proofs.Ytdgpacdknpahnaa
open Go.Conc
def JF : JT := fun _ _ _ => False
theorem closedF (P : Program) (main : Bool) : Closed P main JF where
  rely := fun h _ => h
  step := fun _ h => by
    obtain ⟨_, _, _, _, _, _, h⟩ := h _ (RelyW.refl _ _)
    exact h

section
variable {P : Program} {main : Bool} {J : JT} {C : CB} {N n0 : Nat} {ds : List Nat} {fn : FuncId} {ops : Array Oper}
def QP (Q : QB) : QT := fun e f h => ∃ l ds x, f = rgOf l ds ∧ h = hOf x ∧ Q e l ds x = true

theorem xjump_t {pend : Option Code} {Q : QB} {l : T Value} {ds : List Nat} {x : XH} (hx : xjump pend Q l ds x = true) : jumpQ pend (QP Q) ⟨gt l, ds⟩ (hOf x) := by
  unfold xjump at hx
  unfold jumpQ
  split at hx
  · exact ⟨l, ds, x, rfl, rfl, hx⟩
  · exact ⟨l, ds, x, rfl, rfl, hx⟩
  · exact ⟨l, ds, x, rfl, rfl, hx⟩
  · cases hx

def LSound (J : JT) (N n0 : Nat) (fn : FuncId) (lp : Code → T Value → List Nat → XH → QB → Bool) : Prop := ∀ b l ds x Q, lp b l ds x Q = true → Sem J N n0 fn (.loop b) (rgOf l ds) (hOf x) (QP Q)

theorem first_run (hC : CSound P JF C) {todo : List Nat} {l : T Value} {x : XH} {K : LB} (hx : xops P C N ops todo l x [] K = true) {ρ : Env} {FC : Frm} {w : World} {ft : Foot} {a : Act}
    (A : ActRel (hOf x).length ρ N (rgOf l ds) a) (H : HRel ρ (hOf x) FC w ft) : ∃ l1 x1, K l1 x1 = true ∧ heapOk (hOf x1) ∧ (∀ t, gt l1 t = unk ∨ VOk (hOf x1).length (gt l1 t)) ∧ (hOf x).length ≤ (hOf x1).length := by
  have hs := SemOps_of (J := JF) (N := N) (n0 := (hOf x).length) (fn := 0) (Q := fun e f h => e = .normal ∧ LP ds K f h) (closedF P true) todo (dec := []) (fun j b e => by cases e) (by simpa using xops_t (ds := ds) hC todo (fun j b e => by cases e) (fun j hj => by cases hj) hx)
  refine Classical.byContradiction fun hn => ?_
  refine hs ⟨0, .normal, none⟩ a [] [] (fun _ _ _ _ => False) ρ FC w ft rfl (by simp) (fun _ _ _ _ _ z _ => z.elim) A H (Nat.le_refl _) ?_
  intro e f' h' ρ' w' ft' a' q A' H' hu hl
  obtain ⟨rfl, l1, x1, rfl, rfl, hk⟩ := q
  exact hn ⟨l1, x1, hk, H'.ok, fun t => (A'.regs t).imp id fun z => z.1, hl⟩

theorem simT_t {σ : Nat → Nat} : ∀ {l1 l2 : T Value}, simT σ l1 l2 = true → ∀ t, gt l2 t = sub σ (gt l1 t)
  | .nil, .nil, _, t => by simp [gt, tget_nil, sub_undef]
  | .node a l r, .node b l' r', hx, t => by
    unfold simT at hx
    obtain ⟨x, y⟩ := and_t hx
    obtain ⟨x, z⟩ := and_t x
    cases t with
    | zero => exact simV_t x
    | succ t =>
      unfold gt
      rw [tget_node, tget_node]
      split
      · exact simT_t z _
      · exact simT_t y _
  | .nil, .node b l' r', hx, t => by cases hx
  | .node a l r, .nil, hx, t => by cases hx

theorem addP_ex {n0 : Nat} {a b : Value} {acc : List (Nat × Nat)} {k : List (Nat × Nat) → Bool} (hx : addP n0 a b acc k = true) : ∃ s, k s = true := by
  unfold addP at hx
  split at hx
  · rename_i x y _ _
    cases hc : (Nat.ble n0 x && !(acc.any fun p => Nat.beq p.1 x)) with
    | true =>
      rw [hc, cond_true, fN_eq, fN_eq] at hx
      exact ⟨_, hx⟩
    | false =>
      rw [hc, cond_false] at hx
      exact ⟨_, hx⟩
  · exact ⟨_, hx⟩
theorem prs_ex {n0 : Nat} : ∀ (l1 l2 : T Value) {acc : List (Nat × Nat)} {k : List (Nat × Nat) → Bool}, prs n0 l1 l2 acc k = true → ∃ s, k s = true
  | .node a l r, .node b l' r', acc, k, hx => by
    unfold prs at hx
    obtain ⟨s1, hx⟩ := addP_ex hx
    obtain ⟨s2, hx⟩ := prs_ex l l' hx
    exact prs_ex r r' hx
  | .nil, l2, acc, k, hx => by
    unfold prs at hx
    exact ⟨_, hx⟩
  | .node a l r, .nil, acc, k, hx => by
    unfold prs at hx
    exact ⟨_, hx⟩

theorem sg_same {n : Nat} : ∀ {s : List (Nat × Nat)}, (s.all fun p => Nat.ble n p.1) = true → Same n (sg s)
  | [], _, b, _ => rfl
  | (a, c) :: l, hx, b, hb => by
    simp only [List.all_cons, Bool.and_eq_true] at hx
    have := ble_t hx.1
    unfold sg
    have hne : Nat.beq a b = false := by
      cases h : Nat.beq a b with
      | false => rfl
      | true => have := Nat.eq_of_beq_eq_true h; omega
    rw [hne, cond_false]
    exact sg_same hx.2 b hb

theorem xsim_t {n0 n1 : Nat} {l1 l2 : T Value} {x1 x2 : XH} (hx : xsim n1 l1 x1 l2 x2 = true) (ok : heapOk (hOf x1)) (hr : ∀ t, gt l1 t = unk ∨ VOk (hOf x1).length (gt l1 t)) (hn : n0 ≤ n1) (hl : n1 ≤ (hOf x1).length) (hd : ∀ d ∈ ds, d < n1) :
    ∃ σ, GCR n0 σ (rgOf l2 ds) (hOf x2) (rgOf l1 ds) (hOf x1) := by
  unfold xsim at hx
  obtain ⟨s, hx⟩ := prs_ex l1 l2 hx
  obtain ⟨a, b⟩ := and_t hx
  obtain ⟨a1, a2⟩ := and_t a
  have hs := sg_same a1
  have hb : ∀ i, i < x1.n → sg (swp s) (sg s i) = i ∧ (isDead (tget .dead x1.t i) = true ∨ hg x2 (sg s i) (fun o => simO (sg s) (tget .dead x1.t i) o) = true) := by
    intro i hi
    have := List.all_eq_true.1 b i (List.mem_range.2 hi)
    obtain ⟨p, q⟩ := and_t this
    exact ⟨Nat.eq_of_beq_eq_true p, by simpa using q⟩
  have hat : ∀ {i : Nat} {o : AObj}, (hOf x1)[i]? = some o → i < x1.n ∧ o = tget .dead x1.t i := by
    intro i o hi
    have hlt := (List.getElem?_eq_some_iff.1 hi).1
    rw [hOf_len] at hlt
    refine ⟨hlt, ?_⟩
    unfold hOf at hi
    rw [List.getElem?_map, List.getElem?_range hlt] at hi
    simpa using hi.symm
  refine ⟨sg s, ⟨Nat.le_trans hn hl, fun b hb => hs b (Nat.lt_of_lt_of_le hb hn), fun i o hi => ?_, fun i j o o' hi hj _ _ e => ?_, ok⟩, fun t => ?_, ?_, fun b hb => Nat.lt_of_lt_of_le (hd b hb) hl⟩
  · obtain ⟨hlt, rfl⟩ := hat hi
    rcases (hb i hlt).2 with h | h
    · left
      unfold isDead at h
      split at h
      · assumption
      · cases h
    · obtain ⟨o, ho, h⟩ := hg_t h
      right
      rw [ho, (simO_t h).1]
  · have h1 := (hb i (hat hi).1).1
    have h2 := (hb j (hat hj).1).1
    rw [← h1, ← h2, e]
  · rcases hr t with h | h
    · exact .inl h
    · exact .inr ⟨simT_t a2 t, h⟩
  · show ds = ds.map (sg s)
    exact ((List.map_congr_left fun d hd' => hs d (hd d hd')).trans (List.map_id _)).symm

theorem joinOf_t {a : Code} {ops : Array Oper} (h : joinOf P a = some ops) : ∃ id, a = .region id ops true := by
  unfold joinOf at h
  split at h
  · rename_i id ops'
    cases hm : multi P ops' ops'.size (Array.replicate ops'.size false) with
    | true => rw [hm] at h; cases h; exact ⟨id, rfl⟩
    | false => rw [hm] at h; cases h
  · cases h

theorem xjoin_t (hJ : Closed P main J) (hm : P.follows .mixedOrders = true) (hC : CSound P J C) (hC0 : CSound P JF C) {id : Nat} {b : Code} {l : T Value} {x : XH} {k : T Value → XH → Bool} {Q : QT} (hx : xjoin P C N ops l x k = true)
    (hb : ∀ l x, k l x = true → Sem J N n0 fn b (rgOf l ds) (hOf x) Q) : Sem J N n0 fn (.seq (.region id ops true) b) (rgOf l ds) (hOf x) Q := by
  intro b' a' k' cs' L' ρ FC w ft g1 g2 g3 g4 g5 g6 gc
  unfold xjoin at hx
  obtain ⟨l1, x1, hk, ok, hr, hl⟩ := first_run (ds := ds) hC0 hx g4 g5
  obtain ⟨k1, k2⟩ := and_t hk
  have hs : Sem J N n0 fn (.seq (.region id ops true) b) (rgOf l ds) (hOf x) Q := by
    refine Sem_seq hJ ((Sem_region_draw hJ hm (Q := fun e f h => e = .normal ∧ LP ds (fun l2 x2 => xsim x.n l1 x1 l2 x2) f h) (by simpa using xdraw_t (ds := ds) hC k1)).mono ?_)
    rintro e f h ⟨rfl, l2, x2, rfl, rfl, hsim⟩
    rw [hOf_len] at hl g6
    obtain ⟨σ, hg⟩ := xsim_t (ds := ds) hsim ok hr g6 hl (fun d hd => by
      have := g4.ok d hd
      rw [hOf_len] at this
      exact this)
    exact Sem.gc hg (hb l1 x1 k2)
  exact hs b' a' k' cs' L' ρ FC w ft g1 g2 g3 g4 g5 g6 gc

theorem xseq_t (hJ : Closed P main J) (hm : P.follows .mixedOrders = true) (hC : CSound P J C) (hC0 : CSound P JF C) {a b : Code} {ra rb : T Value → List Nat → XH → QB → Bool}
    (ha : ∀ l ds x Q, ra l ds x Q = true → Sem J N n0 fn a (rgOf l ds) (hOf x) (QP Q)) (hb : ∀ l ds x Q, rb l ds x Q = true → Sem J N n0 fn b (rgOf l ds) (hOf x) (QP Q)) {l : T Value} {ds : List Nat} {x : XH} {Q : QB} (hx : xseq P C N a ra rb l ds x Q = true) :
    Sem J N n0 fn (.seq a b) (rgOf l ds) (hOf x) (QP Q) := by
  unfold xseq at hx
  split at hx
  · rename_i ops hj
    obtain ⟨id, rfl⟩ := joinOf_t hj
    exact xjoin_t hJ hm hC hC0 hx fun l x hk => hb l ds x Q hk
  · refine Sem_seq hJ ((ha l ds x _ hx).mono fun e f h q => ?_)
    obtain ⟨l', ds', x', rfl, rfl, hq⟩ := q
    cases e with
    | normal => exact hb _ _ _ _ hq
    | _ => exact ⟨l', ds', x', rfl, rfl, hq⟩

theorem xC_t (hJ : Closed P main J) (hm : P.follows .mixedOrders = true) (hC : CSound P J C) (hC0 : CSound P JF C) {lp : Code → T Value → List Nat → XH → QB → Bool} (hL : LSound J N n0 fn lp) : ∀ (c : Code) (l : T Value) (ds : List Nat) (x : XH) (Q : QB), xC P C N fn lp c l ds x Q = true → Sem J N n0 fn c (rgOf l ds) (hOf x) (QP Q)
  | .skip, l, ds, x, Q, hx => Sem_skip hJ ⟨l, ds, x, rfl, rfl, hx⟩
  | .label _, l, ds, x, Q, hx => Sem_label hJ ⟨l, ds, x, rfl, rfl, hx⟩
  | .ret, l, ds, x, Q, hx => Sem_ret ⟨l, ds, x, rfl, rfl, hx⟩
  | .exit id, l, ds, x, Q, hx => Sem_exit hJ ⟨l, ds, x, rfl, rfl, hx⟩
  | .seq a b, l, ds, x, Q, hx => xseq_t hJ hm hC hC0 (ra := xC P C N fn lp a) (rb := xC P C N fn lp b) (fun l ds x Q h => xC_t hJ hm hC hC0 hL a l ds x Q h) (fun l ds x Q h => xC_t hJ hm hC hC0 hL b l ds x Q h) hx
  | .cond c a b, l, ds, x, Q, hx => by
    change xcnd (ev (gt l) c) (xC P C N fn lp a l ds x Q) (xC P C N fn lp b l ds x Q) = true at hx
    unfold xcnd at hx
    split at hx
    · rename_i e
      exact Sem_cond hJ (t := true) e (by simpa using xC_t hJ hm hC hC0 hL a l ds x Q hx)
    · rename_i e
      exact Sem_cond hJ (t := false) e (by simpa using xC_t hJ hm hC hC0 hL b l ds x Q hx)
    · cases hx
  | .block id a, l, ds, x, Q, hx => by
    refine Sem_block hJ ((xC_t hJ hm hC hC0 hL a l ds x (blkQ id Q) hx).mono fun e f h q => ?_)
    obtain ⟨l', ds', x', rfl, rfl, hq⟩ := q
    cases e with
    | exit i =>
      unfold blkQ at hq
      simp only at hq
      unfold blockK
      simp only
      cases hi : i == id with
      | true => rw [hi, cond_true] at hq; exact ⟨l', ds', x', rfl, rfl, hq⟩
      | false => rw [hi, cond_false] at hq; exact ⟨l', ds', x', rfl, rfl, hq⟩
    | _ => exact ⟨l', ds', x', rfl, rfl, hq⟩
  | .scope a, l, ds, x, Q, hx => Sem_scope hJ (xC_t hJ hm hC hC0 hL a l ds x Q hx)
  | .region id ops draw, l, ds, x, Q, hx => by
    change (bif draw then xdraw P C N ops l x fun l x => Q .normal l ds x else xops P C N ops (List.range ops.size) l x [] fun l x => Q .normal l ds x) = true at hx
    cases draw with
    | true =>
      rw [cond_true] at hx
      refine (Sem_region_draw hJ hm (Q := fun e f h => e = .normal ∧ LP ds (fun l x => Q .normal l ds x) f h) ?_).mono ?_
      · simpa using xdraw_t (ds := ds) hC hx
      · rintro e f h ⟨rfl, l', x', rfl, rfl, hq⟩
        exact ⟨l', ds, x', rfl, rfl, hq⟩
    | false =>
      rw [cond_false] at hx
      refine (Sem_region_text hJ (Q := fun e f h => e = .normal ∧ LP ds (fun l x => Q .normal l ds x) f h) ?_).mono ?_
      · simpa using xops_t (ds := ds) hC (List.range ops.size) (dec := []) (fun j b e => by cases e) (fun j hj => by cases hj) hx
      · rintro e f h ⟨rfl, l', x', rfl, rfl, hq⟩
        exact ⟨l', ds, x', rfl, rfl, hq⟩
  | .loop b, l, ds, x, Q, hx => hL b l ds x Q hx
  | .rangeFunc fop params assign body, l, ds, x, Q, hx => by
    change xrange P C N fn (ev (gt l) fop) params assign body l ds x Q = true at hx
    unfold xrange at hx
    split at hx
    · rename_i g first cap e
      obtain ⟨a, hx⟩ := and_t hx
      obtain ⟨a1, a2⟩ := and_t a
      obtain ⟨y1, e1, hx⟩ := hpush_t hx
      obtain ⟨y2, e2, hx⟩ := hpush_t hx
      have hg := hC _ _ _ _ hx
      rw [← e2, ← e1, ← hOf_len x] at hg
      refine Sem_range hJ (blt_t a1) (f := rgOf l ds) e (blt_t a2) (hg.mono fun v h' hk => ?_)
      obtain ⟨x', rfl, hk⟩ := hk
      obtain ⟨o, ho, hk⟩ := hg_t hk
      split at hk
      · rename_i st pend fn' r size params' assign' body' dfr
        obtain ⟨k1, k2⟩ := and_t hk
        obtain ⟨y, ey, k2⟩ := hset_t k2
        refine ⟨st, pend, fn', r, size, params', assign', body', dfr, ho, fun e => ?_, ?_⟩
        · subst e
          cases k1
        · rw [ey]
          exact xjump_t k2
      · cases hk
    · cases hx
  | .goto _, l, ds, x, Q, hx => by cases hx
  | .refuse _, l, ds, x, Q, hx => by cases hx

theorem xtake_t : ∀ (ds : List Nat) {x : XH} {K : XH → Bool}, xtake ds x K = true → takeW ds (hOf x) (HP K)
  | [], x, K, hx => ⟨x, rfl, hx⟩
  | d :: ds, x, K, hx => by
    unfold xtake at hx
    obtain ⟨o, ho, hx⟩ := hg_t hx
    split at hx
    · obtain ⟨y, e, hx⟩ := hset_t hx
      refine ⟨ho, ?_⟩
      rw [e]
      exact xtake_t ds hx
    · cases hx
theorem takeW_mono : ∀ (ds : List Nat) {h : List AObj} {K K' : List AObj → Prop}, takeW ds h K → (∀ h, K h → K' h) → takeW ds h K'
  | [], h, K, K', hx, hk => hk _ hx
  | d :: ds, h, K, K', hx, hk => ⟨hx.1, takeW_mono ds hx.2 hk⟩
theorem resW_mono : ∀ (rs : List ResultVar) {r : Nat → Value} {h : List AObj} {K K' : List Value → Prop}, resW P rs r h K → (∀ vs, K vs → K' vs) → resW P rs r h K'
  | [], r, h, K, K', hx, hk => hk _ hx
  | .tmp t :: rs, r, h, K, K', hx, hk => ⟨hx.1, resW_mono rs hx.2 fun vs => hk _⟩
  | .cell a t :: rs, r, h, K, K', hx, hk => by
    unfold resW at hx ⊢
    split at hx
    · obtain ⟨v, k1, k2⟩ := pin_aLoad _ hx
      exact k2 (fun v => resW P rs r h fun vs => K' (v :: vs)) (resW_mono rs k1 fun vs => hk _)
    · exact hx.elim
theorem xres_t : ∀ (rs : List ResultVar) {r : Nat → Value} {x : XH} {K : List Value → Bool}, xres P rs r x K = true → resW P rs r (hOf x) fun vs => K vs = true
  | [], r, x, K, hx => hx
  | .tmp t :: rs, r, x, K, hx => by
    unfold xres at hx
    rw [fV_eq] at hx
    obtain ⟨a, b⟩ := and_t hx
    refine ⟨fun e => ?_, xres_t rs b⟩
    rw [e] at a
    cases a
  | .cell a t :: rs, r, x, K, hx => by
    unfold xres at hx
    unfold resW
    split at hx
    · rename_i e
      simp only [e]
      obtain ⟨v, k1, k2⟩ := pin_aLoad _ (xLoad_t hx)
      exact k2 (fun v => resW P rs r (hOf x) fun vs => K (v :: vs) = true) (xres_t rs k1)
    · cases hx

theorem xret_t {rs : List ResultVar} {K : KB} {e : Exit} {f : RG} {h : List AObj} (hq : QP (xret P rs K) e f h) : RetQ P rs n0 (KP K) e f h := by
  obtain ⟨l, ds, x, rfl, rfl, hq⟩ := hq
  have main : xtake ds x (fun h => xres P rs (gt l) h fun vs => K (pack vs) h) = true → takeW (rgOf l ds).ds (hOf x) fun h => resW P rs (rgOf l ds).r h fun vs => KP K (pack vs) h ∨ ∃ σ h' v, GC n0 σ h h' ∧ pack vs = sub σ v ∧ VOk h'.length v ∧ KP K v h' := by
    intro hq
    refine takeW_mono ds (xtake_t ds hq) fun h hk => ?_
    obtain ⟨y, rfl, hk⟩ := hk
    exact resW_mono rs (xres_t rs hk) fun vs hv => .inl ⟨y, rfl, hv⟩
  unfold xret at hq
  unfold RetQ
  split at hq
  · exact main hq
  · exact main hq
  · cases hq

theorem xputs_t : ∀ (ts : List Nat) (vs : List Value) {l : T Value} {K : T Value → Bool}, xputs l ts vs K = true → ∃ l', gt l' = putAll (gt l) ts vs ∧ K l' = true
  | [], vs, l, K, hx => by
    cases vs <;> exact ⟨l, rfl, hx⟩
  | t :: ts, [], l, K, hx => ⟨l, rfl, hx⟩
  | t :: ts, v :: vs, l, K, hx => by
    unfold xputs at hx
    obtain ⟨l1, h1, h2⟩ := tset_t _ hx
    obtain ⟨l', e1, e2⟩ := xputs_t ts vs h1
    refine ⟨l', ?_, e2⟩
    show gt l' = putAll (fun i => bif i == t then v else gt l i) ts vs
    rw [gt_set h2]
    exact e1

theorem xround_t {l n0 : Nat} {K : KB} {e : Exit} {f : RG} {h : List AObj} (hq : QP (xround l K) e f h) : roundQ l n0 (KP K) e f h := by
  obtain ⟨l', ds, x, rfl, rfl, hq⟩ := hq
  obtain ⟨o, ho, hq⟩ := hg_t hq
  unfold xroundC at hq
  split at hq
  · rename_i st pend fn r size params assign body dfr
    refine ⟨st, pend, fn, r, size, params, assign, body, dfr, ho, ?_⟩
    split at hq
    · exact .inl (hset_t hq)
    · exact .inl (hset_t hq)
    · exact .inl (hset_t hq)
    · cases hq
  · cases hq

theorem putAll_range : ∀ (args : List Value) (k : Nat) (r : Nat → Value) (t : Nat), putAll r (List.range' k args.length) args t = if k ≤ t ∧ t < k + args.length then args.getD (t - k) unk else r t
  | [], k, r, t => by
    rw [if_neg (by simp)]
    rfl
  | v :: args, k, r, t => by
    show putAll (fun i => bif i == k then v else r i) (List.range' (k + 1) args.length) args t = _
    rw [putAll_range args (k + 1)]
    simp only [List.length_cons]
    by_cases h1 : k + 1 ≤ t ∧ t < k + 1 + args.length
    · rw [if_pos h1, if_pos (by omega)]
      have : t - k = (t - (k + 1)) + 1 := by omega
      rw [this, List.getD_cons_succ]
    · rw [if_neg h1]
      by_cases e : t = k
      · subst e
        rw [if_pos (by omega)]
        simp
      · have : (t == k) = false := by simpa using e
        rw [this, if_neg (by omega)]
        rfl

theorem regT_t {r : Nat → Value} : ∀ (n : Nat) {k : T Value → Bool}, regT r n k = true → ∃ l, k l = true ∧ ∀ t, gt l t = if t < n then r t else unk
  | 0, k, hx => ⟨.nil, hx, fun t => by simp [gt, tget_nil]⟩
  | n + 1, k, hx => by
    unfold regT at hx
    obtain ⟨l, h1, h2⟩ := regT_t n hx
    rw [fV_eq] at h1
    obtain ⟨l', h3, h4⟩ := tset_t _ h1
    refine ⟨l', h3, fun t => ?_⟩
    show tget unk l' t = _
    rw [h4]
    by_cases e : t = n
    · subst e; simp
    · rw [if_neg e]
      show gt l t = _
      rw [h2]
      by_cases e2 : t < n
      · rw [if_pos e2, if_pos (by omega)]
      · rw [if_neg e2, if_neg (by omega)]

theorem Sem.less {h : List AObj} {c : Code} {f f' : RG} {Q : QT} (hr : ∀ t, f'.r t = unk ∨ f'.r t = f.r t) (hd : f'.ds = f.ds) (hs : Sem J N n0 fn c f' h Q) : Sem J N n0 fn c f h Q := by
  intro b a k cs L ρ FC w ft h1 h2 h3 h4 h5 h6 hc
  refine hs b a k cs L ρ FC w ft h1 h2 h3 ⟨fun t => ?_, h4.size, by rw [hd]; exact h4.defers, by rw [hd]; exact h4.ok⟩ h5 h6 hc
  rcases hr t with e | e
  · exact .inl e
  · rw [e]
    exact h4.regs t

theorem putAll_less : ∀ (ps : List Nat) (vs : List Value) {r r' : Nat → Value}, (∀ t, r' t = unk ∨ r' t = r t) → ∀ t, putAll r' ps vs t = unk ∨ putAll r' ps vs t = putAll r ps vs t
  | [], vs, r, r', h, t => by cases vs <;> exact h t
  | p :: ps, [], r, r', h, t => h t
  | p :: ps, v :: vs, r, r', h, t => by
    refine putAll_less ps vs (fun x => ?_) t
    by_cases e : x = p
    · have : (x == p) = true := by simpa using e
      simp [this]
    · have : (x == p) = false := by simpa using e
      simpa [this] using h x


def SemL (J : JT) (N n0 : Nat) (fn : FuncId) (c : Code) (f : RG) (h : List AObj) (Q : QT) : Prop :=
  ∀ (b : FB) (a : Act) (k : List Item) (cs : List Frame) (L : Option Code → Act → World → Foot → Prop) (ρ : Env) (FC : Frm) (w : World) (ft : Foot), b.tag = fn → b.kind ≠ .early → LeaveOk J b cs L →
    ActRel h.length ρ N f a → HRel ρ h FC w ft → n0 ≤ h.length → Cont J N n0 b k cs L ρ FC Q → J (G (b.at a (.code c :: .inLoop c :: k)) cs) w ft

theorem SemL_step {h : List AObj} (hJ : Closed P main J) {c : Code} {f : RG} {Q : QT} (hx : Sem J N n0 fn c f h (thenK (fun f h => SemL J N n0 fn c f h Q) Q)) : SemL J N n0 fn c f h Q := by
  intro b a k cs L ρ FC w ft h1 h2 h3 h4 h5 h6 hc
  refine hx b a (.inLoop c :: k) cs L ρ FC w ft h1 h2 h3 h4 h5 h6 fun e f' h' ρ' w' ft' a' q g1 g2 g3 g4 => ?_
  cases e with
  | normal =>
    refine hJ.ctrl rfl rfl (g' := G (b.at a' (.code c :: .inLoop c :: k)) cs) (fun w => by simp [G, stepG, stepG.exec, FB.at]) ?_
    exact q b a' k cs L ρ' FC w' ft' h1 h2 h3 g1 g2 g4 fun e f3 h3' ρ3 w3 ft3 a3 q r1 r2 r3 r4 => hc e f3 h3' ρ3 w3 ft3 a3 q r1 r2 (Env.upto_trans g3 r3) r4
  | exit id => exact AfterJ.push (fun _ => rfl) (by simp) (hc _ _ _ _ _ _ _ q g1 g2 g3 g4)
  | ret => exact AfterJ.push (fun _ => rfl) (by simp) (hc _ _ _ _ _ _ _ q g1 g2 g3 g4)
  | goto l => exact hc _ _ _ _ _ _ _ q g1 g2 g3 g4
  | panic l => exact hc _ _ _ _ _ _ _ q g1 g2 g3 g4
  | outgrown => exact hc _ _ _ _ _ _ _ q g1 g2 g3 g4

theorem Sem_of_SemL {h : List AObj} (hJ : Closed P main J) {c : Code} {f : RG} {Q : QT} (hx : SemL J N n0 fn c f h Q) : Sem J N n0 fn (.loop c) f h Q := by
  intro b a k cs L ρ FC w ft h1 h2 h3 h4 h5 h6 hc
  refine hJ.ctrl rfl rfl (g' := G (b.at a (.code c :: .inLoop c :: k)) cs) (fun w => by simp [G, stepG, stepG.exec, FB.at]) ?_
  exact hx b a k cs L ρ FC w ft h1 h2 h3 h4 h5 h6 hc


def XS (P : Program) (n : Nat) : Prop := ∀ (main : Bool) (J : JT), Closed P main J → CSound P J (xcall P n) ∧ ∀ N n0 fn b l ds x Q, xloop P n N fn b l ds x Q = true → SemL J N n0 fn b (rgOf l ds) (hOf x) (QP Q)

theorem x_sound (hm : P.follows .mixedOrders = true) : ∀ n : Nat, XS P n
  | 0 => fun main J hJ => ⟨fun g args x K hx => (by unfold xcall at hx; cases hx), fun N n0 fn b l ds x Q hx => (by unfold xloop at hx; cases hx)⟩
  | n + 1 => by
    intro main J hJ
    obtain ⟨hC, hL⟩ := x_sound hm n main J hJ
    have hC0 := (x_sound hm n true JF (closedF P true)).1
    have hL' : ∀ N n0 fn, LSound J N n0 fn (xloop P n N fn) := fun N n0 fn b l ds x Q hx => Sem_of_SemL hJ (hL N n0 fn b l ds x Q hx)
    refine ⟨fun g args x K hx => ?_, fun N n0 fn b l ds x Q hx => ?_⟩
    · unfold xcall at hx
      split at hx
      · rename_i fn hf
        unfold xenter at hx
        split at hx
        · rename_i c hb
          obtain ⟨a, hx⟩ := and_t hx
          obtain ⟨a1, a2⟩ := and_t a
          have a1 := ble_t a1
          obtain ⟨l, e, hx⟩ := xputs_t _ _ hx
          refine good_of_sem hJ hf hb (by simpa using a2) a1 fun ok => ?_
          have := xC_t hJ hm hC hC0 (hL' fn.ntmps (hOf x).length g) c l [] x _ hx
          have hr : rgOf l [] = ⟨regs args, []⟩ := by
            unfold rgOf regs
            congr 1
            rw [e, List.range_eq_range']
            funext t
            rw [putAll_range]
            by_cases ht : t < args.length
            · rw [if_pos (by omega)]
              simp
            · rw [if_neg (by omega), List.getD_eq_getElem?_getD, List.getElem?_eq_none (by omega)]
              rfl
          rw [hr] at this
          exact this.mono fun e f h q => xret_t q
        · cases hx
      · obtain ⟨a, hx⟩ := and_t hx
        obtain ⟨o, ho, hx⟩ := hg_t hx
        unfold xinto at hx
        split at hx
        · rename_i pend fn r size params assign body dfr
          obtain ⟨a1, hx⟩ := and_t hx
          obtain ⟨a1, a2⟩ := and_t a1
          obtain ⟨l0, hx, e0⟩ := regT_t _ hx
          obtain ⟨l', e1, hx⟩ := xputs_t params.toList args hx
          have a1 : params.size = args.length := by simpa using a1
          have hyid : g = yid P (g - P.funcs.size) := (Nat.add_sub_cancel' (ble_t a)).symm
          rw [hyid]
          refine good_round hJ ho a1 (fun t ht => blt_t (List.all_eq_true.1 a2 t ht)) fun ok => ?_
          refine Sem.less (f' := rgOf l' []) (fun t => ?_) rfl ((xC_t hJ hm hC hC0 (hL' size (hOf x).length (fn + 1000000)) assign l' [] x _ hx).mono fun e f h1 q => ?_)
          · show gt l' t = unk ∨ gt l' t = putAll r params.toList args t
            rw [e1]
            refine putAll_less _ _ (fun x => ?_) t
            rw [e0]
            split
            · exact .inr rfl
            · exact .inl rfl
          · obtain ⟨l2, ds2, x2, rfl, rfl, hq⟩ := q
            simp only at hq
            split at hq
            · obtain ⟨o2, ho2, hq⟩ := hg_t hq
              split at hq
              · rename_i pend' fn' r' size' params' assign' body' dfr'
                obtain ⟨y, ey, hq⟩ := hset_t hq
                refine ⟨rfl, pend', fn', r', size', params', assign', body', dfr', ho2, ?_⟩
                rw [ey]
                exact (xC_t hJ hm hC hC0 (hL' size (hOf x).length (fn + 1000000)) body l2 [] y _ hq).mono fun e f h2 q => xround_t q
              · cases hq
            · cases hq
        · cases hx
    · unfold xloop at hx
      refine SemL_step hJ ((xC_t hJ hm hC hC0 (hL' N n0 fn) b l ds x _ hx).mono fun e f h q => ?_)
      obtain ⟨l', ds', x', rfl, rfl, hq⟩ := q
      cases e with
      | normal => exact hL N n0 fn b l' ds' x' Q hq
      | _ => exact ⟨l', ds', x', rfl, rfl, hq⟩
end
end Go.Proofs.Ytdgpacdknpahnaa

namespace Go.Proofs.Ytdgpacdknpahnaa
open Go.Conc
section
variable {P : Program} {main : Bool} {J : JT} {g : FuncId} {args : List Value} {h : List AObj} {K K' : Value → List AObj → Prop}
theorem good_frame (hg : Good P J g args [] K) (hlt : g < P.funcs.size) (ha : ∀ v ∈ args, VOk 0 v) (hk : ∀ v h', K v h' → VOk 0 v ∧ K' v h) : Good P J g args h K' := by
  obtain ⟨ho, hg⟩ := hg
  have hcall : callable P g = true := by
    rcases ho with ⟨_, e⟩ | ⟨e, _⟩
    · exact e
    · exact absurd hlt (Nat.not_lt.2 e)
  refine ⟨.inl ⟨hlt, hcall⟩, fun ρ FC w ft cs c cargs fr H hargs hl hent hc => ?_⟩
  have hfr : fr = Frame.enter P g ⟨cargs⟩ .normal := by
    rcases hent with ⟨_, e⟩ | ⟨e, _⟩
    · exact e
    · exact absurd hlt (Nat.not_lt.2 e)
  have ob : ∃ ob : Nat → Option Obj, (∀ b, ft.rd b → ob b = w.heap[b]?) ∧ (∀ b, ¬ ft.rd b → ob b = none) := by
    classical
    exact ⟨fun b => if ft.rd b then w.heap[b]? else none, fun b hb => if_pos hb, fun b hb => if_neg hb⟩
  obtain ⟨ob, ob1, ob2⟩ := ob
  have H0 : HRel ρ [] ⟨ob, ft.wr⟩ w ft := by
    refine ⟨fun b o hb => by simp at hb, fun b b' o o' hb => by simp at hb, fun b o hb => by simp at hb, fun b o hb => by simp at hb, H.lt, H.sub, fun b o hb => ?_, fun b hb => hb⟩
    by_cases hr : ft.rd b
    · refine ⟨?_, hr, fun a oa ha => by simp at ha⟩
      rw [← ob1 b hr]
      exact hb
    · have : ob b = some o := hb
      rw [ob2 b hr] at this
      cases this
  refine hg ρ ⟨ob, ft.wr⟩ w ft cs c cargs fr H0 (fun i => ?_) hl (.inl ⟨hlt, hfr⟩) fun v h' ρ' w' ft' cv hK H' hu hl' hv => ?_
  · rcases hargs i with e | ⟨_, e⟩
    · exact .inl e
    · by_cases hi : i < args.length
      · have : args.getD i unk ∈ args := by
          rw [List.getD_eq_getElem?_getD, List.getElem?_eq_getElem hi]
          exact List.getElem_mem hi
        exact .inr ⟨ha _ this, e⟩
      · left
        rw [List.getD_eq_getElem?_getD, List.getElem?_eq_none (by omega)]
        rfl
  · obtain ⟨hv0, hK'⟩ := hk v h' hK
    have kp : ∀ b, ft.rd b → w'.heap[b]? = w.heap[b]? ∧ ft'.rd b := by
      intro b hb
      have hlt' := H.lt b hb
      have : (⟨ob, ft.wr⟩ : Frm).ob b = some w.heap[b] := by
        show ob b = _
        rw [ob1 b hb, Array.getElem?_eq_getElem hlt']
      obtain ⟨a1, a2, _⟩ := H'.kept b _ this
      exact ⟨by rw [a1, Array.getElem?_eq_getElem hlt'], a2⟩
    refine hc v h ρ w' ft' cv hK' ⟨fun b o hb => ?_, H.inj, fun b o hb hl => (kp _ (H.rd b o hb hl)).2, fun b o hb hw => H'.keptW _ (H.wr b o hb hw), H'.lt, H'.sub, fun b o hb => ?_, fun b hb => H'.keptW _ (H.keptW b hb)⟩ (Env.upto_refl _ _) (Nat.le_refl _) ?_
    · cases hlv : o.live with
      | false => cases o <;> first | trivial | cases hlv
      | true =>
        rw [(kp _ (H.rd b o hb hlv)).1]
        exact H.obj b o hb
    · obtain ⟨a1, a2, a3⟩ := H.kept b o hb
      exact ⟨by rw [(kp b a2).1]; exact a1, (kp b a2).2, a3⟩
    · rcases hv with e | ⟨_, e⟩
      · exact .inl e
      · exact .inr ⟨VOk.mono (Nat.zero_le _) v hv0, by rw [e, ren0 v hv0, ren0 v hv0]⟩
end
end Go.Proofs.Ytdgpacdknpahnaa

namespace Go.Proofs.Ytdgpacdknpahnaa
open Go.Conc Go.Proofs.Try
set_option maxRecDepth 100000
def isT (v : Value) : Bool :=
  match v with
  | .bool true => true
  | _ => false

theorem run18 : xcall prog 200 18 [] ⟨0, .nil⟩ (fun v _ => isT v) = true := by kernel_rfl

end Go.Proofs.Ytdgpacdknpahnaa

namespace Go.Proofs.Ytdgpacdknpahnaa
open Go.Conc Go.Proofs.Try
section
variable {main : Bool} {J : JT} {h : List AObj} {K : Value → List AObj → Prop}
theorem good18 (hJ : Closed prog main J) (hK : K (.bool true) h) : Good prog J 18 [] h K := by
  have hg := (x_sound mixed 200 main J hJ).1 18 [] ⟨0, .nil⟩ _ run18
  refine good_frame (K := KP fun v _ => isT v) hg (blt_t (by kernel_rfl : Nat.blt 18 prog.funcs.size = true)) (by simp) fun v h' hk => ?_
  obtain ⟨x, rfl, hk⟩ := hk
  simp only at hk
  unfold isT at hk
  split at hk
  · exact ⟨by simp [VOk], hK⟩
  · cases hk
end
end Go.Proofs.Ytdgpacdknpahnaa

namespace Go.Proofs.Ytdgpacdknpahnaa
open Go.Conc Go.Proofs.Try
section
variable {main : Bool} {J : JT} {h : List AObj} {K : Value → List AObj → Prop}
def HF (h : List AObj) (nv : Value) (k : Nat) (s : Int) (rest : List AObj) : List AObj := h ++ (.cells [nv, vint k, .int .u64 s] true 0 :: rest)

theorem hf_len {h : List AObj} {nv : Value} {k : Nat} {s : Int} {rest : List AObj} : (HF h nv k s rest).length = h.length + 1 + rest.length := by
  simp [HF]; omega
theorem hf_app {h : List AObj} {nv : Value} {k : Nat} {s : Int} {rest g : List AObj} : HF h nv k s rest ++ g = HF h nv k s (rest ++ g) := by
  simp [HF]
theorem hf_hand {h : List AObj} {nv : Value} {ns : List Int} {k : Nat} {s : Int} {rest : List AObj} (sn : Sli h nv 1 ns.length (ns.map vint)) (hln : ns.length < 4611686018427387904) (hk : k < 1000000) (h0 : 0 ≤ s) (h1 : s < 18446744073709551616) :
    HandAt (HF h nv k s rest) h.length nv ns k s :=
  ⟨by simp [HF], sli_app sn, hln, by omega, h0, h1⟩
theorem hf_dealt {h h' : List AObj} {nv : Value} {k n : Nat} {s : Int} {rest : List AObj} (hd : Dealt (HF h nv k s rest) h.length nv k n h') : ∃ k' s', k' ≤ k + n ∧ 0 ≤ s' ∧ s' < 18446744073709551616 ∧ h' = HF h nv k' s' rest := by
  obtain ⟨k', s', a, b, c, rfl⟩ := hd
  refine ⟨k', s', a, b, c, ?_⟩
  simp [HF]
theorem sli_one {h : List AObj} {v : Value} {s n : Nat} {cs : List Value} (hs : Sli h v s n cs) : v.cells = #[v] ∧ one v = true ∧ kn1 v = true := by
  obtain ⟨_, _, rfl, _⟩ := hs
  exact ⟨rfl, rfl, rfl⟩
end
end Go.Proofs.Ytdgpacdknpahnaa

namespace Go.Proofs.Ytdgpacdknpahnaa
open Go.Conc Go.Proofs.Try
set_option maxRecDepth 100000
section
variable {main : Bool} {J : JT} {h A g : List AObj} {K : Value → List AObj → Prop} {KV : Value → Prop} {HL : List AObj → Prop} {H : Value → List AObj → Prop}
theorem a_min {a b : Int} : aMin (vint a) [vint b] KV = KV (vint (min a b)) := by
  show KV (vint (if b < a then b else a)) = _
  congr 2
  split <;> omega
theorem a_max {a b : Int} : aMax (vint a) [vint b] KV = KV (vint (max a b)) := by
  show KV (vint (if b > a then b else a)) = _
  congr 2
  split <;> omega
theorem u_neg {a : Int} (h : -9223372036854775808 < a ∧ a < 9223372036854775808) : aUn .neg (vint a) KV = KV (vint (-a)) := by
  show KV (.int .i64 (IntKind.i64.wrap (-a))) = _
  rw [wrap64 (by omega) (by omega)]

theorem back_get {i : Nat} : (A ++ g)[A.length + i]? = g[i]? := by
  rw [List.getElem?_append_right (by omega)]
  congr 1
  omega
theorem back_set {i : Nat} {o : AObj} : (A ++ g).set (A.length + i) o = A ++ g.set i o := by
  rw [List.set_append_right _ _ (by omega)]
  congr 2
  omega
def OwnE (n : Nat) (g : List AObj) (s : Nat) (cs : List Value) (len : Nat) (v : Value) (o : Option Nat) : Prop :=
  cs.length = len * s ∧ kn cs = true ∧ ((len = 0 ∧ v = .slice none 0 0 ∧ o = none) ∨ ∃ i c sz, o = some i ∧ v = .slice (some ⟨n + i, 0, none⟩) len c ∧ g[i]? = some (.cells cs true sz) ∧ ((c = fz ∧ sz = s) ∨ c = len))

theorem ownE_nil {n s : Nat} : OwnE n g s [] 0 (.slice none 0 0) none := ⟨by simp, rfl, .inl ⟨rfl, rfl, rfl⟩⟩
theorem ownE_keep {n s len : Nat} {cs : List Value} {v : Value} {o : Option Nat} {g' : List AObj} (ho : OwnE n g s cs len v o) (hk : ∀ i x, o = some i → g[i]? = some x → g'[i]? = some x) : OwnE n g' s cs len v o := by
  obtain ⟨h1, h2, h3 | ⟨i, c, sz, rfl, h4, h5, h6⟩⟩ := ho
  · exact ⟨h1, h2, .inl h3⟩
  · exact ⟨h1, h2, .inr ⟨i, c, sz, rfl, h4, hk i _ rfl h5, h6⟩⟩
theorem get_app {i : Nat} {x : AObj} {g' : List AObj} (hx : g[i]? = some x) : (g ++ g')[i]? = some x := by
  rw [List.getElem?_append_left (List.getElem?_eq_some_iff.1 hx).1]
  exact hx
theorem get_set {i j : Nat} {x y : AObj} (hx : g[i]? = some x) (hij : i ≠ j) : (g.set j y)[i]? = some x := by
  rw [List.getElem?_set, if_neg (fun e => hij e.symm)]
  exact hx
theorem ownE_app {n s len : Nat} {cs : List Value} {v : Value} {o : Option Nat} {g' : List AObj} (ho : OwnE n g s cs len v o) : OwnE n (g ++ g') s cs len v o :=
  ownE_keep ho fun _ _ _ hx => get_app hx
theorem ownE_set {n s len i : Nat} {cs : List Value} {v : Value} {o : Option Nat} {y : AObj} (ho : OwnE n g s cs len v o) (hi : o ≠ some i) : OwnE n (g.set i y) s cs len v o :=
  ownE_keep ho fun j _ hj hx => get_set hx fun e => hi (by rw [hj, e])
theorem ownE_at {n s len : Nat} {cs : List Value} {v : Value} {i : Nat} (ho : OwnE n g s cs len v (some i)) : ∃ sz, g[i]? = some (.cells cs true sz) := by
  obtain ⟨_, _, ⟨_, _, h⟩ | ⟨j, c, sz, h, _, h5, _⟩⟩ := ho
  · cases h
  · cases h
    exact ⟨sz, h5⟩
theorem ownE_lt {n s len : Nat} {cs : List Value} {v : Value} {o : Option Nat} (ho : OwnE n g s cs len v o) {i : Nat} (hi : o = some i) : i < g.length := by
  subst hi
  obtain ⟨sz, h⟩ := ownE_at ho
  exact (List.getElem?_eq_some_iff.1 h).1
theorem ownE_sli {s len : Nat} {cs : List Value} {v : Value} {o : Option Nat} (ho : OwnE A.length g s cs len v o) : Sli (A ++ g) v s len cs := by
  obtain ⟨h1, h2, ⟨rfl, rfl, _⟩ | ⟨i, c, sz, rfl, rfl, h5, _⟩⟩ := ho
  · have : cs = [] := List.length_eq_zero_iff.1 (by omega)
    subst this
    exact sli_nil
  · refine ⟨_, _, rfl, ⟨h1, h2⟩, .inr ⟨_, _, rfl, .inr ⟨cs, true, sz, ?_, by rw [List.drop_zero, List.take_of_length_le (by omega)]⟩⟩⟩
    rw [back_get]
    exact h5
theorem ownE_val {n s len : Nat} {cs : List Value} {v : Value} {o : Option Nat} (ho : OwnE n g s cs len v o) : v.cells = #[v] ∧ one v = true ∧ kn1 v = true := by
  obtain ⟨_, _, ⟨_, rfl, _⟩ | ⟨_, _, _, _, rfl, _⟩⟩ := ho <;> exact ⟨rfl, rfl, rfl⟩

theorem ownE_more {s len : Nat} {cs e : List Value} {v y : Value} {o : Option Nat} (ho : OwnE A.length g s cs len v o) (hs : 0 < s) (hl : len < 1000) (hy : Sli (A ++ g) y s 1 e)
    (hk : ∀ v' g', OwnE A.length g' s (cs ++ e) (len + 1) v' (some g.length) → (∀ i x, o ≠ some i → g[i]? = some x → g'[i]? = some x) → H v' (A ++ g')) : aApp s v y (A ++ g) H := by
  have hr : room = 1073741824 := rfl
  have hel : e.length = s := by
    have := sli_vlen hy
    omega
  have hek : kn e = true := by
    obtain ⟨_, _, _, ⟨_, h⟩, _⟩ := hy
    exact h
  have new : ∀ g1 : List AObj, g1.length = g.length → (∀ i x, o ≠ some i → g[i]? = some x → g1[i]? = some x) → cs.length = len * s → kn cs = true → H (.slice (some ⟨(A ++ g).length, 0, none⟩) (len + 1) fz) (A ++ (g1 ++ [.cells (cs ++ e) true s])) := by
    intro g1 hg1 hkeep h1 h2
    refine hk _ _ ⟨?_, ?_, .inr ⟨g.length, fz, s, rfl, by simp, by simp [← hg1], .inl ⟨rfl, rfl⟩⟩⟩ fun j x hj hx => get_app (hkeep j x hj hx)
    · rw [List.length_append, hel, h1, Nat.succ_mul]
    · unfold kn at *
      rw [List.all_append, h2, hek]
      rfl
  obtain ⟨h1, h2, ⟨rfl, rfl, rfl⟩ | ⟨i, c, sz, rfl, rfl, h5, h6⟩⟩ := ho
  · have hcs : cs = [] := List.length_eq_zero_iff.1 (by omega)
    subst hcs
    refine app_nil hs hy (by omega) (fun e => absurd e (by omega)) fun _ => ?_
    rw [List.append_assoc]
    exact new g rfl (fun _ _ _ hx => hx) h1 h2
  · have hlt := (List.getElem?_eq_some_iff.1 h5).1
    have ht : cs.take (len * s) = cs := List.take_of_length_le (by omega)
    rcases h6 with ⟨rfl, rfl⟩ | rfl
    · refine app_own (cs := cs) (by rw [back_get]; exact h5) (by omega) (by rw [ht]; exact h2) hs hy (by omega) ?_
      rw [back_set, List.append_assoc, ht]
      exact new _ (by simp) (fun j x hj hx => get_set hx fun e => hj (by rw [e])) h1 h2
    · refine app_copy (cs := cs) (by rw [back_get]; exact h5) (by omega) (by rw [List.drop_zero, ht]; exact h2) (by omega) hs hy (by omega) ?_
      rw [List.append_assoc, List.drop_zero, ht]
      exact new g rfl (fun _ _ _ hx => hx) h1 h2

theorem hfa {nv : Value} {k : Nat} {s : Int} {rest : List AObj} (hs : 0 ≤ s ∧ s < 18446744073709551616) (hk : k < 1000000) {ns : List Int} (sn : Sli h nv 1 ns.length (ns.map vint)) (hln : ns.length < 4611686018427387904) : HandAt (HF h nv k s rest ++ g) h.length nv ns k s := by
  rw [hf_app]
  exact hf_hand sn hln hk hs.1 hs.2
theorem hfd {nv : Value} {k n : Nat} {s : Int} {rest h' : List AObj} (hd : Dealt (HF h nv k s rest ++ g) h.length nv k n h') : ∃ k' s', k' ≤ k + n ∧ (0 ≤ s' ∧ s' < 18446744073709551616) ∧ h' = HF h nv k' s' rest ++ g := by
  rw [hf_app] at hd
  obtain ⟨k', s', a, b, c, rfl⟩ := hf_dealt hd
  exact ⟨k', s', a, ⟨b, c⟩, by rw [hf_app]⟩

structure Hnd (h : List AObj) (nv : Value) (ns : List Int) : Prop where
  list : Sli h nv 1 ns.length (ns.map vint)
  sane : ns.length < 4611686018427387904

variable {nv : Value} {ns : List Int} {rest : List AObj} {k : Nat} {s : Int}
theorem nl : (HF h nv k s rest ++ g).length = h.length + 1 + rest.length + g.length := by rw [List.length_append, hf_len]
theorem ng {i : Nat} : (HF h nv k s rest ++ g)[h.length + 1 + rest.length + i]? = g[i]? := by rw [← hf_len (h := h) (nv := nv) (k := k) (s := s), back_get]
theorem nset {i : Nat} {o : AObj} : (HF h nv k s rest ++ g).set (h.length + 1 + rest.length + i) o = HF h nv k s rest ++ g.set i o := by rw [← hf_len (h := h) (nv := nv) (k := k) (s := s), back_set]
theorem nsli {s' len : Nat} {cs : List Value} {v : Value} {o : Option Nat} (ho : OwnE (h.length + 1 + rest.length) g s' cs len v o) : Sli (HF h nv k s rest ++ g) v s' len cs := by
  rw [← hf_len (h := h) (nv := nv) (k := k) (s := s)] at ho
  exact ownE_sli ho
theorem nmore {s' len : Nat} {cs e : List Value} {v y : Value} {o : Option Nat} (ho : OwnE (h.length + 1 + rest.length) g s' cs len v o) (hs : 0 < s') (hl : len < 1000) (hy : Sli (HF h nv k s rest ++ g) y s' 1 e)
    (hk : ∀ v' g', OwnE (h.length + 1 + rest.length) g' s' (cs ++ e) (len + 1) v' (some g.length) → (∀ i x, o ≠ some i → g[i]? = some x → g'[i]? = some x) → H v' (HF h nv k s rest ++ g')) : aApp s' v y (HF h nv k s rest ++ g) H := by
  rw [← hf_len (h := h) (nv := nv) (k := k) (s := s)] at ho hk
  exact ownE_more ho hs hl hy hk
theorem nlast {s' c len : Nat} {cs : List Value} (h1 : cs.length = len * s') (h2 : kn cs = true) : Sli (HF h nv k s rest ++ (g ++ [.cells cs true 0])) (.slice (some ⟨h.length + 1 + rest.length + g.length, 0, none⟩) len c) s' len cs := by
  refine ⟨_, _, rfl, ⟨h1, h2⟩, .inr ⟨_, _, rfl, .inr ⟨cs, true, 0, ?_, by rw [List.drop_zero, List.take_of_length_le (by omega)]⟩⟩⟩
  rw [ng]
  simp
section
variable {KV : Value → Prop} {a b : Int} {t : TypeId} {h : List AObj}
theorem offI {b o d : Nat} (hk : KV (ptr b (o + d))) : aOff (ptr b o) d KV := hk
theorem fillI {c : List Value} {KL : List Value → Prop} (hk : KL c) : aFill c [] KL := hk
theorem addI (h : -9223372036854775808 ≤ a + b ∧ a + b < 9223372036854775808) (hk : KV (vint (a + b))) : aBin prog .add t (vint a) (vint b) KV := by rw [b_add h]; exact hk
theorem subI (h : -9223372036854775808 ≤ a - b ∧ a - b < 9223372036854775808) (hk : KV (vint (a - b))) : aBin prog .sub t (vint a) (vint b) KV := by rw [b_sub h]; exact hk
theorem mulI (h : -9223372036854775808 ≤ a * b ∧ a * b < 9223372036854775808) (hk : KV (vint (a * b))) : aBin prog .mul t (vint a) (vint b) KV := by rw [b_mul h]; exact hk
theorem negI (h : -9223372036854775808 < a ∧ a < 9223372036854775808) (hk : KV (vint (-a))) : aUn .neg (vint a) KV := by rw [u_neg h]; exact hk
theorem minI (hk : KV (vint (min a b))) : aMin (vint a) [vint b] KV := by rw [a_min]; exact hk
theorem maxI (hk : KV (vint (max a b))) : aMax (vint a) [vint b] KV := by rw [a_max]; exact hk
theorem lssI (hk : KV (.bool (decide (a < b)))) : aBin prog .lss t (vint a) (vint b) KV := by rw [b_lss]; exact hk
theorem gtrI (hk : KV (.bool (decide (a > b)))) : aBin prog .gtr t (vint a) (vint b) KV := by rw [b_gtr]; exact hk
theorem geqI (hk : KV (.bool (decide (a ≥ b)))) : aBin prog .geq t (vint a) (vint b) KV := by rw [b_geq]; exact hk
theorem leqI (hk : KV (.bool (decide (a ≤ b)))) : aBin prog .leq t (vint a) (vint b) KV := by rw [b_leq]; exact hk
theorem neqI (hk : KV (.bool (decide (a ≠ b)))) : aBin prog .neq t (vint a) (vint b) KV := by rw [b_neq]; exact hk
theorem notI {x : Bool} (hk : KV (.bool (!x))) : aUn .not (.bool x) KV := hk
theorem cndI {p : Prop} [Decidable p] {A B : Prop} (h1 : p → A) (h2 : ¬ p → B) : cnd (.bool (decide p)) A B := cnd_dec.2 ⟨h1, h2⟩
theorem cndN {p : Prop} [Decidable p] {A B : Prop} (h1 : ¬ p → A) (h2 : p → B) : cnd (.bool (!decide p)) A B := cnd_ndec.2 ⟨h1, h2⟩
theorem lenI {v : Value} {s n : Nat} {cells : List Value} (hs : Sli h v s n cells) (hk : KV (vint n)) : aLenS v KV := by rw [sli_len hs]; exact hk
theorem ldI {b o s : Nat} {c : List Value} {wr : Bool} {sz : Nat} {v : Value} (hb : h[b]? = some (.cells c wr sz)) (hv : c[o]? = some v) (hn : kn1 v = true) (hk : KV v) : aLoad false s (ptr b o) h KV := by rw [load_cell hb hv hn]; exact hk
theorem idxI {s b o n c : Nat} {j : Int} (h1 : 0 ≤ j ∧ j < n) (hk : KV (ptr b (o + j.toNat * s))) : aIdx s (.slice (some ⟨b, o, none⟩) n c) (vint j) KV := by rw [idx_ok]; exact ⟨h1, hk⟩
theorem ext0 {a b : Value} (hk : KV a) : aExt (.tuple ⟨[a, b]⟩) 0 KV := hk
theorem ext1 {a b : Value} (hk : KV b) : aExt (.tuple ⟨[a, b]⟩) 1 KV := hk
theorem ext30 {a b c : Value} (hk : KV a) : aExt (.tuple ⟨[a, b, c]⟩) 0 KV := hk
theorem ext31 {a b c : Value} (hk : KV b) : aExt (.tuple ⟨[a, b, c]⟩) 1 KV := hk
theorem ext32 {a b c : Value} (hk : KV c) : aExt (.tuple ⟨[a, b, c]⟩) 2 KV := hk
end
theorem nAl {l : List Value} (hk : K (ptr (h.length + 1 + rest.length + g.length) 0) (HF h nv k s rest ++ (g ++ [.cells l true 0]))) : aAlloc l (HF h nv k s rest ++ g) K := by
  unfold aAlloc
  rw [nl, List.append_assoc]
  exact hk
theorem nNew {n : Nat} {l : List Value} (hk : K (.slice (some ⟨h.length + 1 + rest.length + g.length, 0, none⟩) n n) (HF h nv k s rest ++ (g ++ [.cells l true 0]))) : aNewS n l (HF h nv k s rest ++ g) K := by
  unfold aNewS
  rw [nl, List.append_assoc]
  exact hk
theorem nLd {i o : Nat} {c : List Value} {wr : Bool} {sz : Nat} {v : Value} (hb : g[i]? = some (.cells c wr sz)) (hv : c[o]? = some v) (hn : kn1 v = true) (hk : KV v) : aLoad false 1 (ptr (h.length + 1 + rest.length + i) o) (HF h nv k s rest ++ g) KV :=
  ldI (by rw [ng]; exact hb) hv hn hk
theorem nLdA {i o n : Nat} {cs c : List Value} {wr : Bool} {sz : Nat} (hb : g[i]? = some (.cells cs wr sz)) (hl : o + n ≤ cs.length) (hc : (cs.drop o).take n = c) (hn : kn c = true) (hk : KV (.agg ⟨c⟩)) : aLoad true n (ptr (h.length + 1 + rest.length + i) o) (HF h nv k s rest ++ g) KV :=
  load_part (by rw [ng]; exact hb) hl hc hn hk
theorem nSt {i o : Nat} {c : List Value} {sz : Nat} {v : Value} (hb : g[i]? = some (.cells c true sz)) (ho : o < c.length) (h1 : v.cells = #[v]) (h2 : one v = true) (hk : HL (HF h nv k s rest ++ g.set i (.cells (c.set o v) true sz))) : aStore 1 (ptr (h.length + 1 + rest.length + i) o) v (HF h nv k s rest ++ g) HL := by
  refine store_cell (by rw [ng]; exact hb) ho h1 h2 ?_
  rw [nset]
  exact hk
theorem nStA {i n : Nat} {cs c : List Value} {sz : Nat} (hb : g[i]? = some (.cells cs true sz)) (hl : c.length = n) (hs : cs.length = n) (h1 : c.all one = true) (hk : HL (HF h nv k s rest ++ g.set i (.cells c true sz))) : aStore n (ptr (h.length + 1 + rest.length + i) 0) (.agg ⟨c⟩) (HF h nv k s rest ++ g) HL := by
  refine store_agg (by rw [ng]; exact hb) hl hs h1 ?_
  rw [nset]
  exact hk
theorem nSame {g' : List AObj} {k' : Nat} {s' : Int} {is : List Nat} (hi : ∀ i ∈ is, g'[i]? = g[i]?) : SameB (some (is.map fun i => h.length + 1 + rest.length + i)) (HF h nv k s rest ++ g) (HF h nv k' s' rest ++ g') := by
  intro b hb
  obtain ⟨i, hm, rfl⟩ := List.mem_map.1 hb
  rw [ng, ng, hi i hm]
theorem nRd {i o : Nat} {is : List Nat} (hi : i ∈ is) : RdOk (some (is.map fun i => h.length + 1 + rest.length + i)) (ptrBlk (ptr (h.length + 1 + rest.length + i) o)) := List.mem_map.2 ⟨i, hi, rfl⟩
theorem last_get {x : AObj} : (g ++ [x])[g.length]? = some x := by simp
theorem last_set {x y : AObj} : (g ++ [x]).set g.length y = g ++ [y] := by simp

theorem up (hJ : Closed prog main J) (hn : Hnd h nv ns) (hs : 0 ≤ s ∧ s < 18446744073709551616) (hk : k < 1000000) {m : Int} (hm : m < 1000000)
    (hK : ∀ y k' s', 0 ≤ y → (y ≤ m ∨ y = 0) → k' ≤ k + 1 → (0 ≤ s' ∧ s' < 18446744073709551616) → K (vint y) (HF h nv k' s' rest ++ g)) : Good prog J 22 [ptr h.length 0, vint m] (HF h nv k s rest ++ g) K := by
  refine good22 hJ (hfa hs hk hn.list hn.sane) (by omega) fun y h1 a b hd => ?_
  obtain ⟨k', s', c, d, rfl⟩ := hfd hd
  exact hK y k' s' a b c d
theorem amo (hJ : Closed prog main J) (hn : Hnd h nv ns) (hs : 0 ≤ s ∧ s < 18446744073709551616) (hk : k < 1000000) {lo hi : Int} (h1 : -1000000 ≤ lo ∧ lo ≤ 1000000) (h2 : -1000000 ≤ hi ∧ hi ≤ 1000000)
    (hK : ∀ y k' s', lo ≤ y → (y ≤ hi ∨ y = lo) → k' ≤ k + 1 → (0 ≤ s' ∧ s' < 18446744073709551616) → K (vint y) (HF h nv k' s' rest ++ g)) : Good prog J 20 [ptr h.length 0, vint lo, vint hi] (HF h nv k s rest ++ g) K := by
  refine good20 hJ (hfa hs hk hn.list hn.sane) (by omega) (by omega) fun y h1 a b hd => ?_
  obtain ⟨k', s', c, d, rfl⟩ := hfd hd
  exact hK y k' s' a b c d
theorem ofl (hJ : Closed prog main J) (hn : Hnd h nv ns) (hs : 0 ≤ s ∧ s < 18446744073709551616) (hk : k < 1000000) {a : Int} {others : List Int} {n c : Nat} (hl : others.length = n) (hn2 : n < 1000)
    (hK : ∀ y k' s', (y = a ∨ y ∈ others) → k' ≤ k + 1 → (0 ≤ s' ∧ s' < 18446744073709551616) → K (vint y) (HF h nv k' s' rest ++ (g ++ [.cells (others.map vint) true 0]))) :
    Good prog J 21 [ptr h.length 0, vint a, (.slice (some ⟨h.length + 1 + rest.length + g.length, 0, none⟩) n c)] (HF h nv k s rest ++ (g ++ [.cells (others.map vint) true 0])) K := by
  subst hl
  refine good21 hJ (hfa hs hk hn.list hn.sane) (others := others) (fun h' hd => ?_) (by omega) fun y h1 a hd => ?_
  · obtain ⟨k', s', c, d, rfl⟩ := hfd hd
    refine sli_new (wr := true) (sz := 0) ?_ (by simp) (kn_ints _)
    rw [ng]
    simp
  · obtain ⟨k', s', c, d, rfl⟩ := hfd hd
    exact hK y k' s' a c d
end
end Go.Proofs.Ytdgpacdknpahnaa

namespace Go.Proofs.Ytdgpacdknpahnaa
open Go.Conc Go.Proofs.Try
set_option maxRecDepth 100000
structure Chain (t : Tal) (nums losses : List Int) : Prop where
  numl : nums.length = t.changes.length + 1
  losl : losses.length = t.changes.length
  first : 30 ≤ t.first.lo ∧ t.first.lo ≤ 60 ∧ t.first.lo ≤ t.first.hi ∧ t.first.hi ≤ t.first.lo + 6
  most : 0 ≤ t.most ∧ t.most ≤ 4
  ch : ∀ r ∈ t.changes, -3 ≤ r.lo ∧ r.lo ≤ 2 ∧ r.lo ≤ r.hi ∧ r.hi ≤ r.lo + 2
  zero : t.first.lo ≤ nums.getD 0 0 ∧ nums.getD 0 0 ≤ t.first.hi
  step : ∀ i (hi : i < t.changes.length), 0 ≤ losses.getD i 0 ∧ losses.getD i 0 ≤ t.most ∧ t.changes[i].lo ≤ nums.getD (i + 1) 0 - nums.getD i 0 + losses.getD i 0 ∧ nums.getD (i + 1) 0 - nums.getD i 0 + losses.getD i 0 ≤ t.changes[i].hi

theorem Chain.bd {t : Tal} {nums losses : List Int} (c : Chain t nums losses) : ∀ i : Nat, i ≤ t.changes.length → 30 - 7 * (i : Int) ≤ nums.getD i 0 ∧ nums.getD i 0 ≤ 66 + 4 * (i : Int)
  | 0, _ => by
    have := c.first
    have := c.zero
    omega
  | i + 1, hi => by
    have ih := c.bd i (by omega)
    have s := c.step i (by omega)
    have r := c.ch t.changes[i] (List.getElem_mem _)
    have := c.most
    omega

theorem getD_app1 {l : List Int} {x : Int} {i : Nat} (hi : i < l.length) : (l ++ [x]).getD i 0 = l.getD i 0 := by
  simp only [List.getD_eq_getElem?_getD]
  rw [List.getElem?_append_left hi]
theorem getD_app2 {l : List Int} {x : Int} : (l ++ [x]).getD l.length 0 = x := by
  simp [List.getD_eq_getElem?_getD]

theorem Chain.more {t : Tal} {nums losses : List Int} (c : Chain t nums losses) {r : Rng} {now' l : Int} (hr : -3 ≤ r.lo ∧ r.lo ≤ 2 ∧ r.lo ≤ r.hi ∧ r.hi ≤ r.lo + 2) (hl : 0 ≤ l ∧ l ≤ t.most)
    (hn : r.lo ≤ now' - nums.getD t.changes.length 0 + l ∧ now' - nums.getD t.changes.length 0 + l ≤ r.hi) : Chain { t with changes := t.changes ++ [r] } (nums ++ [now']) (losses ++ [l]) where
  numl := by simp [c.numl]
  losl := by simp [c.losl]
  first := c.first
  most := c.most
  ch := fun x hx => by
    rcases List.mem_append.1 hx with hx | hx
    · exact c.ch x hx
    · simp at hx
      rw [hx]
      exact hr
  zero := by
    have := c.numl
    have := c.zero
    rw [getD_app1 (by omega)]
    exact this
  step := fun i hi => by
    have n1 := c.numl
    have n2 := c.losl
    dsimp only at hi ⊢
    simp at hi
    rcases Nat.lt_or_ge i t.changes.length with x | x
    · rw [getD_app1 (by omega), getD_app1 (by omega), getD_app1 (by omega), List.getElem_append_left x]
      exact c.step i x
    · have : i = t.changes.length := by omega
      subst this
      have e1 : (nums ++ [now']).getD (t.changes.length + 1) 0 = now' := by rw [← n1, getD_app2]
      have e2 : (losses ++ [l]).getD t.changes.length 0 = l := by rw [← n2, getD_app2]
      have e3 : (t.changes ++ [r])[t.changes.length] = r := by simp
      rw [getD_app1 (i := t.changes.length) (l := nums) (by omega), e1, e2, e3]
      exact ⟨hl.1, hl.2, hn.1, hn.2⟩

structure CoOk (gates : Int) (nums : List Int) (c : Cnt) : Prop where
  gate : 0 ≤ c.gate ∧ c.gate < gates
  man : 1 ≤ c.man ∧ c.man ≤ 4
  err : 0 ≤ c.err ∧ c.err ≤ 20
  num : -(c.err * nums.getD c.gate.toNat 0 / 100) ≤ c.num - nums.getD c.gate.toNat 0 ∧ c.num - nums.getD c.gate.toNat 0 ≤ c.err * nums.getD c.gate.toNat 0 / 100

structure TruthOk (G C : Int) (t : Tal) (nums losses : List Int) : Prop where
  gates : 1 ≤ t.gates ∧ t.gates ≤ G
  chl : (t.changes.length : Int) = t.gates - 1
  chain : Chain t nums losses
  few : (t.counts.length : Int) ≤ C
  co : ∀ c ∈ t.counts, CoOk t.gates nums c

section
variable {main : Bool} {J : JT} {h : List AObj} {K : Value → List AObj → Prop} {n0 : Nat}
theorem fill_agg {c l : List Value} {off s : Nat} {ps : List (Nat × Nat × Value)} {K : List Value → Prop} (h1 : l.length = s) (h2 : l.all one = true) (ho : off + s ≤ c.length) (hk : aFill (wrAt c off l) ps K) : aFill c ((off, s, .agg ⟨l⟩) :: ps) K := by
  refine ⟨by simpa [Value.cells] using h1, by simpa [Value.cells] using h2, ho, ?_⟩
  simpa [Value.cells] using hk

theorem retQ_same {rs : List ResultVar} {f : RG} (ds : f.ds = []) (hr : resW prog rs f.r h fun vs => K (pack vs) h) : RetQ prog rs n0 K .ret f h := by
  unfold RetQ
  rw [ds]
  exact resW_imp rs hr fun vs hk => .inl hk

theorem good69 (hJ : Closed prog main J) {nv : Value} {ns : List Int} {rest g : List AObj} {k : Nat} {s : Int} (hn : Hnd h nv ns) (hs : 0 ≤ s ∧ s < 18446744073709551616) (hk : k < 1000000) {a b : Int} (hb : 0 < b ∧ b < 1000)
    (hK : ∀ y k' s', k' ≤ k + 1 → (0 ≤ s' ∧ s' < 18446744073709551616) → K (.bool y) (HF h nv k' s' rest ++ g)) : Good prog J 69 [ptr h.length 0, vint a, vint b] (HF h nv k s rest ++ g) K := by
  refine g69 hJ fun ok => ?_
  rw [e69, b_sub (by omega)]
  refine up hJ hn hs hk (by omega) fun y k' s' _ _ h3 h4 => ?_
  rw [b_lss]
  exact retL_same (by simp [unk]) (hK _ _ _ h3 h4)

theorem cs_val {t : Tal} {cv nv : Value} : (talCells t cv nv).length = 6 := rfl

structure BT (n : Nat) (g : List AObj) (L : List Rng) (Cs : List Cnt) (nums losses : List Int) (cv cov nuv lov : Value) (o1 o2 o3 o4 : Option Nat) : Prop where
  ch : OwnE n g 2 (L.flatMap Rng.cells) L.length cv o1
  co : OwnE n g 4 (Cs.flatMap Cnt.cells) Cs.length cov o2
  nu : OwnE n g 1 (nums.map vint) nums.length nuv o3
  lo : OwnE n g 1 (losses.map vint) losses.length lov o4
  len : 2 < g.length
  b1 : ∀ i, o1 = some i → 2 < i
  b2 : ∀ i, o2 = some i → 2 < i
  b3 : ∀ i, o3 = some i → 2 < i
  b4 : ∀ i, o4 = some i → 2 < i
  d12 : ∀ i, o1 = some i → o2 ≠ some i
  d13 : ∀ i, o1 = some i → o3 ≠ some i
  d14 : ∀ i, o1 = some i → o4 ≠ some i
  d23 : ∀ i, o2 = some i → o3 ≠ some i
  d24 : ∀ i, o2 = some i → o4 ≠ some i
  d34 : ∀ i, o3 = some i → o4 ≠ some i

section
variable {n : Nat} {g : List AObj} {L : List Rng} {Cs : List Cnt} {nums losses : List Int} {cv cov nuv lov : Value} {o1 o2 o3 o4 : Option Nat} {nv : Value} {k : Nat} {s : Int} {rest : List AObj}
theorem BT.app {g' : List AObj} (B : BT n g L Cs nums losses cv cov nuv lov o1 o2 o3 o4) : BT n (g ++ g') L Cs nums losses cv cov nuv lov o1 o2 o3 o4 :=
  ⟨ownE_app B.ch, ownE_app B.co, ownE_app B.nu, ownE_app B.lo, by have := B.len; simp; omega, B.b1, B.b2, B.b3, B.b4, B.d12, B.d13, B.d14, B.d23, B.d24, B.d34⟩
theorem BT.set {i : Nat} {y : AObj} (B : BT n g L Cs nums losses cv cov nuv lov o1 o2 o3 o4) (h1 : o1 ≠ some i) (h2 : o2 ≠ some i) (h3 : o3 ≠ some i) (h4 : o4 ≠ some i) : BT n (g.set i y) L Cs nums losses cv cov nuv lov o1 o2 o3 o4 :=
  ⟨ownE_set B.ch h1, ownE_set B.co h2, ownE_set B.nu h3, ownE_set B.lo h4, by have := B.len; simpa using this, B.b1, B.b2, B.b3, B.b4, B.d12, B.d13, B.d14, B.d23, B.d24, B.d34⟩
theorem BT.set2 {i : Nat} {y : AObj} (B : BT n g L Cs nums losses cv cov nuv lov o1 o2 o3 o4) (hi : i ≤ 2) : BT n (g.set i y) L Cs nums losses cv cov nuv lov o1 o2 o3 o4 :=
  B.set (fun e => by have := B.b1 _ e; omega) (fun e => by have := B.b2 _ e; omega) (fun e => by have := B.b3 _ e; omega) (fun e => by have := B.b4 _ e; omega)
theorem BT.small {i : Nat} (B : BT n g L Cs nums losses cv cov nuv lov o1 o2 o3 o4) (hi : i ≤ 2) : o1 ≠ some i ∧ o2 ≠ some i ∧ o3 ≠ some i ∧ o4 ≠ some i :=
  ⟨fun e => by have := B.b1 _ e; omega, fun e => by have := B.b2 _ e; omega, fun e => by have := B.b3 _ e; omega, fun e => by have := B.b4 _ e; omega⟩
theorem BT.ch_more {x : Rng} {y : Value} {H : Value → List AObj → Prop} (B : BT (h.length + 1 + rest.length) g L Cs nums losses cv cov nuv lov o1 o2 o3 o4) (hl : L.length < 1000) (hy : Sli (HF h nv k s rest ++ g) y 2 1 x.cells)
    (hk : ∀ v' g', BT (h.length + 1 + rest.length) g' (L ++ [x]) Cs nums losses v' cov nuv lov (some g.length) o2 o3 o4 → (∀ i x, i ≤ 2 → g[i]? = some x → g'[i]? = some x) → H v' (HF h nv k s rest ++ g')) : aApp 2 cv y (HF h nv k s rest ++ g) H :=
  nmore B.ch (by omega) hl hy fun v' g' ho hkeep => hk v' g' ⟨by simpa using ho, ownE_keep B.co fun i x hi hx => hkeep i x (fun e => B.d12 i e hi) hx, ownE_keep B.nu fun i x hi hx => hkeep i x (fun e => B.d13 i e hi) hx, ownE_keep B.lo fun i x hi hx => hkeep i x (fun e => B.d14 i e hi) hx, by have := ownE_lt ho rfl; have := B.len; omega, fun i e => by cases e; exact B.len, B.b2, B.b3, B.b4, fun i e e2 => by cases e; have := ownE_lt B.co e2; omega, fun i e e2 => by cases e; have := ownE_lt B.nu e2; omega, fun i e e2 => by cases e; have := ownE_lt B.lo e2; omega, B.d23, B.d24, B.d34⟩ fun i x hi hx => hkeep i x (B.small hi).1 hx
theorem BT.co_more {x : Cnt} {y : Value} {H : Value → List AObj → Prop} (B : BT (h.length + 1 + rest.length) g L Cs nums losses cv cov nuv lov o1 o2 o3 o4) (hl : Cs.length < 1000) (hy : Sli (HF h nv k s rest ++ g) y 4 1 x.cells)
    (hk : ∀ v' g', BT (h.length + 1 + rest.length) g' L (Cs ++ [x]) nums losses cv v' nuv lov o1 (some g.length) o3 o4 → (∀ i x, i ≤ 2 → g[i]? = some x → g'[i]? = some x) → H v' (HF h nv k s rest ++ g')) : aApp 4 cov y (HF h nv k s rest ++ g) H :=
  nmore B.co (by omega) hl hy fun v' g' ho hkeep => hk v' g' ⟨ownE_keep B.ch fun i x hi hx => hkeep i x (B.d12 i hi) hx, by simpa using ho, ownE_keep B.nu fun i x hi hx => hkeep i x (fun e => B.d23 i e hi) hx, ownE_keep B.lo fun i x hi hx => hkeep i x (fun e => B.d24 i e hi) hx, by have := ownE_lt ho rfl; have := B.len; omega, B.b1, fun i e => by cases e; exact B.len, B.b3, B.b4, fun i e e2 => by cases e2; have := ownE_lt B.ch e; omega, B.d13, B.d14, fun i e e2 => by cases e; have := ownE_lt B.nu e2; omega, fun i e e2 => by cases e; have := ownE_lt B.lo e2; omega, B.d34⟩ fun i x hi hx => hkeep i x (B.small hi).2.1 hx
theorem BT.nu_more {x : Int} {y : Value} {H : Value → List AObj → Prop} (B : BT (h.length + 1 + rest.length) g L Cs nums losses cv cov nuv lov o1 o2 o3 o4) (hl : nums.length < 1000) (hy : Sli (HF h nv k s rest ++ g) y 1 1 [vint x])
    (hk : ∀ v' g', BT (h.length + 1 + rest.length) g' L Cs (nums ++ [x]) losses cv cov v' lov o1 o2 (some g.length) o4 → (∀ i x, i ≤ 2 → g[i]? = some x → g'[i]? = some x) → H v' (HF h nv k s rest ++ g')) : aApp 1 nuv y (HF h nv k s rest ++ g) H :=
  nmore B.nu (by omega) hl hy fun v' g' ho hkeep => hk v' g' ⟨ownE_keep B.ch fun i x hi hx => hkeep i x (B.d13 i hi) hx, ownE_keep B.co fun i x hi hx => hkeep i x (B.d23 i hi) hx, by simpa using ho, ownE_keep B.lo fun i x hi hx => hkeep i x (fun e => B.d34 i e hi) hx, by have := ownE_lt ho rfl; have := B.len; omega, B.b1, B.b2, fun i e => by cases e; exact B.len, B.b4, B.d12, fun i e e2 => by cases e2; have := ownE_lt B.ch e; omega, B.d14, fun i e e2 => by cases e2; have := ownE_lt B.co e; omega, B.d24, fun i e e2 => by cases e; have := ownE_lt B.lo e2; omega⟩ fun i x hi hx => hkeep i x (B.small hi).2.2.1 hx
theorem BT.lo_more {x : Int} {y : Value} {H : Value → List AObj → Prop} (B : BT (h.length + 1 + rest.length) g L Cs nums losses cv cov nuv lov o1 o2 o3 o4) (hl : losses.length < 1000) (hy : Sli (HF h nv k s rest ++ g) y 1 1 [vint x])
    (hk : ∀ v' g', BT (h.length + 1 + rest.length) g' L Cs nums (losses ++ [x]) cv cov nuv v' o1 o2 o3 (some g.length) → (∀ i x, i ≤ 2 → g[i]? = some x → g'[i]? = some x) → H v' (HF h nv k s rest ++ g')) : aApp 1 lov y (HF h nv k s rest ++ g) H :=
  nmore B.lo (by omega) hl hy fun v' g' ho hkeep => hk v' g' ⟨ownE_keep B.ch fun i x hi hx => hkeep i x (B.d14 i hi) hx, ownE_keep B.co fun i x hi hx => hkeep i x (B.d24 i hi) hx, ownE_keep B.nu fun i x hi hx => hkeep i x (B.d34 i hi) hx, by simpa using ho, by have := ownE_lt ho rfl; have := B.len; omega, B.b1, B.b2, B.b3, fun i e => by cases e; exact B.len, B.d12, B.d13, fun i e e2 => by cases e2; have := ownE_lt B.ch e; omega, B.d23, fun i e e2 => by cases e2; have := ownE_lt B.co e; omega, fun i e e2 => by cases e2; have := ownE_lt B.nu e; omega⟩ fun i x hi hx => hkeep i x (B.small hi).2.2.2 hx
end
structure S1 (h : List AObj) (rest g : List AObj) (C gt lo w mo : Int) (L : List Rng) (nums losses : List Int) (cv nuv lov : Value) (o1 o3 o4 : Option Nat) (j : Nat) (f : RG) : Prop where
  bt : BT (h.length + 1 + rest.length) g L [] nums losses cv (.slice none 0 0) nuv lov o1 none o3 o4
  z0 : g[0]? = some (.cells [vint 0, vint 0, vint 0, .slice none 0 0, vint 0, .slice none 0 0] true 0)
  t2 : g[2]? = some (.cells (talCells ⟨gt, ⟨lo, lo + w⟩, L, mo, []⟩ cv (.slice none 0 0)) true 0)
  chn : Chain ⟨gt, ⟨lo, lo + w⟩, L, mo, []⟩ nums losses
  lj : L.length = j
  jg : (j : Int) + 1 ≤ gt
  g5 : gt ≤ 5
  ds : f.ds = []
  r0 : f.r 0 = ptr h.length 0
  r2 : f.r 2 = vint C
  r6 : f.r 6 = ptr (h.length + 1 + rest.length + 0) 0
  r9 : f.r 9 = ptr (h.length + 1 + rest.length + 2) 0
  r10 : f.r 10 = vint (nums.getD j 0)
  r11 : f.r 11 = nuv
  r12 : f.r 12 = lov
  r13 : f.r 13 = vint ((j : Int) + 1)

theorem rnd1 (hJ : Closed prog main J) {nv : Value} {ns : List Int} {rest g : List AObj} {k : Nat} {s : Int} (hn : Hnd h nv ns) (hs : 0 ≤ s ∧ s < 18446744073709551616) (hk : k < 200000) {C gt lo w mo : Int} {L : List Rng} {nums losses : List Int} {cv nuv lov : Value} {o1 o3 o4 : Option Nat} {j : Nat} {f : RG}
    (S : S1 h rest g C gt lo w mo L nums losses cv nuv lov o1 o3 o4 j f) {nx0 : RG → List AObj → Prop}
    (hx : (j : Int) + 1 < gt → ∀ k5 t5 g3 L' nums' losses' v1 v2 v3 o1' o3' o4' f', k5 ≤ k + 4 → (0 ≤ t5 ∧ t5 < 18446744073709551616) → S1 h rest g3 C gt lo w mo L' nums' losses' v1 v2 v3 o1' o3' o4' (j + 1) f' → nx0 f' (HF h nv k5 t5 rest ++ g3))
    (he : (j : Int) + 1 = gt → ∀ k5 t5 m f', k5 ≤ k + 1 → (0 ≤ t5 ∧ t5 < 18446744073709551616) → 0 ≤ m → (m ≤ C ∨ m = 0) → m ≤ 7 → f'.ds = [] → (∀ i, i < 15 → f'.r i = f.r i) → f'.r 16 = vint m → Sem J 152 n0 61 (subC [1, 1, 1, 1, 1, 1, 1, 1, 0, 1, 0] (codeOf f61)) f' (HF h nv k5 t5 rest ++ g) (contQ prog J 152 n0 61 [1, 1, 1, 1, 1, 1, 1, 1, 0, 1, 0] (codeOf f61) [] (RetQ prog [.cell 6 42, .tmp 7, .tmp 8] n0 K))) (hC : 0 ≤ C ∧ C ≤ 7) :
    W prog J 152 n0 61 (subC [1, 1, 1, 1, 1, 1, 1, 0, 1, 0, 0] (codeOf f61)) f (HF h nv k s rest ++ g) (thenK nx0 (contQ prog J 152 n0 61 [1, 1, 1, 1, 1, 1, 1, 0, 1, 0] (codeOf f61) [] (RetQ prog [.cell 6 42, .tmp 7, .tmp 8] n0 K))) := by
  obtain ⟨B, z0, t2, chn, hj, hjg, g5, hds, r0, r2, r6, r9, r10, r11, r12, r13⟩ := S
  have numl := chn.numl
  have losl := chn.losl
  have bdj := chn.bd j (by dsimp only; omega)
  have hmo := chn.most
  dsimp only at numl losl hmo
  rw [s61_1]
  simp only [r0, r2, r9, r10, r11, r12, r13]
  refine offI (nLd t2 rfl rfl (lssI (cndI (fun hlt => ?_) fun hge => ?_)))
  · replace hlt : (j : Int) + 1 < gt := hlt
    refine amo hJ hn hs (by omega) (by omega) (by omega) fun rl k2 t2' p1 p2 hk2 ht2 => ?_
    refine fill1 rfl rfl (by decide) (fillI (nAl (nStA last_get rfl rfl rfl ?_)))
    rw [last_set]
    refine ⟨[g.length].map fun i => h.length + 1 + rest.length + i, ?_⟩
    refine offI (nLd last_get rfl rfl ⟨nRd (by simp), ?_⟩)
    refine up hJ hn ht2 (by omega) (by omega) fun d k3 t3 p3 p4 hk3 ht3 => ?_
    refine ⟨nSame (by simp), addI (by omega) (offI (nSt last_get (by simp) rfl rfl ?_))⟩
    rw [last_set]
    refine offI (nLd (v := vint mo) (get_app t2) rfl rfl ?_)
    refine up hJ hn ht3 (by omega) (by omega) fun l k4 t4 p5 p6 hk4 ht4 => ?_
    refine offI (nLd (v := vint rl) last_get rfl rfl (offI (nLd (v := vint (rl + d)) last_get rfl rfl ?_)))
    refine amo hJ hn ht4 (by omega) (by omega) (by omega) fun c k5 t5 p7 p8 hk5 ht5 => ?_
    refine addI (by omega) (subI (by omega) (offI (nLd (get_app t2) rfl (ownE_val B.ch).2.2 ?_)))
    refine nLdA (c := [vint rl, vint (rl + d)]) last_get (by simp) rfl rfl ?_
    refine ⟨by decide, fill_agg rfl rfl (by simp [zrep]) (fillI (nNew ?_))⟩
    refine ⟨by decide, BT.ch_more (x := ⟨rl, rl + d⟩) B.app.app (by omega) (nlast rfl rfl) fun v1 g1 B1 kp1 => ?_⟩
    refine ⟨by decide, fill1 rfl rfl (by decide) (fillI (nNew ?_))⟩
    refine ⟨by decide, BT.nu_more (x := nums.getD j 0 + c - l) B1.app (by omega) (nlast rfl rfl) fun v2 g2 B2 kp2 => ?_⟩
    refine ⟨by decide, fill1 rfl rfl (by decide) (fillI (nNew ?_))⟩
    refine ⟨by decide, BT.lo_more (x := l) B2.app (by omega) (nlast rfl rfl) fun v3 g3 B3 kp3 => ?_⟩
    have kp : ∀ i x, i ≤ 2 → g[i]? = some x → g3[i]? = some x := fun i x hi hx => kp3 i _ hi (get_app (kp2 i _ hi (get_app (kp1 i _ hi (get_app (get_app hx))))))
    have hgl : 2 < g3.length := B3.len
    refine offI (nSt (kp 2 _ (by omega) t2) (by simp [talCells]) (ownE_val B3.ch).1 (ownE_val B3.ch).2.1 (addI (by omega) ?_))
    refine hx hlt _ _ _ (L ++ [⟨rl, rl + d⟩]) (nums ++ [nums.getD j 0 + c - l]) (losses ++ [l]) v1 v2 v3 _ _ _ _ (by omega) ht5 ⟨B3.set2 (by omega), get_set (kp 0 _ (by omega) z0) (by omega), ?_, ?_, by simp [hj], by omega, g5, hds, r0, r2, r6, r9, ?_, rfl, rfl, ?_⟩
    · rw [List.getElem?_set_self hgl]
      rfl
    · subst hj
      exact chn.more (r := ⟨rl, rl + d⟩) (by dsimp only; omega) (by dsimp only; omega) (by dsimp only; omega)
    · show vint _ = vint _
      congr 1
      rw [← hj, ← numl, getD_app2]
    · show vint _ = vint _
      congr 1
  · refine minI ?_
    refine up hJ hn hs (by omega) (by omega) fun m k2 s2 p1 p2 hk2 hs2 => ?_
    refine he (by replace hge : ¬ ((j : Int) + 1 < gt) := hge; omega) _ _ m _ hk2 hs2 p1 (by omega) (by omega) hds (fun i hi => ?_) rfl
    match i, hi with
    | 0, _ | 1, _ | 2, _ | 3, _ | 4, _ | 5, _ | 6, _ | 7, _ | 8, _ | 9, _ | 10, _ | 11, _ | 12, _ | 13, _ | 14, _ => rfl

theorem tal_kn {t : Tal} {cv nv : Value} (h1 : kn1 cv = true) (h2 : kn1 nv = true) : kn (talCells t cv nv) = true := by
  unfold kn talCells
  simp only [List.all_cons, List.all_nil, h1, h2]
  rfl
theorem tal_ones {t : Tal} {cv nv : Value} (h1 : one cv = true) (h2 : one nv = true) : (talCells t cv nv).all one = true := by
  unfold talCells
  simp only [List.all_cons, List.all_nil, h1, h2]
  rfl

structure S2 (h : List AObj) (rest g : List AObj) (C gt lo w mo : Int) (L : List Rng) (Cs : List Cnt) (nums losses : List Int) (cv cov lov : Value) (i3 c3 : Nat) (o1 o2 o4 : Option Nat) (i : Nat) (f : RG) : Prop where
  bt : BT (h.length + 1 + rest.length) g L Cs nums losses cv cov (.slice (some ⟨h.length + 1 + rest.length + i3, 0, none⟩) nums.length c3) lov o1 o2 (some i3) o4
  z0 : g[0]? = some (.cells [vint 0, vint 0, vint 0, .slice none 0 0, vint 0, .slice none 0 0] true 0)
  t2 : g[2]? = some (.cells (talCells ⟨gt, ⟨lo, lo + w⟩, L, mo, Cs⟩ cv cov) true 0)
  co : ∀ c ∈ Cs, CoOk gt nums c
  few : (Cs.length : Int) + i ≤ C
  ds : f.ds = []
  r0 : f.r 0 = ptr h.length 0
  r6 : f.r 6 = ptr (h.length + 1 + rest.length + 0) 0
  r9 : f.r 9 = ptr (h.length + 1 + rest.length + 2) 0
  r11 : f.r 11 = .slice (some ⟨h.length + 1 + rest.length + i3, 0, none⟩) nums.length c3
  r12 : f.r 12 = lov
  r16 : f.r 16 = vint (i : Int)

theorem rnd2 (hJ : Closed prog main J) {nv : Value} {ns : List Int} {rest g : List AObj} {k : Nat} {s : Int} (hn : Hnd h nv ns) (hs : 0 ≤ s ∧ s < 18446744073709551616) (hk : k < 200000) {C gt lo w mo : Int} {L : List Rng} {Cs : List Cnt} {nums losses : List Int} {cv cov lov : Value} {i3 c3 : Nat} {o1 o2 o4 : Option Nat} {i : Nat} {f : RG}
    (S : S2 h rest g C gt lo w mo L Cs nums losses cv cov lov i3 c3 o1 o2 o4 i f) (hg : 1 ≤ gt ∧ gt ≤ 5) (hC : C ≤ 7) (hnl : (nums.length : Int) = gt) (hnb : ∀ j : Nat, (j : Int) < gt → 0 ≤ nums.getD j 0 ∧ nums.getD j 0 ≤ 100) {nx0 : RG → List AObj → Prop}
    (hx : 0 < i → ∀ k5 t5 g3 Cs' v1 o2' f', k5 ≤ k + 6 → (0 ≤ t5 ∧ t5 < 18446744073709551616) → S2 h rest g3 C gt lo w mo L Cs' nums losses cv v1 lov i3 c3 o1 o2' o4 (i - 1) f' → nx0 f' (HF h nv k5 t5 rest ++ g3))
    (he : i = 0 → ∀ g', BT (h.length + 1 + rest.length) g' L Cs nums losses cv cov (.slice (some ⟨h.length + 1 + rest.length + i3, 0, none⟩) nums.length c3) lov o1 o2 (some i3) o4 → K (.tuple ⟨[.agg ⟨talCells ⟨gt, ⟨lo, lo + w⟩, L, mo, Cs⟩ cv cov⟩, .slice (some ⟨h.length + 1 + rest.length + i3, 0, none⟩) nums.length c3, lov]⟩) (HF h nv k s rest ++ g')) :
    W prog J 152 n0 61 (subC [1, 1, 1, 1, 1, 1, 1, 1, 0, 1, 0, 0] (codeOf f61)) f (HF h nv k s rest ++ g) (thenK nx0 (contQ prog J 152 n0 61 [1, 1, 1, 1, 1, 1, 1, 1, 0, 1, 0] (codeOf f61) [] (RetQ prog [.cell 6 42, .tmp 7, .tmp 8] n0 K))) := by
  obtain ⟨B, z0, t2, cok, few, hds, r0, r6, r9, r11, r12, r16⟩ := S
  rw [s61_2]
  simp only [r0, r6, r9, r11, r12, r16]
  refine gtrI (cndI (fun hlt => ?_) fun hge => ?_)
  · refine offI (nLd (v := vint gt) t2 rfl rfl (subI (by omega) ?_))
    refine up hJ hn hs (by omega) (by omega) fun ga k1 s1 a1 b1 hk1 hs1 => ?_
    refine amo hJ hn hs1 (by omega) (by omega) (by omega) fun ma k2 s2 a2 b2 hk2 hs2 => ?_
    refine up hJ hn hs2 (by omega) (by omega) fun x k3 s3 a3 b3 hk3 hs3 => ?_
    refine up hJ hn hs3 (by omega) (by omega) fun y k4 s4 a4 b4 hk4 hs4 => ?_
    refine ⟨by decide, fill1 rfl rfl (by decide) (fill1 rfl rfl (by simp [zrep]) (fill1 rfl rfl (by simp [zrep]) (fill1 rfl rfl (by simp [zrep]) (fillI (nNew ?_)))))⟩
    refine ofl hJ hn hs4 (by omega) (others := [0, 3, x, y]) (n := 4) rfl (by omega) fun e k5 s5 me hk5 hs5 => ?_
    have he20 : 0 ≤ e ∧ e ≤ 20 := by
      rcases me with rfl | me
      · omega
      · simp at me
        omega
    refine fill1 rfl rfl (by decide) (fill1 rfl rfl (by simp) (fill1 rfl rfl (by simp) (fillI (nAl ?_))))
    refine nStA (c := [vint ga, vint ma, vint 0, vint e]) last_get rfl rfl rfl ?_
    rw [last_set]
    obtain ⟨sz3, b3'⟩ := ownE_at B.nu
    have hga : 0 ≤ ga ∧ ga < gt := by omega
    have hnu : (nums.map vint)[0 + ga.toNat * 1]? = some (vint (nums.getD ga.toNat 0)) := by
      rw [Nat.mul_one, Nat.zero_add]
      exact map_get (by omega)
    have hnb' := hnb ga.toNat (by omega)
    have mb := mul_bd he20.1 he20.2 hnb'.1 hnb'.2
    have g3 : (g ++ [AObj.cells ([0, 3, x, y].map vint) true 0] ++ [AObj.cells [vint ga, vint ma, vint 0, vint e] true 0])[i3]? = some (.cells (nums.map vint) true sz3) := get_app (get_app b3')
    refine offI (nLd (v := vint e) last_get rfl rfl (offI (nLd (v := vint ga) last_get rfl rfl (idxI ⟨by omega, by omega⟩ (nLd g3 hnu rfl ?_)))))
    generalize hE : nums.getD ga.toNat 0 = E at *
    have d0 : 0 ≤ e * E / 100 := Int.ediv_nonneg (by omega) (by omega)
    have d1 : e * E / 100 ≤ 20 := by
      have : e * E / 100 ≤ 2000 / 100 := Int.ediv_le_ediv (by omega) (by omega)
      omega
    refine mulI (by omega) (b_quo (by omega) (by omega) (by omega) ?_)
    refine ⟨[(g ++ [AObj.cells ([0, 3, x, y].map vint) true 0]).length, i3].map fun i => h.length + 1 + rest.length + i, ?_⟩
    refine offI (nLd (v := vint ga) last_get rfl rfl ⟨nRd (by simp), idxI ⟨by omega, by omega⟩ (nLd g3 hnu rfl ⟨nRd (by simp), negI (by omega) ?_⟩)⟩)
    refine amo hJ hn hs5 (by omega) (by omega) (by omega) fun z k6 s6 a6 b6 hk6 hs6 => ?_
    refine ⟨nSame (by simp), addI (by omega) (offI (nSt last_get (by simp) rfl rfl ?_))⟩
    rw [last_set]
    refine offI (nLd (get_app (get_app t2)) rfl (ownE_val B.co).2.2 ?_)
    refine nLdA (c := [vint ga, vint ma, vint (E + z), vint e]) last_get (by simp) rfl rfl ?_
    refine ⟨by decide, fill_agg rfl rfl (by simp [zrep]) (fillI (nNew ?_))⟩
    refine ⟨by decide, BT.co_more (x := ⟨ga, ma, E + z, e⟩) B.app.app.app (by omega) (nlast rfl rfl) fun v1 g1 B1 kp1 => ?_⟩
    have kp : ∀ i x, i ≤ 2 → g[i]? = some x → g1[i]? = some x := fun i x hi hx => kp1 i _ hi (get_app (get_app (get_app hx)))
    have hgl : 2 < g1.length := B1.len
    refine offI (nSt (kp 2 _ (by omega) t2) (by simp [talCells]) (ownE_val B1.co).1 (ownE_val B1.co).2.1 (subI (by omega) ?_))
    refine hx (by omega) _ _ _ (Cs ++ [⟨ga, ma, E + z, e⟩]) v1 _ _ (by omega) hs6 ⟨B1.set2 (by omega), get_set (kp 0 _ (by omega) z0) (by omega), ?_, ?_, by simp; omega, hds, r0, r6, r9, r11, r12, ?_⟩
    · rw [List.getElem?_set_self hgl]
      rfl
    · intro c hc
      rcases List.mem_append.1 hc with hc | hc
      · exact cok c hc
      · simp at hc
        subst hc
        exact ⟨hga, by dsimp only; omega, he20, by dsimp only; rw [hE]; omega⟩
    · show vint _ = vint _
      congr 1
      omega
  · have hgl : 2 < g.length := B.len
    have hkn : kn (talCells ⟨gt, ⟨lo, lo + w⟩, L, mo, Cs⟩ cv cov) = true := tal_kn (ownE_val B.ch).2.2 (ownE_val B.co).2.2
    refine nLdA (c := talCells ⟨gt, ⟨lo, lo + w⟩, L, mo, Cs⟩ cv cov) t2 (by simp [talCells]) rfl hkn ?_
    refine nStA z0 rfl rfl (tal_ones (ownE_val B.ch).2.1 (ownE_val B.co).2.1) ?_
    refine retQ_same hds ?_
    refine resW_cell (gg := true) (s := 6) (by kernel_rfl) ?_
    show aLoad true 6 (f.r 6) _ _
    rw [r6]
    refine nLdA (c := talCells ⟨gt, ⟨lo, lo + w⟩, L, mo, Cs⟩ cv cov) (List.getElem?_set_self (by omega)) (by simp [talCells]) rfl hkn ?_
    refine resW_tmp (by show Value.slice _ _ _ ≠ unk; simp [unk]) (resW_tmp ?_ (resW_nil ?_))
    · show lov ≠ unk
      intro e
      have := (ownE_val B.lo).2.2
      rw [e] at this
      exact absurd this (by decide)
    · exact he (by omega) _ (B.set2 (by omega))
theorem good61 (hJ : Closed prog main J) {nv : Value} {ns : List Int} {rest : List AObj} {k : Nat} {s : Int} (hn : Hnd h nv ns) (hs : 0 ≤ s ∧ s < 18446744073709551616) (hk : k < 100000) {G C : Int} (hG : 1 ≤ G ∧ G ≤ 5) (hC : 0 ≤ C ∧ C ≤ 7)
    (hK : ∀ (t : Tal) (nums losses : List Int) cv co nuv lov o1 o2 o3 o4 g k' s', TruthOk G C t nums losses → OwnE (h.length + 1 + rest.length) g 2 (t.changes.flatMap Rng.cells) t.changes.length cv o1 → OwnE (h.length + 1 + rest.length) g 4 (t.counts.flatMap Cnt.cells) t.counts.length co o2 →
      OwnE (h.length + 1 + rest.length) g 1 (nums.map vint) nums.length nuv o3 → OwnE (h.length + 1 + rest.length) g 1 (losses.map vint) losses.length lov o4 → (∀ i, o1 = some i → o2 ≠ some i) → k' ≤ k + 100 → (0 ≤ s' ∧ s' < 18446744073709551616) → K (.tuple ⟨[.agg ⟨talCells t cv co⟩, nuv, lov]⟩) (HF h nv k' s' rest ++ g)) :
    Good prog J 61 [ptr h.length 0, vint G, vint C] (HF h nv k s rest) K := by
  refine g61 hJ fun ok => ?_
  rw [e61]
  have h0 : HF h nv k s rest = HF h nv k s rest ++ [] := by simp
  rw [h0]
  refine nAl (minI ?_)
  rw [show min G 5 = G from by omega]
  refine amo hJ hn hs (by omega) (by omega) (by omega) fun gt k1 s1 g1 g2 hk1 hs1 => ?_
  refine up hJ hn hs1 (by omega) (by omega) fun x k2 s2 x1 x2 hk2 hs2 => ?_
  refine ⟨by decide, fill1 rfl rfl (by decide) (fill1 rfl rfl (by simp [zrep]) (fill1 rfl rfl (by simp [zrep]) (fillI (nNew ?_))))⟩
  refine ofl hJ hn hs2 (by omega) (others := [1, 2, x]) (n := 3) rfl (by omega) fun mo k3 s3 m1 hk3 hs3 => ?_
  have mo4 : 0 ≤ mo ∧ mo ≤ 4 := by
    rcases m1 with rfl | m1
    · omega
    · simp at m1
      omega
  refine fill1 rfl rfl (by decide) (fill1 rfl rfl (by simp) (fillI (nAl ?_)))
  refine nStA last_get rfl rfl rfl ?_
  rw [last_set]
  refine amo hJ hn hs3 (by omega) (by omega) (by omega) fun lo k4 s4 l1 l2 hk4 hs4 => ?_
  refine offI (offI (nSt last_get (by simp) rfl rfl ?_))
  rw [last_set]
  refine ⟨[2].map fun i => h.length + 1 + rest.length + i, ?_⟩
  refine offI (offI (nLd last_get rfl rfl ⟨nRd (by simp), ?_⟩))
  refine up hJ hn hs4 (by omega) (by omega) fun a k5 s5 a1 a2 hk5 hs5 => ?_
  refine ⟨nSame (by simp), ?_⟩
  refine up hJ hn hs5 (by omega) (by omega) fun b k6 s6 b1 b2 hk6 hs6 => ?_
  refine ⟨nSame (by simp), ?_⟩
  refine ⟨by decide, fill1 rfl rfl (by decide) (fill1 rfl rfl (by simp [zrep]) (fillI (nNew ⟨nSame (by simp), ?_⟩)))⟩
  refine ofl hJ hn hs6 (by omega) (others := [a, b]) (n := 2) rfl (by omega) fun w k7 s7 w1 hk7 hs7 => ?_
  have w6 : 0 ≤ w ∧ w ≤ 6 := by
    rcases w1 with rfl | w1
    · omega
    · simp at w1
      omega
  refine ⟨nSame (by simp), addI (by omega) (offI (offI (nSt (i := 2) rfl (by simp) rfl rfl ?_)))⟩
  refine offI (offI (nLd (i := 2) rfl rfl rfl (offI (offI (nLd (i := 2) rfl rfl rfl ?_)))))
  refine amo hJ hn hs7 (by omega) (by omega) (by omega) fun now k8 s8 n1 n2 hk8 hs8 => ?_
  refine ⟨by decide, fill1 rfl rfl (by decide) (fillI (nNew ?_))⟩
  -- the ranges
  have kk : k8 ≤ k + 8 := by omega
  clear hk1 hk2 hk3 hk4 hk5 hk6 hk7 hk8 hs1 hs2 hs3 hs4 hs5 hs6 hs7
  refine l61_1 hJ (fun j : Nat => 5 - j) (fun j f h' => ∃ k1 s1 g L nums losses cv nuv lov o1 o3 o4, h' = HF h nv k1 s1 rest ++ g ∧ (0 ≤ s1 ∧ s1 < 18446744073709551616) ∧ k1 ≤ k + 20 + 4 * j ∧ S1 h rest g C gt lo w mo L nums losses cv nuv lov o1 o3 o4 j f) ?_ (s := 0)
    (.inl ⟨k8, s8, _, [], [now], [], _, _, _, none, some 4, none, rfl, hs8, by omega, ⟨ownE_nil, ownE_nil, ⟨rfl, rfl, .inr ⟨4, 1, 0, rfl, rfl, rfl, .inr rfl⟩⟩, ownE_nil, by simp, by simp, by simp, by simp, by simp, by simp, by simp, by simp, by simp, by simp, by simp⟩, rfl, rfl,
      ⟨rfl, rfl, by dsimp only; omega, mo4, by simp, by simp only [List.getD_cons_zero]; omega, fun i hi => absurd hi (by simp)⟩, rfl, by omega, by omega, rfl, rfl, rfl, rfl, rfl, rfl, rfl, rfl, rfl⟩)
  rintro j f _ ⟨k1, t1, g, L, nums, losses, cv, nuv, lov, o1, o3, o4, rfl, ht1, hkj, S⟩ ok' hn'
  have hj4 : j ≤ 4 := by
    have := S.jg
    have := S.g5
    omega
  refine rnd1 hJ hn ht1 (by omega) S (fun hlt k5 t5 g3 L' nums' losses' v1 v2 v3 o1' o3' o4' f' q1 q2 q3 => ⟨j + 1, by dsimp only; omega, .inl ⟨_, _, _, _, _, _, _, _, _, _, _, _, rfl, q2, by omega, q3⟩⟩) ?_ hC
  intro hjg k2 t2 m f' hk2 ht2 m1 m2 m3 hds hr r16
  have hl := S.lj
  have chn := S.chn
  have numl := chn.numl
  dsimp only at numl
  obtain ⟨i3, c3, sz3, rfl, hnuv, b3, c3'⟩ : ∃ i3 c3 sz3, o3 = some i3 ∧ nuv = .slice (some ⟨h.length + 1 + rest.length + i3, 0, none⟩) nums.length c3 ∧ g[i3]? = some (.cells (nums.map vint) true sz3) ∧ ((c3 = fz ∧ sz3 = 1) ∨ c3 = nums.length) := by
    rcases S.bt.nu.2.2 with ⟨x, _⟩ | x
    · omega
    · exact x
  subst hnuv
  refine l61_2 hJ (fun i : Nat => i) (fun i f h' => ∃ k1 s1 g Cs cov o2, h' = HF h nv k1 s1 rest ++ g ∧ (0 ≤ s1 ∧ s1 < 18446744073709551616) ∧ k1 + 7 * i ≤ k + 99 ∧ S2 h rest g C gt lo w mo L Cs nums losses cv cov lov i3 c3 o1 o2 o4 i f) ?_ (s := m.toNat)
    (.inl ⟨_, _, _, [], _, none, rfl, ht2, by omega, S.bt, S.z0, S.t2, by simp, by simp; omega, hds, by rw [hr 0 (by omega), S.r0], by rw [hr 6 (by omega), S.r6], by rw [hr 9 (by omega), S.r9], by rw [hr 11 (by omega), S.r11], by rw [hr 12 (by omega), S.r12], by rw [r16]; congr 1; omega⟩)
  clear b3 c3'
  rintro i f _ ⟨k3, t3, g, Cs, cov, o2, rfl, ht3, hk3, S'⟩ ok' hn'
  have hjg' := S.g5
  refine rnd2 hJ hn ht3 (by omega) S' (by omega) (by omega) (by omega) (fun q hq => ?_) (fun hlt k5 t5 g3 Cs' v1 o2' f' q1 q2 q3 => ⟨i - 1, by dsimp only; omega, .inl ⟨_, _, _, _, _, _, rfl, q2, by omega, q3⟩⟩) ?_
  · have := chn.bd q (by dsimp only; omega)
    omega
  · intro hi0 g' B'
    have few := S'.few
    refine hK ⟨gt, ⟨lo, lo + w⟩, L, mo, Cs⟩ nums losses cv cov _ lov o1 o2 _ o4 g' _ _ ⟨by dsimp only; omega, by dsimp only; omega, ?_, by dsimp only; omega, S'.co⟩ B'.ch B'.co B'.nu B'.lo B'.d12 (by omega) ht3
    exact ⟨chn.numl, chn.losl, chn.first, chn.most, chn.ch, chn.zero, chn.step⟩
end
end Go.Proofs.Ytdgpacdknpahnaa

namespace Go.Proofs.Ytdgpacdknpahnaa
open Go.Conc Go.Proofs.Try
set_option maxRecDepth 100000
structure TalOk (G C : Int) (t : Tal) : Prop where
  gates : 1 ≤ t.gates ∧ t.gates ≤ G
  chl : (t.changes.length : Int) = t.gates - 1
  first : 30 ≤ t.first.lo ∧ t.first.lo ≤ 60 ∧ t.first.lo ≤ t.first.hi ∧ t.first.hi ≤ t.first.lo + 6
  most : 0 ≤ t.most ∧ t.most ≤ 4
  ch : ∀ r ∈ t.changes, -3 ≤ r.lo ∧ r.lo ≤ 2 ∧ r.lo ≤ r.hi ∧ r.hi ≤ r.lo + 2
  few : (t.counts.length : Int) ≤ C
  co : ∀ c ∈ t.counts, (0 ≤ c.gate ∧ c.gate < t.gates) ∧ (1 ≤ c.man ∧ c.man ≤ 4) ∧ (0 ≤ c.err ∧ c.err ≤ 20) ∧ (0 ≤ c.num ∧ c.num ≤ 200)

theorem firstE_zero {l : List Int} (h : ∀ e ∈ l, e = 0) : firstE l = 0 := by
  induction l with
  | nil => rfl
  | cons a l ih =>
    unfold firstE
    rw [if_neg (by simpa using h a (by simp))]
    exact ih fun e he => h e (by simp [he])

theorem TalOk.err {G C : Int} {t : Tal} (h : TalOk G C t) (hG : G ≤ 5) (hC : C ≤ 7) : talErr t = 0 := by
  have h1 := h.gates
  have h2 := h.chl
  have h3 := h.first
  have h4 := h.most
  have h5 := h.few
  have hr : rngErr 0 300 t.first = 0 := by
    unfold rngErr
    rw [if_neg (by omega), if_neg (by omega)]
  have hc : firstE (t.changes.map (rngErr (-60) 60)) = 0 := firstE_zero fun e he => by
    obtain ⟨r, hr, rfl⟩ := List.mem_map.1 he
    have := h.ch r hr
    unfold rngErr
    rw [if_neg (by omega), if_neg (by omega)]
  unfold talErr
  rw [if_neg (by omega), if_neg (by omega), if_neg (by omega), if_neg (by omega), if_neg (by omega), if_neg (by omega), if_neg (by omega)]
  refine firstE_zero fun e he => ?_
  obtain ⟨c, hc, rfl⟩ := List.mem_map.1 he
  obtain ⟨a, b, c, d⟩ := h.co c hc
  unfold cntErr
  rw [if_neg (by omega), if_neg (by omega)]

theorem cnt_set (x : Int) : ∀ (Cs : List Cnt) (i : Nat) (hi : i < Cs.length), (Cs.flatMap Cnt.cells).set (i * 4 + 2) (vint x) = (Cs.set i { Cs[i] with num := x }).flatMap Cnt.cells
  | [], _, hi => absurd hi (by simp)
  | c :: Cs, 0, _ => rfl
  | c :: Cs, i + 1, hi => by
    have ih := cnt_set x Cs i (by simpa using hi)
    simp only [List.flatMap_cons, List.set_cons_succ, List.getElem_cons_succ]
    rw [← ih, List.set_append_right _ _ (by rw [cnt_len]; omega), cnt_len]
    congr 2
    omega

theorem TruthOk.num {G C : Int} {t : Tal} {nums losses : List Int} (h : TruthOk G C t nums losses) (hG : G ≤ 5) (c : Cnt) (hc : c ∈ t.counts) : 0 ≤ c.num ∧ c.num ≤ 150 := by
  obtain ⟨a, b, d, e⟩ := h.co c hc
  have h1 := h.gates
  have h2 := h.chl
  have := h.chain.bd c.gate.toNat (by omega)
  have mb := mul_bd d.1 d.2 (b := nums.getD c.gate.toNat 0) (B := 100) (by omega) (by omega)
  generalize hE : nums.getD c.gate.toNat 0 = E at *
  have d0 : 0 ≤ c.err * E / 100 := Int.ediv_nonneg (by omega) (by omega)
  have d1 : c.err * E / 100 ≤ 20 := by
    have : c.err * E / 100 ≤ 2000 / 100 := Int.ediv_le_ediv (by omega) (by omega)
    omega
  have m2 := mul_bd (a := 20 - c.err) (A := 20) (by omega) (by omega) (b := E) (B := 100) (by omega) (by omega)
  have e2 : c.err * E / 100 ≤ E / 5 := by
    have h3 : c.err * E ≤ 20 * E := by
      have : (20 - c.err) * E = 20 * E - c.err * E := Int.sub_mul _ _ _
      omega
    have : c.err * E / 100 ≤ 20 * E / 100 := Int.ediv_le_ediv (by omega) h3
    omega
  omega
theorem TruthOk.tal {G C : Int} {t : Tal} {nums losses : List Int} (h : TruthOk G C t nums losses) (hG : G ≤ 5) : TalOk G C t where
  gates := h.gates
  chl := h.chl
  first := h.chain.first
  most := h.chain.most
  ch := h.chain.ch
  few := h.few
  co := fun c hc => by
    obtain ⟨a, b, d, e⟩ := h.co c hc
    have := h.num hG c hc
    exact ⟨a, b, d, by omega, by omega⟩

section
variable {main : Bool} {J : JT} {h : List AObj} {K : Value → List AObj → Prop} {n0 : Nat}
theorem ownE_shift {n : Nat} {g : List AObj} {z : AObj} {s : Nat} {cs : List Value} {len : Nat} {v : Value} {o : Option Nat} (ho : OwnE (n + 1) g s cs len v o) : OwnE n (z :: g) s cs len v (o.map (· + 1)) := by
  obtain ⟨h1, h2, ⟨a, b, rfl⟩ | ⟨i, c, sz, rfl, rfl, h5, h6⟩⟩ := ho
  · exact ⟨h1, h2, .inl ⟨a, b, rfl⟩⟩
  · exact ⟨h1, h2, .inr ⟨i + 1, c, sz, rfl, by rw [Nat.add_assoc n 1 i, Nat.add_comm 1 i], h5, h6⟩⟩

structure TO (h : List AObj) (rest g : List AObj) (t : Tal) (cv co : Value) (o1 o2 : Option Nat) : Prop where
  ch : OwnE (h.length + 1 + rest.length) g 2 (t.changes.flatMap Rng.cells) t.changes.length cv o1
  co : OwnE (h.length + 1 + rest.length) g 4 (t.counts.flatMap Cnt.cells) t.counts.length co o2
theorem TO.at {nv : Value} {k : Nat} {s : Int} {rest g : List AObj} {t : Tal} {cv co : Value} {o1 o2 : Option Nat} (T : TO h rest g t cv co o1 o2) : TalAt (HF h nv k s rest ++ g) (.agg ⟨talCells t cv co⟩) t cv co :=
  ⟨rfl, nsli T.ch, nsli T.co⟩

theorem good28 (hJ : Closed prog main J) {nv : Value} {ns : List Int} {rest : List AObj} {k : Nat} {s : Int} (hn : Hnd h nv ns) (hs : 0 ≤ s ∧ s < 18446744073709551616) (hk : k < 50000) {G C : Int} (hG : 1 ≤ G ∧ G ≤ 5) (hC : 0 ≤ C ∧ C ≤ 7)
    (hK : ∀ (t : Tal) cv co o1 o2 g k' s', TalOk G C t → TO h rest g t cv co o1 o2 → k' ≤ k + 120 → (0 ≤ s' ∧ s' < 18446744073709551616) → K (.agg ⟨talCells t cv co⟩) (HF h nv k' s' rest ++ g)) :
    Good prog J 28 [ptr h.length 0, vint G, vint C] (HF h nv k s rest) K := by
  refine g28 hJ fun ok => ?_
  rw [e28]
  have h0 : HF h nv k s rest = HF h nv k s rest ++ [] := by simp
  rw [h0]
  refine nAl ?_
  rw [List.nil_append, hf_app]
  refine good61 hJ hn hs (by omega) hG hC fun t nums losses cv co nuv lov o1 o2 o3 o4 g k1 s1 T O1 O2 _ _ hd hk1 hs1 => ext30 (ext31 (ext32 ?_))
  have hT := T.tal hG.2
  have hre : HF h nv k1 s1 (rest ++ [.cells [vint 0, vint 0, vint 0, .slice none 0 0, vint 0, .slice none 0 0] true 0]) ++ g = HF h nv k1 s1 rest ++ (.cells [vint 0, vint 0, vint 0, .slice none 0 0, vint 0, .slice none 0 0] true 0 :: g) := by
    rw [← hf_app, List.append_assoc]
    rfl
  have hln : h.length + 1 + (rest ++ [AObj.cells [vint 0, vint 0, vint 0, Value.slice none 0 0, vint 0, Value.slice none 0 0] true 0]).length = h.length + 1 + rest.length + 1 := by rw [List.length_append]; rfl
  rw [hln] at O1 O2
  have O1' := ownE_shift (z := .cells [vint 0, vint 0, vint 0, .slice none 0 0, vint 0, .slice none 0 0] true 0) O1
  have O2' := ownE_shift (z := .cells [vint 0, vint 0, vint 0, .slice none 0 0, vint 0, .slice none 0 0] true 0) O2
  rw [hre]
  have hc1 : ∀ i, o1.map (· + 1) = some i → 0 < i := fun i e => by
    cases o1 <;> simp at e
    omega
  have hc2 : ∀ i, o2.map (· + 1) = some i → 0 < i := fun i e => by
    cases o2 <;> simp at e
    omega
  have hd' : ∀ i, o1.map (· + 1) = some i → o2.map (· + 1) ≠ some i := fun i e e2 => by
    cases o1 <;> cases o2 <;> simp at e e2
    exact hd _ rfl (by congr 1; omega)
  generalize hg1 : (AObj.cells [vint 0, vint 0, vint 0, Value.slice none 0 0, vint 0, Value.slice none 0 0] true 0 :: g) = g1 at *
  have z0 : g1[0]? = some (.cells [vint 0, vint 0, vint 0, .slice none 0 0, vint 0, .slice none 0 0] true 0) := by rw [← hg1]; rfl
  generalize o1.map (· + 1) = p1 at *
  generalize o2.map (· + 1) = p2 at *
  refine nAl (nStA last_get rfl rfl (tal_ones (ownE_val O1').2.1 (ownE_val O2').2.1) ?_)
  rw [last_set]
  have hl1 : 0 < g1.length := by
    rw [← hg1]
    simp
  have lt1 : ∀ i, p1 = some i → i < g1.length := fun i e => ownE_lt O1' e
  have lt2 : ∀ i, p2 = some i → i < g1.length := fun i e => ownE_lt O2' e
  refine l28_1 hJ (fun i : Nat => 7 - i) (fun i f h' => ∃ k2 s2 g Cs, h' = HF h nv k2 s2 rest ++ g ∧ (0 ≤ s2 ∧ s2 < 18446744073709551616) ∧ k2 ≤ k + 100 + 2 * i ∧ i ≤ t.counts.length ∧ Cs.length = t.counts.length ∧ TalOk G C { t with counts := Cs } ∧ (∀ j (hj : j < Cs.length), i ≤ j → Cs[j].num ≤ 150) ∧
      OwnE (h.length + 1 + rest.length) g 2 (t.changes.flatMap Rng.cells) t.changes.length cv p1 ∧ OwnE (h.length + 1 + rest.length) g 4 (Cs.flatMap Cnt.cells) Cs.length co p2 ∧
      g[0]? = some (.cells [vint 0, vint 0, vint 0, .slice none 0 0, vint 0, .slice none 0 0] true 0) ∧ g[g1.length]? = some (.cells (talCells t cv co) true 0) ∧
      f.ds = [] ∧ f.r 0 = ptr h.length 0 ∧ f.r 6 = ptr (h.length + 1 + rest.length + 0) 0 ∧ f.r 7 = ptr (h.length + 1 + rest.length + g1.length) 0 ∧ f.r 10 = vint (i : Nat)) ?_ (s := 0)
    (.inl ⟨_, _, _, t.counts, rfl, hs1, by omega, by omega, rfl, hT, (fun j hj _ => (T.num hG.2 _ (List.getElem_mem _)).2), ownE_app O1', ownE_app O2', get_app z0, last_get, rfl, rfl, rfl, rfl, rfl⟩)
  clear hT z0 O1 O2 O1' O2' hre hln T hg1
  rintro i f _ ⟨k2, s2, g, Cs, rfl, hs2, hk2, hi, hcl, hT, h150, O1, O2, z0, tb, hds, r0, r6, r7, r10⟩ ok' hn'
  have hfew := hT.few
  dsimp only at hfew
  rw [s28_1]
  simp only [r0, r6, r7, r10]
  have hnext : ∀ {k3 s3 g' Cs' f'}, k3 ≤ k + 100 + 2 * (i + 1) → (0 ≤ s3 ∧ s3 < 18446744073709551616) → i < t.counts.length → Cs'.length = t.counts.length → TalOk G C { t with counts := Cs' } → (∀ j (hj : j < Cs'.length), i + 1 ≤ j → Cs'[j].num ≤ 150) → OwnE (h.length + 1 + rest.length) g' 2 (t.changes.flatMap Rng.cells) t.changes.length cv p1 →
      OwnE (h.length + 1 + rest.length) g' 4 (Cs'.flatMap Cnt.cells) Cs'.length co p2 → g'[0]? = some (.cells [vint 0, vint 0, vint 0, .slice none 0 0, vint 0, .slice none 0 0] true 0) → g'[g1.length]? = some (.cells (talCells t cv co) true 0) →
      f'.ds = [] → f'.r 0 = ptr h.length 0 → f'.r 6 = ptr (h.length + 1 + rest.length + 0) 0 → f'.r 7 = ptr (h.length + 1 + rest.length + g1.length) 0 → f'.r 10 = vint ((i : Int) + 1) → Nx (HF h nv k s rest ++ []).length (fun i : Nat => 7 - i) (fun i f h' => ∃ k2 s2 g Cs, h' = HF h nv k2 s2 rest ++ g ∧ (0 ≤ s2 ∧ s2 < 18446744073709551616) ∧ k2 ≤ k + 100 + 2 * i ∧ i ≤ t.counts.length ∧ Cs.length = t.counts.length ∧ TalOk G C { t with counts := Cs } ∧ (∀ j (hj : j < Cs.length), i ≤ j → Cs[j].num ≤ 150) ∧
      OwnE (h.length + 1 + rest.length) g 2 (t.changes.flatMap Rng.cells) t.changes.length cv p1 ∧ OwnE (h.length + 1 + rest.length) g 4 (Cs.flatMap Cnt.cells) Cs.length co p2 ∧
      g[0]? = some (.cells [vint 0, vint 0, vint 0, .slice none 0 0, vint 0, .slice none 0 0] true 0) ∧ g[g1.length]? = some (.cells (talCells t cv co) true 0) ∧
      f.ds = [] ∧ f.r 0 = ptr h.length 0 ∧ f.r 6 = ptr (h.length + 1 + rest.length + 0) 0 ∧ f.r 7 = ptr (h.length + 1 + rest.length + g1.length) 0 ∧ f.r 10 = vint (i : Nat)) i f' (HF h nv k3 s3 rest ++ g') :=
    fun q1 q2 q3 q4 q5 q15 q6 q7 q8 q9 q10 q11 q12 q13 q14 => ⟨i + 1, by dsimp only; omega, .inl ⟨_, _, _, _, rfl, q2, by omega, by omega, q4, q5, q15, q6, q7, q8, q9, q10, q11, q12, q13, q14⟩⟩
  refine offI (nLd (v := co) tb rfl (ownE_val O2).2.2 (lenI (nsli (h := h) (nv := nv) (k := k2) (s := s2) O2) (lssI (cndI (fun hlt => ?_) fun hge => ?_))))
  · have hil : i < Cs.length := by omega
    obtain ⟨ic, c, sz, rfl, rfl, gc, gcc⟩ : ∃ ic c sz, p2 = some ic ∧ co = .slice (some ⟨h.length + 1 + rest.length + ic, 0, none⟩) Cs.length c ∧ g[ic]? = some (.cells (Cs.flatMap Cnt.cells) true sz) ∧ ((c = fz ∧ sz = 4) ∨ c = Cs.length) := by
      rcases O2.2.2 with ⟨x, _⟩ | x
      · omega
      · exact x
    refine good69 hJ hn hs2 (by omega) (by omega) fun y k3 s3 hk3 hs3 => cnd_bool.2 ⟨fun _ => ?_, fun _ => addI (by omega) (hnext (by omega) hs3 (by omega) hcl hT (fun j hj x => h150 j hj (by omega)) O1 O2 z0 tb hds r0 r6 r7 rfl)⟩
    have hco := hT.co Cs[i] (List.getElem_mem _)
    dsimp only at hco
    have hcell : (Cs.flatMap Cnt.cells)[0 + i * 4 + 2]? = some (vint Cs[i].num) := by
      rw [Nat.zero_add]
      exact part_get (flat_take cnt_len Cs i hil) rfl
    have hin : (0 : Int) ≤ (i : Nat) ∧ ((i : Nat) : Int) < (Cs.length : Nat) := by omega
    have hic1 := hc2 ic rfl
    have hic2 := lt2 ic rfl
    refine ⟨[g1.length, ic].map fun i => h.length + 1 + rest.length + i, ?_⟩
    refine offI (nLd tb rfl rfl ⟨nRd (by simp), offI (nLd tb rfl rfl ⟨nRd (by simp), ?_⟩)⟩)
    refine idxI hin (offI (nLd gc hcell rfl ⟨nRd (by simp), ?_⟩))
    refine amo hJ hn hs3 (by omega) (by omega) (by omega) fun x k4 s4 x1 x2 hk4 hs4 => ?_
    refine ⟨nSame (by simp), addI (by omega) (maxI (idxI hin (offI (nSt gc ?_ rfl rfl (addI (by omega) ?_)))))⟩
    · have := ownE_sli (A := List.replicate (h.length + 1 + rest.length) AObj.dead) (by rw [List.length_replicate]; exact O2)
      have := sli_vlen this
      rw [this]
      omega
    have hcs : (Cs.flatMap Cnt.cells).set (0 + (Int.toNat (i : Int)) * 4 + 2) (vint (max 0 (Cs[i].num + x))) = (Cs.set i { Cs[i] with num := max 0 (Cs[i].num + x) }).flatMap Cnt.cells := by
      rw [Nat.zero_add, Int.toNat_natCast]
      exact cnt_set _ Cs i hil
    rw [hcs]
    refine hnext (Cs' := Cs.set i { Cs[i] with num := max 0 (Cs[i].num + x) }) (by omega) hs4 (by omega) (by simpa using hcl) ?_ (fun j hj x => ?_) (ownE_set O1 fun e => hd' ic e rfl) ?_ (get_set z0 (by omega)) (get_set tb (by omega)) hds r0 r6 r7 rfl
    · refine ⟨hT.gates, hT.chl, hT.first, hT.most, hT.ch, by simpa using hT.few, fun c hc => ?_⟩
      rcases List.mem_or_eq_of_mem_set hc with hc | hc
      · exact hT.co c hc
      · subst hc
        have := h150 i hil (by omega)
        exact ⟨hco.1, hco.2.1, hco.2.2.1, by dsimp only; omega, by dsimp only; omega⟩
    · rw [List.getElem_set_ne (by omega)]
      exact h150 j (by simpa using hj) (by omega)
    · refine ⟨?_, ?_, .inr ⟨ic, c, sz, rfl, by rw [List.length_set], ?_, by rw [List.length_set]; assumption⟩⟩
      · have := O2.1
        rw [← cnt_set _ Cs i hil]
        simpa using this
      · rw [← cnt_set _ Cs i hil]
        have := O2.2.1
        unfold kn at *
        rw [List.all_eq_true] at this ⊢
        intro y hy
        rcases List.mem_or_eq_of_mem_set hy with hy | hy
        · exact this y hy
        · subst hy
          rfl
      · rw [List.getElem?_set_self (List.getElem?_eq_some_iff.1 gc).1]
  · have hgl : g1.length < g.length := (List.getElem?_eq_some_iff.1 tb).1
    have hkn : kn (talCells t cv co) = true := tal_kn (ownE_val O1).2.2 (ownE_val O2).2.2
    refine nLdA (c := talCells t cv co) tb (by simp [talCells]) rfl hkn ?_
    refine nStA z0 rfl rfl (tal_ones (ownE_val O1).2.1 (ownE_val O2).2.1) ?_
    refine retQ_same hds ?_
    refine resW_cell (gg := true) (s := 6) (by kernel_rfl) ?_
    show aLoad true 6 (f.r 6) _ _
    rw [r6]
    refine nLdA (c := talCells t cv co) (List.getElem?_set_self (by omega)) (by simp [talCells]) rfl hkn ?_
    refine resW_nil ?_
    have hi7 := hfew
    exact hK { t with counts := Cs } cv co p1 p2 _ _ _ hT ⟨ownE_set O1 fun e => by have := hc1 _ e; omega, ownE_set O2 fun e => by have := hc2 _ e; omega⟩ (by omega) hs2
end
end Go.Proofs.Ytdgpacdknpahnaa

namespace Go.Proofs.Ytdgpacdknpahnaa
open Go.Conc Go.Proofs.Try
set_option maxRecDepth 100000
def Rng.meet (a b : Rng) : Rng := ⟨max a.lo b.lo, min a.hi b.hi⟩
def Rng.plus (a b : Rng) : Rng := ⟨a.lo + b.lo, a.hi + b.hi⟩
def rd (c : Cnt) : Rng := ⟨rdLo c, rdHi c⟩
section
variable {main : Bool} {J : JT} {h A g : List AObj} {K : Value → List AObj → Prop} {KV : Value → Prop} {HL : List AObj → Prop} {n0 : Nat}
structure WorkAt (h : List AObj) (b : Nat) (t : Tal) (cv nv : Value) (u : Int) (m : Value) : Prop where
  at_ : h[b]? = some (.cells (talCells t cv nv ++ [.int .u64 u, m]) true 0)
  ch : SliE h cv 2 Rng.cells t.changes
  co : SliE h nv 4 Cnt.cells t.counts
theorem WorkAt.app {b : Nat} {t : Tal} {cv nv : Value} {u : Int} {m : Value} (w : WorkAt h b t cv nv u m) : WorkAt (h ++ g) b t cv nv u m := ⟨get_app w.at_, sliE_app w.ch, sliE_app w.co⟩
theorem WorkAt.kc {b : Nat} {t : Tal} {cv nv : Value} {u : Int} {m : Value} (w : WorkAt h b t cv nv u m) : kn1 cv = true ∧ kn1 nv = true := ⟨(sli_one w.ch).2.2, (sli_one w.co).2.2⟩

def stretchR (t : Tal) (g : Nat) : Rng := ((t.changes[g]?).getD ⟨0, 0⟩).plus ⟨-t.most, 0⟩

end
end Go.Proofs.Ytdgpacdknpahnaa

namespace Go.Proofs.Ytdgpacdknpahnaa
open Go.Conc Go.Proofs.Try
set_option maxRecDepth 100000
set_option maxHeartbeats 4000000
set_option linter.unusedVariables false
section
variable {main : Bool} {J : JT} {n0 : Nat} {h : List AObj} {K : Value → List AObj → Prop}
theorem e8 {a0 : Value} : W prog J 100 h.length 8 (codeOf f8) (RG.mk (regs [a0]) []) h (RetQ prog [.tmp 2] h.length K) =
(Good prog J 19 [a0] h fun v1 h2 =>
Good prog J 22 [v1, (vint 4)] h2 fun v3 h4 =>
Good prog J 20 [v1, (vint 1), (vint 9)] h4 fun v5 h6 =>
Good prog J 22 [v1, (vint 9)] h6 fun v7 h8 =>
Good prog J 22 [v1, (vint 300)] h8 fun v9 h10 =>
(((2 * 1 : Nat) ≤ 16777216 ∧ (2 : Nat) ≤ 16777216 ∧ List.length [(vint 0)] = 1) ∧ aFill (zrep [(vint 0)] 2) [(0, 1, v7), (1, 1, v9)] fun c11 =>
aNewS 2 c11 h10 fun v12 h13 =>
Good prog J 21 [v1, (vint 0), v12] h13 fun v14 h15 =>
Good prog J 22 [v1, (vint 20)] h15 fun v16 h17 =>
(((1 * 1 : Nat) ≤ 16777216 ∧ (1 : Nat) ≤ 16777216 ∧ List.length [(vint 0)] = 1) ∧ aFill (zrep [(vint 0)] 1) [(0, 1, v16)] fun c18 =>
aNewS 1 c18 h17 fun v19 h20 =>
Good prog J 21 [v1, (vint 0), v19] h20 fun v21 h22 =>
aFill [(vint 0), (vint 0), (vint 0), (vint 0)] [(0, 1, v3), (1, 1, v5), (2, 1, v14), (3, 1, v21)] fun c23 =>
aAlloc [(vint 0), (vint 0), (vint 0), (vint 0)] h22 fun v24 h25 =>
aStore 4 v24 (Value.agg ⟨c23⟩) h25 fun h26 =>
aLoad true 4 v24 h26 fun v27 =>
Good prog J 40 [v27] h26 fun v28 h29 =>
aExt v28 0 fun v30 =>
aExt v28 1 fun v31 =>
aAlloc [(vint 0), (vint 0)] h29 fun v32 h33 =>
aStore 2 v32 v30 h33 fun h34 =>
aBin prog .neq 32 v31 (vint 0) fun v35 =>
cnd v35
(cnd (Value.bool true)
(cnd (Value.bool true)
(cnd (Value.bool true)
(cnd (Value.bool true)
(retL h.length K [] [(Value.bool false)] h34)
(Sem J 100 h.length 8 (subC [1, 1, 1, 1, 1, 0, 1, 0] (codeOf f8)) (RG.put (RG.put (RG.put (RG.put (RG.put (RG.put (RG.put (RG.put (RG.put (RG.put (RG.put (RG.put (RG.put (RG.put (RG.put (RG.put (RG.put (RG.put (RG.put (RG.put (RG.put (RG.put (RG.put (RG.put (RG.put (RG.put (RG.put (RG.put (RG.put (RG.put (RG.put (RG.put (RG.put (RG.put (RG.put (RG.put (RG.put (RG.put (RG.put (RG.put (RG.put (RG.put (RG.put (RG.put (RG.put (RG.put (RG.put (RG.put (RG.put (RG.put (RG.put (RG.put (RG.put (RG.put (RG.put (RG.put (RG.put (RG.put (RG.put (RG.put (RG.mk (regs [a0]) []) 2 (Value.bool false)) 9 a0) 10 v1) 3 v1) 11 v1) 12 v3) 13 v1) 14 v5) 15 v1) 16 v1) 17 v7) 18 v1) 19 v9) 20 v12) 21 v14) 22 v1) 23 v1) 24 v16) 25 v19) 26 v21) 27 (Value.agg ⟨c23⟩)) 4 v24) 29 v27) 30 v28) 28 v28) 31 v30) 32 v31) 5 v32) 6 v31) 33 v31) 34 v35) 35 v35) 35 (Value.bool true)) 36 undef) 37 undef) 38 undef) 39 undef) 40 undef) 41 (Value.bool true)) 42 (Value.bool true)) 42 (Value.bool true)) 43 undef) 44 undef) 45 undef) 46 undef) 47 undef) 48 (Value.bool true)) 49 (Value.bool true)) 49 (Value.bool true)) 50 undef) 51 undef) 52 undef) 53 (Value.bool true)) 54 (Value.bool true)) 54 (Value.bool true)) 55 undef) 56 undef) 57 undef) 58 (Value.bool true)) 7 (vint 0)) h34 (contQ prog J 100 h.length 8 [1, 1, 1, 1, 1, 0, 1, 0] (codeOf f8) [] (RetQ prog [.tmp 2] h.length K))))
(aOff v32 1 fun v36 =>
aLoad false 1 v36 h34 fun v37 =>
aBin prog .geq 3 v37 (vint 400) fun v38 =>
cnd v38
(retL h.length K [] [(Value.bool false)] h34)
(Sem J 100 h.length 8 (subC [1, 1, 1, 1, 1, 0, 1, 0] (codeOf f8)) (RG.put (RG.put (RG.put (RG.put (RG.put (RG.put (RG.put (RG.put (RG.put (RG.put (RG.put (RG.put (RG.put (RG.put (RG.put (RG.put (RG.put (RG.put (RG.put (RG.put (RG.put (RG.put (RG.put (RG.put (RG.put (RG.put (RG.put (RG.put (RG.put (RG.put (RG.put (RG.put (RG.put (RG.put (RG.put (RG.put (RG.put (RG.put (RG.put (RG.put (RG.put (RG.put (RG.put (RG.put (RG.put (RG.put (RG.put (RG.put (RG.put (RG.put (RG.put (RG.put (RG.put (RG.put (RG.put (RG.put (RG.put (RG.put (RG.put (RG.put (RG.mk (regs [a0]) []) 2 (Value.bool false)) 9 a0) 10 v1) 3 v1) 11 v1) 12 v3) 13 v1) 14 v5) 15 v1) 16 v1) 17 v7) 18 v1) 19 v9) 20 v12) 21 v14) 22 v1) 23 v1) 24 v16) 25 v19) 26 v21) 27 (Value.agg ⟨c23⟩)) 4 v24) 29 v27) 30 v28) 28 v28) 31 v30) 32 v31) 5 v32) 6 v31) 33 v31) 34 v35) 35 v35) 35 (Value.bool true)) 36 undef) 37 undef) 38 undef) 39 undef) 40 undef) 41 (Value.bool true)) 42 (Value.bool true)) 42 (Value.bool true)) 43 undef) 44 undef) 45 undef) 46 undef) 47 undef) 48 (Value.bool true)) 49 (Value.bool true)) 49 (Value.bool true)) 50 undef) 51 undef) 52 undef) 53 (Value.bool true)) 54 (Value.bool true)) 54 (Value.bool false)) 55 v36) 56 v37) 57 v38) 58 v38) 7 (vint 0)) h34 (contQ prog J 100 h.length 8 [1, 1, 1, 1, 1, 0, 1, 0] (codeOf f8) [] (RetQ prog [.tmp 2] h.length K)))))
(aOff v32 0 fun v39 =>
aLoad false 1 v39 h34 fun v40 =>
aBin prog .lss 3 v40 (vint 0) fun v41 =>
cnd v41
(cnd (Value.bool true)
(retL h.length K [] [(Value.bool false)] h34)
(Sem J 100 h.length 8 (subC [1, 1, 1, 1, 1, 0, 1, 0] (codeOf f8)) (RG.put (RG.put (RG.put (RG.put (RG.put (RG.put (RG.put (RG.put (RG.put (RG.put (RG.put (RG.put (RG.put (RG.put (RG.put (RG.put (RG.put (RG.put (RG.put (RG.put (RG.put (RG.put (RG.put (RG.put (RG.put (RG.put (RG.put (RG.put (RG.put (RG.put (RG.put (RG.put (RG.put (RG.put (RG.put (RG.put (RG.put (RG.put (RG.put (RG.put (RG.put (RG.put (RG.put (RG.put (RG.put (RG.put (RG.put (RG.put (RG.put (RG.put (RG.put (RG.put (RG.put (RG.put (RG.put (RG.put (RG.put (RG.put (RG.put (RG.put (RG.mk (regs [a0]) []) 2 (Value.bool false)) 9 a0) 10 v1) 3 v1) 11 v1) 12 v3) 13 v1) 14 v5) 15 v1) 16 v1) 17 v7) 18 v1) 19 v9) 20 v12) 21 v14) 22 v1) 23 v1) 24 v16) 25 v19) 26 v21) 27 (Value.agg ⟨c23⟩)) 4 v24) 29 v27) 30 v28) 28 v28) 31 v30) 32 v31) 5 v32) 6 v31) 33 v31) 34 v35) 35 v35) 35 (Value.bool true)) 36 undef) 37 undef) 38 undef) 39 undef) 40 undef) 41 (Value.bool true)) 42 (Value.bool true)) 42 (Value.bool true)) 43 undef) 44 undef) 45 undef) 46 undef) 47 undef) 48 (Value.bool true)) 49 (Value.bool true)) 49 (Value.bool false)) 50 v39) 51 v40) 52 v41) 53 v41) 54 v41) 54 (Value.bool true)) 55 undef) 56 undef) 57 undef) 58 (Value.bool true)) 7 (vint 0)) h34 (contQ prog J 100 h.length 8 [1, 1, 1, 1, 1, 0, 1, 0] (codeOf f8) [] (RetQ prog [.tmp 2] h.length K))))
(aOff v32 1 fun v42 =>
aLoad false 1 v42 h34 fun v43 =>
aBin prog .geq 3 v43 (vint 400) fun v44 =>
cnd v44
(retL h.length K [] [(Value.bool false)] h34)
(Sem J 100 h.length 8 (subC [1, 1, 1, 1, 1, 0, 1, 0] (codeOf f8)) (RG.put (RG.put (RG.put (RG.put (RG.put (RG.put (RG.put (RG.put (RG.put (RG.put (RG.put (RG.put (RG.put (RG.put (RG.put (RG.put (RG.put (RG.put (RG.put (RG.put (RG.put (RG.put (RG.put (RG.put (RG.put (RG.put (RG.put (RG.put (RG.put (RG.put (RG.put (RG.put (RG.put (RG.put (RG.put (RG.put (RG.put (RG.put (RG.put (RG.put (RG.put (RG.put (RG.put (RG.put (RG.put (RG.put (RG.put (RG.put (RG.put (RG.put (RG.put (RG.put (RG.put (RG.put (RG.put (RG.put (RG.put (RG.put (RG.put (RG.put (RG.mk (regs [a0]) []) 2 (Value.bool false)) 9 a0) 10 v1) 3 v1) 11 v1) 12 v3) 13 v1) 14 v5) 15 v1) 16 v1) 17 v7) 18 v1) 19 v9) 20 v12) 21 v14) 22 v1) 23 v1) 24 v16) 25 v19) 26 v21) 27 (Value.agg ⟨c23⟩)) 4 v24) 29 v27) 30 v28) 28 v28) 31 v30) 32 v31) 5 v32) 6 v31) 33 v31) 34 v35) 35 v35) 35 (Value.bool true)) 36 undef) 37 undef) 38 undef) 39 undef) 40 undef) 41 (Value.bool true)) 42 (Value.bool true)) 42 (Value.bool true)) 43 undef) 44 undef) 45 undef) 46 undef) 47 undef) 48 (Value.bool true)) 49 (Value.bool true)) 49 (Value.bool false)) 50 v39) 51 v40) 52 v41) 53 v41) 54 v41) 54 (Value.bool false)) 55 v42) 56 v43) 57 v44) 58 v44) 7 (vint 0)) h34 (contQ prog J 100 h.length 8 [1, 1, 1, 1, 1, 0, 1, 0] (codeOf f8) [] (RetQ prog [.tmp 2] h.length K))))))
(aOff v32 1 fun v45 =>
aLoad false 1 v45 h34 fun v46 =>
aOff v24 2 fun v47 =>
aLoad false 1 v47 h34 fun v48 =>
aBin prog .lss 3 v46 v48 fun v49 =>
cnd v49
(cnd (Value.bool true)
(cnd (Value.bool true)
(retL h.length K [] [(Value.bool false)] h34)
(Sem J 100 h.length 8 (subC [1, 1, 1, 1, 1, 0, 1, 0] (codeOf f8)) (RG.put (RG.put (RG.put (RG.put (RG.put (RG.put (RG.put (RG.put (RG.put (RG.put (RG.put (RG.put (RG.put (RG.put (RG.put (RG.put (RG.put (RG.put (RG.put (RG.put (RG.put (RG.put (RG.put (RG.put (RG.put (RG.put (RG.put (RG.put (RG.put (RG.put (RG.put (RG.put (RG.put (RG.put (RG.put (RG.put (RG.put (RG.put (RG.put (RG.put (RG.put (RG.put (RG.put (RG.put (RG.put (RG.put (RG.put (RG.put (RG.put (RG.put (RG.put (RG.put (RG.put (RG.put (RG.put (RG.put (RG.put (RG.put (RG.put (RG.put (RG.mk (regs [a0]) []) 2 (Value.bool false)) 9 a0) 10 v1) 3 v1) 11 v1) 12 v3) 13 v1) 14 v5) 15 v1) 16 v1) 17 v7) 18 v1) 19 v9) 20 v12) 21 v14) 22 v1) 23 v1) 24 v16) 25 v19) 26 v21) 27 (Value.agg ⟨c23⟩)) 4 v24) 29 v27) 30 v28) 28 v28) 31 v30) 32 v31) 5 v32) 6 v31) 33 v31) 34 v35) 35 v35) 35 (Value.bool true)) 36 undef) 37 undef) 38 undef) 39 undef) 40 undef) 41 (Value.bool true)) 42 (Value.bool true)) 42 (Value.bool false)) 43 v45) 44 v46) 45 v47) 46 v48) 47 v49) 48 v49) 49 v49) 49 (Value.bool true)) 50 undef) 51 undef) 52 undef) 53 (Value.bool true)) 54 (Value.bool true)) 54 (Value.bool true)) 55 undef) 56 undef) 57 undef) 58 (Value.bool true)) 7 (vint 0)) h34 (contQ prog J 100 h.length 8 [1, 1, 1, 1, 1, 0, 1, 0] (codeOf f8) [] (RetQ prog [.tmp 2] h.length K))))
(aOff v32 1 fun v50 =>
aLoad false 1 v50 h34 fun v51 =>
aBin prog .geq 3 v51 (vint 400) fun v52 =>
cnd v52
(retL h.length K [] [(Value.bool false)] h34)
(Sem J 100 h.length 8 (subC [1, 1, 1, 1, 1, 0, 1, 0] (codeOf f8)) (RG.put (RG.put (RG.put (RG.put (RG.put (RG.put (RG.put (RG.put (RG.put (RG.put (RG.put (RG.put (RG.put (RG.put (RG.put (RG.put (RG.put (RG.put (RG.put (RG.put (RG.put (RG.put (RG.put (RG.put (RG.put (RG.put (RG.put (RG.put (RG.put (RG.put (RG.put (RG.put (RG.put (RG.put (RG.put (RG.put (RG.put (RG.put (RG.put (RG.put (RG.put (RG.put (RG.put (RG.put (RG.put (RG.put (RG.put (RG.put (RG.put (RG.put (RG.put (RG.put (RG.put (RG.put (RG.put (RG.put (RG.put (RG.put (RG.put (RG.put (RG.mk (regs [a0]) []) 2 (Value.bool false)) 9 a0) 10 v1) 3 v1) 11 v1) 12 v3) 13 v1) 14 v5) 15 v1) 16 v1) 17 v7) 18 v1) 19 v9) 20 v12) 21 v14) 22 v1) 23 v1) 24 v16) 25 v19) 26 v21) 27 (Value.agg ⟨c23⟩)) 4 v24) 29 v27) 30 v28) 28 v28) 31 v30) 32 v31) 5 v32) 6 v31) 33 v31) 34 v35) 35 v35) 35 (Value.bool true)) 36 undef) 37 undef) 38 undef) 39 undef) 40 undef) 41 (Value.bool true)) 42 (Value.bool true)) 42 (Value.bool false)) 43 v45) 44 v46) 45 v47) 46 v48) 47 v49) 48 v49) 49 v49) 49 (Value.bool true)) 50 undef) 51 undef) 52 undef) 53 (Value.bool true)) 54 (Value.bool true)) 54 (Value.bool false)) 55 v50) 56 v51) 57 v52) 58 v52) 7 (vint 0)) h34 (contQ prog J 100 h.length 8 [1, 1, 1, 1, 1, 0, 1, 0] (codeOf f8) [] (RetQ prog [.tmp 2] h.length K)))))
(aOff v32 0 fun v53 =>
aLoad false 1 v53 h34 fun v54 =>
aBin prog .lss 3 v54 (vint 0) fun v55 =>
cnd v55
(cnd (Value.bool true)
(retL h.length K [] [(Value.bool false)] h34)
(Sem J 100 h.length 8 (subC [1, 1, 1, 1, 1, 0, 1, 0] (codeOf f8)) (RG.put (RG.put (RG.put (RG.put (RG.put (RG.put (RG.put (RG.put (RG.put (RG.put (RG.put (RG.put (RG.put (RG.put (RG.put (RG.put (RG.put (RG.put (RG.put (RG.put (RG.put (RG.put (RG.put (RG.put (RG.put (RG.put (RG.put (RG.put (RG.put (RG.put (RG.put (RG.put (RG.put (RG.put (RG.put (RG.put (RG.put (RG.put (RG.put (RG.put (RG.put (RG.put (RG.put (RG.put (RG.put (RG.put (RG.put (RG.put (RG.put (RG.put (RG.put (RG.put (RG.put (RG.put (RG.put (RG.put (RG.put (RG.put (RG.put (RG.put (RG.mk (regs [a0]) []) 2 (Value.bool false)) 9 a0) 10 v1) 3 v1) 11 v1) 12 v3) 13 v1) 14 v5) 15 v1) 16 v1) 17 v7) 18 v1) 19 v9) 20 v12) 21 v14) 22 v1) 23 v1) 24 v16) 25 v19) 26 v21) 27 (Value.agg ⟨c23⟩)) 4 v24) 29 v27) 30 v28) 28 v28) 31 v30) 32 v31) 5 v32) 6 v31) 33 v31) 34 v35) 35 v35) 35 (Value.bool true)) 36 undef) 37 undef) 38 undef) 39 undef) 40 undef) 41 (Value.bool true)) 42 (Value.bool true)) 42 (Value.bool false)) 43 v45) 44 v46) 45 v47) 46 v48) 47 v49) 48 v49) 49 v49) 49 (Value.bool false)) 50 v53) 51 v54) 52 v55) 53 v55) 54 v55) 54 (Value.bool true)) 55 undef) 56 undef) 57 undef) 58 (Value.bool true)) 7 (vint 0)) h34 (contQ prog J 100 h.length 8 [1, 1, 1, 1, 1, 0, 1, 0] (codeOf f8) [] (RetQ prog [.tmp 2] h.length K))))
(aOff v32 1 fun v56 =>
aLoad false 1 v56 h34 fun v57 =>
aBin prog .geq 3 v57 (vint 400) fun v58 =>
cnd v58
(retL h.length K [] [(Value.bool false)] h34)
(Sem J 100 h.length 8 (subC [1, 1, 1, 1, 1, 0, 1, 0] (codeOf f8)) (RG.put (RG.put (RG.put (RG.put (RG.put (RG.put (RG.put (RG.put (RG.put (RG.put (RG.put (RG.put (RG.put (RG.put (RG.put (RG.put (RG.put (RG.put (RG.put (RG.put (RG.put (RG.put (RG.put (RG.put (RG.put (RG.put (RG.put (RG.put (RG.put (RG.put (RG.put (RG.put (RG.put (RG.put (RG.put (RG.put (RG.put (RG.put (RG.put (RG.put (RG.put (RG.put (RG.put (RG.put (RG.put (RG.put (RG.put (RG.put (RG.put (RG.put (RG.put (RG.put (RG.put (RG.put (RG.put (RG.put (RG.put (RG.put (RG.put (RG.put (RG.mk (regs [a0]) []) 2 (Value.bool false)) 9 a0) 10 v1) 3 v1) 11 v1) 12 v3) 13 v1) 14 v5) 15 v1) 16 v1) 17 v7) 18 v1) 19 v9) 20 v12) 21 v14) 22 v1) 23 v1) 24 v16) 25 v19) 26 v21) 27 (Value.agg ⟨c23⟩)) 4 v24) 29 v27) 30 v28) 28 v28) 31 v30) 32 v31) 5 v32) 6 v31) 33 v31) 34 v35) 35 v35) 35 (Value.bool true)) 36 undef) 37 undef) 38 undef) 39 undef) 40 undef) 41 (Value.bool true)) 42 (Value.bool true)) 42 (Value.bool false)) 43 v45) 44 v46) 45 v47) 46 v48) 47 v49) 48 v49) 49 v49) 49 (Value.bool false)) 50 v53) 51 v54) 52 v55) 53 v55) 54 v55) 54 (Value.bool false)) 55 v56) 56 v57) 57 v58) 58 v58) 7 (vint 0)) h34 (contQ prog J 100 h.length 8 [1, 1, 1, 1, 1, 0, 1, 0] (codeOf f8) [] (RetQ prog [.tmp 2] h.length K)))))))
(aOff v32 0 fun v59 =>
aLoad false 1 v59 h34 fun v60 =>
aOff v24 2 fun v61 =>
aLoad false 1 v61 h34 fun v62 =>
aBin prog .gtr 3 v60 v62 fun v63 =>
cnd v63
(cnd (Value.bool true)
(cnd (Value.bool true)
(cnd (Value.bool true)
(retL h.length K [] [(Value.bool false)] h34)
(Sem J 100 h.length 8 (subC [1, 1, 1, 1, 1, 0, 1, 0] (codeOf f8)) (RG.put (RG.put (RG.put (RG.put (RG.put (RG.put (RG.put (RG.put (RG.put (RG.put (RG.put (RG.put (RG.put (RG.put (RG.put (RG.put (RG.put (RG.put (RG.put (RG.put (RG.put (RG.put (RG.put (RG.put (RG.put (RG.put (RG.put (RG.put (RG.put (RG.put (RG.put (RG.put (RG.put (RG.put (RG.put (RG.put (RG.put (RG.put (RG.put (RG.put (RG.put (RG.put (RG.put (RG.put (RG.put (RG.put (RG.put (RG.put (RG.put (RG.put (RG.put (RG.put (RG.put (RG.put (RG.put (RG.put (RG.put (RG.put (RG.put (RG.put (RG.mk (regs [a0]) []) 2 (Value.bool false)) 9 a0) 10 v1) 3 v1) 11 v1) 12 v3) 13 v1) 14 v5) 15 v1) 16 v1) 17 v7) 18 v1) 19 v9) 20 v12) 21 v14) 22 v1) 23 v1) 24 v16) 25 v19) 26 v21) 27 (Value.agg ⟨c23⟩)) 4 v24) 29 v27) 30 v28) 28 v28) 31 v30) 32 v31) 5 v32) 6 v31) 33 v31) 34 v35) 35 v35) 35 (Value.bool false)) 36 v59) 37 v60) 38 v61) 39 v62) 40 v63) 41 v63) 42 v63) 42 (Value.bool true)) 43 undef) 44 undef) 45 undef) 46 undef) 47 undef) 48 (Value.bool true)) 49 (Value.bool true)) 49 (Value.bool true)) 50 undef) 51 undef) 52 undef) 53 (Value.bool true)) 54 (Value.bool true)) 54 (Value.bool true)) 55 undef) 56 undef) 57 undef) 58 (Value.bool true)) 7 (vint 0)) h34 (contQ prog J 100 h.length 8 [1, 1, 1, 1, 1, 0, 1, 0] (codeOf f8) [] (RetQ prog [.tmp 2] h.length K))))
(aOff v32 1 fun v64 =>
aLoad false 1 v64 h34 fun v65 =>
aBin prog .geq 3 v65 (vint 400) fun v66 =>
cnd v66
(retL h.length K [] [(Value.bool false)] h34)
(Sem J 100 h.length 8 (subC [1, 1, 1, 1, 1, 0, 1, 0] (codeOf f8)) (RG.put (RG.put (RG.put (RG.put (RG.put (RG.put (RG.put (RG.put (RG.put (RG.put (RG.put (RG.put (RG.put (RG.put (RG.put (RG.put (RG.put (RG.put (RG.put (RG.put (RG.put (RG.put (RG.put (RG.put (RG.put (RG.put (RG.put (RG.put (RG.put (RG.put (RG.put (RG.put (RG.put (RG.put (RG.put (RG.put (RG.put (RG.put (RG.put (RG.put (RG.put (RG.put (RG.put (RG.put (RG.put (RG.put (RG.put (RG.put (RG.put (RG.put (RG.put (RG.put (RG.put (RG.put (RG.put (RG.put (RG.put (RG.put (RG.put (RG.put (RG.mk (regs [a0]) []) 2 (Value.bool false)) 9 a0) 10 v1) 3 v1) 11 v1) 12 v3) 13 v1) 14 v5) 15 v1) 16 v1) 17 v7) 18 v1) 19 v9) 20 v12) 21 v14) 22 v1) 23 v1) 24 v16) 25 v19) 26 v21) 27 (Value.agg ⟨c23⟩)) 4 v24) 29 v27) 30 v28) 28 v28) 31 v30) 32 v31) 5 v32) 6 v31) 33 v31) 34 v35) 35 v35) 35 (Value.bool false)) 36 v59) 37 v60) 38 v61) 39 v62) 40 v63) 41 v63) 42 v63) 42 (Value.bool true)) 43 undef) 44 undef) 45 undef) 46 undef) 47 undef) 48 (Value.bool true)) 49 (Value.bool true)) 49 (Value.bool true)) 50 undef) 51 undef) 52 undef) 53 (Value.bool true)) 54 (Value.bool true)) 54 (Value.bool false)) 55 v64) 56 v65) 57 v66) 58 v66) 7 (vint 0)) h34 (contQ prog J 100 h.length 8 [1, 1, 1, 1, 1, 0, 1, 0] (codeOf f8) [] (RetQ prog [.tmp 2] h.length K)))))
(aOff v32 0 fun v67 =>
aLoad false 1 v67 h34 fun v68 =>
aBin prog .lss 3 v68 (vint 0) fun v69 =>
cnd v69
(cnd (Value.bool true)
(retL h.length K [] [(Value.bool false)] h34)
(Sem J 100 h.length 8 (subC [1, 1, 1, 1, 1, 0, 1, 0] (codeOf f8)) (RG.put (RG.put (RG.put (RG.put (RG.put (RG.put (RG.put (RG.put (RG.put (RG.put (RG.put (RG.put (RG.put (RG.put (RG.put (RG.put (RG.put (RG.put (RG.put (RG.put (RG.put (RG.put (RG.put (RG.put (RG.put (RG.put (RG.put (RG.put (RG.put (RG.put (RG.put (RG.put (RG.put (RG.put (RG.put (RG.put (RG.put (RG.put (RG.put (RG.put (RG.put (RG.put (RG.put (RG.put (RG.put (RG.put (RG.put (RG.put (RG.put (RG.put (RG.put (RG.put (RG.put (RG.put (RG.put (RG.put (RG.put (RG.put (RG.put (RG.put (RG.mk (regs [a0]) []) 2 (Value.bool false)) 9 a0) 10 v1) 3 v1) 11 v1) 12 v3) 13 v1) 14 v5) 15 v1) 16 v1) 17 v7) 18 v1) 19 v9) 20 v12) 21 v14) 22 v1) 23 v1) 24 v16) 25 v19) 26 v21) 27 (Value.agg ⟨c23⟩)) 4 v24) 29 v27) 30 v28) 28 v28) 31 v30) 32 v31) 5 v32) 6 v31) 33 v31) 34 v35) 35 v35) 35 (Value.bool false)) 36 v59) 37 v60) 38 v61) 39 v62) 40 v63) 41 v63) 42 v63) 42 (Value.bool true)) 43 undef) 44 undef) 45 undef) 46 undef) 47 undef) 48 (Value.bool true)) 49 (Value.bool true)) 49 (Value.bool false)) 50 v67) 51 v68) 52 v69) 53 v69) 54 v69) 54 (Value.bool true)) 55 undef) 56 undef) 57 undef) 58 (Value.bool true)) 7 (vint 0)) h34 (contQ prog J 100 h.length 8 [1, 1, 1, 1, 1, 0, 1, 0] (codeOf f8) [] (RetQ prog [.tmp 2] h.length K))))
(aOff v32 1 fun v70 =>
aLoad false 1 v70 h34 fun v71 =>
aBin prog .geq 3 v71 (vint 400) fun v72 =>
cnd v72
(retL h.length K [] [(Value.bool false)] h34)
(Sem J 100 h.length 8 (subC [1, 1, 1, 1, 1, 0, 1, 0] (codeOf f8)) (RG.put (RG.put (RG.put (RG.put (RG.put (RG.put (RG.put (RG.put (RG.put (RG.put (RG.put (RG.put (RG.put (RG.put (RG.put (RG.put (RG.put (RG.put (RG.put (RG.put (RG.put (RG.put (RG.put (RG.put (RG.put (RG.put (RG.put (RG.put (RG.put (RG.put (RG.put (RG.put (RG.put (RG.put (RG.put (RG.put (RG.put (RG.put (RG.put (RG.put (RG.put (RG.put (RG.put (RG.put (RG.put (RG.put (RG.put (RG.put (RG.put (RG.put (RG.put (RG.put (RG.put (RG.put (RG.put (RG.put (RG.put (RG.put (RG.put (RG.put (RG.mk (regs [a0]) []) 2 (Value.bool false)) 9 a0) 10 v1) 3 v1) 11 v1) 12 v3) 13 v1) 14 v5) 15 v1) 16 v1) 17 v7) 18 v1) 19 v9) 20 v12) 21 v14) 22 v1) 23 v1) 24 v16) 25 v19) 26 v21) 27 (Value.agg ⟨c23⟩)) 4 v24) 29 v27) 30 v28) 28 v28) 31 v30) 32 v31) 5 v32) 6 v31) 33 v31) 34 v35) 35 v35) 35 (Value.bool false)) 36 v59) 37 v60) 38 v61) 39 v62) 40 v63) 41 v63) 42 v63) 42 (Value.bool true)) 43 undef) 44 undef) 45 undef) 46 undef) 47 undef) 48 (Value.bool true)) 49 (Value.bool true)) 49 (Value.bool false)) 50 v67) 51 v68) 52 v69) 53 v69) 54 v69) 54 (Value.bool false)) 55 v70) 56 v71) 57 v72) 58 v72) 7 (vint 0)) h34 (contQ prog J 100 h.length 8 [1, 1, 1, 1, 1, 0, 1, 0] (codeOf f8) [] (RetQ prog [.tmp 2] h.length K))))))
(aOff v32 1 fun v73 =>
aLoad false 1 v73 h34 fun v74 =>
aOff v24 2 fun v75 =>
aLoad false 1 v75 h34 fun v76 =>
aBin prog .lss 3 v74 v76 fun v77 =>
cnd v77
(cnd (Value.bool true)
(cnd (Value.bool true)
(retL h.length K [] [(Value.bool false)] h34)
(Sem J 100 h.length 8 (subC [1, 1, 1, 1, 1, 0, 1, 0] (codeOf f8)) (RG.put (RG.put (RG.put (RG.put (RG.put (RG.put (RG.put (RG.put (RG.put (RG.put (RG.put (RG.put (RG.put (RG.put (RG.put (RG.put (RG.put (RG.put (RG.put (RG.put (RG.put (RG.put (RG.put (RG.put (RG.put (RG.put (RG.put (RG.put (RG.put (RG.put (RG.put (RG.put (RG.put (RG.put (RG.put (RG.put (RG.put (RG.put (RG.put (RG.put (RG.put (RG.put (RG.put (RG.put (RG.put (RG.put (RG.put (RG.put (RG.put (RG.put (RG.put (RG.put (RG.put (RG.put (RG.put (RG.put (RG.put (RG.put (RG.put (RG.put (RG.mk (regs [a0]) []) 2 (Value.bool false)) 9 a0) 10 v1) 3 v1) 11 v1) 12 v3) 13 v1) 14 v5) 15 v1) 16 v1) 17 v7) 18 v1) 19 v9) 20 v12) 21 v14) 22 v1) 23 v1) 24 v16) 25 v19) 26 v21) 27 (Value.agg ⟨c23⟩)) 4 v24) 29 v27) 30 v28) 28 v28) 31 v30) 32 v31) 5 v32) 6 v31) 33 v31) 34 v35) 35 v35) 35 (Value.bool false)) 36 v59) 37 v60) 38 v61) 39 v62) 40 v63) 41 v63) 42 v63) 42 (Value.bool false)) 43 v73) 44 v74) 45 v75) 46 v76) 47 v77) 48 v77) 49 v77) 49 (Value.bool true)) 50 undef) 51 undef) 52 undef) 53 (Value.bool true)) 54 (Value.bool true)) 54 (Value.bool true)) 55 undef) 56 undef) 57 undef) 58 (Value.bool true)) 7 (vint 0)) h34 (contQ prog J 100 h.length 8 [1, 1, 1, 1, 1, 0, 1, 0] (codeOf f8) [] (RetQ prog [.tmp 2] h.length K))))
(aOff v32 1 fun v78 =>
aLoad false 1 v78 h34 fun v79 =>
aBin prog .geq 3 v79 (vint 400) fun v80 =>
cnd v80
(retL h.length K [] [(Value.bool false)] h34)
(Sem J 100 h.length 8 (subC [1, 1, 1, 1, 1, 0, 1, 0] (codeOf f8)) (RG.put (RG.put (RG.put (RG.put (RG.put (RG.put (RG.put (RG.put (RG.put (RG.put (RG.put (RG.put (RG.put (RG.put (RG.put (RG.put (RG.put (RG.put (RG.put (RG.put (RG.put (RG.put (RG.put (RG.put (RG.put (RG.put (RG.put (RG.put (RG.put (RG.put (RG.put (RG.put (RG.put (RG.put (RG.put (RG.put (RG.put (RG.put (RG.put (RG.put (RG.put (RG.put (RG.put (RG.put (RG.put (RG.put (RG.put (RG.put (RG.put (RG.put (RG.put (RG.put (RG.put (RG.put (RG.put (RG.put (RG.put (RG.put (RG.put (RG.put (RG.mk (regs [a0]) []) 2 (Value.bool false)) 9 a0) 10 v1) 3 v1) 11 v1) 12 v3) 13 v1) 14 v5) 15 v1) 16 v1) 17 v7) 18 v1) 19 v9) 20 v12) 21 v14) 22 v1) 23 v1) 24 v16) 25 v19) 26 v21) 27 (Value.agg ⟨c23⟩)) 4 v24) 29 v27) 30 v28) 28 v28) 31 v30) 32 v31) 5 v32) 6 v31) 33 v31) 34 v35) 35 v35) 35 (Value.bool false)) 36 v59) 37 v60) 38 v61) 39 v62) 40 v63) 41 v63) 42 v63) 42 (Value.bool false)) 43 v73) 44 v74) 45 v75) 46 v76) 47 v77) 48 v77) 49 v77) 49 (Value.bool true)) 50 undef) 51 undef) 52 undef) 53 (Value.bool true)) 54 (Value.bool true)) 54 (Value.bool false)) 55 v78) 56 v79) 57 v80) 58 v80) 7 (vint 0)) h34 (contQ prog J 100 h.length 8 [1, 1, 1, 1, 1, 0, 1, 0] (codeOf f8) [] (RetQ prog [.tmp 2] h.length K)))))
(aOff v32 0 fun v81 =>
aLoad false 1 v81 h34 fun v82 =>
aBin prog .lss 3 v82 (vint 0) fun v83 =>
cnd v83
(cnd (Value.bool true)
(retL h.length K [] [(Value.bool false)] h34)
(Sem J 100 h.length 8 (subC [1, 1, 1, 1, 1, 0, 1, 0] (codeOf f8)) (RG.put (RG.put (RG.put (RG.put (RG.put (RG.put (RG.put (RG.put (RG.put (RG.put (RG.put (RG.put (RG.put (RG.put (RG.put (RG.put (RG.put (RG.put (RG.put (RG.put (RG.put (RG.put (RG.put (RG.put (RG.put (RG.put (RG.put (RG.put (RG.put (RG.put (RG.put (RG.put (RG.put (RG.put (RG.put (RG.put (RG.put (RG.put (RG.put (RG.put (RG.put (RG.put (RG.put (RG.put (RG.put (RG.put (RG.put (RG.put (RG.put (RG.put (RG.put (RG.put (RG.put (RG.put (RG.put (RG.put (RG.put (RG.put (RG.put (RG.put (RG.mk (regs [a0]) []) 2 (Value.bool false)) 9 a0) 10 v1) 3 v1) 11 v1) 12 v3) 13 v1) 14 v5) 15 v1) 16 v1) 17 v7) 18 v1) 19 v9) 20 v12) 21 v14) 22 v1) 23 v1) 24 v16) 25 v19) 26 v21) 27 (Value.agg ⟨c23⟩)) 4 v24) 29 v27) 30 v28) 28 v28) 31 v30) 32 v31) 5 v32) 6 v31) 33 v31) 34 v35) 35 v35) 35 (Value.bool false)) 36 v59) 37 v60) 38 v61) 39 v62) 40 v63) 41 v63) 42 v63) 42 (Value.bool false)) 43 v73) 44 v74) 45 v75) 46 v76) 47 v77) 48 v77) 49 v77) 49 (Value.bool false)) 50 v81) 51 v82) 52 v83) 53 v83) 54 v83) 54 (Value.bool true)) 55 undef) 56 undef) 57 undef) 58 (Value.bool true)) 7 (vint 0)) h34 (contQ prog J 100 h.length 8 [1, 1, 1, 1, 1, 0, 1, 0] (codeOf f8) [] (RetQ prog [.tmp 2] h.length K))))
(aOff v32 1 fun v84 =>
aLoad false 1 v84 h34 fun v85 =>
aBin prog .geq 3 v85 (vint 400) fun v86 =>
cnd v86
(retL h.length K [] [(Value.bool false)] h34)
(Sem J 100 h.length 8 (subC [1, 1, 1, 1, 1, 0, 1, 0] (codeOf f8)) (RG.put (RG.put (RG.put (RG.put (RG.put (RG.put (RG.put (RG.put (RG.put (RG.put (RG.put (RG.put (RG.put (RG.put (RG.put (RG.put (RG.put (RG.put (RG.put (RG.put (RG.put (RG.put (RG.put (RG.put (RG.put (RG.put (RG.put (RG.put (RG.put (RG.put (RG.put (RG.put (RG.put (RG.put (RG.put (RG.put (RG.put (RG.put (RG.put (RG.put (RG.put (RG.put (RG.put (RG.put (RG.put (RG.put (RG.put (RG.put (RG.put (RG.put (RG.put (RG.put (RG.put (RG.put (RG.put (RG.put (RG.put (RG.put (RG.put (RG.put (RG.mk (regs [a0]) []) 2 (Value.bool false)) 9 a0) 10 v1) 3 v1) 11 v1) 12 v3) 13 v1) 14 v5) 15 v1) 16 v1) 17 v7) 18 v1) 19 v9) 20 v12) 21 v14) 22 v1) 23 v1) 24 v16) 25 v19) 26 v21) 27 (Value.agg ⟨c23⟩)) 4 v24) 29 v27) 30 v28) 28 v28) 31 v30) 32 v31) 5 v32) 6 v31) 33 v31) 34 v35) 35 v35) 35 (Value.bool false)) 36 v59) 37 v60) 38 v61) 39 v62) 40 v63) 41 v63) 42 v63) 42 (Value.bool false)) 43 v73) 44 v74) 45 v75) 46 v76) 47 v77) 48 v77) 49 v77) 49 (Value.bool false)) 50 v81) 51 v82) 52 v83) 53 v83) 54 v83) 54 (Value.bool false)) 55 v84) 56 v85) 57 v86) 58 v86) 7 (vint 0)) h34 (contQ prog J 100 h.length 8 [1, 1, 1, 1, 1, 0, 1, 0] (codeOf f8) [] (RetQ prog [.tmp 2] h.length K)))))))))) := by kernel_rfl
end
end Go.Proofs.Ytdgpacdknpahnaa

namespace Go.Proofs.Ytdgpacdknpahnaa
open Go.Conc Go.Proofs.Try
set_option maxRecDepth 100000
theorem lo_le {c : Cnt} (h2 : 0 ≤ c.err ∧ c.err ≤ 20) {n : Int} : rdLo c ≤ n ↔ 100 * c.num ≤ 100 * n + c.err * n := by
  unfold rdLo
  have e : (n + 1) * (100 + c.err) = 100 * n + c.err * n + 100 + c.err := by
    rw [Int.add_mul, Int.mul_add, Int.mul_comm n 100, Int.mul_comm n c.err]
    omega
  have := Int.ediv_lt_iff_lt_mul (a := 100 * c.num + 99 + c.err) (b := n + 1) (c := 100 + c.err) (by omega)
  rw [e] at this
  omega
theorem le_hi {c : Cnt} (h2 : 0 ≤ c.err ∧ c.err ≤ 20) {n : Int} : n ≤ rdHi c ↔ 100 * n - c.err * n ≤ 100 * c.num := by
  unfold rdHi
  have e : n * (100 - c.err) = 100 * n - c.err * n := by
    rw [Int.mul_sub, Int.mul_comm n 100, Int.mul_comm n c.err]
  rw [Int.le_ediv_iff_mul_le (by omega), e]
theorem rd_facts {c : Cnt} (h1 : 0 ≤ c.num ∧ c.num ≤ 300) (h2 : 0 ≤ c.err ∧ c.err ≤ 20) : rdLo c ≤ c.num ∧ c.num ≤ rdHi c ∧ 0 ≤ rdLo c ∧ rdHi c < 400 := by
  have m := mul_bd h2.1 h2.2 h1.1 h1.2
  refine ⟨(lo_le h2).2 (by omega), (le_hi h2).2 (by omega), Int.ediv_nonneg (by omega) (by omega), ?_⟩
  refine Int.ediv_lt_of_lt_mul (by omega) ?_
  omega

end Go.Proofs.Ytdgpacdknpahnaa

namespace Go.Proofs.Ytdgpacdknpahnaa
open Go.Conc Go.Proofs.Try
set_option maxRecDepth 100000
def SameX (X : List Nat) (h H : List AObj) : Prop := h.length ≤ H.length ∧ ∀ i, i < h.length → i ∉ X → H[i]? = h[i]?

theorem SameX.refl {X : List Nat} {h : List AObj} : SameX X h h := ⟨Nat.le_refl _, fun _ _ _ => rfl⟩
theorem SameX.trans {X : List Nat} {h H H' : List AObj} (a : SameX X h H) (b : SameX X H H') : SameX X h H' :=
  ⟨Nat.le_trans a.1 b.1, fun i hi hx => by rw [b.2 i (Nat.lt_of_lt_of_le hi a.1) hx, a.2 i hi hx]⟩
theorem SameX.app {X : List Nat} {h H g : List AObj} (a : SameX X h H) : SameX X h (H ++ g) :=
  ⟨by have := a.1; simp; omega, fun i hi hx => by rw [List.getElem?_append_left (Nat.lt_of_lt_of_le hi a.1), a.2 i hi hx]⟩
theorem SameX.set {X : List Nat} {h H : List AObj} {i : Nat} {o : AObj} (a : SameX X h H) (hi : i ∈ X ∨ h.length ≤ i) : SameX X h (H.set i o) :=
  ⟨by have := a.1; simp; omega, fun j hj hx => by
    rw [List.getElem?_set, if_neg, a.2 j hj hx]
    rintro rfl
    rcases hi with hi | hi
    · exact hx hi
    · omega⟩
theorem SameX.get {X : List Nat} {h H : List AObj} {i : Nat} {o : AObj} (a : SameX X h H) (hx : h[i]? = some o) (hi : i ∉ X) : H[i]? = some o := by
  rw [a.2 i (List.getElem?_eq_some_iff.1 hx).1 hi, hx]
theorem SameX.pre {X : List Nat} {h0 g H : List AObj} (a : SameX X (h0 ++ g) H) (hX : ∀ x ∈ X, h0.length ≤ x) : ∃ g', H = h0 ++ g' := by
  refine ⟨H.drop h0.length, ?_⟩
  have : H.take h0.length = h0 := by
    apply List.ext_getElem?
    intro i
    rw [List.getElem?_take]
    split
    · rename_i hi
      rw [a.2 i (by simp; omega) (fun hx => by have := hX i hx; omega), List.getElem?_append_left hi]
    · rename_i hi
      rw [List.getElem?_eq_none (by omega)]
  conv => lhs; rw [← List.take_append_drop h0.length H, this]

structure WorkIn (h0 H : List AObj) (b : Nat) (t : Tal) (cv nv : Value) (u : Int) (m : Value) : Prop where
  at_ : H[b]? = some (.cells (talCells t cv nv ++ [.int .u64 u, m]) true 0)
  pre : ∃ g, H = h0 ++ g
  ch : SliE h0 cv 2 Rng.cells t.changes
  co : SliE h0 nv 4 Cnt.cells t.counts
theorem WorkIn.same {h0 h H : List AObj} {b : Nat} {t : Tal} {cv nv : Value} {u : Int} {m : Value} {X : List Nat} (w : WorkIn h0 h b t cv nv u m) (s : SameX X h H) (hX : ∀ x ∈ X, h0.length ≤ x) (hb : b ∉ X) : WorkIn h0 H b t cv nv u m := by
  obtain ⟨a, ⟨g, rfl⟩, c, d⟩ := w
  exact ⟨s.get a hb, s.pre hX, c, d⟩

structure TalFine (t : Tal) : Prop where
  gates : 1 ≤ t.gates ∧ t.gates ≤ 5
  chl : (t.changes.length : Int) = t.gates - 1
  first : 0 ≤ t.first.lo ∧ t.first.lo ≤ t.first.hi ∧ t.first.hi ≤ 300
  ch : ∀ r ∈ t.changes, -60 ≤ r.lo ∧ r.lo ≤ r.hi ∧ r.hi ≤ 60
  most : 0 ≤ t.most ∧ t.most ≤ 60
  few : t.counts.length ≤ 7
  co : ∀ c ∈ t.counts, (0 ≤ c.gate ∧ c.gate < t.gates) ∧ (1 ≤ c.man ∧ c.man ≤ 9) ∧ (0 ≤ c.num ∧ c.num ≤ 300) ∧ (0 ≤ c.err ∧ c.err ≤ 20)

theorem firstE_all {l : List Int} (h : firstE l = 0) : ∀ e ∈ l, e = 0 := by
  induction l with
  | nil => simp
  | cons a l ih =>
    unfold firstE at h
    split at h
    · omega
    · rename_i ha
      intro e he
      rcases List.mem_cons.1 he with rfl | he
      · omega
      · exact ih h e he

theorem rngErr_zero {lo hi : Int} {r : Rng} (h : rngErr lo hi r = 0) : lo ≤ r.lo ∧ r.lo ≤ r.hi ∧ r.hi ≤ hi := by
  unfold rngErr at h
  split at h
  · omega
  · split at h
    · omega
    · omega
theorem cntErr_zero {c : Cnt} {g : Int} (h : cntErr c g = 0) : (0 ≤ c.gate ∧ c.gate < g) ∧ (1 ≤ c.man ∧ c.man ≤ 9) ∧ (0 ≤ c.num ∧ c.num ≤ 300) ∧ (0 ≤ c.err ∧ c.err ≤ 20) := by
  unfold cntErr at h
  split at h
  · omega
  · split at h
    · omega
    · omega

theorem talErr_fine {t : Tal} (h : talErr t = 0) : TalFine t := by
  unfold talErr at h
  split at h
  · omega
  split at h
  · contradiction
  split at h
  · omega
  split at h
  · omega
  split at h
  · contradiction
  split at h
  · omega
  split at h
  · omega
  rename_i h1 h2 h3 h4 h5 h6 h7
  have h2' := rngErr_zero (by omega : rngErr 0 300 t.first = 0)
  refine ⟨by omega, by omega, h2', fun r hr => rngErr_zero (firstE_all (by omega : firstE (t.changes.map (rngErr (-60) 60)) = 0) _ (List.mem_map.2 ⟨r, hr, rfl⟩)), by omega, by omega, fun c hc => ?_⟩
  exact cntErr_zero (firstE_all h _ (List.mem_map.2 ⟨c, hc, rfl⟩))

def fwd (t : Tal) (L : Nat → Rng) : Nat → Rng
  | 0 => t.first.meet (L 0)
  | g + 1 => ((fwd t L g).plus (stretchR t g)).meet (L (g + 1))

end Go.Proofs.Ytdgpacdknpahnaa

namespace Go.Proofs.Ytdgpacdknpahnaa
open Go.Conc Go.Proofs.Try
set_option maxRecDepth 100000
def TruthIs (t : Tal) (L : Nat → Rng) : Prop := ∀ g : Nat, (g : Int) < t.gates → (fwd t L g).lo ≤ (fwd t L g).hi
noncomputable instance (t : Tal) (L : Nat → Rng) : Decidable (TruthIs t L) := Classical.propDecidable _

end Go.Proofs.Ytdgpacdknpahnaa

namespace Go.Proofs.Ytdgpacdknpahnaa
open Go.Conc Go.Proofs.Try
set_option maxRecDepth 100000
def OwnX (H : List AObj) (s : Nat) (cs : List Value) (len : Nat) (v : Value) (o : Option Nat) : Prop :=
  cs.length = len * s ∧ kn cs = true ∧ ((len = 0 ∧ v = .slice none 0 0 ∧ o = none) ∨ ∃ i c sz, o = some i ∧ v = .slice (some ⟨i, 0, none⟩) len c ∧ H[i]? = some (.cells cs true sz) ∧ ((c = fz ∧ sz = s) ∨ c = len))

section
variable {h H : List AObj} {K : Value → List AObj → Prop} {KV : Value → Prop} {HL : List AObj → Prop} {n0 : Nat}
theorem SameX.weak {X Y : List Nat} {h H : List AObj} (a : SameX X h H) (hxy : ∀ x ∈ X, x ∈ Y) : SameX Y h H := ⟨a.1, fun i hi hx => a.2 i hi fun hm => hx (hxy i hm)⟩
theorem SameX.weak0 {Y : List Nat} {h H : List AObj} (a : SameX [] h H) : SameX Y h H := a.weak (by simp)
theorem SameX.thru {X Y : List Nat} {h H H' : List AObj} (a : SameX X h H) (b : SameX Y H H') (hy : ∀ y ∈ Y, y ∈ X ∨ h.length ≤ y) : SameX X h H' :=
  ⟨Nat.le_trans a.1 b.1, fun i hi hx => by
    rw [b.2 i (Nat.lt_of_lt_of_le hi a.1) fun hm => ?_, a.2 i hi hx]
    rcases hy i hm with h1 | h1
    · exact hx h1
    · omega⟩
theorem SameX.app0 {X : List Nat} {h H : List AObj} (a : SameX X h H) (hX : ∀ x ∈ X, h.length ≤ x) : ∃ g, H = h ++ g := by
  have := SameX.pre (h0 := h) (g := []) (X := X) (H := H) (by simpa using a) hX
  exact this
theorem lt_of_get {i : Nat} {o : AObj} (hx : H[i]? = some o) : i < H.length := (List.getElem?_eq_some_iff.1 hx).1
theorem SameX.sli {X : List Nat} {v : Value} {s n : Nat} {cs : List Value} (a : SameX X h H) (hs : Sli h v s n cs) (hX : ∀ x ∈ X, h.length ≤ x) : Sli H v s n cs := by
  obtain ⟨g, rfl⟩ := a.app0 hX
  exact sli_app hs

theorem qAl {l : List Value} (hk : ∀ H' p, p = H.length → SameX [] H H' → H'[p]? = some (.cells l true 0) → H'.length = p + 1 → K (ptr p 0) H') : aAlloc l H K :=
  hk _ _ rfl SameX.refl.app (by simp) (by simp)
theorem qBox {l : List Value} (h1 : l.all one = true) (hk : ∀ H' p, p = H.length → SameX [] H H' → H'[p]? = some (.cells l true 0) → H'.length = p + 1 → K (ptr p 0) H') : aBox (.agg ⟨l⟩) H K :=
  box_agg h1 (hk _ _ rfl SameX.refl.app (by simp) (by simp))
theorem qNew {n : Nat} {l : List Value} (hk : ∀ H' p, p = H.length → SameX [] H H' → H'[p]? = some (.cells l true 0) → H'.length = p + 1 → K (.slice (some ⟨p, 0, none⟩) n n) H') : aNewS n l H K :=
  hk _ _ rfl SameX.refl.app (by simp) (by simp)
theorem qSt {b o : Nat} {c : List Value} {sz : Nat} {v : Value} (hb : H[b]? = some (.cells c true sz)) (ho : o < c.length) (h1 : v.cells = #[v]) (h2 : one v = true) (hk : ∀ H', SameX [b] H H' → H'[b]? = some (.cells (c.set o v) true sz) → H'.length = H.length → HL H') : aStore 1 (ptr b o) v H HL :=
  store_cell hb ho h1 h2 (hk _ (SameX.refl.set (.inl (by simp))) (List.getElem?_set_self (lt_of_get hb)) (by simp))
theorem qStA {b n : Nat} {cs c : List Value} {sz : Nat} (hb : H[b]? = some (.cells cs true sz)) (hl : c.length = n) (hs : cs.length = n) (h1 : c.all one = true) (hk : ∀ H', SameX [b] H H' → H'[b]? = some (.cells c true sz) → H'.length = H.length → HL H') : aStore n (ptr b 0) (.agg ⟨c⟩) H HL :=
  store_agg hb hl hs h1 (hk _ (SameX.refl.set (.inl (by simp))) (List.getElem?_set_self (lt_of_get hb)) (by simp))
theorem ownX_iff {s len : Nat} {cs : List Value} {v : Value} {o : Option Nat} : OwnX H s cs len v o ↔ OwnE 0 H s cs len v o := by
  simp [OwnX, OwnE]
theorem ownX_nil {s : Nat} : OwnX H s [] 0 (.slice none 0 0) none := ⟨by simp, rfl, .inl ⟨rfl, rfl, rfl⟩⟩
theorem ownX_keep {s len : Nat} {cs : List Value} {v : Value} {o : Option Nat} {H' : List AObj} {X : List Nat} (ho : OwnX H s cs len v o) (a : SameX X H H') (hX : ∀ i, o = some i → i ∉ X) : OwnX H' s cs len v o := by
  obtain ⟨h1, h2, h3 | ⟨i, c, sz, rfl, h4, h5, h6⟩⟩ := ho
  · exact ⟨h1, h2, .inl h3⟩
  · exact ⟨h1, h2, .inr ⟨i, c, sz, rfl, h4, a.get h5 (hX i rfl), h6⟩⟩
theorem ownX_sli {s len : Nat} {cs : List Value} {v : Value} {o : Option Nat} (ho : OwnX H s cs len v o) : Sli H v s len cs := by
  have := ownE_sli (A := []) (ownX_iff.1 ho)
  exact this
theorem ownX_val {s len : Nat} {cs : List Value} {v : Value} {o : Option Nat} (ho : OwnX H s cs len v o) : v.cells = #[v] ∧ one v = true ∧ kn1 v = true := ownE_val (ownX_iff.1 ho)
theorem ownX_lt {s len : Nat} {cs : List Value} {v : Value} {o : Option Nat} (ho : OwnX H s cs len v o) : ∀ i, o = some i → i < H.length := fun _ hi => ownE_lt (ownX_iff.1 ho) hi
theorem ownX_new {s n p : Nat} {l : List Value} (hp : H[p]? = some (.cells l true 0)) (hl : l.length = n * s) (hk : kn l = true) : OwnX H s l n (.slice (some ⟨p, 0, none⟩) n n) (some p) :=
  ⟨hl, hk, .inr ⟨p, n, 0, rfl, rfl, hp, .inr rfl⟩⟩

theorem ownX_more {s len : Nat} {cs e : List Value} {v y : Value} {o : Option Nat} (ho : OwnX H s cs len v o) (hs : 0 < s) (hl : len < 1000) (hy : Sli H y s 1 e)
    (hk : ∀ v' H' p, p = H.length → OwnX H' s (cs ++ e) (len + 1) v' (some p) → SameX o.toList H H' → K v' H') : aApp s v y H K := by
  have hlo := ownX_lt ho
  refine ownE_more (A := []) (g := H) (ownX_iff.1 ho) hs hl hy fun v' g' ho' hkeep => hk v' ([] ++ g') _ rfl (ownX_iff.2 ho') ⟨?_, fun i hi hx => ?_⟩
  · have := ownE_lt ho' rfl
    simp only [List.nil_append]
    omega
  · have hx' : o ≠ some i := fun e => hx (by rw [e]; simp)
    obtain ⟨x, hxx⟩ : ∃ x, H[i]? = some x := ⟨H[i], List.getElem?_eq_getElem hi⟩
    rw [hxx]
    exact hkeep i x hx' hxx

theorem retX {X : List Nat} {vs : List Value} (ok : heapOk h) (hn : n0 ≤ h.length) (S : SameX X h H) (hX : ∀ x ∈ X, h.length ≤ x) (hv : ∀ v ∈ vs, v ≠ unk) (hw : VOk h.length (pack vs)) (hk : K (pack vs) h) : retL n0 K [] vs H := by
  obtain ⟨g, rfl⟩ := S.app0 hX
  exact retL_drop ok hn hv hw hk
end
def rngsC (f : Nat → Rng) (n : Nat) : List Value := (List.range n).flatMap fun j => (f j).cells
end Go.Proofs.Ytdgpacdknpahnaa

namespace Go.Proofs.Ytdgpacdknpahnaa
open Go.Conc Go.Proofs.Try
set_option maxRecDepth 100000
def HX (h H : List AObj) (ns : List Int) (k : Nat) : Prop := ∃ nv k' s rest, H = HF h nv k' s rest ∧ k' ≤ k ∧ (0 ≤ s ∧ s < 18446744073709551616) ∧ Hnd h nv ns

section
variable {main : Bool} {J : JT} {h H : List AObj} {K : Value → List AObj → Prop} {ns : List Int} {k : Nat}
theorem HX.mono {k' : Nat} (a : HX h H ns k) (hk : k ≤ k') : HX h H ns k' := by
  obtain ⟨nv, k1, s, rest, e, h1, h2, h3⟩ := a
  exact ⟨nv, k1, s, rest, e, by omega, h2, h3⟩
theorem HX.pre (a : HX h H ns k) : SameX [] h H := by
  obtain ⟨nv, k1, s, rest, rfl, _⟩ := a
  exact SameX.refl.app
theorem HX.lt (a : HX h H ns k) : h.length < H.length := by
  obtain ⟨nv, k1, s, rest, rfl, _⟩ := a
  rw [hf_len]
  omega
theorem HX.same {X : List Nat} {H' : List AObj} (a : HX h H ns k) (S : SameX X H H') (hX : ∀ x ∈ X, h.length < x) : HX h H' ns k := by
  obtain ⟨nv, k1, s, rest, rfl, h1, h2, h3⟩ := a
  have e : HF h nv k1 s rest = (h ++ [.cells [nv, vint k1, .int .u64 s] true 0]) ++ rest := by simp [HF]
  rw [e] at S
  obtain ⟨g, hg⟩ := S.pre (fun x hx => by have := hX x hx; simp; omega)
  exact ⟨nv, k1, s, g, by rw [hg]; simp [HF], h1, h2, h3⟩
theorem hf_same {nv : Value} {k1 k2 : Nat} {s1 s2 : Int} {rest g : List AObj} : SameX [h.length] (HF h nv k1 s1 rest) (HF h nv k2 s2 rest ++ g) := by
  refine ⟨by rw [hf_app, hf_len, hf_len]; simp, fun i hi hx => ?_⟩
  simp at hx
  rw [List.getElem?_append_left (by rw [hf_len] at hi ⊢; omega)]
  unfold HF
  rcases Nat.lt_or_ge i h.length with x | x
  · rw [List.getElem?_append_left x, List.getElem?_append_left x]
  · rw [List.getElem?_append_right x, List.getElem?_append_right x]
    obtain ⟨j, hj⟩ : ∃ j, i - h.length = j + 1 := ⟨i - h.length - 1, by omega⟩
    rw [hj]
    rfl

theorem newX (hJ : Closed prog main J) {nv : Value} (sn : Sli h nv 1 ns.length (ns.map vint)) (hln : ns.length < 4611686018427387904)
    (hK : ∀ H, HX h H ns 0 → K (ptr h.length 0) H) : Good prog J 19 [nv] h K := by
  obtain ⟨nb, nc, hnv, _⟩ := id sn
  subst hnv
  exact good19 hJ (hK _ ⟨_, 0, 88172645463325252, [], rfl, Nat.le_refl _, by omega, ⟨sn, hln⟩⟩)
theorem upX (hJ : Closed prog main J) (a : HX h H ns k) (hk : k < 1000000) {m : Int} (hm : m < 1000000)
    (hK : ∀ y H', 0 ≤ y → (y ≤ m ∨ y = 0) → SameX [h.length] H H' → H'.length = H.length → HX h H' ns (k + 1) → K (vint y) H') : Good prog J 22 [ptr h.length 0, vint m] H K := by
  obtain ⟨nv, k1, s, rest, rfl, h1, h2, h3⟩ := a
  have := up (k := k1) (g := []) (rest := rest) (K := K) hJ h3 h2 (by omega) hm fun y k' s' a1 a2 a3 a4 => hK y _ a1 a2 hf_same (by simp [hf_len]) ⟨nv, k', s', rest, by simp, by omega, a4, h3⟩
  simpa using this
theorem amX (hJ : Closed prog main J) (a : HX h H ns k) (hk : k < 1000000) {lo hi : Int} (h1 : -1000000 ≤ lo ∧ lo ≤ 1000000) (h2 : -1000000 ≤ hi ∧ hi ≤ 1000000)
    (hK : ∀ y H', lo ≤ y → (y ≤ hi ∨ y = lo) → SameX [h.length] H H' → H'.length = H.length → HX h H' ns (k + 1) → K (vint y) H') : Good prog J 20 [ptr h.length 0, vint lo, vint hi] H K := by
  obtain ⟨nv, k1, s, rest, rfl, b1, b2, b3⟩ := a
  have := amo (k := k1) (g := []) (rest := rest) (K := K) hJ b3 b2 (by omega) h1 h2 fun y k' s' a1 a2 a3 a4 => hK y _ a1 a2 hf_same (by simp [hf_len]) ⟨nv, k', s', rest, by simp, by omega, a4, b3⟩
  simpa using this
end
section
variable {h H : List AObj} {KV : Value → Prop}
theorem talAt_same {X : List Nat} {H' : List AObj} {v cv nv : Value} {t : Tal} (ht : TalAt H v t cv nv) (S : SameX X H H') (hX : ∀ x ∈ X, H.length ≤ x) : TalAt H' v t cv nv := ⟨ht.val, S.sli ht.ch hX, S.sli ht.co hX⟩
theorem talAt_kc {v cv nv : Value} {t : Tal} (ht : TalAt H v t cv nv) : kn (talCells t cv nv) = true := tal_kn (sli_one ht.ch).2.2 (sli_one ht.co).2.2

theorem TalOk.fine {G C : Int} {t : Tal} (h : TalOk G C t) (hG : G ≤ 5) (hC : C ≤ 7) : TalFine t := talErr_fine (h.err hG hC)
end
end Go.Proofs.Ytdgpacdknpahnaa

namespace Go.Proofs.Ytdgpacdknpahnaa
open Go.Conc Go.Proofs.Try
set_option maxRecDepth 100000
instance : DecidableEq Rng := fun a b =>
  if h : a.lo = b.lo ∧ a.hi = b.hi then isTrue (by cases a; cases b; simp_all) else isFalse (fun e => h (by rw [e]; exact ⟨rfl, rfl⟩))
instance : DecidableEq Cnt := fun a b =>
  if h : a.gate = b.gate ∧ a.man = b.man ∧ a.num = b.num ∧ a.err = b.err then isTrue (by cases a; cases b; simp_all) else isFalse (fun e => h (by rw [e]; exact ⟨rfl, rfl, rfl, rfl⟩))

theorem teqR (a b c d : Int) : teq prog 10000 38 (.agg ⟨[vint a, vint b]⟩) (.agg ⟨[vint c, vint d]⟩) =
    (match some (a == c) with
    | some true => (match some (b == d) with
      | some true => some true
      | some false => some false
      | none => none)
    | some false => some false
    | none => none) := by kernel_rfl
theorem teqC (a b c d a' b' c' d' : Int) : teq prog 10000 61 (.agg ⟨[vint a, vint b, vint c, vint d]⟩) (.agg ⟨[vint a', vint b', vint c', vint d']⟩) =
    (match some (a == a') with
    | some true => (match some (b == b') with
      | some true => (match some (c == c') with
        | some true => (match some (d == d') with
          | some true => some true
          | some false => some false
          | none => none)
        | some false => some false
        | none => none)
      | some false => some false
      | none => none)
    | some false => some false
    | none => none) := by kernel_rfl
theorem teqR2 (r q : Rng) : teq prog 10000 38 r.val q.val = some (decide (r = q)) := by
  obtain ⟨a, b⟩ := r
  obtain ⟨c, d⟩ := q
  unfold Rng.val Rng.cells
  rw [teqR]
  by_cases e1 : a = c
  · by_cases e2 : b = d
    · simp [e1, e2]
    · rw [beq_eq_false_iff_ne.2 e2, beq_iff_eq.2 e1]
      simp [e2]
  · rw [beq_eq_false_iff_ne.2 e1]
    simp [e1]
theorem teqC2 (r q : Cnt) : teq prog 10000 61 r.val q.val = some (decide (r = q)) := by
  obtain ⟨a, b, c, d⟩ := r
  obtain ⟨a', b', c', d'⟩ := q
  unfold Cnt.val Cnt.cells
  rw [teqC]
  by_cases e1 : a = a'
  · by_cases e2 : b = b'
    · by_cases e3 : c = c'
      · by_cases e4 : d = d'
        · simp [e1, e2, e3, e4]
        · rw [beq_eq_false_iff_ne.2 e4, beq_iff_eq.2 e1, beq_iff_eq.2 e2, beq_iff_eq.2 e3]
          simp [e4]
      · rw [beq_eq_false_iff_ne.2 e3, beq_iff_eq.2 e1, beq_iff_eq.2 e2]
        simp [e3]
    · rw [beq_eq_false_iff_ne.2 e2, beq_iff_eq.2 e1]
      simp [e2]
  · rw [beq_eq_false_iff_ne.2 e1]
    simp [e1]

section
variable {main : Bool} {J : JT} {h H : List AObj} {K : Value → List AObj → Prop} {KV : Value → Prop} {n0 : Nat}
theorem neqR {r q : Rng} (hk : KV (.bool (decide (r ≠ q)))) : aBin prog .neq 38 r.val q.val KV := by
  have e2 : prog.eqGuardType prog.depth 38 = false := by kernel_rfl
  show aEq prog true 38 r.val q.val KV
  unfold aEq
  rw [teqR2]
  exact ⟨e2, by simpa using hk⟩
theorem neqC {r q : Cnt} (hk : KV (.bool (decide (r ≠ q)))) : aBin prog .neq 61 r.val q.val KV := by
  have e2 : prog.eqGuardType prog.depth 61 = false := by kernel_rfl
  show aEq prog true 61 r.val q.val KV
  unfold aEq
  rw [teqC2]
  exact ⟨e2, by simpa using hk⟩

theorem appX {s m p : Nat} {y : Value} {ys : List Value} (hp : H[p]? = some (.cells [] true 0)) (hs : 0 < s) (hm : m < 1000000) (hy : Sli H y s m ys)
    (hk : ∀ v' H' p', OwnX H' s ys m v' (some p') → SameX [] H H' → (p' = p ∨ p' = H.length) → K v' H') : aApp s (.slice (some ⟨p, 0, none⟩) 0 0) y H K := by
  have hr : room = 1073741824 := rfl
  have hy' := hy
  have hkn : kn ys = true := by
    obtain ⟨_, _, _, ⟨_, h⟩, _⟩ := hy
    exact h
  have hvl := sli_vlen hy
  by_cases h0 : m = 0
  · subst h0
    have hys : ys = [] := List.length_eq_zero_iff.1 (by omega)
    subst hys
    obtain ⟨yb, yc, rfl, _⟩ := hy
    refine ⟨by omega, src_sli hy' hs ?_⟩
    simp only [hp]
    have hf : fz = 1180591620717411303424 := rfl
    refine ⟨⟨by simp, by simp [kn]⟩, fun _ => ⟨fun _ => ⟨trivial, by simp, ?_⟩, fun x => absurd x (by simp)⟩, fun x => absurd x (by omega)⟩
    have e : H.set p (.cells (wrAt [] (0 + 0 * s) []) true 0) = H := by
      apply List.ext_getElem?
      intro i
      rw [List.getElem?_set]
      split
      · rename_i e
        subst e
        have := lt_of_get hp
        rw [if_pos this]
        simpa [wrAt] using hp.symm
      · rfl
    have := hk (.slice (some ⟨p, 0, none⟩) 0 0) H p ⟨by simp, rfl, .inr ⟨p, 0, 0, rfl, rfl, hp, .inr rfl⟩⟩ SameX.refl (.inl rfl)
    first
    | simpa [wrAt, e] using this
    | (rw [show (wrAt ([] : List Value) (0 + 0 * s) []) = [] from by simp [wrAt]] at e; simpa [wrAt, e] using this)
  · refine app_copy (n := 0) (m := m) (cs := []) (wr := true) (sz := 0) hp (by simp) (by simp [kn]) (by omega) hs hy' (by omega) ?_
    simp only [Nat.zero_mul, List.drop_nil, List.take_nil, List.nil_append, Nat.zero_add]
    exact hk _ _ H.length ⟨hvl, hkn, .inr ⟨H.length, fz, s, rfl, rfl, by simp, .inl ⟨rfl, rfl⟩⟩⟩ SameX.refl.app (.inr rfl)

theorem good38 (hJ : Closed prog main J) {v cv nv : Value} {t : Tal} (ht : TalAt h v t cv nv) (hl : t.changes.length < 1000 ∧ t.counts.length < 1000)
    (hK : ∀ H cv' nv' o1 o2, SameX [] h H → OwnX H 2 (t.changes.flatMap Rng.cells) t.changes.length cv' (some o1) → OwnX H 4 (t.counts.flatMap Cnt.cells) t.counts.length nv' (some o2) → o1 ≠ o2 → h.length ≤ o1 → h.length ≤ o2 → K (.agg ⟨talCells t cv' nv'⟩) H) : Good prog J 38 [v] h K := by
  refine g38 hJ fun ok => ?_
  rw [e38, ht.val]
  refine qBox (tal_one ht) fun H1 p1 e1 S1 c1 l1 => qAl fun H2 p2 e2 S2 c2 l2 => ?_
  have t1 : TalAt H2 v t cv nv := talAt_same ht (S1.trans S2) (by simp)
  have c1' := S2.get c1 (by simp)
  have kc : kn1 cv = true ∧ kn1 nv = true := ⟨(sli_one ht.ch).2.2, (sli_one ht.co).2.2⟩
  -- what all orders come to
  have post : ∀ (H : List AObj) (a b : Value) (o1 o2 : Nat) (f : RG), SameX [] H2 H → OwnX H 2 (t.changes.flatMap Rng.cells) t.changes.length a (some o1) → OwnX H 4 (t.counts.flatMap Cnt.cells) t.counts.length b (some o2) → o1 ≠ o2 → h.length ≤ o1 → h.length ≤ o2 → o1 ≠ p1 → o2 ≠ p1 → o1 ≠ p2 → o2 ≠ p2 → f.ds = [] → f.r 2 = ptr p2 0 →
      ∀ F : Value → RG, (∀ x, (F x).ds = [] ∧ (F x).r 2 = ptr p2 0) → aStore 1 (ptr p1 (0 + 3)) a H fun h20 => aOff (ptr p1 0) 5 fun v21 => aStore 1 v21 b h20 fun h22 => aLoad true 6 (ptr p1 0) h22 fun v23 => aStore 6 (ptr p2 0) v23 h22 fun h24 => RetQ prog [.cell 2 42] h.length K .ret (F v23) h24 := by
    intro H a b o1 o2 f S A B hne g1 g2 n1 n2 n3 n4 _ _ F hF
    refine qSt (c := talCells t cv nv) (S.get c1' (by simp)) (by simp [talCells]) (ownX_val A).1 (ownX_val A).2.1 fun H3 S3 c3 l3 => offI (qSt c3 (by simp [talCells]) (ownX_val B).1 (ownX_val B).2.1 fun H4 S4 c4 l4 => ?_)
    refine load_part (c := talCells t a b) c4 (by simp [talCells]) rfl (tal_kn (ownX_val A).2.2 (ownX_val B).2.2) ?_
    refine qStA (c := talCells t a b) (S4.get (S3.get (S.get c2 (by simp)) (by simp; omega)) (by simp; omega)) rfl rfl (tal_ones (ownX_val A).2.1 (ownX_val B).2.1) fun H5 S5 c5 l5 => ?_
    refine retQ_same (hF _).1 (resW_cell (gg := true) (s := 6) (by kernel_rfl) ?_)
    rw [(hF _).2]
    refine load_part (c := talCells t a b) c5 (by simp [talCells]) rfl (tal_kn (ownX_val A).2.2 (ownX_val B).2.2) (resW_nil ?_)
    have SS : SameX [p1, p2] H H5 := ((S3.weak (Y := [p1, p2]) (by simp)).trans (S4.weak (by simp))).trans (S5.weak (by simp))
    refine hK H5 a b o1 o2 ?_ (ownX_keep A SS ?_) (ownX_keep B SS ?_) hne g1 g2
    · exact ((S1.trans S2).trans S).thru SS (by simp; omega)
    · intro i hi
      cases hi
      simp
      exact ⟨n1, n3⟩
    · intro i hi
      cases hi
      simp
      exact ⟨n2, n4⟩
  have hcs : ∀ i, i ≠ p1 → i ≠ p2 → H2.length ≤ i ∨ i < p1 := by
    intro i _ _
    omega
  refine ⟨[p1], offI (ldI (v := cv) c1' rfl kc.1 ⟨by simp [RdOk, ptrBlk, ptr], offI (ldI (v := nv) c1' rfl kc.2 ⟨by simp [RdOk, ptrBlk, ptr], ?_⟩)⟩)⟩
  have sb : ∀ {H : List AObj}, SameX [] H2 H → SameB (some [p1]) H2 H := fun S b hb => by
    simp at hb
    subst hb
    exact S.2 _ (by omega) (by simp)
  refine ⟨⟨by decide, fillI (qNew fun H3 p3 e3 S3 c3 l3 => ⟨sb S3, ?_⟩)⟩, ⟨by decide, fillI (qNew fun H3 p3 e3 S3 c3 l3 => ⟨sb S3, ?_⟩)⟩⟩
  · refine ⟨⟨by decide, appX c3 (by omega) (by omega) (S3.sli t1.ch (by simp)) fun a H4 q4 A S4 hq4 => ⟨sb (S3.trans S4), offI ⟨by decide, fillI (qNew fun H5 p5 e5 S5 c5 l5 => ⟨sb ((S3.trans S4).trans S5), ?_⟩)⟩⟩⟩, ⟨by decide, fillI (qNew fun H4 p4 e4 S4 c4 l4 => ⟨sb (S3.trans S4), ?_⟩)⟩⟩
    · have S25 := (S3.trans S4).trans S5
      have hA := ownX_lt A q4 rfl
      refine ⟨by decide, appX c5 (by omega) (by omega) (S25.sli t1.co (by simp)) fun b H6 q6 B S6 hq6 => ⟨sb (S25.trans S6), ?_⟩⟩
      have hB := ownX_lt B q6 rfl
      refine post H6 a b q4 q6 ⟨fun _ => ptr p2 0, []⟩ (S25.trans S6) (ownX_keep A (S5.trans S6) (by simp)) B (by omega) (by omega) (by omega) (by omega) (by omega) (by omega) (by omega) rfl rfl (fun x => _) fun x => ⟨rfl, rfl⟩
    · have S24 := S3.trans S4
      refine ⟨by decide, appX (S4.get c3 (by simp)) (by omega) (by omega) (S24.sli t1.ch (by simp)) fun a H5 q5 A S5 hq5 => ⟨sb (S24.trans S5), offI ⟨by decide, appX (S5.get c4 (by simp)) (by omega) (by omega) ((S24.trans S5).sli t1.co (by simp)) fun b H6 q6 B S6 hq6 => ⟨sb ((S24.trans S5).trans S6), ?_⟩⟩⟩⟩
      have hA := ownX_lt A q5 rfl
      refine post H6 a b q5 q6 ⟨fun _ => ptr p2 0, []⟩ ((S24.trans S5).trans S6) (ownX_keep A S6 (by simp)) B (by omega) (by omega) (by omega) (by omega) (by omega) (by omega) (by omega) rfl rfl (fun x => _) fun x => ⟨rfl, rfl⟩
  · refine ⟨by decide, fillI (qNew fun H4 p4 e4 S4 c4 l4 => ⟨sb (S3.trans S4), ?_⟩)⟩
    have S24 := S3.trans S4
    refine ⟨by decide, appX c4 (by omega) (by omega) (S24.sli t1.ch (by simp)) fun a H5 q5 A S5 hq5 => ⟨sb (S24.trans S5), offI ⟨by decide, appX (S5.get (S4.get c3 (by simp)) (by simp)) (by omega) (by omega) ((S24.trans S5).sli t1.co (by simp)) fun b H6 q6 B S6 hq6 => ⟨sb ((S24.trans S5).trans S6), ?_⟩⟩⟩⟩
    have hA := ownX_lt A q5 rfl
    refine post H6 a b q5 q6 ⟨fun _ => ptr p2 0, []⟩ ((S24.trans S5).trans S6) (ownX_keep A S6 (by simp)) B (by omega) (by omega) (by omega) (by omega) (by omega) (by omega) (by omega) rfl rfl (fun x => _) fun x => ⟨rfl, rfl⟩

theorem good47 (hJ : Closed prog main J) {a b : Value} {l : List Rng} (ha : SliE h a 2 Rng.cells l) (hb : SliE h b 2 Rng.cells l) (hl : l.length < 1000000) (hK : K (.bool true) h) : Good prog J 47 [a, b] h K := by
  refine g47 hJ fun ok => ?_
  rw [e47]
  refine lenI ha (lenI hb (neqI (cndI (fun hx => absurd rfl hx) fun _ => ?_)))
  refine l47_1 hJ (fun i : Nat => l.length - i) (fun i f H => H = h ∧ i ≤ l.length ∧ f.ds = [] ∧ f.r 0 = a ∧ f.r 1 = b ∧ f.r 5 = vint (i : Nat)) ?_ (s := 0) (.inl ⟨rfl, by omega, rfl, rfl, rfl, rfl⟩)
  rintro i f H ⟨rfl, hi, hds, r0, r1, r5⟩ ok' hn'
  rw [s47_1]
  simp only [r0, r1, r5, hds]
  refine lenI ha (lssI (cndI (fun hlt => ?_) fun hge => retL_same (by simp [unk]) hK))
  have hi' : i < l.length := by omega
  obtain ⟨b1, o1, cs1, w1, z1, hx1, hb1, hle1, hp1, hk1⟩ := sliE_elem rng_len (by omega) ha hi'
  obtain ⟨b2, o2, cs2, w2, z2, hx2, hb2, hle2, hp2, hk2⟩ := sliE_elem rng_len (by omega) hb hi'
  refine hx1 _ (load_part hb1 hle1 hp1 hk1 (hx2 _ (load_part hb2 hle2 hp2 hk2 (neqR (cndI (fun hx => absurd rfl hx) fun _ => addI (by omega) ?_)))))
  exact ⟨i + 1, by dsimp only; omega, .inl ⟨rfl, by omega, hds, r0, r1, rfl⟩⟩

theorem good48 (hJ : Closed prog main J) {a b cv1 nv1 cv2 nv2 : Value} {t : Tal} (ha : TalAt h a t cv1 nv1) (hb : TalAt h b t cv2 nv2) (hl : t.changes.length < 1000000 ∧ t.counts.length < 1000000) (hK : K (.bool true) h) : Good prog J 48 [a, b] h K := by
  refine g48 hJ fun ok => ?_
  rw [e48, ha.val, hb.val]
  refine qBox (tal_one ha) fun H1 p1 e1 S1 c1 l1 => qBox (tal_one hb) fun H2 p2 e2 S2 c2 l2 => ?_
  have c1' := S2.get c1 (by simp)
  have S := S1.trans S2
  have a2 := talAt_same ha S (by simp)
  have b2 := talAt_same hb S (by simp)
  have ka : kn1 cv1 = true ∧ kn1 nv1 = true := ⟨(sli_one ha.ch).2.2, (sli_one ha.co).2.2⟩
  have kb : kn1 cv2 = true ∧ kn1 nv2 = true := ⟨(sli_one hb.ch).2.2, (sli_one hb.co).2.2⟩
  refine offI (ldI (v := vint t.gates) c1' rfl rfl (offI (ldI (v := vint t.gates) c2 rfl rfl (neqI (cndI (fun hx => absurd rfl hx) fun _ => ?_)))))
  refine offI (load_part (c := t.first.cells) c1' (by simp [talCells]) rfl rfl (offI (load_part (c := t.first.cells) c2 (by simp [talCells]) rfl rfl (neqR (r := t.first) (q := t.first) (cndI (fun hx => absurd rfl hx) fun _ => ?_)))))
  refine offI (ldI (v := vint t.most) c1' rfl rfl (offI (ldI (v := vint t.most) c2 rfl rfl (neqI (cndI (fun hx => absurd rfl hx) fun _ => ?_)))))
  refine offI (ldI (v := cv1) c1' rfl ka.1 (offI (ldI (v := cv2) c2 rfl kb.1 (good47 hJ a2.ch b2.ch hl.1 (notI (cnd_false.2 ?_))))))
  refine offI (ldI (v := nv1) c1' rfl ka.2 (lenI a2.co (offI (ldI (v := nv2) c2 rfl kb.2 (lenI b2.co (neqI (cndI (fun hx => absurd rfl hx) fun _ => ?_)))))))
  refine l48_1 hJ (fun i : Nat => t.counts.length - i) (fun i f H => H = H2 ∧ i ≤ t.counts.length ∧ f.ds = [] ∧ f.r 2 = ptr p1 0 ∧ f.r 3 = ptr p2 0 ∧ f.r 5 = vint (i : Nat)) ?_ (s := 0) (.inl ⟨rfl, by omega, rfl, rfl, rfl, rfl⟩)
  rintro i f H ⟨rfl, hi, hds, r2, r3, r5⟩ ok' hn'
  rw [s48_1]
  simp only [r2, r3, r5, hds]
  refine offI (ldI (v := nv1) c1' rfl ka.2 (lenI a2.co (lssI (cndI (fun hlt => ?_) fun hge => ?_))))
  · have hi' : i < t.counts.length := by omega
    obtain ⟨b1, o1, cs1, w1, z1, hx1, hb1, hle1, hp1, hk1⟩ := sliE_elem cnt_len (by omega) a2.co hi'
    obtain ⟨b2, o2, cs2, w2, z2, hx2, hb2, hle2, hp2, hk2⟩ := sliE_elem cnt_len (by omega) b2.co hi'
    refine offI (ldI (v := nv1) c1' rfl ka.2 (hx1 _ (load_part hb1 hle1 hp1 hk1 (offI (ldI (v := nv2) c2 rfl kb.2 (hx2 _ (load_part hb2 hle2 hp2 hk2 (neqC (r := t.counts[i]) (q := t.counts[i]) (cndI (fun hx => absurd rfl hx) fun _ => addI (by omega) ?_)))))))))
    exact ⟨i + 1, by dsimp only; omega, .inl ⟨rfl, by omega, hds, r2, r3, rfl⟩⟩
  · exact retX ok (Nat.le_refl _) S (by simp) (by simp [unk]) (by simp [pack, VOk]) hK
end
end Go.Proofs.Ytdgpacdknpahnaa

namespace Go.Proofs.Ytdgpacdknpahnaa
open Go.Conc Go.Proofs.Try
set_option maxRecDepth 100000
def Rng.sub (a b : Rng) : Prop := b.lo ≤ a.lo ∧ a.hi ≤ b.hi
theorem Rng.sub_refl (a : Rng) : a.sub a := ⟨Int.le_refl _, Int.le_refl _⟩
theorem Rng.sub_meet {a b c d : Rng} (h1 : a.sub c) (h2 : b.sub d) : (a.meet b).sub (c.meet d) := by
  obtain ⟨_, _⟩ := h1
  obtain ⟨_, _⟩ := h2
  unfold Rng.meet Rng.sub
  dsimp only
  omega
theorem Rng.sub_plus {a b c d : Rng} (h1 : a.sub c) (h2 : b.sub d) : (a.plus b).sub (c.plus d) := by
  obtain ⟨_, _⟩ := h1
  obtain ⟨_, _⟩ := h2
  unfold Rng.plus Rng.sub
  dsimp only
  omega
structure Tighter (t x : Tal) (L L' : Nat → Rng) : Prop where
  gates : t.gates = x.gates
  chl : t.changes.length = x.changes.length
  first : t.first.sub x.first
  ch : ∀ i (h1 : i < t.changes.length) (h2 : i < x.changes.length), t.changes[i].sub x.changes[i]
  most : t.most ≤ x.most
  lim : ∀ g, (L g).sub (L' g)

section
variable {t x : Tal} {L L' : Nat → Rng}
theorem Tighter.stretch (h : Tighter t x L L') (g : Nat) : (stretchR t g).sub (stretchR x g) := by
  have hm := h.most
  unfold stretchR
  refine Rng.sub_plus ?_ ⟨by dsimp only; omega, Int.le_refl _⟩
  rcases Nat.lt_or_ge g t.changes.length with h1 | h1
  · have h2 : g < x.changes.length := by rw [← h.chl]; exact h1
    rw [List.getElem?_eq_getElem h1, List.getElem?_eq_getElem h2]
    exact h.ch g h1 h2
  · rw [List.getElem?_eq_none h1, List.getElem?_eq_none (by rw [← h.chl]; exact h1)]
    exact Rng.sub_refl _
theorem Tighter.fwd (h : Tighter t x L L') : ∀ g, (fwd t L g).sub (fwd x L' g)
  | 0 => Rng.sub_meet h.first (h.lim 0)
  | g + 1 => Rng.sub_meet (Rng.sub_plus (h.fwd g) (h.stretch g)) (h.lim (g + 1))
end
structure TalO (h H : List AObj) (t : Tal) (cv co : Value) (o1 o2 : Option Nat) : Prop where
  ch : OwnX H 2 (t.changes.flatMap Rng.cells) t.changes.length cv o1
  co : OwnX H 4 (t.counts.flatMap Cnt.cells) t.counts.length co o2
  b1 : ∀ i, o1 = some i → h.length < i
  b2 : ∀ i, o2 = some i → h.length < i
theorem TalO.at {h H : List AObj} {t : Tal} {cv co : Value} {o1 o2 : Option Nat} (a : TalO h H t cv co o1 o2) : TalAt H (.agg ⟨talCells t cv co⟩) t cv co := ⟨rfl, ownX_sli a.ch, ownX_sli a.co⟩
theorem TalO.same {h H H' : List AObj} {t : Tal} {cv co : Value} {o1 o2 : Option Nat} {X : List Nat} (a : TalO h H t cv co o1 o2) (S : SameX X H H') (h1 : ∀ i, o1 = some i → i ∉ X) (h2 : ∀ i, o2 = some i → i ∉ X) : TalO h H' t cv co o1 o2 :=
  ⟨ownX_keep a.ch S h1, ownX_keep a.co S h2, a.b1, a.b2⟩
theorem ownE_X {A g : List AObj} {s len : Nat} {cs : List Value} {v : Value} {o : Option Nat} (ho : OwnE A.length g s cs len v o) : OwnX (A ++ g) s cs len v (o.map (A.length + ·)) := by
  obtain ⟨h1, h2, ⟨rfl, rfl, rfl⟩ | ⟨i, c, sz, rfl, rfl, h5, h6⟩⟩ := ho
  · exact ⟨h1, h2, .inl ⟨rfl, rfl, rfl⟩⟩
  · exact ⟨h1, h2, .inr ⟨A.length + i, c, sz, rfl, rfl, by rw [back_get]; exact h5, h6⟩⟩
section
variable {main : Bool} {J : JT} {h H : List AObj} {K : Value → List AObj → Prop} {ns : List Int} {k : Nat}
theorem talY (hJ : Closed prog main J) (a : HX h H ns k) (hk : k < 50000) {G C : Int} (hG : 1 ≤ G ∧ G ≤ 5) (hC : 0 ≤ C ∧ C ≤ 7)
    (hK : ∀ t cv co o1 o2 H', TalOk G C t → SameX [h.length] H H' → HX h H' ns (k + 120) → TalO h H' t cv co o1 o2 → K (.agg ⟨talCells t cv co⟩) H') : Good prog J 28 [ptr h.length 0, vint G, vint C] H K := by
  obtain ⟨nv, k1, s, rest, rfl, b1, b2, b3⟩ := a
  refine good28 hJ b3 b2 (by omega) hG hC fun t cv co o1 o2 g k' s' T O hk' hs' => hK t cv co (o1.map ((HF h nv k' s' rest).length + ·)) (o2.map ((HF h nv k' s' rest).length + ·)) _ T hf_same ⟨nv, k', s', rest ++ g, by rw [hf_app], by omega, hs', b3⟩ ⟨ownE_X (by rw [hf_len]; exact O.ch), ownE_X (by rw [hf_len]; exact O.co), ?_, ?_⟩
  all_goals
    intro i hi
    obtain ⟨j, _, rfl⟩ := Option.map_eq_some_iff.1 hi
    rw [hf_len]
    omega
end
end Go.Proofs.Ytdgpacdknpahnaa

namespace Go.Proofs.Ytdgpacdknpahnaa
open Go.Conc Go.Proofs.Try
set_option maxRecDepth 100000
def ownL (t : Tal) (g : Nat) (n m : Int) : Rng := ⟨max 0 (n + ((t.changes[g]?).getD ⟨0, 0⟩).lo - m), min t.most (n + ((t.changes[g]?).getD ⟨0, 0⟩).hi - m)⟩
structure St73 (h0 H : List AObj) (bw p5 po : Nat) (t : Tal) (cv nv : Value) (u : Int) (m : Value) (R : Nat → Rng) : Prop where
  w : WorkIn h0 H bw t cv nv u m
  l5 : H[p5]? = some (.cells [.slice (some ⟨po, 0, none⟩) t.gates.toNat t.gates.toNat] true 0)
  lo : H[po]? = some (.cells (rngsC R t.gates.toNat) true 0)
  b0 : h0.length ≤ p5
  b1 : bw < p5
  b2 : po < p5
theorem St73.same {h0 H H' : List AObj} {bw p5 po : Nat} {t : Tal} {cv nv : Value} {u : Int} {m : Value} {R : Nat → Rng} {X : List Nat} (s : St73 h0 H bw p5 po t cv nv u m R) (S : SameX X H H') (hX : ∀ x ∈ X, p5 < x) : St73 h0 H' bw p5 po t cv nv u m R := by
  have b0 := s.b0
  have b1 := s.b1
  have b2 := s.b2
  exact ⟨s.w.same S (fun x hx => by have := hX x hx; omega) (fun hx => by have := hX _ hx; omega), S.get s.l5 (fun hx => by have := hX _ hx; omega), S.get s.lo (fun hx => by have := hX _ hx; omega), b0, b1, b2⟩

end Go.Proofs.Ytdgpacdknpahnaa

namespace Go.Proofs.Ytdgpacdknpahnaa
open Go.Conc Go.Proofs.Try
set_option maxRecDepth 100000
def Rng.has (r : Rng) (n : Int) : Prop := r.lo ≤ n ∧ n ≤ r.hi

structure Tru (t : Tal) (L : Nat → Rng) (ns : Nat → Int) : Prop where
  first : t.first.has (ns 0)
  lim : ∀ g, g < t.gates.toNat → (L g).has (ns g)
  step : ∀ g, g + 1 < t.gates.toNat → (stretchR t g).has (ns (g + 1) - ns g)

section
variable {t : Tal} {L : Nat → Rng} {ns : Nat → Int}
theorem Tru.fwd (h : Tru t L ns) : ∀ g, g < t.gates.toNat → (Go.Proofs.Ytdgpacdknpahnaa.fwd t L g).has (ns g)
  | 0, hg => by
    have h1 := h.first
    have h2 := h.lim 0 hg
    unfold Go.Proofs.Ytdgpacdknpahnaa.fwd Rng.meet Rng.has at *
    dsimp only
    omega
  | g + 1, hg => by
    have h1 := h.fwd g (by omega)
    have h2 := h.lim (g + 1) hg
    have h3 := h.step g hg
    show (((Go.Proofs.Ytdgpacdknpahnaa.fwd t L g).plus (stretchR t g)).meet (L (g + 1))).has _
    unfold Rng.meet Rng.plus Rng.has at *
    dsimp only
    omega
end
inductive Sum (t : Tal) (R : Nat → Rng) (a : Nat) : Nat → Int → Int → Prop
  | base {m : Int} : (R a).has m → Sum t R a 0 m 0
  | step {d : Nat} {n m s l : Int} : Sum t R a d n s → (R (a + d + 1)).has m → (ownL t (a + d) n m).has l → Sum t R a (d + 1) m (s + l)

section
variable {t : Tal} {R : Nat → Rng} {a : Nat}
theorem Sum.at {d : Nat} {m s : Int} (h : Sum t R a d m s) : (R (a + d)).has m := by
  cases h with
  | base h => exact h
  | step _ h _ => exact h
theorem own_bd {g : Nat} {n m l : Int} (h : (ownL t g n m).has l) : 0 ≤ l ∧ l ≤ t.most := by
  unfold ownL Rng.has at h
  dsimp only at h
  omega
theorem Sum.bd {d : Nat} {m s : Int} (h : Sum t R a d m s) : 0 ≤ s ∧ s ≤ t.most * d := by
  induction h with
  | base _ => simp
  | @step d n m s l _ _ h3 ih =>
    have := own_bd h3
    have e : t.most * ((d + 1 : Nat) : Int) = t.most * d + t.most := by
      rw [Int.natCast_add, Int.mul_add]
      simp
    omega
theorem Sum.zero {m s : Int} (h : Sum t R a 0 m s) : s = 0 := by
  cases h
  rfl

end
end Go.Proofs.Ytdgpacdknpahnaa

namespace Go.Proofs.Ytdgpacdknpahnaa
open Go.Conc Go.Proofs.Try
set_option maxRecDepth 100000
section
variable {main : Bool} {J : JT} {h h0 H : List AObj} {K : Value → List AObj → Prop} {KV : Value → Prop} {n0 : Nat}
theorem eqlNil {t e : TypeId} {base : Option Addr} {n c : Nat} (ht : prog.underlying t = some (.slice e)) (hg : prog.eqGuardType prog.depth t = false) (hk : KV (.bool base.isNone)) : aBin prog .eql t (.slice base n c) (.slice none 0 0) KV := by
  show aEq prog false t (.slice base n c) (.slice none 0 0) KV
  have : teq prog 10000 t (.slice base n c) (.slice none 0 0) = some base.isNone := by
    unfold teq
    rw [ht]
    cases base <;> rfl
  unfold aEq
  rw [this]
  exact ⟨hg, by simpa using hk⟩

theorem good79 (hJ : Closed prog main J) {a : Value} {l : List Rng} (ha : SliE h a 2 Rng.cells l) (hl : l.length < 1000)
    (hK : ∀ v H o, SameX [] h H → OwnX H 2 (l.flatMap Rng.cells) l.length v o → (∀ i, o = some i → h.length ≤ i) → K v H) : Good prog J 79 [a] h K := by
  refine g79 hJ fun ok => ?_
  rw [e79]
  obtain ⟨base, c, rfl, hlk, hh⟩ := id ha
  refine eqlNil (e := 38) (by kernel_rfl) (by kernel_rfl) (cnd_bool.2 ⟨fun hb => ?_, fun hb => ?_⟩)
  · refine retL_same (by simp [unk]) ?_
    have h0 : l.length = 0 := by
      rcases hh with ⟨_, h0⟩ | ⟨b, o, hb2, _⟩
      · exact h0
      · rw [hb2] at hb
        cases hb
    have hl0 : l = [] := List.length_eq_zero_iff.1 h0
    subst hl0
    exact hK _ _ none SameX.refl ownX_nil (by simp)
  · refine ⟨by decide, fillI (qNew fun H1 p1 e1 S1 c1 l1 => ⟨by decide, appX c1 (by omega) (by omega) (S1.sli ha (by simp)) fun v H2 p2 O S2 hp2 => retL_same ?_ (hK v H2 (some p2) (S1.trans S2) O ?_)⟩)⟩
    · intro x hx
      simp at hx
      subst hx
      intro e
      have := (ownX_val O).2.2
      rw [e] at this
      exact absurd this (by decide)
    · intro i hi
      cases hi
      have := S1.1
      omega
theorem good80 (hJ : Closed prog main J) {a : Value} {l : List Cnt} (ha : SliE h a 4 Cnt.cells l) (hl : l.length < 1000)
    (hK : ∀ v H o, SameX [] h H → OwnX H 4 (l.flatMap Cnt.cells) l.length v o → (∀ i, o = some i → h.length ≤ i) → K v H) : Good prog J 80 [a] h K := by
  refine g80 hJ fun ok => ?_
  rw [e80]
  obtain ⟨base, c, rfl, hlk, hh⟩ := id ha
  refine eqlNil (e := 61) (by kernel_rfl) (by kernel_rfl) (cnd_bool.2 ⟨fun hb => ?_, fun hb => ?_⟩)
  · refine retL_same (by simp [unk]) ?_
    have h0 : l.length = 0 := by
      rcases hh with ⟨_, h0⟩ | ⟨b, o, hb2, _⟩
      · exact h0
      · rw [hb2] at hb
        cases hb
    have hl0 : l = [] := List.length_eq_zero_iff.1 h0
    subst hl0
    exact hK _ _ none SameX.refl ownX_nil (by simp)
  · refine ⟨by decide, fillI (qNew fun H1 p1 e1 S1 c1 l1 => ⟨by decide, appX c1 (by omega) (by omega) (S1.sli ha (by simp)) fun v H2 p2 O S2 hp2 => retL_same ?_ (hK v H2 (some p2) (S1.trans S2) O ?_)⟩)⟩
    · intro x hx
      simp at hx
      subst hx
      intro e
      have := (ownX_val O).2.2
      rw [e] at this
      exact absurd this (by decide)
    · intro i hi
      cases hi
      have := S1.1
      omega

end
end Go.Proofs.Ytdgpacdknpahnaa

namespace Go.Proofs.Ytdgpacdknpahnaa
open Go.Conc Go.Proofs.Try
set_option maxRecDepth 100000
instance (r : Rng) (n : Int) : Decidable (r.has n) := inferInstanceAs (Decidable (_ ∧ _))

def AllP (t : Tal) (g : Int) (n : Int) : Prop := ∀ c ∈ t.counts, c.gate = g → (rd c).has n

theorem poss_iff {c : Cnt} (h1 : 0 ≤ c.num ∧ c.num ≤ 300) (h2 : 0 ≤ c.err ∧ c.err ≤ 20) {n : Int} : (rd c).has n ↔ 0 ≤ n ∧ 100 * (c.num - n) ≤ c.err * n ∧ 100 * -(c.num - n) ≤ c.err * n := by
  obtain ⟨a, b, d, e⟩ := rd_facts h1 h2
  show rdLo c ≤ n ∧ n ≤ rdHi c ↔ _
  rw [lo_le h2, le_hi h2]
  refine ⟨fun ⟨x, y⟩ => ⟨?_, by omega, by omega⟩, fun ⟨x, y, z⟩ => ⟨by omega, by omega⟩⟩
  have := (lo_le h2 (n := n)).2 x
  omega

def befLo (t : Tal) (g : Nat) (n : Int) : Int := max 0 (n - ((t.changes[g]?).getD ⟨0, 0⟩).hi)
def befHi (t : Tal) (g : Nat) (n : Int) : Int := min 540 (n - ((t.changes[g]?).getD ⟨0, 0⟩).lo + t.most)
def Ch (t : Tal) : Nat → Int → Prop
  | 0, n => t.first.has n ∧ AllP t (0 : Nat) n
  | g + 1, n => (0 ≤ n ∧ n ≤ 540) ∧ (∃ m, befLo t g n ≤ m ∧ m ≤ befHi t g n ∧ Ch t g m) ∧ AllP t (g + 1 : Nat) n

def rowD (f : Nat → Bool) : List Value := (List.range 541).map fun j => .bool (f j)
theorem rowD_len (f : Nat → Bool) : (rowD f).length = 541 := by simp [rowD]
theorem rowD_get (f : Nat → Bool) {n : Nat} (hn : n < 541) : (rowD f)[n]? = some (.bool (f n)) := by simp [rowD, hn]
theorem rowD_set (f : Nat → Bool) {n : Nat} (x : Bool) : (rowD f).set n (.bool x) = rowD (fun j => if j = n then x else f j) := by
  apply List.ext_getElem?
  intro i
  rw [List.getElem?_set]
  by_cases hi : i < 541
  · rw [rowD_get _ hi, rowD_get _ hi]
    by_cases e : n = i
    · subst e
      simp [rowD_len, hi]
    · rw [if_neg e, if_neg (fun x => e x.symm)]
  · have h1 : (rowD f)[i]? = none := List.getElem?_eq_none (by rw [rowD_len]; omega)
    have h2 : (rowD fun j => if j = n then x else f j)[i]? = none := List.getElem?_eq_none (by rw [rowD_len]; omega)
    rw [h1, h2]
    split
    · rw [if_neg (by rw [rowD_len]; omega)]
    · rfl
theorem rowD_congr {f f' : Nat → Bool} (h : ∀ j, j < 541 → f j = f' j) : rowD f = rowD f' := List.map_congr_left fun j hj => by rw [h j (by simpa using hj)]
section
variable {main : Bool} {J : JT} {h h0 H : List AObj} {K : Value → List AObj → Prop} {KV : Value → Prop} {n0 : Nat}
theorem good85 (hJ : Closed prog main J) {c : Cnt} {n : Int} (h1 : 0 ≤ c.num ∧ c.num ≤ 300) (h2 : 0 ≤ c.err ∧ c.err ≤ 20) (hn : -1000000 ≤ n ∧ n ≤ 1000000) (hK : K (.bool (decide ((rd c).has n))) h) : Good prog J 85 [c.val, vint n] h K := by
  refine g85 hJ fun ok => ?_
  rw [e85]
  unfold Cnt.val
  refine qBox (l := c.cells) rfl fun H1 p1 e1 S1 c1 l1 => ?_
  have hp := poss_iff h1 h2 (n := n)
  have c1' : H1[p1]? = some (.cells [vint c.gate, vint c.man, vint c.num, vint c.err] true 0) := c1
  have hm : -20000000 ≤ c.err * n ∧ c.err * n ≤ 20000000 := by
    rcases Int.le_total 0 n with x | x
    · have := mul_bd h2.1 h2.2 x hn.2
      omega
    · have := mul_bd h2.1 h2.2 (show 0 ≤ -n by omega) (show -n ≤ 1000000 by omega)
      rw [Int.mul_neg] at this
      omega
  have fin : ∀ b : Bool, b = decide ((rd c).has n) → retL h.length K [] [.bool b] H1 := fun b hb => by
    subst hb
    exact retX ok (Nat.le_refl _) S1 (by simp) (by simp [unk]) (by simp [pack, VOk]) hK
  refine offI (ldI (v := vint c.num) c1' rfl rfl (subI (by omega) (lssI (cndI (fun hlt => negI (by omega) ?_) fun hge => ?_))))
  · refine geqI (cndI (fun h0 => mulI (by omega) (offI (ldI (v := vint c.err) c1' rfl rfl (mulI (by omega) (leqI (fin _ ?_)))))) fun h0 => fin _ ?_)
    · rw [decide_eq_decide, hp]
      omega
    · rw [eq_comm, decide_eq_false_iff_not, hp]
      omega
  · refine geqI (cndI (fun h0 => mulI (by omega) (offI (ldI (v := vint c.err) c1' rfl rfl (mulI (by omega) (leqI (fin _ ?_)))))) fun h0 => fin _ ?_)
    · rw [decide_eq_decide, hp]
      omega
    · rw [eq_comm, decide_eq_false_iff_not, hp]
      omega

noncomputable instance (t : Tal) (g n : Int) : Decidable (AllP t g n) := Classical.propDecidable _
noncomputable instance (t : Tal) (g : Nat) (n : Int) : Decidable (Ch t g n) := Classical.propDecidable _

def rowV (b : Nat) : Value := .slice (some ⟨b, 0, none⟩) 541 541

structure Grid (h H : List AObj) (v : Value) (bs : List Nat) (o : Option Nat) (P : Nat → Nat → Bool) : Prop where
  own : OwnX H 1 (bs.map rowV) bs.length v o
  rows : ∀ j (hj : j < bs.length), H[bs[j]]? = some (.cells (rowD (P j)) true 0)
  inc : ∀ i j (hi : i < bs.length) (hj : j < bs.length), i < j → bs[i] < bs[j]
  new : ∀ b ∈ bs, h.length ≤ b
  onew : ∀ i, o = some i → h.length ≤ i ∧ i ∉ bs

theorem Grid.same {v : Value} {bs : List Nat} {o : Option Nat} {P : Nat → Nat → Bool} {X : List Nat} {H' : List AObj} (G : Grid h H v bs o P) (S : SameX X H H') (h1 : ∀ b ∈ bs, b ∉ X) (h2 : ∀ i, o = some i → i ∉ X) : Grid h H' v bs o P :=
  ⟨ownX_keep G.own S h2, fun j hj => S.get (G.rows j hj) (h1 _ (List.getElem_mem hj)), G.inc, G.new, G.onew⟩
theorem Grid.lt {v : Value} {bs : List Nat} {o : Option Nat} {P : Nat → Nat → Bool} (G : Grid h H v bs o P) : ∀ b ∈ bs, b < H.length := fun b hb => by
  obtain ⟨j, hj, rfl⟩ := List.mem_iff_getElem.1 hb
  exact lt_of_get (G.rows j hj)
end
end Go.Proofs.Ytdgpacdknpahnaa

namespace Go.Proofs.Ytdgpacdknpahnaa
open Go.Conc Go.Proofs.Try
set_option maxRecDepth 100000
section
variable {main : Bool} {J : JT} {h h0 H : List AObj} {K : Value → List AObj → Prop} {KV : Value → Prop} {n0 : Nat}
theorem Grid.more {v y : Value} {bs : List Nat} {o : Option Nat} {P : Nat → Nat → Bool} {pr : Nat} (G : Grid h H v bs o P) (hpr : H[pr]? = some (.cells (rowD (P bs.length)) true 0)) (hlt : ∀ b ∈ bs, b < pr) (hn : h.length ≤ pr) (ho : ∀ i, o = some i → i ≠ pr) (hl : bs.length < 1000) (hy : Sli H y 1 1 [rowV pr])
    (hk : ∀ v' H' p, SameX o.toList H H' → Grid h H' v' (bs ++ [pr]) (some p) P → K v' H') : aApp 1 v y H K := by
  refine ownX_more G.own (by omega) hl hy fun v' H' p e O S => ?_
  have hp := lt_of_get hpr
  have hno : ∀ b ∈ bs, b ∉ o.toList := fun b hb hm => by
    simp at hm
    exact (G.onew b hm).2 hb
  have hnp : pr ∉ o.toList := fun hm => by
    simp at hm
    exact ho pr hm rfl
  refine hk v' H' p S ⟨by simpa using O, fun j hj => ?_, fun i j hi hj hij => ?_, fun b hb => ?_, fun i hi => ?_⟩
  · rcases Nat.lt_or_ge j bs.length with x | x
    · rw [List.getElem_append_left x]
      exact S.get (G.rows j x) (hno _ (List.getElem_mem x))
    · have : j = bs.length := by
        simp at hj
        omega
      subst this
      simp only [List.getElem_concat_length]
      exact S.get hpr hnp
  · rcases Nat.lt_or_ge j bs.length with x | x
    · rw [List.getElem_append_left x, List.getElem_append_left (by omega)]
      exact G.inc i j _ _ hij
    · have : j = bs.length := by
        simp at hj
        omega
      subst this
      rw [List.getElem_append_left hij]
      simp only [List.getElem_concat_length]
      exact hlt _ (List.getElem_mem hij)
  · rcases List.mem_append.1 hb with hb | hb
    · exact G.new b hb
    · simp at hb
      omega
  · cases hi
    have := S.1
    refine ⟨by omega, fun hm => ?_⟩
    rcases List.mem_append.1 hm with hm | hm
    · have := G.lt p hm
      omega
    · simp at hm
      omega

end
end Go.Proofs.Ytdgpacdknpahnaa

namespace Go.Proofs.Ytdgpacdknpahnaa
open Go.Conc Go.Proofs.Try
set_option maxRecDepth 100000
section
variable {main : Bool} {J : JT} {h h0 H : List AObj} {K : Value → List AObj → Prop} {KV : Value → Prop} {HL : List AObj → Prop} {n0 : Nat}
theorem Grid.congr {v : Value} {bs : List Nat} {o : Option Nat} {P P' : Nat → Nat → Bool} (G : Grid h H v bs o P) (hp : ∀ j n, j < bs.length → n < 541 → P j n = P' j n) : Grid h H v bs o P' :=
  ⟨G.own, fun j hj => by rw [G.rows j hj, rowD_congr fun n hn => hp j n hj hn], G.inc, G.new, G.onew⟩

theorem Grid.write {v : Value} {bs : List Nat} {o : Option Nat} {P : Nat → Nat → Bool} (G : Grid h H v bs o P) {j n : Nat} {x : Bool} (hj : j < bs.length) (hn : n < 541) {K2 : Value → Value → Value → List AObj → Prop}
    (hk : ∀ p q H', SameX [bs[j]] H H' → Grid h H' v bs o (fun a b => if a = j ∧ b = n then x else P a b) → K2 p (rowV bs[j]) q H') :
    aIdx 1 v (vint j) fun v4 => aLoad false 1 v4 H fun v5 => aIdx 1 v5 (vint n) fun v6 => aStore 1 v6 (.bool x) H fun h' => K2 v4 v5 v6 h' := by
  obtain ⟨h1, h2, ⟨h3, _, _⟩ | ⟨i, c, sz, rfl, rfl, h5, h6⟩⟩ := id G.own
  · omega
  · refine idxI ⟨by omega, by omega⟩ ?_
    rw [Int.toNat_natCast, Nat.zero_add]
    refine ldI (v := rowV bs[j]) h5 (by simp [hj]) rfl (idxI ⟨by omega, by omega⟩ ?_)
    rw [Int.toNat_natCast, Nat.zero_add, Nat.mul_one]
    refine qSt (G.rows j hj) (by rw [rowD_len]; omega) rfl rfl fun H' S c' l' => hk _ _ H' S ⟨ownX_keep G.own S ?_, fun a ha => ?_, G.inc, G.new, G.onew⟩
    · intro b hb hm
      simp at hm
      subst hm
      exact (G.onew _ hb).2 (List.getElem_mem hj)
    · by_cases e : a = j
      · subst e
        rw [c', rowD_set]
        congr 2
        refine rowD_congr fun q _ => ?_
        simp
      · have hne : bs[a] ≠ bs[j] := by
          rcases Nat.lt_or_ge a j with x | x
          · have := G.inc a j ha hj x
            omega
          · have := G.inc j a hj ha (by omega)
            omega
        rw [S.get (G.rows a ha) (by simpa using hne)]
        congr 2
        refine rowD_congr fun q _ => ?_
        rw [if_neg (fun x => e x.1)]

theorem good52 (hJ : Closed prog main J) {v cv nv : Value} {t : Tal} (ht : TalAt h v t cv nv) (hK : K (vint (talErr t)) h) : Good prog J 52 [v] h K := by
  refine g52 hJ fun ok => ?_
  rw [e52, ht.val]
  have kc : kn1 cv = true ∧ kn1 nv = true := ⟨(sli_one ht.ch).2.2, (sli_one ht.co).2.2⟩
  refine qBox (tal_one ht) fun H p1 e1 S c1 l1 => ?_
  have S3 := S.sli ht.ch (by simp)
  have S5 := S.sli ht.co (by simp)
  have fin : ∀ (e : Int), talErr t = e → retL h.length K [] [vint e] H := fun e he => by
    subst he
    exact retX ok (Nat.le_refl _) S (by simp) (by simp [unk]) (by simp [pack, VOk]) hK
  refine offI (ldI (v := vint t.gates) c1 rfl rfl (good68 hJ (notI (cndN (fun h1 => fin 1 (by unfold talErr; rw [if_pos h1])) fun h1 => ?_))))
  refine offI (load_part (c := t.first.cells) c1 (by simp [talCells]) rfl rfl (good87 hJ (neqI (cndI (fun h2 => fin _ (by unfold talErr; rw [if_neg (by simpa using h1), if_pos (by simpa using h2)])) fun h2 => ?_))))
  have h2' : rngErr 0 300 t.first = 0 := by simpa using h2
  refine offI (ldI (v := cv) c1 rfl kc.1 (lenI S3 (offI (ldI (v := vint t.gates) c1 rfl rfl (subI (by omega) (lssI (cndI (fun h3 => fin 7 (by unfold talErr; rw [if_neg (by simpa using h1), if_neg (by omega), if_pos h3])) fun h3 => ?_)))))))
  refine offI (ldI (v := cv) c1 rfl kc.1 (lenI S3 (offI (ldI (v := vint t.gates) c1 rfl rfl (subI (by omega) (gtrI (cndI (fun h4 => fin 6 (by unfold talErr; rw [if_neg (by simpa using h1), if_neg (by omega), if_neg h3, if_pos h4])) fun h4 => ?_)))))))
  refine l52_1 hJ (fun i : Nat => t.changes.length - i) (fun i f H' => H' = H ∧ f.ds = [] ∧ f.r 1 = ptr p1 0 ∧ f.r 4 = vint (i : Nat) ∧ i ≤ t.changes.length ∧ firstE ((t.changes.take i).map (rngErr (-60) 60)) = 0) ?_ (s := 0)
    (.inl ⟨rfl, rfl, rfl, rfl, by omega, rfl⟩)
  rintro i f H ⟨rfl, hds, r1, r4, hi, hz⟩ ok' hn
  rw [s52_1]
  simp only [r1, r4, hds]
  refine offI (ldI (v := cv) c1 rfl kc.1 (lenI S3 (lssI (cndI (fun hlt => ?_) fun hge => ?_))))
  · have hil : i < t.changes.length := by omega
    obtain ⟨b, o, cs, wr, sz, hidx, hb, hle, hpart, hkn⟩ := sliE_elem rng_len (by omega) S3 hil
    obtain ⟨s1, s2⟩ := firstE_step (f := rngErr (-60) 60) hil hz
    refine offI (ldI (v := cv) c1 rfl kc.1 (hidx _ (load_part hb hle hpart hkn (good87 hJ (r := t.changes[i]) (neqI (cndI (fun hne => fin _ ?_) fun h0 => addI (by omega) ?_))))))
    · unfold talErr
      rw [if_neg (by simpa using h1), if_neg (by omega), if_neg h3, if_neg h4, if_pos (by rw [s1 hne]; exact hne), s1 hne]
    · exact ⟨i + 1, by dsimp only; omega, .inl ⟨rfl, hds, r1, rfl, by omega, s2 (by omega)⟩⟩
  · have hil : i = t.changes.length := by omega
    subst hil
    rw [List.take_length] at hz
    have pre : ∀ e : Int, (if ¬ (0 ≤ t.most ∧ t.most ≤ 60) then (1 : Int) else if t.counts.length > 7 then 6 else firstE (t.counts.map fun c => cntErr c t.gates)) = e → talErr t = e := fun e he => by
      unfold talErr
      rw [if_neg (by simpa using h1), if_neg (by omega), if_neg h3, if_neg h4, if_neg (by omega)]
      exact he
    refine offI (ldI (v := vint t.most) c1 rfl rfl (good68 hJ (notI (cndN (fun h5 => fin 1 (pre _ (by rw [if_pos h5]))) fun h5 => ?_))))
    refine offI (ldI (v := nv) c1 rfl kc.2 (lenI S5 (gtrI (cndI (fun h6 => fin 6 (pre _ (by rw [if_neg (by simpa using h5), if_pos (by omega)]))) fun h6 => ?_))))
    refine l52_2 hJ (fun i : Nat => t.counts.length - i) (fun i f H' => H' = H ∧ f.ds = [] ∧ f.r 1 = ptr p1 0 ∧ f.r 6 = vint (i : Nat) ∧ i ≤ t.counts.length ∧ firstE ((t.counts.take i).map fun c => cntErr c t.gates) = 0) ?_ (s := 0)
      (.inl ⟨rfl, hds, r1, rfl, by omega, rfl⟩)
    rintro i f H ⟨rfl, hds, r1, r6, hi, hz2⟩ ok' hn
    rw [s52_2]
    simp only [r1, r6, hds]
    refine offI (ldI (v := nv) c1 rfl kc.2 (lenI S5 (lssI (cndI (fun hlt => ?_) fun hge => ?_))))
    · have hil : i < t.counts.length := by omega
      obtain ⟨b, o, cs, wr, sz, hidx, hb, hle, hpart, hkn⟩ := sliE_elem cnt_len (by omega) S5 hil
      obtain ⟨s1, s2⟩ := firstE_step (f := fun c => cntErr c t.gates) hil hz2
      refine ⟨[p1, b], offI (ldI (v := nv) c1 rfl kc.2 ⟨by simp [RdOk, ptrBlk, ptr], hidx _ (load_part hb hle hpart hkn ⟨by simp [RdOk, ptrBlk, ptr], offI (ldI (v := vint t.gates) c1 rfl rfl ⟨by simp [RdOk, ptrBlk, ptr], ?_⟩)⟩)⟩)⟩
      refine good84 hJ (c := t.counts[i]) (by omega) ⟨fun _ _ => rfl, neqI (cndI (fun hne => fin _ (pre _ ?_)) fun h0 => addI (by omega) ?_)⟩
      · rw [if_neg (by simpa using h5), if_neg (by omega), s1 hne]
      · exact ⟨i + 1, by dsimp only; omega, .inl ⟨rfl, hds, r1, rfl, by omega, s2 (by omega)⟩⟩
    · have hil : i = t.counts.length := by omega
      subst hil
      rw [List.take_length] at hz2
      exact fin 0 (pre _ (by rw [if_neg (by simpa using h5), if_neg (by omega), hz2]))

end
end Go.Proofs.Ytdgpacdknpahnaa

namespace Go.Proofs.Ytdgpacdknpahnaa
open Go.Conc Go.Proofs.Try
set_option maxRecDepth 100000
structure Kn (h Hs H : List AObj) (ns : List Int) (k : Nat) (l : List (Nat × AObj)) : Prop where
  a : HX h H ns k
  S : SameX [h.length] Hs H
  g : ∀ x ∈ l, x.1 ≠ h.length ∧ H[x.1]? = some x.2

section
variable {main : Bool} {J : JT} {h Hs H : List AObj} {K : Value → List AObj → Prop} {ns : List Int} {k : Nat} {l : List (Nat × AObj)}
theorem Kn.to {H' : List AObj} {k' : Nat} (a : Kn h Hs H ns k l) (S : SameX [h.length] H H') (a' : HX h H' ns k') : Kn h Hs H' ns k' l :=
  ⟨a', a.S.trans S, fun x hx => ⟨(a.g x hx).1, S.get (a.g x hx).2 (by simpa using (a.g x hx).1)⟩⟩
theorem Kn.up (hJ : Closed prog main J) (a : Kn h Hs H ns k l) (hk : k < 1000000) {m : Int} (hm : m < 1000000)
    (hK : ∀ y H', 0 ≤ y → (y ≤ m ∨ y = 0) → Kn h Hs H' ns (k + 1) l → K (vint y) H') : Good prog J 22 [ptr h.length 0, vint m] H K :=
  upX hJ a.a hk hm fun y H' h1 h2 S _ a' => hK y H' h1 h2 (a.to S a')
theorem Kn.new (a : Kn h Hs H ns k l) {n : Nat} {c : List Value} (hK : ∀ H' p, Kn h Hs H' ns k ((p, .cells c true 0) :: l) → K (.slice (some ⟨p, 0, none⟩) n n) H') : aNewS n c H K := by
  refine qNew fun H' p e S c' _ => hK H' p ?_
  have a' : HX h H' ns k := (a.a).same S (by simp)
  have := a.to (S.weak0) a'
  refine ⟨a', this.S, fun x hx => ?_⟩
  rcases List.mem_cons.1 hx with rfl | hx
  · have := a.a.lt
    exact ⟨by show p ≠ _; omega, c'⟩
  · exact this.g x hx
theorem Kn.get (a : Kn h Hs H ns k l) {p : Nat} {o : AObj} (hm : (p, o) ∈ l) : H[p]? = some o := (a.g _ hm).2
theorem Kn.sb (a : Kn h Hs H ns k l) {B : List Nat} (hB : ∀ b ∈ B, b < Hs.length ∧ b ≠ h.length) : SameB (some B) Hs H := fun b hb => a.S.2 b (hB b hb).1 (by simpa using (hB b hb).2)
end
section
variable {main : Bool} {J : JT} {h H : List AObj} {K : Value → List AObj → Prop} {n0 : Nat} {v cv nv : Value} {t : Tal} {gate number : Int}
theorem sliE_nil {α : Type} {s : Nat} {enc : α → List Value} : SliE h (.slice none 0 0) s enc ([] : List α) := ⟨none, 0, rfl, ⟨by simp, rfl⟩, .inl ⟨rfl, rfl⟩⟩

theorem good43 (hJ : Closed prog main J) (ht : TalAt h v t cv nv) (hK : K (.bool (decide (t.changes.length > 20 ∨ t.counts.length > 20))) h) : Good prog J 43 [v] h K := by
  refine g43 hJ fun ok => ?_
  rw [e43, ht.val]
  have kc : kn1 cv = true ∧ kn1 nv = true := ⟨(sli_one ht.ch).2.2, (sli_one ht.co).2.2⟩
  refine qBox (tal_one ht) fun H1 p1 e1 S1 c1 l1 => ?_
  have t1 : TalAt H1 (.agg ⟨talCells t cv nv⟩) t cv nv := ⟨rfl, S1.sli ht.ch (by simp), S1.sli ht.co (by simp)⟩
  have fin : ∀ b : Bool, b = decide (t.changes.length > 20 ∨ t.counts.length > 20) → retL h.length K [] [.bool b] H1 := fun b hb => by
    subst hb
    exact retX ok (Nat.le_refl _) S1 (by simp) (by simp [unk]) (by simp [pack, VOk]) hK
  refine offI (ldI (v := cv) c1 rfl kc.1 (lenI t1.ch (gtrI (cndI (fun hgt => fin true ?_) fun hle => offI (ldI (v := nv) c1 rfl kc.2 (lenI t1.co (gtrI (fin _ ?_))))))))
  · rw [eq_comm, decide_eq_true_eq]
    exact .inl (by omega)
  · rw [decide_eq_decide]
    omega
end
end Go.Proofs.Ytdgpacdknpahnaa

namespace Go.Proofs.Ytdgpacdknpahnaa
open Go.Conc Go.Proofs.Try
set_option maxRecDepth 100000
abbrev TV := Tal × Value × Value
def tvC (x : TV) : List Value := talCells x.1 x.2.1 x.2.2
theorem tvC_len (x : TV) : (tvC x).length = 6 := rfl

theorem tvC_flat : ∀ xs : List TV, (xs.flatMap tvC).length = xs.length * 6
  | [] => rfl
  | x :: xs => by rw [List.flatMap_cons, List.length_append, tvC_flat xs, tvC_len, List.length_cons]; omega

theorem addR {t : TypeId} {x : Value} {a b : Int} {KV : Value → Prop} (hx : x = vint a) (h : -9223372036854775808 ≤ a + b ∧ a + b < 9223372036854775808) (hk : KV (vint (a + b))) : aBin prog .add t x (vint b) KV := by
  subst hx
  exact addI h hk
theorem w4 {z a b c d : Value} : wrAt (wrAt (wrAt (wrAt (zrep [z] 4) 0 [a]) 1 [b]) 2 [c]) 3 [d] = [a, b, c, d] := by kernel_rfl
end Go.Proofs.Ytdgpacdknpahnaa

namespace Go.Proofs.Ytdgpacdknpahnaa
open Go.Conc Go.Proofs.Try
set_option maxRecDepth 100000
set_option maxHeartbeats 4000000
set_option linter.unusedVariables false
section
variable {main : Bool} {J : JT} {n0 : Nat} {h : List AObj} {K : Value → List AObj → Prop}
theorem at49 : prog.funcs[49]? = some f49 := by kernel_rfl
theorem body49 : f49.body = some (codeOf f49) := by kernel_rfl
def pl49 : Plans := []
def ct49 : Cuts := .go
theorem pok49 : plansOk prog pl49 (codeOf f49) = true := by kernel_rfl
theorem e49 {a0 : Value} : W prog J 36 h.length 49 (codeOf f49) (RG.mk (regs [a0]) []) h (RetQ prog [.cell 2 38, .tmp 3] h.length K) =
(aBox a0 h fun v1 h2 =>
aAlloc [(vint 0), (vint 0)] h2 fun v3 h4 =>
aLoad true 4 v1 h4 fun v5 =>
Good prog J 84 [v5, (vint 5)] h4 fun v6 h7 =>
aBin prog .neq 32 v6 (vint 0) fun v8 =>
cnd v8
(aFill [(vint 0), (vint 0)] [] fun c9 =>
aStore 2 v3 (Value.agg ⟨c9⟩) h7 fun h10 =>
RetQ prog [.cell 2 38, .tmp 3] h.length K .ret (RG.put (RG.put (RG.put (RG.put (RG.put (RG.put (RG.put (RG.put (RG.put (RG.put (RG.put (RG.mk (regs [a0]) []) 1 v1) 2 v3) 3 (vint 0)) 6 v5) 7 v6) 4 v6) 8 v6) 9 v8) 10 (Value.agg ⟨c9⟩)) 11 v6) 3 v6) h10)
(aOff v1 2 fun v11 =>
aLoad false 1 v11 h7 fun v12 =>
aOff v1 2 fun v13 =>
aLoad false 1 v13 h7 fun v14 =>
aFill [(vint 0), (vint 0)] [(0, 1, v12), (1, 1, v14)] fun c15 =>
aAlloc [(vint 0), (vint 0)] h7 fun v16 h17 =>
aStore 2 v16 (Value.agg ⟨c15⟩) h17 fun h18 =>
Sem J 36 h.length 49 (subC [1, 1, 1, 0, 0] (codeOf f49)) (RG.put (RG.put (RG.put (RG.put (RG.put (RG.put (RG.put (RG.put (RG.put (RG.put (RG.put (RG.put (RG.put (RG.put (RG.mk (regs [a0]) []) 1 v1) 2 v3) 3 (vint 0)) 6 v5) 7 v6) 4 v6) 8 v6) 9 v8) 12 v11) 13 v12) 14 v13) 15 v14) 16 (Value.agg ⟨c15⟩)) 5 v16) h18 (contX pl49 prog J 36 h.length 49 ct49 [1, 1, 1, 0, 0] (codeOf f49) [] (RetQ prog [.cell 2 38, .tmp 3] h.length K)))) := top_eq pok49 ct49 (by kernel_rfl)
theorem g49 (hJ : Closed prog main J) {a0 : Value} (hs : heapOk h → W prog J 36 h.length 49 (codeOf f49) (RG.mk (regs [a0]) []) h (RetQ prog [.cell 2 38, .tmp 3] h.length K)) : Good prog J 49 [a0] h K :=
  good_of_W hJ mixed at49 body49 (by kernel_rfl) (Nat.le_of_ble_eq_true rfl) hs
theorem s49_1 {f : RG} {nx0 : RG → List AObj → Prop} : W prog J 36 n0 49 (subC [1, 1, 1, 0, 0, 0] (codeOf f49)) f h (thenK nx0 (contX pl49 prog J 36 n0 49 ct49 [1, 1, 1, 0, 0] (codeOf f49) [] (RetQ prog [.cell 2 38, .tmp 3] n0 K))) =
(aLoad true 4 (f.r 1) h fun v1 =>
aOff (f.r 5) 0 fun v2 =>
aLoad false 1 v2 h fun v3 =>
aBin prog .sub 3 v3 (vint 1) fun v4 =>
Good prog J 85 [v1, v4] h fun v5 h6 =>
cnd v5
(aOff (f.r 5) 0 fun v7 =>
aLoad false 1 v7 h6 fun v8 =>
aBin prog .sub 3 v8 (vint 1) fun v9 =>
aOff (f.r 5) 0 fun v10 =>
aStore 1 v10 v9 h6 fun h11 =>
nx0 (RG.put (RG.put (RG.put (RG.put (RG.put (RG.put (RG.put (RG.put (RG.put f 17 v1) 18 v2) 19 v3) 20 v4) 21 v5) 22 v7) 23 v8) 24 v9) 25 v10) h11)
(Sem J 36 n0 49 (subC [1, 1, 1, 1, 0, 0] (codeOf f49)) (RG.put (RG.put (RG.put (RG.put (RG.put f 17 v1) 18 v2) 19 v3) 20 v4) 21 v5) h6 (contX pl49 prog J 36 n0 49 ct49 [1, 1, 1, 1, 0, 0] (codeOf f49) [] (RetQ prog [.cell 2 38, .tmp 3] n0 K)))) := sub_eq pok49 ct49 (by kernel_rfl)
theorem l49_1 (hJ : Closed prog main J) {S : Type} (μ : S → Nat) (I : S → RG → List AObj → Prop) (hI : ∀ s f h, I s f h → heapOk h → n0 ≤ h.length → W prog J 36 n0 49 (subC [1, 1, 1, 0, 0, 0] (codeOf f49)) f h (thenK (Nx n0 μ I s) (contX pl49 prog J 36 n0 49 ct49 [1, 1, 1, 0, 0] (codeOf f49) [] (RetQ prog [.cell 2 38, .tmp 3] n0 K))))
  {s : S} {f : RG} (hi : Gets n0 I s f h) : Sem J 36 n0 49 (subC [1, 1, 1, 0, 0] (codeOf f49)) f h (contX pl49 prog J 36 n0 49 ct49 [1, 1, 1, 0, 0] (codeOf f49) [] (RetQ prog [.cell 2 38, .tmp 3] n0 K)) :=
  loop_rule hJ mixed (b := subC [1, 1, 1, 0, 0, 0] (codeOf f49)) (by kernel_rfl) μ I hI hi
theorem s49_2 {f : RG} {nx0 : RG → List AObj → Prop} : W prog J 36 n0 49 (subC [1, 1, 1, 1, 0, 0, 0] (codeOf f49)) f h (thenK nx0 (contX pl49 prog J 36 n0 49 ct49 [1, 1, 1, 1, 0, 0] (codeOf f49) [] (RetQ prog [.cell 2 38, .tmp 3] n0 K))) =
(aLoad true 4 (f.r 1) h fun v1 =>
aOff (f.r 5) 1 fun v2 =>
aLoad false 1 v2 h fun v3 =>
aBin prog .add 3 v3 (vint 1) fun v4 =>
Good prog J 85 [v1, v4] h fun v5 h6 =>
cnd v5
(aOff (f.r 5) 1 fun v7 =>
aLoad false 1 v7 h6 fun v8 =>
aBin prog .add 3 v8 (vint 1) fun v9 =>
aOff (f.r 5) 1 fun v10 =>
aStore 1 v10 v9 h6 fun h11 =>
nx0 (RG.put (RG.put (RG.put (RG.put (RG.put (RG.put (RG.put (RG.put (RG.put f 26 v1) 27 v2) 28 v3) 29 v4) 30 v5) 31 v7) 32 v8) 33 v9) 34 v10) h11)
(aLoad true 2 (f.r 5) h6 fun v12 =>
aStore 2 (f.r 2) v12 h6 fun h13 =>
RetQ prog [.cell 2 38, .tmp 3] n0 K .ret (RG.put (RG.put (RG.put (RG.put (RG.put (RG.put (RG.put f 26 v1) 27 v2) 28 v3) 29 v4) 30 v5) 35 v12) 3 (vint 0)) h13)) := sub_eq pok49 ct49 (by kernel_rfl)
theorem l49_2 (hJ : Closed prog main J) {S : Type} (μ : S → Nat) (I : S → RG → List AObj → Prop) (hI : ∀ s f h, I s f h → heapOk h → n0 ≤ h.length → W prog J 36 n0 49 (subC [1, 1, 1, 1, 0, 0, 0] (codeOf f49)) f h (thenK (Nx n0 μ I s) (contX pl49 prog J 36 n0 49 ct49 [1, 1, 1, 1, 0, 0] (codeOf f49) [] (RetQ prog [.cell 2 38, .tmp 3] n0 K))))
  {s : S} {f : RG} (hi : Gets n0 I s f h) : Sem J 36 n0 49 (subC [1, 1, 1, 1, 0, 0] (codeOf f49)) f h (contX pl49 prog J 36 n0 49 ct49 [1, 1, 1, 1, 0, 0] (codeOf f49) [] (RetQ prog [.cell 2 38, .tmp 3] n0 K)) :=
  loop_rule hJ mixed (b := subC [1, 1, 1, 1, 0, 0, 0] (codeOf f49)) (by kernel_rfl) μ I hI hi
theorem at50 : prog.funcs[50]? = some f50 := by kernel_rfl
theorem body50 : f50.body = some (codeOf f50) := by kernel_rfl
def pl50 : Plans := [(10, false, .take 1 (.take 2 (.take 4 (.alt 0 true (.alt 3 true (.last 5 true (.last 6 true (.take 7 (.last 8 false (.fin))))) (.last 5 true (.last 3 true (.last 6 true (.take 7 (.last 8 false (.fin))))))) (.last 5 true (.last 0 true (.last 3 true (.last 6 true (.take 7 (.last 8 false (.fin)))))))))))]
def ct50 : Cuts := .go
theorem pok50 : plansOk prog pl50 (codeOf f50) = true := by kernel_rfl
theorem e50 {a0 a1 : Value} : W prog J 41 h.length 50 (codeOf f50) (RG.mk (regs [a0, a1]) []) h (RetQ prog [.cell 4 42, .tmp 5] h.length K) =
(aBox a0 h fun v1 h2 =>
aBox a1 h2 fun v3 h4 =>
aAlloc [(vint 0), (vint 0), (vint 0), (Value.slice none 0 0), (vint 0), (Value.slice none 0 0)] h4 fun v5 h6 =>
aLoad true 6 v1 h6 fun v7 =>
Good prog J 52 [v7] h6 fun v8 h9 =>
aBin prog .neq 32 v8 (vint 0) fun v10 =>
cnd v10
(aFill [(vint 0), (vint 0), (vint 0), (Value.slice none 0 0), (vint 0), (Value.slice none 0 0)] [] fun c11 =>
aStore 6 v5 (Value.agg ⟨c11⟩) h9 fun h12 =>
RetQ prog [.cell 4 42, .tmp 5] h.length K .ret (RG.put (RG.put (RG.put (RG.put (RG.put (RG.put (RG.put (RG.put (RG.put (RG.put (RG.put (RG.put (RG.mk (regs [a0, a1]) []) 2 v1) 3 v3) 4 v5) 5 (vint 0)) 8 v7) 9 v8) 6 v8) 10 v8) 11 v10) 12 (Value.agg ⟨c11⟩)) 13 v8) 5 v8) h12)
(aOff v1 5 fun v13 =>
aLoad false 1 v13 h9 fun v14 =>
aLenS v14 fun v15 =>
aBin prog .geq 3 v15 (vint 7) fun v16 =>
cnd v16
(aFill [(vint 0), (vint 0), (vint 0), (Value.slice none 0 0), (vint 0), (Value.slice none 0 0)] [] fun c17 =>
aStore 6 v5 (Value.agg ⟨c17⟩) h9 fun h18 =>
RetQ prog [.cell 4 42, .tmp 5] h.length K .ret (RG.put (RG.put (RG.put (RG.put (RG.put (RG.put (RG.put (RG.put (RG.put (RG.put (RG.put (RG.put (RG.put (RG.put (RG.put (RG.mk (regs [a0, a1]) []) 2 v1) 3 v3) 4 v5) 5 (vint 0)) 8 v7) 9 v8) 6 v8) 10 v8) 11 v10) 14 v13) 15 v14) 16 v15) 17 v16) 18 (Value.agg ⟨c17⟩)) 5 (vint 6)) h18)
(aLoad true 4 v3 h9 fun v19 =>
aOff v1 0 fun v20 =>
aLoad false 1 v20 h9 fun v21 =>
Good prog J 84 [v19, v21] h9 fun v22 h23 =>
aBin prog .neq 32 v22 (vint 0) fun v24 =>
cnd v24
(aFill [(vint 0), (vint 0), (vint 0), (Value.slice none 0 0), (vint 0), (Value.slice none 0 0)] [] fun c25 =>
aStore 6 v5 (Value.agg ⟨c25⟩) h23 fun h26 =>
RetQ prog [.cell 4 42, .tmp 5] h.length K .ret (RG.put (RG.put (RG.put (RG.put (RG.put (RG.put (RG.put (RG.put (RG.put (RG.put (RG.put (RG.put (RG.put (RG.put (RG.put (RG.put (RG.put (RG.put (RG.put (RG.put (RG.put (RG.put (RG.put (RG.mk (regs [a0, a1]) []) 2 v1) 3 v3) 4 v5) 5 (vint 0)) 8 v7) 9 v8) 6 v8) 10 v8) 11 v10) 14 v13) 15 v14) 16 v15) 17 v16) 19 v19) 20 v20) 21 v21) 22 v22) 7 v22) 23 v22) 24 v24) 25 (Value.agg ⟨c25⟩)) 26 v22) 5 v22) h26)
((((0 * 2 : Nat) ≤ 16777216 ∧ (0 : Nat) ≤ 16777216 ∧ List.length [(vint 0), (vint 0)] = 2) ∧ aFill (zrep [(vint 0), (vint 0)] 0) [] fun c27 =>
aNewS 0 c27 h23 fun v28 h29 =>
aOff v1 3 fun v30 =>
aLoad false 1 v30 h29 fun v31 =>
((List.length [(vint 0), (vint 0)] = 2 ∧ 0 < (2 : Nat) ∧ 0 < (16 : Nat) ∧ (16 : Nat) ≤ 1024) ∧ aApp 2 v28 v31 h29 fun v32 h33 =>
aOff v1 3 fun v34 =>
aStore 1 v34 v32 h33 fun h35 =>
(∃ B, aOff v1 5 fun v36 =>
aLoad false 1 v36 h35 fun v37 =>
RdOk (some B) (ptrBlk v36) ∧ (aLoad true 4 v3 h35 fun v38 =>
RdOk (some B) (ptrBlk v3) ∧ (((((0 * 4 : Nat) ≤ 16777216 ∧ (0 : Nat) ≤ 16777216 ∧ List.length [(vint 0), (vint 0), (vint 0), (vint 0)] = 4) ∧ aFill (zrep [(vint 0), (vint 0), (vint 0), (vint 0)] 0) [] fun c39 =>
aNewS 0 c39 h35 fun v40 h41 =>
SameB (some B) h35 h41 ∧ ((((List.length [(vint 0), (vint 0), (vint 0), (vint 0)] = 4 ∧ 0 < (4 : Nat) ∧ 0 < (32 : Nat) ∧ (32 : Nat) ≤ 1024) ∧ aApp 4 v40 v37 h41 fun v42 h43 =>
SameB (some B) h35 h43 ∧ ((((1 * 4 : Nat) ≤ 16777216 ∧ (1 : Nat) ≤ 16777216 ∧ List.length [(vint 0), (vint 0), (vint 0), (vint 0)] = 4) ∧ aFill (zrep [(vint 0), (vint 0), (vint 0), (vint 0)] 1) [(0, 4, v38)] fun c44 =>
aNewS 1 c44 h43 fun v45 h46 =>
SameB (some B) h35 h46 ∧ (((List.length [(vint 0), (vint 0), (vint 0), (vint 0)] = 4 ∧ 0 < (4 : Nat) ∧ 0 < (32 : Nat) ∧ (32 : Nat) ≤ 1024) ∧ aApp 4 v42 v45 h46 fun v47 h48 =>
SameB (some B) h35 h48 ∧ (aOff v1 5 fun v49 =>
aStore 1 v49 v47 h48 fun h50 =>
aLoad true 6 v1 h50 fun v51 =>
aStore 6 v5 v51 h50 fun h52 =>
RetQ prog [.cell 4 42, .tmp 5] h.length K .ret (RG.put (RG.put (RG.put (RG.put (RG.put (RG.put (RG.put (RG.put (RG.put (RG.put (RG.put (RG.put (RG.put (RG.put (RG.put (RG.put (RG.put (RG.put (RG.put (RG.put (RG.put (RG.put (RG.put (RG.put (RG.put (RG.put (RG.put (RG.put (RG.put (RG.put (RG.put (RG.put (RG.put (RG.put (RG.put (RG.mk (regs [a0, a1]) []) 2 v1) 3 v3) 4 v5) 5 (vint 0)) 8 v7) 9 v8) 6 v8) 10 v8) 11 v10) 14 v13) 15 v14) 16 v15) 17 v16) 19 v19) 20 v20) 21 v21) 22 v22) 7 v22) 23 v22) 24 v24) 27 v28) 28 v30) 29 v31) 30 v32) 31 v34) 33 v36) 34 v37) 36 v38) 32 v40) 35 v42) 37 v45) 38 v47) 39 v49) 40 v51) 5 (vint 0)) h52))))))) ∧ ((((1 * 4 : Nat) ≤ 16777216 ∧ (1 : Nat) ≤ 16777216 ∧ List.length [(vint 0), (vint 0), (vint 0), (vint 0)] = 4) ∧ aFill (zrep [(vint 0), (vint 0), (vint 0), (vint 0)] 1) [(0, 4, v38)] fun c53 =>
aNewS 1 c53 h41 fun v54 h55 =>
SameB (some B) h35 h55 ∧ (((List.length [(vint 0), (vint 0), (vint 0), (vint 0)] = 4 ∧ 0 < (4 : Nat) ∧ 0 < (32 : Nat) ∧ (32 : Nat) ≤ 1024) ∧ aApp 4 v40 v37 h55 fun v56 h57 =>
SameB (some B) h35 h57 ∧ (((List.length [(vint 0), (vint 0), (vint 0), (vint 0)] = 4 ∧ 0 < (4 : Nat) ∧ 0 < (32 : Nat) ∧ (32 : Nat) ≤ 1024) ∧ aApp 4 v56 v54 h57 fun v58 h59 =>
SameB (some B) h35 h59 ∧ (aOff v1 5 fun v60 =>
aStore 1 v60 v58 h59 fun h61 =>
aLoad true 6 v1 h61 fun v62 =>
aStore 6 v5 v62 h61 fun h63 =>
RetQ prog [.cell 4 42, .tmp 5] h.length K .ret (RG.put (RG.put (RG.put (RG.put (RG.put (RG.put (RG.put (RG.put (RG.put (RG.put (RG.put (RG.put (RG.put (RG.put (RG.put (RG.put (RG.put (RG.put (RG.put (RG.put (RG.put (RG.put (RG.put (RG.put (RG.put (RG.put (RG.put (RG.put (RG.put (RG.put (RG.put (RG.put (RG.put (RG.put (RG.put (RG.mk (regs [a0, a1]) []) 2 v1) 3 v3) 4 v5) 5 (vint 0)) 8 v7) 9 v8) 6 v8) 10 v8) 11 v10) 14 v13) 15 v14) 16 v15) 17 v16) 19 v19) 20 v20) 21 v21) 22 v22) 7 v22) 23 v22) 24 v24) 27 v28) 28 v30) 29 v31) 30 v32) 31 v34) 33 v36) 34 v37) 36 v38) 32 v40) 37 v54) 35 v56) 38 v58) 39 v60) 40 v62) 5 (vint 0)) h63)))))))))) ∧ ((((1 * 4 : Nat) ≤ 16777216 ∧ (1 : Nat) ≤ 16777216 ∧ List.length [(vint 0), (vint 0), (vint 0), (vint 0)] = 4) ∧ aFill (zrep [(vint 0), (vint 0), (vint 0), (vint 0)] 1) [(0, 4, v38)] fun c64 =>
aNewS 1 c64 h35 fun v65 h66 =>
SameB (some B) h35 h66 ∧ ((((0 * 4 : Nat) ≤ 16777216 ∧ (0 : Nat) ≤ 16777216 ∧ List.length [(vint 0), (vint 0), (vint 0), (vint 0)] = 4) ∧ aFill (zrep [(vint 0), (vint 0), (vint 0), (vint 0)] 0) [] fun c67 =>
aNewS 0 c67 h66 fun v68 h69 =>
SameB (some B) h35 h69 ∧ (((List.length [(vint 0), (vint 0), (vint 0), (vint 0)] = 4 ∧ 0 < (4 : Nat) ∧ 0 < (32 : Nat) ∧ (32 : Nat) ≤ 1024) ∧ aApp 4 v68 v37 h69 fun v70 h71 =>
SameB (some B) h35 h71 ∧ (((List.length [(vint 0), (vint 0), (vint 0), (vint 0)] = 4 ∧ 0 < (4 : Nat) ∧ 0 < (32 : Nat) ∧ (32 : Nat) ≤ 1024) ∧ aApp 4 v70 v65 h71 fun v72 h73 =>
SameB (some B) h35 h73 ∧ (aOff v1 5 fun v74 =>
aStore 1 v74 v72 h73 fun h75 =>
aLoad true 6 v1 h75 fun v76 =>
aStore 6 v5 v76 h75 fun h77 =>
RetQ prog [.cell 4 42, .tmp 5] h.length K .ret (RG.put (RG.put (RG.put (RG.put (RG.put (RG.put (RG.put (RG.put (RG.put (RG.put (RG.put (RG.put (RG.put (RG.put (RG.put (RG.put (RG.put (RG.put (RG.put (RG.put (RG.put (RG.put (RG.put (RG.put (RG.put (RG.put (RG.put (RG.put (RG.put (RG.put (RG.put (RG.put (RG.put (RG.put (RG.put (RG.mk (regs [a0, a1]) []) 2 v1) 3 v3) 4 v5) 5 (vint 0)) 8 v7) 9 v8) 6 v8) 10 v8) 11 v10) 14 v13) 15 v14) 16 v15) 17 v16) 19 v19) 20 v20) 21 v21) 22 v22) 7 v22) 23 v22) 24 v24) 27 v28) 28 v30) 29 v31) 30 v32) 31 v34) 33 v36) 34 v37) 36 v38) 37 v65) 32 v68) 35 v70) 38 v72) 39 v74) 40 v76) 5 (vint 0)) h77)))))))))))))))))) := top_eq pok50 ct50 (by kernel_rfl)
theorem g50 (hJ : Closed prog main J) {a0 a1 : Value} (hs : heapOk h → W prog J 41 h.length 50 (codeOf f50) (RG.mk (regs [a0, a1]) []) h (RetQ prog [.cell 4 42, .tmp 5] h.length K)) : Good prog J 50 [a0, a1] h K :=
  good_of_W hJ mixed at50 body50 (by kernel_rfl) (Nat.le_of_ble_eq_true rfl) hs
end
end Go.Proofs.Ytdgpacdknpahnaa

namespace Go.Proofs.Ytdgpacdknpahnaa
open Go.Conc Go.Proofs.Try
set_option maxRecDepth 100000
def addE (t : Tal) (c : Cnt) : Int := if talErr t ≠ 0 then talErr t else if (t.counts.length : Int) ≥ 7 then 6 else cntErr c t.gates
def addT (t : Tal) (c : Cnt) : Tal := { t with counts := t.counts ++ [c] }

section
variable {main : Bool} {J : JT} {h H : List AObj} {K : Value → List AObj → Prop} {KV : Value → Prop} {n0 : Nat}
theorem fill_four {m : List Value} {o s : Nat} {v : Value} {l : List Value} {ps : List (Nat × Nat × Value)} {KL : List Value → Prop} (hv : v.cells.toList = l) (hs : l.length = s) (ho : l.all one = true) (hl : o + s ≤ m.length) (hk : aFill (wrAt m o l) ps KL) : aFill m ((o, s, v) :: ps) KL := by
  subst hv
  exact ⟨hs, ho, hl, hk⟩
theorem sbL {B : List Nat} {H' : List AObj} (S : SameX [] H H') (hB : ∀ b ∈ B, b < H.length) : SameB (some B) H H' := fun b hb => S.2 b (hB b hb) (by simp)

theorem good42s (hJ : Closed prog main J) {v cv nv : Value} {t : Tal} {c : Cnt} (ht : TalAt H v t cv nv) (hl : t.changes.length < 1000)
    (k1 : addE t c ≠ 0 → ∀ H', SameX [] H H' → K (.tuple ⟨[.agg ⟨[vint 0, vint 0, vint 0, .slice none 0 0, vint 0, .slice none 0 0]⟩, vint (addE t c)]⟩) H')
    (k2 : addE t c = 0 → ∀ H' cv' nv', SameX [] H H' → (∀ {X H''}, SameX X H' H'' → (∀ x ∈ X, x < H.length) → TalAt H'' (.agg ⟨talCells (addT t c) cv' nv'⟩) (addT t c) cv' nv') → K (.tuple ⟨[.agg ⟨talCells (addT t c) cv' nv'⟩, vint 0]⟩) H') : Good prog J 42 [v, c.val] H K := by
  refine g42 hJ fun ok => ?_
  rw [e42, ht.val]
  have kc : kn1 cv = true ∧ kn1 nv = true := ⟨(sli_one ht.ch).2.2, (sli_one ht.co).2.2⟩
  refine qBox (tal_one ht) fun H1 p1 e1 S1 b1 l1 => qBox (l := c.cells) rfl fun H2 p2 e2 S2 b2 l2 => qAl fun H3 p3 e3 S3 b3 l3 => ?_
  have T3 : SameX [] H H3 := (S1.trans S2).trans S3
  have b13 := S3.get (S2.get b1 (by simp)) (by simp)
  have b23 := S3.get b2 (by simp)
  have t3 : TalAt H3 (.agg ⟨talCells t cv nv⟩) t cv nv := ⟨rfl, T3.sli ht.ch (by simp), T3.sli ht.co (by simp)⟩
  have err : ∀ (e : Int) (F : Value → RG), addE t c = e → e ≠ 0 → (∀ x, (F x).ds = [] ∧ (F x).r 4 = ptr p3 0 ∧ (F x).r 5 = vint e) →
      aFill [vint 0, vint 0, vint 0, .slice none 0 0, vint 0, .slice none 0 0] [] fun c11 => aStore 6 (ptr p3 0) (.agg ⟨c11⟩) H3 fun h12 => RetQ prog [.cell 4 42, .tmp 5] H.length K .ret (F (.agg ⟨c11⟩)) h12 := by
    intro e F he h0 hF
    refine fillI (qStA (c := [vint 0, vint 0, vint 0, .slice none 0 0, vint 0, .slice none 0 0]) b3 rfl rfl rfl fun H4 S4 c4 l4 => ?_)
    obtain ⟨f1, f2, f3⟩ := hF (.agg ⟨[vint 0, vint 0, vint 0, .slice none 0 0, vint 0, .slice none 0 0]⟩)
    refine retQ_same f1 (resW_cell (gg := true) (s := 6) (by kernel_rfl) ?_)
    rw [f2]
    refine load_part (c := [vint 0, vint 0, vint 0, .slice none 0 0, vint 0, .slice none 0 0]) c4 (by simp) rfl rfl (resW_tmp (by rw [f3]; simp [unk]) (resW_nil ?_))
    rw [f3]
    have := k1 (by omega) H4 (T3.thru S4 (by simp; omega))
    rw [he] at this
    exact this
  refine load_part (c := talCells t cv nv) b13 (by rw [cs_val]; omega) rfl (tal_kn kc.1 kc.2) (good51 hJ t3 (neqI (cndI (fun hne => ?_) fun heq => ?_)))
  · exact err _ (fun x => _) (by unfold addE; rw [if_pos hne]) hne fun x => ⟨rfl, rfl, rfl⟩
  have h0 : talErr t = 0 := by omega
  have hg := (talErr_fine h0).gates
  refine offI (ldI (v := nv) b13 rfl kc.2 (lenI t3.co (geqI (cndI (fun h7 => ?_) fun h7 => ?_))))
  · exact err 6 (fun x => _) (by unfold addE; rw [if_neg (by omega), if_pos h7]) (by decide) fun x => ⟨rfl, rfl, rfl⟩
  have eA : addE t c = cntErr c t.gates := by unfold addE; rw [if_neg (by omega), if_neg h7]
  refine load_part (c := c.cells) b23 (by simp [Cnt.cells]) rfl rfl (offI (ldI (v := vint t.gates) b13 rfl rfl ?_))
  refine good77 hJ (c := c) (by omega) (neqI (cndI (fun hc => ?_) fun hc => ?_))
  · exact err _ (fun x => _) eA hc fun x => ⟨rfl, rfl, rfl⟩
  have h00 : addE t c = 0 := by omega
  have l13 := lt_of_get b13
  have l23 := lt_of_get b23
  have hB : ∀ b ∈ [p1, p2], b < H3.length := fun b hb => by
    rcases List.mem_cons.1 hb with rfl | hb
    · exact l13
    · rw [List.mem_singleton.1 hb]; exact l23
  -- what is behind the copying
  have fin : ∀ {Hn : List AObj} {cv' nv' : Value} {o o' : Option Nat} (F : Value → Value → RG), SameX [] H3 Hn → OwnX Hn 2 (t.changes.flatMap Rng.cells) t.changes.length cv' o → (∀ i, o = some i → H3.length ≤ i) → OwnX Hn 4 ((addT t c).counts.flatMap Cnt.cells) (addT t c).counts.length nv' o' → (∀ i, o' = some i → H3.length ≤ i) →
      (∀ x y, (F x y).ds = [] ∧ (F x y).r 4 = ptr p3 0 ∧ (F x y).r 5 = vint 0) →
      aStore 1 (ptr p1 (0 + 3)) cv' Hn fun h42 => aOff (ptr p1 0) 5 fun v43 => aStore 1 v43 nv' h42 fun h44 => aLoad true 6 (ptr p1 0) h44 fun v45 => aStore 6 (ptr p3 0) v45 h44 fun h46 => RetQ prog [.cell 4 42, .tmp 5] H.length K .ret (F v43 v45) h46 := by
    intro Hn cv' nv' o o' F Sn O hO O' hO' hF
    have bn := Sn.get b13 (by simp)
    have bn3 := Sn.get b3 (by simp)
    refine qSt bn (by rw [cs_val]; omega) (ownX_val O).1 (ownX_val O).2.1 fun H4 S4 c4 l4 => offI ?_
    refine qSt c4 (by rw [List.length_set, cs_val]; omega) (ownX_val O').1 (ownX_val O').2.1 fun H5 S5 c5 l5 => ?_
    have c5 : H5[p1]? = some (.cells (talCells (addT t c) cv' nv') true 0) := c5
    have O5 := ownX_keep (ownX_keep O S4 (fun i hi => by have := hO i hi; simp; omega)) S5 (fun i hi => by have := hO i hi; simp; omega)
    have O5' := ownX_keep (ownX_keep O' S4 (fun i hi => by have := hO' i hi; simp; omega)) S5 (fun i hi => by have := hO' i hi; simp; omega)
    have t5 : TalAt H5 (.agg ⟨talCells (addT t c) cv' nv'⟩) (addT t c) cv' nv' := ⟨rfl, ownX_sli O5, ownX_sli O5'⟩
    have k5 := tal_kn (t := addT t c) (ownX_val O5).2.2 (ownX_val O5').2.2
    refine load_part (c := talCells (addT t c) cv' nv') c5 (by rw [cs_val]; omega) rfl k5 ?_
    refine qStA (c := talCells (addT t c) cv' nv') (S5.get (S4.get bn3 (by simp; omega)) (by simp; omega)) rfl rfl (tal_one t5) fun H6 S6 c6 l6 => ?_
    have T6 : SameX [] H H6 := (((T3.trans Sn).thru S4 (by simp; omega)).thru S5 (by simp; omega)).thru S6 (by simp; omega)
    have O6 := ownX_keep O5 S6 (fun i hi => by have := hO i hi; simp; omega)
    have O6' := ownX_keep O5' S6 (fun i hi => by have := hO' i hi; simp; omega)
    obtain ⟨f1, f2, f3⟩ := hF (ptr p1 (0 + 5)) (.agg ⟨talCells (addT t c) cv' nv'⟩)
    refine retQ_same f1 (resW_cell (gg := true) (s := 6) (by kernel_rfl) ?_)
    rw [f2]
    refine load_part (c := talCells (addT t c) cv' nv') c6 (by rw [cs_val]; omega) rfl k5 (resW_tmp (by rw [f3]; simp [unk]) (resW_nil ?_))
    rw [f3]
    have hT3 := T3.1
    exact k2 h00 H6 cv' nv' T6 fun S hX => ⟨rfl, ownX_sli (ownX_keep O6 S fun i hi hm => by have := hO i hi; have := hX i hm; omega), ownX_sli (ownX_keep O6' S fun i hi hm => by have := hO' i hi; have := hX i hm; omega)⟩
  have eC : (addT t c).counts.flatMap Cnt.cells = t.counts.flatMap Cnt.cells ++ c.cells := by simp [addT]
  have eN : (addT t c).counts.length = t.counts.length + 1 := by simp [addT]
  have hcl : t.counts.length < 1000 := by omega
  refine ⟨[p1, p2], offI (ldI (v := cv) b13 rfl kc.1 ⟨by simp [RdOk, ptr, ptrBlk], offI (ldI (v := nv) b13 rfl kc.2 ⟨by simp [RdOk, ptr, ptrBlk], load_part (c := c.cells) b23 (by simp [Cnt.cells]) rfl rfl ⟨by simp [RdOk, ptr, ptrBlk], ?_, ?_⟩⟩)⟩)⟩
  · refine good79 hJ t3.ch hl fun cv' H4 o S4 O4 ho => ⟨sbL S4 hB, offI ⟨?_, ?_⟩⟩
    · refine good80 hJ (S4.sli t3.co (by simp)) hcl fun nv1 H5 o5 S5 O5 ho5 => ⟨sbL (S4.trans S5) hB, ?_⟩
      refine ⟨by decide, fill_four (l := c.cells) rfl rfl rfl (by decide) (fillI (qNew fun H6 p6 e6 S6 c6 l6 => ⟨sbL ((S4.trans S5).trans S6) hB, by decide, ?_⟩))⟩
      have c6 : H6[p6]? = some (.cells c.cells true 0) := c6
      refine ownX_more (ownX_keep O5 S6 (by simp)) (by omega) hcl (ownX_sli (ownX_new (s := 4) (n := 1) (l := c.cells) c6 rfl rfl)) fun nv' H7 p7 e7 O7 S7 => ?_
      have s1 := S4.1
      have s2 := S5.1
      have s3 := S6.1
      have T7 : SameX [] H4 H7 := (S5.trans S6).thru S7 (fun y hy => .inr (ho5 y (by simpa using hy)))
      refine fin (fun x y => _) (S4.trans T7) (ownX_keep O4 T7 (by simp)) ho (o' := some p7) (by rw [eC, eN]; exact O7) (fun i hi => by cases hi; omega) fun x y => ⟨rfl, rfl, rfl⟩
    · refine ⟨by decide, fill_four (l := c.cells) rfl rfl rfl (by decide) (fillI (qNew fun H5 p5 e5 S5 c5 l5 => ⟨sbL (S4.trans S5) hB, ?_⟩))⟩
      have c5 : H5[p5]? = some (.cells c.cells true 0) := c5
      refine good80 hJ ((S4.trans S5).sli t3.co (by simp)) hcl fun nv1 H6 o6 S6 O6 ho6 => ⟨sbL ((S4.trans S5).trans S6) hB, by decide, ?_⟩
      refine ownX_more O6 (by omega) hcl (ownX_sli (ownX_new (s := 4) (n := 1) (l := c.cells) (S6.get c5 (by simp)) rfl rfl)) fun nv' H7 p7 e7 O7 S7 => ?_
      have s1 := S4.1
      have s2 := S5.1
      have s3 := S6.1
      have T7 : SameX [] H4 H7 := (S5.trans S6).thru S7 (fun y hy => .inr (by have := ho6 y (by simpa using hy); omega))
      refine fin (fun x y => _) (S4.trans T7) (ownX_keep O4 T7 (by simp)) ho (o' := some p7) (by rw [eC, eN]; exact O7) (fun i hi => by cases hi; omega) fun x y => ⟨rfl, rfl, rfl⟩
  · refine ⟨by decide, fill_four (l := c.cells) rfl rfl rfl (by decide) (fillI (qNew fun H4 p4 e4 S4 c4 l4 => ⟨sbL S4 hB, ?_⟩))⟩
    have c4 : H4[p4]? = some (.cells c.cells true 0) := c4
    refine good79 hJ (S4.sli t3.ch (by simp)) hl fun cv' H5 o S5 O5 ho => ⟨sbL (S4.trans S5) hB, offI ?_⟩
    refine good80 hJ ((S4.trans S5).sli t3.co (by simp)) hcl fun nv1 H6 o6 S6 O6 ho6 => ⟨sbL ((S4.trans S5).trans S6) hB, by decide, ?_⟩
    refine ownX_more O6 (by omega) hcl (ownX_sli (ownX_new (s := 4) (n := 1) (l := c.cells) (S6.get (S5.get c4 (by simp)) (by simp)) rfl rfl)) fun nv' H7 p7 e7 O7 S7 => ?_
    have s1 := S4.1
    have s2 := S5.1
    have s3 := S6.1
    have T7 : SameX [] H5 H7 := S6.thru S7 (fun y hy => .inr (ho6 y (by simpa using hy)))
    refine fin (fun x y => _) ((S4.trans S5).trans T7) (ownX_keep O5 T7 (by simp)) (fun i hi => by have := ho i hi; omega) (o' := some p7) (by rw [eC, eN]; exact O7) (fun i hi => by cases hi; omega) fun x y => ⟨rfl, rfl, rfl⟩
end
end Go.Proofs.Ytdgpacdknpahnaa

namespace Go.Proofs.Ytdgpacdknpahnaa
open Go.Conc Go.Proofs.Try
set_option maxRecDepth 100000
def readsO (c : Cnt) : Rng := if cntErr c 5 = 0 then rd c else ⟨0, 0⟩
def zTal : Tal := ⟨0, ⟨0, 0⟩, [], 0, []⟩
def addO (t : Tal) (c : Cnt) : Tal := if addE t c = 0 then addT t c else zTal

section
variable {main : Bool} {J : JT} {h H : List AObj} {K : Value → List AObj → Prop} {KV : Value → Prop} {n0 : Nat}
theorem zTal_at : TalAt H (.agg ⟨[vint 0, vint 0, vint 0, .slice none 0 0, vint 0, .slice none 0 0]⟩) zTal (.slice none 0 0) (.slice none 0 0) :=
  ⟨rfl, sliE_nil, sliE_nil⟩

theorem good40' (hJ : Closed prog main J) {c : Cnt} (hK : K (.tuple ⟨[.agg ⟨(readsO c).cells⟩, vint (cntErr c 5)]⟩) H) : Good prog J 40 [c.val] H K := by
  refine good40 hJ (fun hne => ?_) fun heq => ?_
  · unfold readsO at hK
    rw [if_neg hne] at hK
    exact hK
  · unfold readsO at hK
    rw [if_pos heq, heq] at hK
    exact hK

theorem good49 (hJ : Closed prog main J) {c : Cnt} (hK : ∀ H', SameX [] H H' → K (.tuple ⟨[.agg ⟨(readsO c).cells⟩, vint (cntErr c 5)]⟩) H') : Good prog J 49 [c.val] H K := by
  refine g49 hJ fun ok => ?_
  rw [e49]
  refine qBox (l := c.cells) rfl fun H1 p1 e1 S1 b1 l1 => qAl fun H2 p2 e2 S2 b2 l2 => ?_
  have b12 := S2.get b1 (by simp)
  have T2 := S1.trans S2
  refine load_part (c := c.cells) b12 (by simp [Cnt.cells]) rfl rfl (good84 hJ (c := c) (by decide) (neqI (cndI (fun hne => ?_) fun heq => ?_)))
  · refine fillI (qStA (c := [vint 0, vint 0]) b2 rfl rfl rfl fun H3 S3 c3 l3 => ?_)
    refine retQ_same rfl (resW_cell (gg := true) (s := 2) (by kernel_rfl) ?_)
    refine load_part (c := [vint 0, vint 0]) c3 (by simp) rfl rfl (resW_tmp (by show vint _ ≠ unk; simp [unk]) (resW_nil ?_))
    have := hK H3 (T2.thru S3 (by simp; omega))
    unfold readsO at this
    rw [if_neg hne] at this
    exact this
  have h0 : cntErr c 5 = 0 := by omega
  obtain ⟨g1, g2, g3, g4⟩ := cntErr_zero h0
  obtain ⟨f1, f2, f3, f4⟩ := rd_facts g3 g4
  refine offI (ldI (v := vint c.num) b12 rfl rfl (offI (ldI (v := vint c.num) b12 rfl rfl ?_)))
  refine fill_four (l := [vint c.num]) rfl rfl rfl (by decide) (fill_four (l := [vint c.num]) rfl rfl rfl (Nat.le_of_ble_eq_true rfl) (fillI (qAl fun H3 p5 e3 S3 b3 l3 => qStA (c := [vint c.num, vint c.num]) b3 rfl rfl rfl fun H4 S4 c4 l4 => ?_)))
  have S24 : SameX [] H2 H4 := S3.thru S4 (by simp; omega)
  have b14 := S24.get b12 (by simp)
  have b24 := S24.get b2 (by simp)
  have n1 : p1 ≠ p5 := by omega
  have n2 : p2 ≠ p5 := by omega
  refine l49_1 hJ (fun L : Int => (L - rdLo c).toNat) (fun L F H' => SameX [p5] H4 H' ∧ H'[p5]? = some (.cells [vint L, vint c.num] true 0) ∧ (rdLo c ≤ L ∧ L ≤ c.num) ∧ F.ds = [] ∧ F.r 1 = ptr p1 0 ∧ F.r 2 = ptr p2 0 ∧ F.r 5 = ptr p5 0) ?_ (s := c.num)
    (.inl ⟨SameX.refl, c4, ⟨f1, Int.le_refl _⟩, rfl, rfl, rfl, rfl⟩)
  rintro L F H' ⟨S, c5, hL, ds, r1, r2, r5⟩ okc hnc
  rw [s49_1, r1, r5]
  refine load_part (c := c.cells) (S.get b14 (by simpa using n1)) (by simp [Cnt.cells]) rfl rfl (offI (ldI (v := vint L) c5 rfl rfl (subI (by omega) (good85 hJ g3 g4 (by omega) (cndI (fun hh => ?_) fun hh => ?_)))))
  · have hh : rdLo c ≤ L - 1 ∧ L - 1 ≤ rdHi c := hh
    exact offI (ldI (v := vint L) c5 rfl rfl (subI (by omega) (offI (qSt c5 (by simp) rfl rfl fun H6 S6 c6 l6 => ⟨L - 1, by dsimp only; omega, .inl ⟨S.trans S6, c6, by omega, ds, r1, r2, r5⟩⟩))))
  have hh : ¬ (rdLo c ≤ L - 1 ∧ L - 1 ≤ rdHi c) := hh
  have hL0 : L = rdLo c := by omega
  subst hL0
  refine l49_2 hJ (fun M : Int => (rdHi c - M).toNat) (fun M F H' => SameX [p5] H4 H' ∧ H'[p5]? = some (.cells [vint (rdLo c), vint M] true 0) ∧ (c.num ≤ M ∧ M ≤ rdHi c) ∧ F.ds = [] ∧ F.r 1 = ptr p1 0 ∧ F.r 2 = ptr p2 0 ∧ F.r 5 = ptr p5 0) ?_ (s := c.num)
    (.inl ⟨S, c5, ⟨Int.le_refl _, f2⟩, ds, r1, r2, r5⟩)
  rintro M F H' ⟨S, c5, hM, ds, r1, r2, r5⟩ okc hnc
  rw [s49_2, r1, r2, r5]
  refine load_part (c := c.cells) (S.get b14 (by simpa using n1)) (by simp [Cnt.cells]) rfl rfl (offI (ldI (v := vint M) c5 rfl rfl (addI (by omega) (good85 hJ g3 g4 (by omega) (cndI (fun hh => ?_) fun hh => ?_)))))
  · have hh : rdLo c ≤ M + 1 ∧ M + 1 ≤ rdHi c := hh
    exact offI (ldI (v := vint M) c5 rfl rfl (addI (by omega) (offI (qSt c5 (by simp) rfl rfl fun H6 S6 c6 l6 => ⟨M + 1, by dsimp only; omega, .inl ⟨S.trans S6, c6, by omega, ds, r1, r2, r5⟩⟩))))
  have hh : ¬ (rdLo c ≤ M + 1 ∧ M + 1 ≤ rdHi c) := hh
  have hM0 : M = rdHi c := by omega
  subst hM0
  refine load_part (c := [vint (rdLo c), vint (rdHi c)]) c5 (by simp) rfl rfl (qStA (c := [vint (rdLo c), vint (rdHi c)]) (S.get b24 (by simpa using n2)) rfl rfl rfl fun H7 S7 c7 l7 => ?_)
  refine retQ_same ds (resW_cell (gg := true) (s := 2) (by kernel_rfl) ?_)
  show aLoad true 2 (F.r 2) _ _
  rw [r2]
  refine load_part (c := [vint (rdLo c), vint (rdHi c)]) c7 (by simp) rfl rfl (resW_tmp (by show vint _ ≠ unk; simp [unk]) (resW_nil ?_))
  have := hK H7 (((T2.trans S24).thru S (by simp; have := T2.1; omega)).thru S7 (by simp; omega))
  unfold readsO at this
  rw [if_pos h0, h0] at this
  exact this

theorem good42' (hJ : Closed prog main J) {v cv nv : Value} {t : Tal} {c : Cnt} (ht : TalAt H v t cv nv) (hl : t.changes.length < 1000)
    (hK : ∀ H' w cv' nv', SameX [] H H' → (∀ {X H''}, SameX X H' H'' → (∀ x ∈ X, x < H.length) → TalAt H'' w (addO t c) cv' nv') → K (.tuple ⟨[w, vint (addE t c)]⟩) H') : Good prog J 42 [v, c.val] H K := by
  refine good42s hJ ht hl (fun h0 H' S => ?_) fun h0 H' cv' nv' S T => ?_
  · have e : addO t c = zTal := by unfold addO; rw [if_neg h0]
    exact hK H' _ _ _ S (fun _ _ => by rw [e]; exact zTal_at)
  · have e : addO t c = addT t c := by unfold addO; rw [if_pos h0]
    have := hK H' _ cv' nv' S (fun S' hX => by rw [e]; exact T S' hX)
    rw [h0] at this
    exact this

theorem good50 (hJ : Closed prog main J) {v cv nv : Value} {t : Tal} {c : Cnt} (ht : TalAt H v t cv nv) (hl : t.changes.length < 1000)
    (hK : ∀ H' w cv' nv', SameX [] H H' → (∀ {X H''}, SameX X H' H'' → (∀ x ∈ X, x < H.length) → TalAt H'' w (addO t c) cv' nv') → K (.tuple ⟨[w, vint (addE t c)]⟩) H') : Good prog J 50 [v, c.val] H K := by
  refine g50 hJ fun ok => ?_
  rw [e50, ht.val]
  have kc : kn1 cv = true ∧ kn1 nv = true := ⟨(sli_one ht.ch).2.2, (sli_one ht.co).2.2⟩
  refine qBox (tal_one ht) fun H1 p1 e1 S1 b1 l1 => qBox (l := c.cells) rfl fun H2 p2 e2 S2 b2 l2 => qAl fun H3 p3 e3 S3 b3 l3 => ?_
  have T3 : SameX [] H H3 := (S1.trans S2).trans S3
  have b13 := S3.get (S2.get b1 (by simp)) (by simp)
  have b23 := S3.get b2 (by simp)
  have t3 : TalAt H3 (.agg ⟨talCells t cv nv⟩) t cv nv := ⟨rfl, T3.sli ht.ch (by simp), T3.sli ht.co (by simp)⟩
  have err : ∀ (e : Int) (F : Value → RG), addE t c = e → e ≠ 0 → (∀ x, (F x).ds = [] ∧ (F x).r 4 = ptr p3 0 ∧ (F x).r 5 = vint e) →
      aFill [vint 0, vint 0, vint 0, .slice none 0 0, vint 0, .slice none 0 0] [] fun c11 => aStore 6 (ptr p3 0) (.agg ⟨c11⟩) H3 fun h12 => RetQ prog [.cell 4 42, .tmp 5] H.length K .ret (F (.agg ⟨c11⟩)) h12 := by
    intro e F he h0 hF
    refine fillI (qStA (c := [vint 0, vint 0, vint 0, .slice none 0 0, vint 0, .slice none 0 0]) b3 rfl rfl rfl fun H4 S4 c4 l4 => ?_)
    obtain ⟨f1, f2, f3⟩ := hF (.agg ⟨[vint 0, vint 0, vint 0, .slice none 0 0, vint 0, .slice none 0 0]⟩)
    refine retQ_same f1 (resW_cell (gg := true) (s := 6) (by kernel_rfl) ?_)
    rw [f2]
    refine load_part (c := [vint 0, vint 0, vint 0, .slice none 0 0, vint 0, .slice none 0 0]) c4 (by simp) rfl rfl (resW_tmp (by rw [f3]; simp [unk]) (resW_nil ?_))
    rw [f3]
    have eo : addO t c = zTal := by unfold addO; rw [if_neg (by omega)]
    have := hK H4 _ _ _ (T3.thru S4 (by simp; omega)) (fun _ _ => by rw [eo]; exact zTal_at)
    rw [he] at this
    exact this
  refine load_part (c := talCells t cv nv) b13 (by rw [cs_val]; omega) rfl (tal_kn kc.1 kc.2) (good52 hJ t3 (neqI (cndI (fun hne => ?_) fun heq => ?_)))
  · exact err _ (fun x => _) (by unfold addE; rw [if_pos hne]) hne fun x => ⟨rfl, rfl, rfl⟩
  have h0 : talErr t = 0 := by omega
  have hg := (talErr_fine h0).gates
  refine offI (ldI (v := nv) b13 rfl kc.2 (lenI t3.co (geqI (cndI (fun h7 => ?_) fun h7 => ?_))))
  · exact err 6 (fun x => _) (by unfold addE; rw [if_neg (by omega), if_pos h7]) (by decide) fun x => ⟨rfl, rfl, rfl⟩
  have eA : addE t c = cntErr c t.gates := by unfold addE; rw [if_neg (by omega), if_neg h7]
  refine load_part (c := c.cells) b23 (by simp [Cnt.cells]) rfl rfl (offI (ldI (v := vint t.gates) b13 rfl rfl ?_))
  refine good84 hJ (c := c) (by omega) (neqI (cndI (fun hc => ?_) fun hc => ?_))
  · exact err _ (fun x => _) eA hc fun x => ⟨rfl, rfl, rfl⟩
  have h00 : addE t c = 0 := by omega
  have eo : addO t c = addT t c := by unfold addO; rw [if_pos h00]
  have hcl : t.counts.length < 1000 := by omega
  have eC : (addT t c).counts.flatMap Cnt.cells = t.counts.flatMap Cnt.cells ++ c.cells := by simp [addT]
  have eN : (addT t c).counts.length = t.counts.length + 1 := by simp [addT]
  -- the changes
  refine ⟨by decide, fillI (qNew fun H4 p4 e4 S4 c4 l4 => offI (ldI (v := cv) (S4.get b13 (by simp)) rfl kc.1 ⟨by decide, ?_⟩))⟩
  refine appX c4 (by omega) (by omega) (S4.sli t3.ch (by simp)) fun a H5 q5 A S5 hq5 => offI ?_
  have U5 : SameX [] H3 H5 := S4.trans S5
  refine qSt (c := talCells t cv nv) (U5.get b13 (by simp)) (by rw [cs_val]; omega) (ownX_val A).1 (ownX_val A).2.1 fun H6 S6 c6 l6 => ?_
  have c6 : H6[p1]? = some (.cells (talCells t a nv) true 0) := c6
  have qlt := ownX_lt A q5 rfl
  have hS1 := S1.1
  have hS2 := S2.1
  have hS3 := S3.1
  have hS4 := S4.1
  have l13 := lt_of_get b13
  have l23 := lt_of_get b23
  have l33 := lt_of_get b3
  have A6 := ownX_keep A S6 (fun i hi => by cases hi; simp; omega)
  have U6 : SameX [p1] H3 H6 := U5.weak0.trans S6
  have sco : SliE H6 nv 4 Cnt.cells t.counts := (T3.thru U6 (by simp; omega)).sli ht.co (by simp)
  have b26 := U6.get b23 (by simp; omega)
  have b36 := U6.get b3 (by simp; omega)
  have l16 := lt_of_get c6
  have l26 := lt_of_get b26
  have hB : ∀ b ∈ [p1, p2], b < H6.length := fun b hb => by
    rcases List.mem_cons.1 hb with rfl | hb
    · exact l16
    · rw [List.mem_singleton.1 hb]; exact l26
  have fin : ∀ {Hn : List AObj} {nv' : Value} {o' : Nat} (F : Value → Value → RG), SameX [] H6 Hn → OwnX Hn 4 ((addT t c).counts.flatMap Cnt.cells) (addT t c).counts.length nv' (some o') → H6.length ≤ o' →
      (∀ x y, (F x y).ds = [] ∧ (F x y).r 4 = ptr p3 0 ∧ (F x y).r 5 = vint 0) →
      aOff (ptr p1 0) 5 fun v43 => aStore 1 v43 nv' Hn fun h44 => aLoad true 6 (ptr p1 0) h44 fun v45 => aStore 6 (ptr p3 0) v45 h44 fun h46 => RetQ prog [.cell 4 42, .tmp 5] H.length K .ret (F v43 v45) h46 := by
    intro Hn nv' o' F Sn O' hO' hF
    refine offI (qSt (c := talCells t a nv) (Sn.get c6 (by simp)) (by rw [cs_val]; omega) (ownX_val O').1 (ownX_val O').2.1 fun H7 S7 c7 l7 => ?_)
    have c7 : H7[p1]? = some (.cells (talCells (addT t c) a nv') true 0) := c7
    have A7 := ownX_keep (ownX_keep A6 Sn (by simp)) S7 (fun i hi => by cases hi; simp; omega)
    have O7 := ownX_keep O' S7 (fun i hi => by cases hi; simp; omega)
    have t7 : TalAt H7 (.agg ⟨talCells (addT t c) a nv'⟩) (addT t c) a nv' := ⟨rfl, ownX_sli A7, ownX_sli O7⟩
    have k7 := tal_kn (t := addT t c) (ownX_val A7).2.2 (ownX_val O7).2.2
    refine load_part (c := talCells (addT t c) a nv') c7 (by rw [cs_val]; omega) rfl k7 ?_
    refine qStA (c := talCells (addT t c) a nv') (S7.get (Sn.get b36 (by simp)) (by simp; omega)) rfl rfl (tal_one t7) fun H8 S8 c8 l8 => ?_
    obtain ⟨f1, f2, f3⟩ := hF (ptr p1 (0 + 5)) (.agg ⟨talCells (addT t c) a nv'⟩)
    refine retQ_same f1 (resW_cell (gg := true) (s := 6) (by kernel_rfl) ?_)
    rw [f2]
    refine load_part (c := talCells (addT t c) a nv') c8 (by rw [cs_val]; omega) rfl k7 (resW_tmp (by rw [f3]; simp [unk]) (resW_nil ?_))
    rw [f3]
    have T8 : SameX [] H H8 := (((T3.thru U6 (by simp; omega)).trans Sn).thru S7 (by simp; omega)).thru S8 (by simp; omega)
    have A8 := ownX_keep A7 S8 (fun i hi => by cases hi; simp; omega)
    have O8 := ownX_keep O7 S8 (fun i hi => by cases hi; simp; omega)
    have hT3 := T3.1
    have := hK H8 _ a nv' T8 (fun S' hX => by rw [eo]; exact ⟨rfl, ownX_sli (ownX_keep A8 S' fun i hi hm => by cases hi; have := hX _ hm; omega), ownX_sli (ownX_keep O8 S' fun i hi hm => by cases hi; have := hX _ hm; omega)⟩)
    rw [h00] at this
    exact this
  refine ⟨[p1, p2], offI (ldI (v := nv) c6 rfl kc.2 ⟨by simp [RdOk, ptr, ptrBlk], load_part (c := c.cells) b26 (by simp [Cnt.cells]) rfl rfl ⟨by simp [RdOk, ptr, ptrBlk], ?_, ?_⟩⟩)⟩
  · refine ⟨by decide, fillI (qNew fun H7 p7 e7 S7 c7 l7 => ⟨sbL S7 hB, ?_, ?_⟩)⟩
    · refine ⟨by decide, appX c7 (by omega) (by omega) (S7.sli sco (by simp)) fun b H8 q8 B S8 hq8 => ⟨sbL (S7.trans S8) hB, ?_⟩⟩
      refine ⟨by decide, fill_four (l := c.cells) rfl rfl rfl (by decide) (fillI (qNew fun H9 p9 e9 S9 c9 l9 => ⟨sbL ((S7.trans S8).trans S9) hB, by decide, ?_⟩))⟩
      have c9 : H9[p9]? = some (.cells c.cells true 0) := c9
      have blt := ownX_lt B q8 rfl
      refine ownX_more (ownX_keep B S9 (by simp)) (by omega) hcl (ownX_sli (ownX_new (s := 4) (n := 1) (l := c.cells) c9 rfl rfl)) fun nv' Ha pa ea Oa Sa => ?_
      have s7 := S7.1
      have s8 := S8.1
      have s9 := S9.1
      have Ta : SameX [] H6 Ha := ((S7.trans S8).trans S9).thru Sa (fun y hy => .inr (by simp at hy; omega))
      refine ⟨sbL Ta hB, fin (fun x y => _) Ta (o' := pa) (by rw [eC, eN]; exact Oa) (by omega) fun x y => ⟨rfl, rfl, rfl⟩⟩
    · refine ⟨by decide, fill_four (l := c.cells) rfl rfl rfl (by decide) (fillI (qNew fun H8 p8 e8 S8 c8 l8 => ⟨sbL (S7.trans S8) hB, ?_⟩))⟩
      have c8 : H8[p8]? = some (.cells c.cells true 0) := c8
      refine ⟨by decide, appX (S8.get c7 (by simp)) (by omega) (by omega) ((S7.trans S8).sli sco (by simp)) fun b H9 q9 B S9 hq9 => ⟨sbL ((S7.trans S8).trans S9) hB, by decide, ?_⟩⟩
      have blt := ownX_lt B q9 rfl
      refine ownX_more B (by omega) hcl (ownX_sli (ownX_new (s := 4) (n := 1) (l := c.cells) (S9.get c8 (by simp)) rfl rfl)) fun nv' Ha pa ea Oa Sa => ?_
      have s7 := S7.1
      have s8 := S8.1
      have s9 := S9.1
      have Ta : SameX [] H6 Ha := ((S7.trans S8).trans S9).thru Sa (fun y hy => .inr (by simp at hy; omega))
      refine ⟨sbL Ta hB, fin (fun x y => _) Ta (o' := pa) (by rw [eC, eN]; exact Oa) (by omega) fun x y => ⟨rfl, rfl, rfl⟩⟩
  · refine ⟨by decide, fill_four (l := c.cells) rfl rfl rfl (by decide) (fillI (qNew fun H7 p7 e7 S7 c7 l7 => ⟨sbL S7 hB, ?_⟩))⟩
    have c7 : H7[p7]? = some (.cells c.cells true 0) := c7
    refine ⟨by decide, fillI (qNew fun H8 p8 e8 S8 c8 l8 => ⟨sbL (S7.trans S8) hB, ?_⟩)⟩
    refine ⟨by decide, appX c8 (by omega) (by omega) ((S7.trans S8).sli sco (by simp)) fun b H9 q9 B S9 hq9 => ⟨sbL ((S7.trans S8).trans S9) hB, by decide, ?_⟩⟩
    have blt := ownX_lt B q9 rfl
    refine ownX_more B (by omega) hcl (ownX_sli (ownX_new (s := 4) (n := 1) (l := c.cells) (S9.get (S8.get c7 (by simp)) (by simp)) rfl rfl)) fun nv' Ha pa ea Oa Sa => ?_
    have s7 := S7.1
    have s8 := S8.1
    have s9 := S9.1
    have Ta : SameX [] H6 Ha := ((S7.trans S8).trans S9).thru Sa (fun y hy => .inr (by simp at hy; omega))
    refine ⟨sbL Ta hB, fin (fun x y => _) Ta (o' := pa) (by rw [eC, eN]; exact Oa) (by omega) fun x y => ⟨rfl, rfl, rfl⟩⟩
end
end Go.Proofs.Ytdgpacdknpahnaa
