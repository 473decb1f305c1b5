/- Parts of the proof, 3. No conditions. -/
import Derived.Test.YthnccaajpdnndaaK2
import Derived.Conc.CrowdBase
namespace Go.Proofs.Ythnccaajpdnndaa
open Go.Conc
open Go.ConcN (sumTo upd sumTo_upd upd_ne upd_same)
open Go.ConcR (Bk)
def InBlk (S : Nat → Prop) : Loc → Prop := fun l => ∃ b, locBlk l = some b ∧ S b
structure PastS (S : Nat → Prop) (ft : Foot) (B : Nat) (t : Trace) : Prop where
  past : Past (InBlk S) B t
  shun : ∀ b, S b → ¬ ft.rd b ∧ b < B
  norel : ∀ a : Addr, ft.rd a.block → NoRelease a t
theorem evS_of {S : Nat → Prop} {ft : Foot} {e : Event} {B : Nat} (he : EvOk ft e) (hs : ∀ b, S b → ¬ ft.rd b) (hb : ∀ b, ft.rd b → b < B) : EvL (InBlk S) B e := by
  obtain ⟨_, h2, h3, h4⟩ := evL_of he hb
  refine ⟨fun x hx hsx => ?_, h2, h3, h4⟩
  obtain ⟨b, e1, e2, _⟩ := evOk_touch he hx
  obtain ⟨b', e1', hb'⟩ := hsx
  rw [e1] at e1'
  cases e1'
  exact absurd e2 (hs b hb')
theorem ok_norel {ft : Foot} {es : Array Event} (he : ∀ e ∈ es, EvOk ft e) {g : Nat} {fn : FuncId} {pos : String} (a : Addr) : ∀ op ∈ MemOp.ofEvents g fn pos es, op.act ≠ .mark (.release a) := by
  intro op hop e
  obtain ⟨x, hx, rfl⟩ := Go.Conc.mem_ofEvents hop
  have := he x hx
  obtain ⟨loc, wr, sy⟩ := x
  cases loc with
  | cell y => cases e
  | obj y =>
    obtain ⟨rfl, _⟩ := this
    cases wr <;> cases e
  | mark m => cases m <;> first | exact this.elim | cases e
  | output => exact this.elim
  | goroutines => exact this.elim
theorem bk_norel {Wg : Nat} {es : Array Event} (he : ∀ e ∈ es, Bk Wg e) {g : Nat} {fn : FuncId} {pos : String} (a : Addr) : ∀ op ∈ MemOp.ofEvents g fn pos es, op.act ≠ .mark (.release a) := by
  intro op hop e
  obtain ⟨x, hx, rfl⟩ := Go.Conc.mem_ofEvents hop
  rcases he x hx with h1 | h1 | ⟨y, wr, rfl, _⟩
  · simp only [Go.ConcR.ofEvent_loc_mark h1] at e
    cases e
  · simp only [Go.ConcR.ofEvent_loc_mark h1] at e
    cases e
  · cases e
theorem mute_norel {es : Array Event} (he : ∀ e ∈ es, Event.mute e = true) {g : Nat} {fn : FuncId} {pos : String} (a : Addr) : ∀ op ∈ MemOp.ofEvents g fn pos es, op.act ≠ .mark (.release a) :=
  bk_norel (Wg := 0) (fun e h => Go.ConcR.bk_of_mute (he e h)) a
theorem norel_fresh {t : Trace} {B : Nat} (hs : ∀ op ∈ t, op.act.low B) {a : Addr} (ha : B ≤ a.block) : NoRelease a t := by
  intro i e
  obtain ⟨op, ho, hoa⟩ := Option.map_eq_some_iff.1 e
  have := hs op (Array.mem_of_getElem? ho)
  rw [hoa] at this
  have : a.block < B := this
  omega
section
variable {S : Nat → Prop} {ft : Foot} {B B' : Nat} {t : Trace}
theorem PastS.own (h : PastS S ft B t) {fn : FuncId} {pos : String} {es : Array Event} (hes : ∀ e ∈ es, EvOk ft e) (hb : ∀ b, ft.rd b → b < B) (hB : B ≤ B') : PastS S (ft.ext B B') B' (t ++ MemOp.ofEvents 0 fn pos es) where
  past := (h.past.mono hB).own fun e he => evS_of (hes e he) (fun b hb => (h.shun b hb).1) fun b hr => Nat.lt_of_lt_of_le (hb b hr) hB
  shun := fun b hS => ⟨fun hr => hr.elim (h.shun b hS).1 fun e => by have := (h.shun b hS).2; omega, Nat.lt_of_lt_of_le (h.shun b hS).2 hB⟩
  norel := fun a ha => by
    refine NoRelease.app ?_ (ok_norel hes a)
    rcases ha with ha | ha
    · exact h.norel a ha
    · exact norel_fresh h.past.seen ha.1
theorem PastS.mute (h : PastS S ft B t) {g : Nat} (hg : g ≠ 0) {fn : FuncId} {pos : String} {es : Array Event} (hm : ∀ e ∈ es, Event.mute e = true) : PastS S ft B (t ++ MemOp.ofEvents g fn pos es) :=
  ⟨h.past.mute hg hm, h.shun, fun a ha => (h.norel a ha).app (mute_norel hm a)⟩
end
def J2 (P : Program) (W0 : World) (Post : Value → World → Prop) (g : Goroutine) (w : World) (ft : Foot) : Prop :=
  ∀ (gs : Array Goroutine) (w₁ : World) (sl : Option (Nat × Nat)) (t : Trace) (q : Nat → Nat) (S : Nat → Prop), (∀ b, ft.rd b → b < w₁.heap.size) → (∀ b, ft.wr b → ft.rd b) → RelyW ft w w₁ → Base W0 w₁ → gs[0]? = some g → Leavers P t gs q → PastS S ft w₁.heap.size t →
    Ends P Post (crowd gs w₁ sl) t
section
variable {P : Program} {W0 : World} {Post : Value → World → Prop} {g : Goroutine} {w w₁ : World} {ft : Foot}
theorem J2.both (hrun : g.status = .running)
    (h : ∀ w₁, RelyW ft w w₁ → Base W0 w₁ → (∃ g' w' es, stepG P true g w₁ = .go g' w' es ∧ g'.status = .running ∧ GuarW ft w₁ w' es ∧ J2 P W0 Post g' w' (ft.ext w₁.heap.size w'.heap.size)) ∨
      ∃ v es, stepG P true g w₁ = .ended (.done v) w₁ es ∧ (∀ e ∈ es, EvOk ft e) ∧ Post v w₁) : J2 P W0 Post g w ft := by
  intro gs w₁ sl t q S hbd hsub hrel hbase h0 hL hP
  generalize hM : sumTo gs.size q = M
  induction M using Nat.strongRecOn generalizing gs w₁ sl t q with
  | ind M ih =>
    have haw : ∀ g ∈ gs, awake g := by
      intro x hx
      obtain ⟨i, hi, rfl⟩ := Array.mem_iff_getElem.1 hx
      rcases Nat.eq_zero_or_pos i with rfl | hpos
      · have : gs[0] = g := by simpa [Array.getElem?_eq_getElem hi] using h0
        rw [this]; exact awake_of (.inl hrun)
      · exact awake_of ((hL.old i _ hpos (Array.getElem?_eq_getElem hi)).status.elim .inl fun x => .inr (.inr x))
    obtain ⟨i, x, d, sl', hi, hg, hst⟩ := crowd_pick (P := P) (w := w₁) (sl := sl) haw ⟨0, g, h0, hrun⟩
    rcases Nat.eq_zero_or_pos i with rfl | hpos
    · obtain rfl : x = g := by rw [h0] at hi; exact (Option.some.inj hi).symm
      rcases h (w₁.at d) (hrel.trans (relyW_at ft w₁ d)) ⟨hbase.tape, hbase.os, hbase.output, hbase.size⟩ with ⟨g', w', es, hgo, hrun', hgu, hJ⟩ | ⟨v, es, hend, hes, hpost⟩
      · have hrunT := runT_crowd_go (P := P) (sl := sl') (i := 0) hi (show stepG P (0 == 0) x (w₁.at d) = _ from hgo)
        have hsz : ((gs.map (woken P x g' w')).setIfInBounds 0 g').size = gs.size := by simp
        have hlt : 0 < gs.size := (Array.getElem?_eq_some_iff.1 h0).1
        have hw' : w₁.heap.size ≤ w'.heap.size := hgu.size
        refine Ends.next (hst.trans hrunT) ?_
        refine hJ _ w' sl' _ q S (fun b hb => ?_) (fun b hb => ?_) (RelyW.refl _ _) ⟨hgu.tape.trans hbase.tape, hgu.os.trans hbase.os, hgu.output.trans hbase.output, Nat.le_trans hbase.size hgu.size⟩ (by simp [hlt]) ⟨fun j y hj hy => ?_, fun j hj => ?_⟩ ?_
        · rcases hb with hb | hb
          · exact Nat.lt_of_lt_of_le (hbd b hb) hw'
          · exact hb.2
        · rcases hb with hb | hb
          · exact .inl (hsub b hb)
          · exact .inr hb
        · have hne : 0 ≠ j := by omega
          rw [Array.getElem?_setIfInBounds_ne hne, Array.getElem?_map] at hy
          obtain ⟨z, hz, rfl⟩ := Option.map_eq_some_iff.1 hy
          have hq := hL.old j z hj hz
          rw [woken_quitsD hq, Deaf_other t (by omega) _ (fun op hop => mem_g hop)]
          exact hq
        · rw [Deaf_other t (g' := 0) (by simp at hj; omega) _ (fun op hop => mem_g hop)]
          exact hL.above j (by simpa using hj)
        · exact hP.own hgu.evs hbd hw'
      · have hrunT := runT_many_ended (P := P) (sl := sl') (i := 0) hi (show stepG P (0 == 0) x (w₁.at d) = _ from hend)
        have hP' := (hP.own (fn := x.frame.fn) (pos := x.frame.place) hes hbd (Nat.le_refl _)).past
        refine ⟨0, crowd gs w₁ sl, .done v, w₁.at d, _, by simp only [runNT, hst.trans hrunT], rfl, by simp [step, hst.trans hrunT], v, rfl, hpost, hP'.clean, hP'.over, ⟨fun y hy => ?_, rfl⟩, fun j y hy hj => ?_⟩
        · obtain ⟨j, hj⟩ := List.mem_iff_getElem?.1 hy
          rw [List.getElem?_drop] at hj
          exact ⟨_, (hL.old (1 + j) y (by omega) (by simpa [crowd] using hj)).leaves⟩
        · have hq := hL.old j y (by omega) hy
          refine ⟨q j, ?_⟩
          have e : (t ++ MemOp.ofEvents 0 x.frame.fn x.frame.place es).deaf j (t ++ MemOp.ofEvents 0 x.frame.fn x.frame.place es).size = Deaf t j :=
            Deaf_other t (g := j) (g' := 0) (by omega) _ (fun op hop => mem_g hop)
          rw [e]
          exact hq.hears _
    · have hq := hL.old i x hpos hi
      have hi0 : (i == 0) = false := by simp; omega
      have hlt : i < gs.size := (Array.getElem?_eq_some_iff.1 hi).1
      cases hqi : q i with
      | zero => rw [hqi] at hq; rw [hq.1] at hg; cases hg
      | succ k =>
        rw [hqi] at hq
        rcases hq with ⟨hf, _⟩ | ⟨_, g', es, hm, hstp, hq'⟩
        · rw [hf] at hg; cases hg
        have hrunT := runT_crowd_go (P := P) (sl := sl') (i := i) hi (by rw [hi0]; exact hstp (w₁.at d))
        have hsz : ((gs.map (woken P x g' (w₁.at d))).setIfInBounds i g').size = gs.size := by simp
        have hsum : sumTo gs.size (upd q i k) + (k + 1) = sumTo gs.size q + k := by
          have := sumTo_upd q k id hlt
          simpa [hqi] using this
        refine Ends.next (hst.trans hrunT) (ih (sumTo gs.size (upd q i k)) (by omega) _ (w₁.at d) sl' _ (upd q i k) hbd (hrel.trans (relyW_at ft w₁ d)) ⟨hbase.tape, hbase.os, hbase.output, hbase.size⟩ ?_ ⟨fun j y hj hy => ?_, fun j hj => ?_⟩ (hP.mute (by omega) hm) (by rw [hsz]))
        · have hne : i ≠ 0 := by omega
          rw [Array.getElem?_setIfInBounds_ne hne, Array.getElem?_map, h0]
          simp [woken_run hrun]
        · by_cases hji : i = j
          · subst hji
            rw [Array.getElem?_setIfInBounds_self_of_lt (by simpa using hlt)] at hy
            obtain rfl := Option.some.inj hy
            rw [upd_same, Deaf_own]
            exact hq'
          · rw [Array.getElem?_setIfInBounds_ne hji, Array.getElem?_map] at hy
            obtain ⟨z, hz, rfl⟩ := Option.map_eq_some_iff.1 hy
            have hqj := hL.old j z hj hz
            rw [woken_quitsD hqj, upd_ne q k (Ne.symm hji), Deaf_other t hji _ (fun op hop => mem_g hop)]
            exact hqj
        · rw [Deaf_other t (g' := i) (by simp at hj; omega) _ (fun op hop => mem_g hop)]
          exact hL.above j (by simpa using hj)
theorem J2.closed (P : Program) (W0 : World) (Post : Value → World → Prop) : Closed P true (J2 P W0 Post) where
  rely := fun h hr gs w₂ sl t q S hbd hsub hrel hbase h0 hL hP => h gs w₂ sl t q S hbd hsub (hr.trans hrel) hbase h0 hL hP
  step := fun hrun h => J2.both hrun fun w₁ h₁ _ => by
    obtain ⟨g', w', es, a, b, c, d⟩ := h w₁ h₁
    exact .inl ⟨g', w', es, a, b, c, d⟩
theorem run_of_J2 {g : Goroutine} {w : World} {ft : Foot} (h : J2 P W0 Post g w ft) (hb : ∀ b, ft.rd b → b < w.heap.size) (hs : ∀ b, ft.wr b → ft.rd b) (hw : W0 = w) : Ends P Post (solo g w) #[] := by
  rw [solo_eq_crowd]
  have hp := past_nil
  refine h #[g] w none #[] (fun _ => 0) (fun _ => False) hb hs (RelyW.refl _ _) (by subst hw; exact ⟨rfl, rfl, rfl, Nat.le_refl _⟩) rfl (leavers_one P g) ⟨⟨hp.clean, fun i a ha hm => ?_, hp.over, hp.hears, fun op hop => by simp at hop⟩, fun b hb => hb.elim, fun a _ i e => by simp [Trace.act?] at e⟩
  exact absurd ha (by simp [touchAt, Trace.act?])
end
end Go.Proofs.Ythnccaajpdnndaa
namespace Go.Proofs.Ythnccaajpdnndaa
open Go.Conc
inductive Plan where
  | fin
  | take (i : Nat) (p : Plan)
  | last (i : Nat) (s : Bool) (p : Plan)
  | alt (i : Nat) (s : Bool) (p q : Plan)
def planOk (P : Program) (ops : Array Oper) : Plan → Nat → Array Bool → Option (List Nat) → Bool
  | .fin, n, L, r => r.isNone && (Region.ready .any ops L).isEmpty && (Nat.beq n 0 || (pickN P ops L).isNone)
  | .take i p, n, L, r => r.isNone && (match n with | 0 => false | n + 1 => (match pickN P ops L with | some k => Nat.beq k i | none => false) && planOk P ops p n (L.setIfInBounds i true) none)
  | .last i s p, n, L, r => match n with
    | 0 => false
    | m + 1 => match r with
      | none => (pickN P ops L).isNone && (match Region.ready .any ops L with | [k] => Nat.beq k i | _ => false) && (match ops[i]? with | some o => sNeed P ops i o == s | none => true) && planOk P ops p m (L.setIfInBounds i true) none
      | some r => (match r with | [k] => Nat.beq k i | _ => false) && (match ops[i]? with | some o => sNeed P ops i o == s | none => true) && planOk P ops p m (L.setIfInBounds i true) none
  | .alt i s p q, n, L, r => match n with
    | 0 => false
    | m + 1 => match r with
      | none => (pickN P ops L).isNone && (match Region.ready .any ops L with | k :: j :: l => Nat.beq k i && planOk P ops q (m + 1) L (some (j :: l)) | _ => false) && (match ops[i]? with | some o => sNeed P ops i o == s | none => true) && planOk P ops p m (L.setIfInBounds i true) none
      | some r => (match r with | k :: j :: l => Nat.beq k i && planOk P ops q (m + 1) L (some (j :: l)) | _ => false) && (match ops[i]? with | some o => sNeed P ops i o == s | none => true) && planOk P ops p m (L.setIfInBounds i true) none
def oneP (P : Program) (C : CT) (N : Nat) (ops : Array Oper) (B : Option (List Nat)) (h0 : List AObj) (i : Nat) (s sok : Bool) (dec : Dec) (f : RG) (h : List AObj) (W : Bool → Dec → RG → List AObj → Prop) : Prop :=
  match ops[i]? with
  | some o => bif dstOk N o then goG ops dec o f fun w dec f =>
      bif w then opW P C o f.r h fun v h' =>
        bif s then SameB B h0 h' ∧ W true (forget ops o.dst dec) (f.putO o.dst v) h'
        else W false (forget ops o.dst dec) (f.putO o.dst v) h'
      else bif s && !sok then False else W sok (skipD ops i o.dst dec) (f.putO o.dst undef) h
    else False
  | none => False
def planW (P : Program) (C : CT) (N : Nat) (ops : Array Oper) (B : Option (List Nat)) (h0 : List AObj) : Plan → Bool → Dec → RG → List AObj → (RG → List AObj → Prop) → Prop
  | .fin, _, _, f, h, K => K f h
  | .take i p, sok, dec, f, h, K => match ops[i]? with
    | some o => bif dstOk N o && (!isRead o.op || sok) then goG ops dec o f fun w dec f =>
        bif w then opW P C o f.r h fun v _ =>
          bif isRead o.op && B.isSome then RdOk B (readOf o.op f.r) ∧ planW P C N ops B h0 p sok (forget ops o.dst dec) (f.putO o.dst v) h K
          else planW P C N ops B h0 p sok (forget ops o.dst dec) (f.putO o.dst v) h K
        else planW P C N ops B h0 p sok (skipD ops i o.dst dec) (f.putO o.dst undef) h K
      else False
    | none => False
  | .last i s p, sok, dec, f, h, K => oneP P C N ops B h0 i s sok dec f h fun sok dec f h => planW P C N ops B h0 p sok dec f h K
  | .alt i s p q, sok, dec, f, h, K => (oneP P C N ops B h0 i s sok dec f h fun sok dec f h => planW P C N ops B h0 p sok dec f h K) ∧ planW P C N ops B h0 q sok dec f h K
section
variable {P : Program} {C : CT} {N : Nat} {ops : Array Oper} {B : Option (List Nat)} {h0 : List AObj} {K : RG → List AObj → Prop}
def oneA (P : Program) (C : CT) (N : Nat) (ops : Array Oper) (B : Option (List Nat)) (h0 : List AObj) (n : Nat) (L : Array Bool) (sok : Bool) (dec : Dec) (f : RG) (h : List AObj) (K : RG → List AObj → Prop) (i : Nat) : Prop :=
  match ops[i]? with
  | some o => bif dstOk N o then goG ops dec o f fun w dec f =>
      bif w then opW P C o f.r h fun v h' =>
        bif sNeed P ops i o then SameB B h0 h' ∧ anyW P C N ops B h0 n (L.setIfInBounds i true) true (forget ops o.dst dec) (f.putO o.dst v) h' K
        else anyW P C N ops B h0 n (L.setIfInBounds i true) false (forget ops o.dst dec) (f.putO o.dst v) h' K
      else bif sNeed P ops i o && !sok then False else anyW P C N ops B h0 n (L.setIfInBounds i true) sok (skipD ops i o.dst dec) (f.putO o.dst undef) h K
    else False
  | none => False
theorem oneP_eq {n : Nat} {L : Array Bool} {i : Nat} {s sok : Bool} {dec : Dec} {f : RG} {h : List AObj} {W : Bool → Dec → RG → List AObj → Prop} (hs : (match ops[i]? with | some o => sNeed P ops i o == s | none => true) = true)
    (hW : ∀ sok dec f h, W sok dec f h = anyW P C N ops B h0 n (L.setIfInBounds i true) sok dec f h K) : oneP P C N ops B h0 i s sok dec f h W = oneA P C N ops B h0 n L sok dec f h K i := by
  unfold oneP oneA
  cases ho : ops[i]? with
  | none => rfl
  | some o =>
    rw [ho] at hs
    have hs' : sNeed P ops i o = s := by simpa using hs
    subst hs'
    simp only [hW]
def planT (P : Program) (C : CT) (N : Nat) (ops : Array Oper) (B : Option (List Nat)) (h0 : List AObj) (K : RG → List AObj → Prop) (n : Nat) (L : Array Bool) (sok : Bool) (dec : Dec) (f : RG) (h : List AObj) (r : Option (List Nat)) : Prop :=
  match r with
  | none => anyW P C N ops B h0 n L sok dec f h K
  | some r => match n with
    | 0 => False
    | m + 1 => allOf r (oneA P C N ops B h0 m L sok dec f h K)
theorem anyW_all {n : Nat} {L : Array Bool} {sok : Bool} {dec : Dec} {f : RG} {h : List AObj} (hp : (pickN P ops L).isNone = true) (hr : (Region.ready .any ops L).isEmpty = false) :
    anyW P C N ops B h0 (n + 1) L sok dec f h K = allOf (Region.ready .any ops L) (oneA P C N ops B h0 n L sok dec f h K) := by
  conv => lhs; unfold anyW
  cases hq : pickN P ops L with
  | some k => rw [hq] at hp; cases hp
  | none =>
    simp only [hr, cond_false]
    rfl
theorem planW_eq : ∀ (p : Plan) (n : Nat) (L : Array Bool) (r : Option (List Nat)) (sok : Bool) (dec : Dec) (f : RG) (h : List AObj), planOk P ops p n L r = true →
    planW P C N ops B h0 p sok dec f h K = planT P C N ops B h0 K n L sok dec f h r
  | .fin, n, L, r, sok, dec, f, h, hk => by
    unfold planOk at hk
    simp only [Bool.and_eq_true, Option.isNone_iff_eq_none] at hk
    obtain ⟨⟨rfl, he⟩, hn⟩ := hk
    simp only [planW, planT]
    cases n with
    | zero => simp only [anyW, he, cond_true]
    | succ n =>
      have hp : pickN P ops L = none := by simpa using hn
      conv => rhs; unfold anyW
      simp only [hp, he, cond_true]
  | .take i p, n, L, r, sok, dec, f, h, hk => by
    unfold planOk at hk
    simp only [Bool.and_eq_true, Option.isNone_iff_eq_none] at hk
    obtain ⟨rfl, hk⟩ := hk
    cases n with
    | zero => cases hk
    | succ n =>
      simp only [Bool.and_eq_true] at hk
      obtain ⟨h1, h2⟩ := hk
      cases hp : pickN P ops L with
      | none => rw [hp] at h1; cases h1
      | some k =>
        rw [hp] at h1
        have : k = i := Nat.eq_of_beq_eq_true h1
        subst this
        have ih := fun sok dec f h => planW_eq p n (L.setIfInBounds k true) none sok dec f h h2
        simp only [planT] at ih ⊢
        conv => rhs; unfold anyW
        simp only [planW, ih, hp] <;> rfl
  | .last i s p, n, L, r, sok, dec, f, h, hk => by
    unfold planOk at hk
    cases n with
    | zero => cases hk
    | succ n =>
      cases r with
      | none =>
        simp only [Bool.and_eq_true] at hk
        obtain ⟨⟨⟨h1, h2⟩, h3⟩, h4⟩ := hk
        have ih := fun sok dec f h => planW_eq p n (L.setIfInBounds i true) none sok dec f h h4
        split at h2
        · rename_i k hr
          have : k = i := Nat.eq_of_beq_eq_true h2
          subst this
          simp only [planT] at ih ⊢
          rw [anyW_all h1 (by rw [hr]; rfl), hr]
          simp only [planW, allOf]
          exact oneP_eq h3 ih
        · cases h2
      | some r =>
        simp only [Bool.and_eq_true] at hk
        obtain ⟨⟨h2, h3⟩, h4⟩ := hk
        have ih := fun sok dec f h => planW_eq p n (L.setIfInBounds i true) none sok dec f h h4
        split at h2
        · rename_i k
          have : k = i := Nat.eq_of_beq_eq_true h2
          subst this
          simp only [planT] at ih ⊢
          simp only [planW, allOf]
          exact oneP_eq h3 ih
        · cases h2
  | .alt i s p q, n, L, r, sok, dec, f, h, hk => by
    unfold planOk at hk
    cases n with
    | zero => cases hk
    | succ n =>
      cases r with
      | none =>
        simp only [Bool.and_eq_true] at hk
        obtain ⟨⟨⟨h1, h2⟩, h3⟩, h4⟩ := hk
        have ih := fun sok dec f h => planW_eq p n (L.setIfInBounds i true) none sok dec f h h4
        split at h2
        · rename_i k j l hr
          simp only [Bool.and_eq_true] at h2
          have : k = i := Nat.eq_of_beq_eq_true h2.1
          subst this
          have ih2 := planW_eq q (n + 1) L (some (j :: l)) sok dec f h h2.2
          simp only [planT] at ih ih2 ⊢
          rw [anyW_all h1 (by rw [hr]; rfl), hr]
          simp only [planW, allOf]
          rw [oneP_eq h3 ih, ih2]
        · cases h2
      | some r =>
        simp only [Bool.and_eq_true] at hk
        obtain ⟨⟨h2, h3⟩, h4⟩ := hk
        have ih := fun sok dec f h => planW_eq p n (L.setIfInBounds i true) none sok dec f h h4
        split at h2
        · rename_i k j l
          simp only [Bool.and_eq_true] at h2
          have : k = i := Nat.eq_of_beq_eq_true h2.1
          subst this
          have ih2 := planW_eq q (n + 1) L (some (j :: l)) sok dec f h h2.2
          simp only [planT] at ih ih2 ⊢
          simp only [planW, allOf]
          rw [oneP_eq h3 ih, ih2]
        · cases h2
end
abbrev Plans := List (Nat × Bool × Plan)
def findP (id : Nat) : Plans → Option (Bool × Plan)
  | [] => none
  | (k, x) :: l => bif Nat.beq k id then some x else findP id l
def drawP (P : Program) (C : CT) (N : Nat) (ops : Array Oper) (s : Bool) (p : Plan) (f : RG) (h : List AObj) (K : RG → List AObj → Prop) : Prop :=
  bif s then planW P C N ops none h p true [] f h K
  else ∃ B, planW P C N ops (some B) h p true [] f h K
def plansOk (P : Program) (pl : Plans) : Code → Bool
  | .seq a b => plansOk P pl a && plansOk P pl b
  | .cond _ a b => plansOk P pl a && plansOk P pl b
  | .block _ a => plansOk P pl a
  | .scope a => plansOk P pl a
  | .loop a => plansOk P pl a
  | .rangeFunc _ _ a b => plansOk P pl a && plansOk P pl b
  | .region id ops draw => !draw || (match findP id pl with
    | some (s, p) => (still P ops == s) && planOk P ops p ops.size (Array.replicate ops.size false) none
    | none => true)
  | _ => true
inductive Cuts where
  | go
  | cut (x : Cuts)
  | un (a : Cuts)
  | bin (a b : Cuts)
def Cuts.l : Cuts → Cuts
  | .bin a _ => a
  | .un a => a
  | _ => .go
def Cuts.r : Cuts → Cuts
  | .bin _ b => b
  | _ => .go
def Cuts.into : Cuts → Cuts
  | .cut x => x
  | c => c
inductive Hold (p : Prop) : Prop where
  | mk : p → Hold p
theorem hold {p : Prop} : Hold p ↔ p := ⟨fun h => by cases h with | mk h => exact h, .mk⟩
theorem hold_eq {p : Prop} : Hold p = p := propext hold
def WX (pl : Plans) (P : Program) (J : JT) (N n0 : Nat) (fn : FuncId) : Cuts → Code → RG → List AObj → QT → Prop
  | _, .skip, f, h, Q => Q .normal f h
  | _, .label _, f, h, Q => Q .normal f h
  | _, .ret, f, h, Q => Q .ret f h
  | _, .exit id, f, h, Q => Q (.exit id) f h
  | ct, .seq a b, f, h, Q => WX pl P J N n0 fn ct.l a f h (thenK (fun f h => match ct.r with
      | .cut _ => Hold (W P J N n0 fn b f h Q)
      | x => WX pl P J N n0 fn x b f h Q) Q)
  | ct, .cond c a b, f, h, Q => cnd (ev f.r c) (WX pl P J N n0 fn ct.l a f h Q) (WX pl P J N n0 fn ct.r b f h Q)
  | ct, .block id a, f, h, Q => WX pl P J N n0 fn ct.l a f h (blockK id Q)
  | ct, .scope a, f, h, Q => WX pl P J N n0 fn ct.l a f h Q
  | _, .region id ops draw, f, h, Q => bif draw then (match findP id pl with
      | some (s, p) => drawP P (Good P J) N ops s p f h (fun f h => Q .normal f h)
      | none => drawW P (Good P J) N ops f h (fun f h => Q .normal f h)) else opsW P (Good P J) N ops (List.range ops.size) [] f h (fun f h => Q .normal f h)
  | _, c, f, h, Q => Sem J N n0 fn c f h Q
def contX (pl : Plans) (P : Program) (J : JT) (N n0 : Nat) (fn : FuncId) : Cuts → List Nat → Code → List (RG → List AObj → Prop) → QT → QT
  | ct, 0 :: p, .seq a b, nx, Q => contX pl P J N n0 fn ct.l p a nx (thenK (fun f h => match ct.r with
      | .cut _ => Hold (W P J N n0 fn b f h Q)
      | x => WX pl P J N n0 fn x b f h Q) Q)
  | ct, _ :: p, .seq _ b, nx, Q => contX pl P J N n0 fn ct.r.into p b nx Q
  | ct, 0 :: p, .cond _ a _, nx, Q => contX pl P J N n0 fn ct.l p a nx Q
  | ct, _ :: p, .cond _ _ b, nx, Q => contX pl P J N n0 fn ct.r p b nx Q
  | ct, _ :: p, .block id a, nx, Q => contX pl P J N n0 fn ct.l p a nx (blockK id Q)
  | ct, _ :: p, .scope a, nx, Q => contX pl P J N n0 fn ct.l p a nx Q
  | ct, _ :: p, .loop a, n :: nx, Q => contX pl P J N n0 fn ct.l p a nx (thenK n Q)
  | _, _, _, _, Q => Q
def subT : Cuts → List Nat → Code → Cuts
  | ct, 0 :: p, .seq a _ => subT ct.l p a
  | ct, _ :: p, .seq _ b => subT ct.r.into p b
  | ct, 0 :: p, .cond _ a _ => subT ct.l p a
  | ct, _ :: p, .cond _ _ b => subT ct.r p b
  | ct, _ :: p, .block _ a => subT ct.l p a
  | ct, _ :: p, .scope a => subT ct.l p a
  | ct, _ :: p, .loop a => subT ct.l p a
  | ct, 0 :: p, .rangeFunc _ _ a _ => subT ct.l p a
  | ct, _ :: p, .rangeFunc _ _ _ b => subT ct.r p b
  | ct, _, _ => ct
section
variable {pl : Plans} {P : Program} {J : JT} {N n0 : Nat} {fn : FuncId}
theorem drawP_eq {C : CT} {ops : Array Oper} {s : Bool} {p : Plan} {f : RG} {h : List AObj} {K : RG → List AObj → Prop} (hs : (still P ops == s) = true) (hp : planOk P ops p ops.size (Array.replicate ops.size false) none = true) :
    drawW P C N ops f h K = drawP P C N ops s p f h K := by
  have hs' : still P ops = s := by simpa using hs
  subst hs'
  unfold drawW drawP
  have e := fun B => planW_eq (P := P) (C := C) (N := N) (ops := ops) (B := B) (h0 := h) (K := K) p ops.size (Array.replicate ops.size false) none true [] f h hp
  simp only [planT] at e
  simp only [e]
theorem WX_eq : ∀ (c : Code), plansOk P pl c = true → ∀ (ct : Cuts) (f : RG) (h : List AObj) (Q : QT), W P J N n0 fn c f h Q = WX pl P J N n0 fn ct c f h Q
  | .skip, _, _, _, _, _ => rfl
  | .label _, _, _, _, _, _ => rfl
  | .ret, _, _, _, _, _ => rfl
  | .exit _, _, _, _, _, _ => rfl
  | .seq a b, hk, ct, f, h, Q => by
    simp only [plansOk, Bool.and_eq_true] at hk
    simp only [W, WX]
    rw [WX_eq a hk.1 ct.l]
    congr 2
    funext f h
    split
    · rw [hold_eq]
    · exact WX_eq b hk.2 _ f h Q
  | .cond c a b, hk, ct, f, h, Q => by
    simp only [plansOk, Bool.and_eq_true] at hk
    simp only [W, WX]
    rw [WX_eq a hk.1 ct.l, WX_eq b hk.2 ct.r]
  | .block id a, hk, ct, f, h, Q => by
    simp only [plansOk] at hk
    simp only [W, WX]
    rw [WX_eq a hk ct.l]
  | .scope a, hk, ct, f, h, Q => by
    simp only [plansOk] at hk
    simp only [W, WX]
    rw [WX_eq a hk ct.l]
  | .region id ops draw, hk, ct, f, h, Q => by
    cases draw with
    | false => rfl
    | true =>
      simp only [plansOk, Bool.not_true, Bool.false_or] at hk
      simp only [W, WX, cond_true]
      cases hf : findP id pl with
      | none => rfl
      | some x =>
        obtain ⟨s, p⟩ := x
        rw [hf] at hk
        simp only [Bool.and_eq_true] at hk
        exact drawP_eq hk.1 hk.2
  | .loop _, _, _, _, _, _ => rfl
  | .rangeFunc .., _, _, _, _, _ => rfl
  | .goto _, _, _, _, _, _ => rfl
  | .refuse _, _, _, _, _, _ => rfl
theorem plansOk_sub : ∀ (p : List Nat) (c : Code), plansOk P pl c = true → plansOk P pl (subC p c) = true := by
  intro p
  induction p with
  | nil => intro c hk; cases c <;> exact hk
  | cons i p ih =>
    intro c hk
    cases c with
    | seq a b =>
      simp only [plansOk, Bool.and_eq_true] at hk
      cases i with
      | zero => exact ih a hk.1
      | succ i => exact ih b hk.2
    | cond c a b =>
      simp only [plansOk, Bool.and_eq_true] at hk
      cases i with
      | zero => exact ih a hk.1
      | succ i => exact ih b hk.2
    | block id a => cases i <;> exact ih a hk
    | scope a => cases i <;> exact ih a hk
    | loop a => cases i <;> exact ih a hk
    | rangeFunc x y a b =>
      simp only [plansOk, Bool.and_eq_true] at hk
      cases i with
      | zero => exact ih a hk.1
      | succ i => exact ih b hk.2
    | _ => cases i <;> exact hk
def opsAt (p : List Nat) (c : Code) : Array Oper :=
  match subC p c with
  | .region _ ops _ => ops
  | _ => #[]
def opGet (ops : Array Oper) (i : Nat) : Oper := ops.getD i default
def trunc : Nat → Code → Code
  | 0, _ => .skip
  | n + 1, .seq a b => .seq a (trunc n b)
  | _, c => c
def spineOk : Nat → Code → Bool
  | 0, _ => true
  | n + 1, .seq _ b => spineOk n b
  | _, _ => false
theorem trunc_sound {main : Bool} (hJ : Closed P main J) (hm : P.follows .mixedOrders = true) {Q : QT} : ∀ (n : Nat) (c : Code) {f : RG} {h : List AObj}, spineOk n c = true →
    W P J N n0 fn (trunc n c) f h (thenK (fun f h => Sem J N n0 fn (subC (List.replicate n 1) c) f h Q) Q) → Sem J N n0 fn c f h Q
  | 0, c, f, h, _, hw => by
    have : subC (List.replicate 0 1) c = c := by cases c <;> rfl
    rw [this] at hw
    exact hw
  | n + 1, .seq a b, f, h, hs, hw => by
    simp only [trunc, W] at hw
    refine Sem_seq hJ ((W_sound hJ hm a hw).mono fun e f h q => ?_)
    cases e with
    | normal => exact trunc_sound hJ hm n b hs q
    | _ => exact q
  | n + 1, .skip, _, _, hs, _ | n + 1, .label _, _, _, hs, _ | n + 1, .ret, _, _, hs, _ | n + 1, .exit _, _, _, hs, _ | n + 1, .cond .., _, _, hs, _ | n + 1, .block .., _, _, hs, _ | n + 1, .scope _, _, _, hs, _ | n + 1, .region .., _, _, hs, _ | n + 1, .loop _, _, _, hs, _ | n + 1, .rangeFunc .., _, _, hs, _ | n + 1, .goto _, _, _, hs, _ | n + 1, .refuse _, _, _, hs, _ => by cases hs
theorem top_eq {c : Code} (hk : plansOk P pl c = true) (ct : Cuts) {f : RG} {h : List AObj} {Q : QT} {R : Prop} (e : WX pl P J N n0 fn ct c f h Q = R) : W P J N n0 fn c f h Q = R := by
  rw [WX_eq _ hk ct]
  exact e
theorem sub_eq {c : Code} (hk : plansOk P pl c = true) (ct : Cuts) {p : List Nat} {f : RG} {h : List AObj} {Q : QT} {R : Prop} (e : WX pl P J N n0 fn (subT ct p c) (subC p c) f h Q = R) : W P J N n0 fn (subC p c) f h Q = R := by
  rw [WX_eq _ (plansOk_sub p c hk) (subT ct p c)]
  exact e
end
section
variable {P : Program} {W0 : World} {Post : Value → World → Prop} {ρ : Env} {h : List AObj} {FC : Frm} {w : World} {ft : Foot} {f : RG} {a : Act} {b : FB} {K : Value → List AObj → Prop} {n0 : Nat}
theorem leave_top2 {fn : Func} (hk : b.kind = .normal) (hf : P.funcs[b.fn]? = some fn) (hin : P.inits.idxOf? b.fn = none)
    (hc : ∀ v h' ρ' w' ft' cv, K v h' → HRel ρ' h' FC w' ft' → Env.upto n0 ρ ρ' → n0 ≤ h'.length → VRel h'.length ρ' v cv → Base W0 w' → Post cv w') :
    ∀ (ds : List Nat) (h : List AObj) (w : World) (ft : Foot) (a : Act) (fr : Frame), fr.fn = b.fn → fr.kind = .normal → fr.mode = .returning → fr.tmps = a.tmps → fr.defers = ds.map (fun d => { target := .collected (ρ.blk d), args := #[] }) → RegRel h.length ρ f.r a.tmps → HRel ρ h FC w ft → n0 ≤ h.length →
      takeW ds h (fun h => resW P fn.results.toList f.r h fun vs => K (pack vs) h ∨ ∃ σ h' v, GC n0 σ h h' ∧ pack vs = sub σ v ∧ VOk h'.length v ∧ K v h') → J2 P W0 Post (G fr []) w ft
  | [], h, w, ft, a, fr, e1, e2, e3, e4, e5, hr, H, hn, hq => by
    obtain ⟨fn', tmps, todo, defers, mode, kind, ro⟩ := fr
    simp only at e1 e2 e3 e4 e5
    subst e1 e2 e3 e4 e5
    refine J2.both rfl fun w₁ h₁ hbase => .inr ?_
    have H₁ := H.rely h₁
    have hrun : RunsTo P (EvOk ft) (results fn a.tmps) w₁ fun cv w' => w' = w₁ ∧ ∃ vs, cv = ren ρ (pack vs) ∧ (∀ v ∈ vs, VOk h.length v) ∧ (K (pack vs) h ∨ ∃ σ h' v, GC n0 σ h h' ∧ pack vs = sub σ v ∧ VOk h'.length v ∧ K v h') := by
      unfold results
      have : (fn.results.mapM (resF a.tmps)) = Functor.map List.toArray (fn.results.toList.mapM (resF a.tmps)) := by
        rw [Array.mapM_eq_mapM_toList]
      show RunsTo P (EvOk ft) (do
        let vs ← fn.results.mapM (resF a.tmps)
        pure (if h : vs.size = 1 then vs[0] else .tuple vs)) w₁ _
      rw [this]
      refine RunsTo.bind (RunsTo.map (res_run (n := 0) H₁ hr fn.results.toList hq fun vs hvs hok => RunsTo.pure ⟨rfl, vs, ?_, hok, hvs⟩))
      exact pack_ren vs
    obtain ⟨cv, w', es, hr', he, rfl, vs, rfl, hvok, hvs⟩ := hrun #[] (by simp)
    have hes : ∀ e ∈ seen P b.fn es, EvOk ft e := fun e hm => he e (mem_seen hm)
    refine ⟨ren ρ (pack vs), seen P b.fn es, ?_, hes, ?_⟩
    · simp only [G, stepG, unwind, List.map_nil, hf, hr']
      simp [doReturn, GStep.after, hin]
    · rcases hvs with hK | ⟨σ, h', v, g, hp, hok, hK⟩
      · exact hc _ h _ w' ft _ hK H₁ (Env.upto_refl _ _) hn (.inr ⟨pack_ok hvok, rfl⟩) hbase
      · rw [hp, ren_sub]
        exact hc v h' _ w' ft _ hK (g.rel H₁) g.upto g.le (.inr ⟨hok, rfl⟩) hbase
  | d :: ds, h, w, ft, a, fr, e1, e2, e3, e4, e5, hr, H, hn, hq => by
    obtain ⟨fn', tmps, todo, defers, mode, kind, ro⟩ := fr
    simp only at e1 e2 e3 e4 e5
    subst e1 e2 e3 e4 e5
    obtain ⟨hd, hq⟩ := hq
    refine (J2.closed P W0 Post).step rfl fun w₁ h₁ => ?_
    have H₁ := H.rely h₁
    obtain ⟨cv, w', es, hr', he, rfl, H', hst, hsz⟩ := take_run (P := P) H₁ hd (Q := fun l w' => l = [] ∧ HRel ρ (h.set d .dead) FC w' ft ∧ Stays ft w₁ w' ∧ w'.heap.size = w₁.heap.size) (fun w' a1 a2 a3 => ⟨rfl, a1, a2, a3⟩) #[] (by simp)
    have hes : ∀ e ∈ seen P b.fn es, EvOk ft e := fun e hm => he e (mem_seen hm)
    refine ⟨G { fn := b.fn, tmps := a.tmps, todo := todo, defers := ds.map (fun d => { target := .collected (ρ.blk d), args := #[] }), mode := .returning, kind := .normal, roundOf := ro } [], w', seen P b.fn es, ?_, rfl, hst.guar hes, ?_⟩
    · simp only [G, stepG, unwind, List.map_cons, hr']
      simp [GStep.after]
    · rw [hsz, Foot.ext_self]
      exact leave_top2 hk hf hin hc ds _ w' ft a _ rfl rfl rfl rfl rfl (by rw [List.length_set]; exact hr) H' (by rw [List.length_set]; exact hn) hq
theorem top_of_W2 (hm : P.follows .mixedOrders = true) {g : FuncId} {fn : Func} (hf : P.funcs[g]? = some fn) {c : Code} (hb : fn.body = some c) (hin : P.inits.idxOf? g = none) {args : List Value} {cargs : Array Value} (ha : args.length ≤ fn.ntmps) (hl : cargs.size = args.length)
    (hr : ∀ i : Nat, VRel h.length ρ (args.getD i unk) (cargs.toList.getD i undef)) (H : HRel ρ h FC w ft)
    (hs : W P (J2 P W0 Post) fn.ntmps h.length g c ⟨regs args, []⟩ h (RetQ P fn.results.toList h.length K))
    (hc : ∀ v h' ρ' w' ft' cv, K v h' → HRel ρ' h' FC w' ft' → Env.upto h.length ρ ρ' → h.length ≤ h'.length → VRel h'.length ρ' v cv → Base W0 w' → Post cv w') : J2 P W0 Post (G (Frame.enter P g cargs .normal) []) w ft := by
  have hJ := J2.closed P W0 Post
  obtain ⟨cargs⟩ := cargs
  simp only at hl hr
  have he : Frame.enter P g ⟨cargs⟩ .normal = FB.at ⟨g, .normal, none, []⟩ ⟨⟨cargs⟩ ++ Array.replicate (fn.ntmps - cargs.length) undef, []⟩ [.code c] := by
    simp [Frame.enter, FB.at, hf, hb]
  rw [he]
  have A : ActRel h.length ρ fn.ntmps ⟨regs args, []⟩ ⟨⟨cargs⟩ ++ Array.replicate (fn.ntmps - cargs.length) undef, []⟩ := by
    refine ⟨fun t => ?_, by simp at hl ⊢; omega, rfl, by simp⟩
    have := hr t
    have ht : ((⟨cargs⟩ : Array Value) ++ Array.replicate (fn.ntmps - cargs.length) undef).getD t undef = cargs.getD t undef := by
      rw [Array.getD_eq_getD_getElem?, List.getD_eq_getElem?_getD]
      by_cases hx : t < cargs.length
      · rw [Array.getElem?_append_left (by simpa using hx)]
        simp
      · rw [Array.getElem?_append_right (by simp; omega), List.getElem?_eq_none (by omega)]
        simp only [Array.getElem?_replicate]
        split <;> rfl
    rw [ht]
    exact this
  have last : ∀ f' h' ρ' w' ft' a' todo, RetQ P fn.results.toList h.length K .ret f' h' → ActRel h'.length ρ' fn.ntmps f' a' → HRel ρ' h' FC w' ft' → Env.upto h.length ρ ρ' → h.length ≤ h'.length →
      J2 P W0 Post (G { (FB.at ⟨g, .normal, none, []⟩ a' todo) with mode := .returning } []) w' ft' := by
    intro f' h' ρ' w' ft' a' todo q A' H' hu hl
    exact leave_top2 (b := ⟨g, .normal, none, []⟩) (f := f') (n0 := h.length) (ρ := ρ') rfl hf hin (fun v h2 ρ2 w2 ft2 cv k H2 u2 l2 v2 => hc v h2 ρ2 w2 ft2 cv k H2 (Env.upto_trans hu u2) l2 v2) f'.ds h' w' ft' a' _ rfl rfl rfl rfl ((List.append_nil _).trans A'.defers) A'.regs H' hl q
  refine W_sound hJ hm c hs ⟨g, .normal, none, []⟩ _ [] [] (fun jump a w ft => jump = some .ret ∧ ∀ todo, J2 P W0 Post (G { (FB.at ⟨g, .normal, none, []⟩ a todo) with mode := .returning } []) w ft) ρ FC w ft rfl (by simp) ?_ A H (Nat.le_refl _) ?_
  · rintro jump a w ft todo ⟨rfl, hj⟩ hh
    rcases hh with ⟨_, k, rfl⟩ | ⟨id, k, e, _⟩ | ⟨e, _⟩
    · exact hJ.ctrl rfl rfl (fun w => by simp [G, stepG, stepG.exec, FB.at]) (hj (.code .ret :: k))
    · cases e
    · cases e
  · intro e f' h' ρ' w' ft' a' q A' H' hu hl
    cases e with
    | normal => exact hJ.ctrl rfl rfl (fun w => by simp [G, stepG, stepG.exec, FB.at]) (last f' h' ρ' w' ft' a' [] q A' H' hu hl)
    | ret => exact ⟨rfl, fun todo => last f' h' ρ' w' ft' a' todo q A' H' hu hl⟩
    | exit id => exact q.elim
    | goto l => exact q.elim
    | panic l => exact q.elim
    | outgrown => exact q.elim
end
end Go.Proofs.Ythnccaajpdnndaa
namespace Go.Proofs.Ythnccaajpdnndaa
open Go.Conc Go.ChangeShapes Go.WideShapes Go.ChangeAt Go.RowKit Go.Proofs.Try
set_option maxRecDepth 100000
theorem law_run2 {g : FuncId} {fn : Func} {c : Code} (hf : prog.funcs[g]? = some fn) (hb : fn.body = some c) (hin : prog.inits.idxOf? g = none) (W₀ : World) (args : List Value) (ha : args.length ≤ fn.ntmps) (hok : ∀ v ∈ args, ArgOk W₀ v)
    (walk : ∀ Post, W prog (J2 prog W₀ Post) fn.ntmps (absH W₀).length g c ⟨regs args, []⟩ (absH W₀) (RetQ prog fn.results.toList (absH W₀).length fun v _ => v = .bool true)) :
    Ends prog (fun v w' => v = .bool true ∧ Below W₀.heap.size W₀ w') (solo (G (Frame.enter prog g ⟨args⟩ .normal) []) W₀) #[] := by
  refine run_of_J2 (W0 := W₀) (ft := startFt W₀) (top_of_W2 mixed hf hb hin ha rfl (fun i => ?_) (start_rel W₀) (walk _) ?_) (fun b hb => hb) (fun b hb => hb.elim) rfl
  · show VRel (absH W₀).length idEnv (args.getD i unk) (args.getD i undef)
    simp only [List.getD_eq_getElem?_getD]
    cases hi : args[i]? with
    | none => exact .inl rfl
    | some v =>
      obtain ⟨h1, h2⟩ := hok v (List.mem_of_getElem? hi)
      exact .inr ⟨by rw [absH_len]; exact h1, h2.symm⟩
  · intro v h' ρ' w' ft' cv hv H' _ _ hcv hB
    subst hv
    refine ⟨?_, below_of H' hB⟩
    rcases hcv with e | ⟨_, e⟩
    · cases e
    · rw [e]
      rfl
end Go.Proofs.Ythnccaajpdnndaa
namespace Go.Proofs.Ythnccaajpdnndaa
open Go.Conc
def putAll : (Nat → Value) → List Nat → List Value → Nat → Value
  | r, t :: ts, v :: vs => putAll (fun i => bif i == t then v else r i) ts vs
  | r, _, _ => r
def jumpQ (pend : Option Code) (Q : QT) (f : RG) (h : List AObj) : Prop :=
  match pend with
  | none => Q .normal f h
  | some .ret => Q .ret f h
  | some (.exit id) => Q (.exit id) f h
  | _ => False
def endQ (n : Nat) (f : RG) (Q : QT) : Value → List AObj → Prop := fun _ h =>
  ∃ st pend fn r size params assign body dfr, h[n + 1]? = some (.loop st pend fn r size params assign body dfr) ∧ st ≠ .busy ∧ jumpQ pend Q ⟨f.r, n :: f.ds⟩ (h.set (n + 1) .dead)
def Fin (n0 : Nat) (K : Value → List AObj → Prop) (t : Bool) (h : List AObj) : Prop := K (.bool t) h ∨ ∃ σ h', GC n0 σ h h' ∧ K (.bool t) h'
def roundQ (l n0 : Nat) (K : Value → List AObj → Prop) : QT := fun e _ h =>
  ∃ st pend fn r size params assign body dfr, h[l]? = some (.loop st pend fn r size params assign body dfr) ∧
    match e with
    | .normal => Fin n0 K true (h.set l (.loop .ready none fn r size params assign body dfr))
    | .exit id => Fin n0 K false (h.set l (.loop .done (some (.exit id)) fn r size params assign body dfr))
    | .ret => Fin n0 K false (h.set l (.loop .done (some .ret) fn r size params assign body dfr))
    | _ => False
section
variable {P : Program} {main : Bool} {J : JT} {N n0 : Nat} {ρ : Env} {h : List AObj} {FC : Frm} {w : World} {ft : Foot} {f : RG} {a : Act} {cs : List Frame} {b : FB} {fn : FuncId} {Q : QT}
theorem regs_putAll {n : Nat} : ∀ (ps : List Nat) (vs cs : List Value) {r : Nat → Value} {tmps : Array Value}, RegRel n ρ r tmps → (∀ t ∈ ps, t < tmps.size) → vs.length = cs.length → (∀ i : Nat, VRel n ρ (vs.getD i unk) (cs.getD i undef)) →
    RegRel n ρ (putAll r ps vs) ((ps.zip cs).foldl (fun tmps (t, a) => tmps.setIfInBounds t a) tmps) ∧ ((ps.zip cs).foldl (fun tmps (t, a) => tmps.setIfInBounds t a) tmps).size = tmps.size
  | [], vs, cs, r, tmps, hr, _, _, _ => by
    cases vs <;> exact ⟨hr, rfl⟩
  | t :: ps, [], cs, r, tmps, hr, _, hl, _ => by
    cases cs with
    | nil => exact ⟨hr, rfl⟩
    | cons c cs => cases hl
  | t :: ps, v :: vs, cs, r, tmps, hr, ht, hl, hv => by
    cases cs with
    | nil => cases hl
    | cons c cs =>
      have h0 := hv 0
      simp only [List.getD_cons_zero] at h0
      have := regs_putAll ps vs cs (regs_put hr (ht t (by simp)) h0) (fun x hx => by simpa using ht x (by simp [hx])) (by simpa using hl) (fun i => by simpa using hv (i + 1))
      simpa [putAll] using this
theorem zip_fold (ps : List Nat) (cs : List Value) (tmps : Array Value) : ((⟨ps⟩ : Array Tmp).zip ⟨cs⟩).foldl (fun tmps (t, a) => tmps.setIfInBounds t a) tmps = (ps.zip cs).foldl (fun tmps (t, a) => tmps.setIfInBounds t a) tmps := by
  rw [List.zip_toArray]
  simp
theorem tag_none (hb : b.tag = fn) (hf : fn < 1000000) : b.ro = none ∧ b.fn = fn := by
  unfold FB.tag at hb
  cases e : b.ro with
  | none => rw [e] at hb; exact ⟨rfl, hb⟩
  | some l =>
    rw [e] at hb
    have : (1000000 : Nat) ≤ fn := hb ▸ Nat.le_add_left _ _
    exact absurd hf (Nat.not_lt.2 this)
theorem Sem_range (hJ : Closed P main J) (hfn : fn < 1000000) {fop : Operand} {params : Array Tmp} {assign body : Code} {g : FuncId} {first cap : List Value} (hx : ev f.r fop = .func (.func g) ⟨first⟩ ⟨cap⟩) (hg : g < P.funcs.size)
    (hs : Good P J g (first ++ [.func (.yield (h.length + 1)) ⟨[]⟩ ⟨[]⟩] ++ cap) (h ++ [.deferred] ++ [.loop .ready none fn f.r N params assign body h.length]) (endQ h.length f Q)) (hcall : callable P g = true) : Sem J N n0 fn (.rangeFunc fop params assign body) f h Q := by
  intro b a k cs L ρ FC w ft h1 h2 h3 h4 h5 h6 hc
  obtain ⟨hro, hbf⟩ := tag_none h1 hfn
  have hk' : (b.kind == CallKind.early) = false := by simpa using h2
  obtain ⟨hok, hv⟩ := (ev_rel h4.regs fop).val (by rw [hx]; simp [unk])
  rw [hx] at hv hok
  simp only [ren, renFn, renA, renL_eq] at hv
  simp only [VOk, AOk] at hok
  have hs : GoodF P J g (first ++ [.func (.yield (h.length + 1)) ⟨[]⟩ ⟨[]⟩] ++ cap) (h ++ [.deferred] ++ [.loop .ready none fn f.r N params assign body h.length]) (endQ h.length f Q) := by
    rcases hs with hs | ⟨⟨_, hx⟩, _⟩
    · exact hs
    · rw [hcall] at hx
      cases hx
  have hcl : callable P g = true := by
    rcases hs.1 with ⟨_, x⟩ | ⟨x, _⟩
    · exact x
    · exact absurd hg (Nat.not_lt.2 x)
  refine hJ.step rfl fun w₁ hr => ?_
  have H₁ := h5.rely hr
  have G1 := H₁.push .deferred (.deferred (some [])) 0 trivial w₁.drawn
  have A1 := upto_act G1.upto G1.len h4
  have e1 : (h ++ [AObj.deferred]).length = h.length + 1 := by simp
  have b1 : (ρ.put h.length w₁.heap.size 0).blk h.length = w₁.heap.size := (Env.put_self ρ h.length w₁.heap.size 0).1
  have G2 := G1.rel.push (.loop .ready none fn f.r N params assign body h.length) (.loop { state := .ready, pending := none, fn, tmps := a.tmps, params, assign, body, defers := w₁.heap.size }) 0
    ⟨rfl, rfl, rfl, A1.regs.congr (Env.put_upto _ _ _ _) (by simp), A1.size, rfl, rfl, rfl, by
      have := (Env.put_upto (ρ.put h.length w₁.heap.size 0) (h ++ [AObj.deferred]).length (w₁.heap.push (.deferred (some []))).size 0) h.length (by simp)
      rw [this.1, b1], by simp; omega⟩ w₁.drawn
  have hent : RunsTo P (EvOk ft) (Instr.enterLoop fn a.tmps params assign body none) w₁ fun r w' => r = (w₁.heap.size + 1, [{ target := .collected w₁.heap.size, args := #[] }]) ∧
      w' = { w₁ with heap := (w₁.heap.push (.deferred (some []))).push (.loop { state := .ready, pending := none, fn, tmps := a.tmps, params, assign, body, defers := w₁.heap.size }) } := by
    unfold Instr.enterLoop
    refine RunsTo.bind (RunsTo.bind (RunsTo.new ?_))
    exact RunsTo.pure (P := P) (RunsTo.pure (P := P) ⟨by simp, rfl⟩)
  obtain ⟨r, w', es, hr1, he1, rfl, hw'⟩ := hent #[] (by simp)
  have hes1 : ∀ e ∈ seen P b.fn es, EvOk ft e := fun e hm => he1 e (mem_seen hm)
  have hres : RunsTo P (EvOk ft) (do let d ← resolve (b.at ⟨a.tmps, { target := .collected w₁.heap.size, args := #[] } :: a.defers⟩ (.inRangeFunc (w₁.heap.size + 1) :: k)).eval { callee := .value fop, args := #[.const (.func (.yield (w₁.heap.size + 1)) #[] #[])], argTypes := #[] } 0; invoke d.target d.args) w' fun nx w'' =>
      nx = .enter g ⟨first.map (ren ρ) ++ [.func (.yield (w₁.heap.size + 1)) #[] #[]] ++ cap.map (ren ρ)⟩ ∧ w'' = w' := by
    unfold resolve
    have hev : (b.at ⟨a.tmps, { target := .collected w₁.heap.size, args := #[] } :: a.defers⟩ (.inRangeFunc (w₁.heap.size + 1) :: k)).eval fop = .func (.func g) ⟨first.map (ren ρ)⟩ ⟨cap.map (ren ρ)⟩ := by
      rw [← hv]
      cases fop <;> rfl
    simp only [hev, Deferred.ofValue]
    refine RunsTo.bind (RunsTo.pure ?_)
    unfold invoke
    simp only
    refine callFunc_run hcl ⟨?_, rfl⟩
    congr 1
    apply Array.ext'
    simp [Frame.eval]
  obtain ⟨nx, w'', es2, hr2, he2, rfl, rfl⟩ := hres #[] (by simp)
  have hes2 : ∀ e ∈ seen P b.fn es2, EvOk ft e := fun e hm => he2 e (mem_seen hm)
  have hst : Stays ft w₁ w'' := by
    have := G1.stays.trans (w₂ := { w₁ with heap := (w₁.heap.push (.deferred (some []))).push (.loop { state := .ready, pending := none, fn, tmps := a.tmps, params, assign, body, defers := w₁.heap.size }) })
      ⟨fun y hy hn => by
        show ((w₁.heap.push _).push _)[y]? = (w₁.heap.push _)[y]?
        rw [Array.getElem?_push_lt hy, Array.getElem?_eq_getElem hy], by simp, rfl, rfl, rfl⟩
    rw [hw']
    exact this
  have hext : (ft.ext w₁.heap.size (w₁.heap.push (.deferred (some []))).size).ext (w₁.heap.push (.deferred (some []))).size w''.heap.size = ft.ext w₁.heap.size w''.heap.size := by
    have hsz : w''.heap.size = w₁.heap.size + 2 := by rw [hw']; simp
    simp only [Foot.ext, Foot.mk.injEq, hsz, Array.size_push]
    exact ⟨by funext y; by_cases hy : ft.rd y <;> simp [hy] <;> omega, by funext y; by_cases hy : ft.wr y <;> simp [hy] <;> omega, trivial⟩
  have H2 : HRel ((ρ.put h.length w₁.heap.size 0).put (h ++ [AObj.deferred]).length (w₁.heap.push (.deferred (some []))).size 0) (h ++ [.deferred] ++ [.loop .ready none fn f.r N params assign body h.length]) FC w'' (ft.ext w₁.heap.size w''.heap.size) := by
    rw [← hext, hw']
    exact G2.rel
  generalize hρ2 : ((ρ.put h.length w₁.heap.size 0).put (h ++ [AObj.deferred]).length (w₁.heap.push (.deferred (some []))).size 0) = ρ2 at H2
  have hu2 : Env.upto h.length ρ ρ2 := by
    rw [← hρ2]
    exact Env.upto_trans (Env.put_upto _ _ _ _) (Env.upto_le (Env.put_upto _ _ _ _) (by simp))
  have hbd : ρ2.blk h.length = w₁.heap.size := by
    rw [← hρ2]
    rw [((Env.put_upto (ρ.put h.length w₁.heap.size 0) (h ++ [AObj.deferred]).length (w₁.heap.push (.deferred (some []))).size 0) h.length (by simp)).1, b1]
  have hbl : ρ2.blk (h.length + 1) = w₁.heap.size + 1 := by
    rw [← hρ2]
    have := (Env.put_self (ρ.put h.length w₁.heap.size 0) (h ++ [AObj.deferred]).length (w₁.heap.push (.deferred (some []))).size 0).1
    rw [e1] at this
    rw [e1, this]
    simp
  refine ⟨G (Frame.enter P g ⟨first.map (ren ρ) ++ [.func (.yield (w₁.heap.size + 1)) #[] #[]] ++ cap.map (ren ρ)⟩ .normal) (b.at ⟨a.tmps, { target := .collected w₁.heap.size, args := #[] } :: a.defers⟩ (.inRangeFunc (w₁.heap.size + 1) :: k) :: cs), w'', seen P b.fn es ++ seen P b.fn es2, ?_, rfl, hst.guar (fun e hm => ?_), ?_⟩
  · have hr2' := hr2
    simp only [FB.at, List.cons_append] at hr2'
    simp only [G, stepG, stepG.exec, FB.at, hro, hbf, hr1, GStep.after, stepG.apply]
    rw [hro, hbf] at hr2'
    simp only [List.cons_append, List.nil_append, hr2', if_true, hk']
    simp
  · rcases Array.mem_append.1 hm with hm | hm
    · exact hes1 e hm
    · exact hes2 e hm
  · have hargs : ∀ i : Nat, VRel (h ++ [AObj.deferred] ++ [AObj.loop .ready none fn f.r N params assign body h.length]).length ρ2 ((first ++ [Value.func (.yield (h.length + 1)) ⟨[]⟩ ⟨[]⟩] ++ cap).getD i unk) ((first.map (ren ρ) ++ [Value.func (.yield (w₁.heap.size + 1)) #[] #[]] ++ cap.map (ren ρ)).getD i undef) := by
      have hlen : h.length ≤ (h ++ [AObj.deferred] ++ [AObj.loop .ready none fn f.r N params assign body h.length]).length := by simp
      have hcg : ∀ l, LOk h.length l → l.map (ren ρ) = l.map (ren ρ2) := fun l hl => List.map_congr_left fun v hv => (ren_congr hu2 v ((LOk_iff l).1 hl v hv)).symm
      rw [hcg first hok.2.1, hcg cap hok.2.2]
      refine getD_app (by simp) (getD_app (by simp) (getD_ren (LOk.mono hlen _ hok.2.1)) fun i => ?_) (getD_ren (LOk.mono hlen _ hok.2.2))
      cases i with
      | zero => exact .inr ⟨by simp [VOk, FnOk, AOk, LOk], by simp [ren, renFn, renA, renL, hbl]⟩
      | succ i => exact .inl (by simp)
    refine hs.2 ρ2 FC w'' _ cs _ _ _ H2 hargs (by simp) (.inl ⟨hg, rfl⟩) fun v h' ρ' w3 ft3 cv hK H3 hu3 hl3 hv3 => ?_
    obtain ⟨st, pend, fn', r', size', params', assign', body', dfr', hlk, hst, hj⟩ := hK
    have hfin : (b.at ⟨a.tmps, { target := .collected w₁.heap.size, args := #[] } :: a.defers⟩ (.inRangeFunc (w₁.heap.size + 1) :: k)).finish cv = b.at ⟨a.tmps, { target := .collected w₁.heap.size, args := #[] } :: a.defers⟩ (.endRangeFunc (w₁.heap.size + 1) :: k) := rfl
    rw [hfin]
    have hlen2 : h.length + 2 = (h ++ [AObj.deferred] ++ [AObj.loop .ready none fn f.r N params assign body h.length]).length := by simp
    have hbl3 : ρ'.blk (h.length + 1) = w₁.heap.size + 1 := by rw [(hu3 _ (by omega)).1, hbl]
    have hbd3 : ρ'.blk h.length = w₁.heap.size := by rw [(hu3 _ (by omega)).1, hbd]
    have hu03 : Env.upto h.length ρ ρ' := Env.upto_trans hu2 (Env.upto_le hu3 (by omega))
    have A3 : ActRel h'.length ρ' N ⟨f.r, h.length :: f.ds⟩ ⟨a.tmps, { target := .collected w₁.heap.size, args := #[] } :: a.defers⟩ := by
      have A := upto_act (m := h'.length) hu03 (by omega) h4
      exact ⟨A.regs, A.size, by simp [A.defers, hbd3], by
        intro y hy
        rcases List.mem_cons.1 hy with rfl | hy
        · omega
        · exact A.ok y hy⟩
    refine hJ.step rfl fun w4 hr4 => ?_
    have H4 := H3.rely hr4
    have hobj := H4.obj _ _ hlk
    have hrd := H4.rd _ _ hlk rfl
    have hwr := H4.wr _ _ hlk rfl
    rw [hbl3] at hobj hrd hwr
    match hlo : w4.heap[w₁.heap.size + 1]?, hobj with
    | some (.loop lo), hobj =>
      obtain ⟨q1, q2, _⟩ := hobj
      have hend : RunsTo P (EvOk ft3) (Instr.endLoop (w₁.heap.size + 1)) w4 fun j w5 => j = pend ∧ w5 = { w4 with heap := w4.heap.setIfInBounds (w₁.heap.size + 1) (.loop { lo with state := .exhausted }) } := by
        unfold Instr.endLoop Instr.getLoop
        refine RunsTo.bind (RunsTo.bind (RunsTo.getObj hlo (fun _ _ _ e => by cases e) ⟨rfl, hrd, fun e => by cases e⟩ (RunsTo.pure ?_)))
        have : (lo.state == LoopState.busy) = false := by
          rw [q1]
          cases st <;> first | rfl | exact absurd rfl hst
        simp only [this]
        rw [if_neg (by simp)]
        exact RunsTo.bind (RunsTo.setObj hlo (fun _ _ _ e => by cases e) ⟨rfl, hrd, fun _ => hwr⟩ (RunsTo.pure ⟨q2, rfl⟩))
      obtain ⟨j, w5, es3, hr5, he5, rfl, hw5⟩ := hend #[] (by simp)
      have hes3 : ∀ e ∈ seen P b.fn es3, EvOk ft3 e := fun e hm => he5 e (mem_seen hm)
      have H5 := H4.clobber hlk rfl (.loop { lo with state := .exhausted })
      rw [hbl3, ← hw5] at H5
      have hst5 : Stays ft3 w4 w5 := by
        rw [hw5]
        refine ⟨fun y hy hny => ?_, by simp, rfl, rfl, rfl⟩
        show (w4.heap.setIfInBounds (w₁.heap.size + 1) _)[y]? = _
        rw [Array.getElem?_setIfInBounds, if_neg (fun e => hny (by rw [← e]; exact hwr))]
      have hsz5 : w5.heap.size = w4.heap.size := by rw [hw5]; simp
      refine ⟨G (b.at ⟨a.tmps, { target := .collected w₁.heap.size, args := #[] } :: a.defers⟩ ((j.map Item.code).toList ++ k)) cs, w5, seen P b.fn es3, ?_, rfl, hst5.guar hes3, ?_⟩
      · simp only [G, stepG, stepG.exec, FB.at, hr5, GStep.after]
        simp
      · rw [hsz5, Foot.ext_self]
        have hl5 : (h'.set (h.length + 1) .dead).length = h'.length := by simp
        have A5 : ActRel (h'.set (h.length + 1) .dead).length ρ' N ⟨f.r, h.length :: f.ds⟩ ⟨a.tmps, { target := .collected w₁.heap.size, args := #[] } :: a.defers⟩ := by rw [hl5]; exact A3
        have hu5 : Env.upto n0 ρ ρ' := Env.upto_le hu03 h6
        have hn5 : n0 ≤ (h'.set (h.length + 1) .dead).length := by rw [hl5]; omega
        unfold jumpQ at hj
        split at hj
        · exact hc _ _ _ _ _ _ _ hj A5 H5 hu5 hn5
        · have := hc _ _ _ _ _ _ _ hj A5 H5 hu5 hn5
          exact h3 _ _ _ _ _ this (.inl ⟨rfl, _, rfl⟩)
        · rename_i id
          have := hc _ _ _ _ _ _ _ hj A5 H5 hu5 hn5
          unfold AfterJ at this
          simp only at this
          cases he : exitTo id k with
          | some k' =>
            rw [he] at this
            exact hJ.ctrl rfl rfl (g' := G (b.at _ k') cs) (fun w => by simp [G, stepG, stepG.exec, FB.at, he]) this
          | none =>
            rw [he] at this
            exact h3 _ _ _ _ _ this (.inr (.inl ⟨id, k, rfl, rfl, he⟩))
        · exact hj.elim
theorem leave_round (hJ : Closed P main J) {l : Nat} {c : Frame} {n0 : Nat} {K : Value → List AObj → Prop} {jump : Option Code} {todo : List Item} (hro : b.ro = some (ρ.blk l)) (hk : b.kind = .normal) (hh : Heads jump todo) (H : HRel ρ h FC w ft)
    {st : LoopState} {pend : Option Code} {fn : FuncId} {r : Nat → Value} {size : Nat} {params : Array Tmp} {assign body : Code} {dfr : Nat} (hl : h[l]? = some (.loop st pend fn r size params assign body dfr))
    (hF : Fin n0 K jump.isNone (h.set l (.loop (if jump.isNone then .ready else .done) jump fn r size params assign body dfr))) (hn : n0 ≤ h.length)
    (hc : ∀ v h' ρ' w' ft' cv, K v h' → HRel ρ' h' FC w' ft' → Env.upto n0 ρ ρ' → n0 ≤ h'.length → VRel h'.length ρ' v cv → J (G (c.finish cv) cs) w' ft') : J (G (b.at a todo) (c :: cs)) w ft := by
  refine hJ.step rfl fun w₁ hr => ?_
  have H₁ := H.rely hr
  have hobj := H₁.obj _ _ hl
  have hrd := H₁.rd _ _ hl rfl
  have hwr := H₁.wr _ _ hl rfl
  match hlo : w₁.heap[ρ.blk l]?, hobj with
  | some (.loop lo), hobj =>
    have hobj' := hobj
    obtain ⟨q1, q2, q3, q4, q5, q6, q7, q8, q9, q10⟩ := hobj'
    have hend : RunsTo P (EvOk ft) (Instr.endRound (ρ.blk l) jump) w₁ fun v w5 => v = .bool jump.isNone ∧ w5 = { w₁ with heap := w₁.heap.setIfInBounds (ρ.blk l) (.loop { lo with state := if jump.isNone then .ready else .done, pending := jump }) } := by
      unfold Instr.endRound Instr.getLoop
      refine RunsTo.bind (RunsTo.bind (RunsTo.getObj hlo (fun _ _ _ e => by cases e) ⟨rfl, hrd, fun e => by cases e⟩ (RunsTo.pure ?_)))
      exact RunsTo.bind (RunsTo.setObj hlo (fun _ _ _ e => by cases e) ⟨rfl, hrd, fun _ => hwr⟩ (RunsTo.pure ⟨rfl, rfl⟩))
    obtain ⟨v, w5, es, hrun, he, rfl, hw5⟩ := hend #[] (by simp)
    have hes : ∀ e ∈ seen P b.fn es, EvOk ft e := fun e hm => he e (mem_seen hm)
    have G5 := H₁.setBlk hl rfl (o := .loop (if jump.isNone then .ready else .done) jump fn r size params assign body dfr) (x := .loop { lo with state := if jump.isNone then .ready else .done, pending := jump }) rfl
      ⟨rfl, rfl, q3, q4, q5, q6, q7, q8, q9, q10⟩
    rw [← hw5] at G5
    refine ⟨G (c.finish (.bool jump.isNone)) cs, w5, seen P b.fn es, ?_, rfl, G5.stays.guar hes, ?_⟩
    · rcases hh with ⟨rfl, k, rfl⟩ | ⟨id, k, rfl, rfl, hex⟩ | ⟨rfl, rfl⟩
      · simp only [G, stepG, stepG.exec, FB.at, hro, hrun]
        simp [doReturn, GStep.after, hk]
      · simp only [G, stepG, stepG.exec, FB.at, hro, hex, Option.elim, hrun]
        simp [doReturn, GStep.after, hk]
      · simp only [G, stepG, stepG.exec, FB.at, hro, hrun]
        simp [doReturn, GStep.after, hk]
    · rcases hF with hK | ⟨σ, h', g, hK⟩
      · exact hc _ _ _ _ _ _ hK G5.rel (Env.upto_refl _ _) (by rw [List.length_set]; exact hn) (.inr ⟨by simp [VOk], by simp [ren]⟩)
      · exact hc _ _ _ _ _ _ hK (g.rel G5.rel) g.upto g.le (.inr ⟨by simp [VOk], by simp [ren]⟩)
theorem good_round (hJ : Closed P main J) {l : Nat} {args : List Value} {K : Value → List AObj → Prop} {pend : Option Code} {r : Nat → Value} {size : Nat} {params : Array Tmp} {assign body : Code} {dfr : Nat}
    (hl : h[l]? = some (.loop .ready pend fn r size params assign body dfr)) (hn : params.size = args.length) (hp : ∀ t ∈ params.toList, t < size)
    (hs : heapOk h → Sem J size h.length (fn + 1000000) assign ⟨putAll r params.toList args, []⟩ h fun e f1 h1 => e = .normal ∧ ∃ pend fn' r' size' params' assign' body' dfr', h1[l]? = some (.loop .ready pend fn' r' size' params' assign' body' dfr') ∧
      Sem J size h.length (fn + 1000000) body f1 (h1.set l (.loop .busy pend fn' r' size' params' assign' body' dfr')) (roundQ l h.length K)) : Good P J (yid P l) args h K := by
  have hge : P.funcs.size ≤ yid P l := Nat.le_add_right _ _
  have hll : yid P l - P.funcs.size = l := by simp [yid]
  have hlt : l < h.length := (List.getElem?_eq_some_iff.1 hl).1
  refine .inl ⟨.inr ⟨hge, _, _, _, _, _, _, _, _, _, by rw [hll]; exact hl, hn⟩, fun ρ FC w ft cs c cargs fr H hr hlen hent hc => ?_⟩
  rcases hent with ⟨hlt, _⟩ | ⟨_, lo, hlo, hsz, rfl⟩
  · omega
  · rw [hll] at hlo
    rw [hll]
    have hobj := H.obj _ _ hl
    rw [hlo] at hobj
    obtain ⟨q1, q2, q3, q4, q5, q6, q7, q8, q9, q10⟩ := hobj
    subst q3
    have hreg := regs_putAll params.toList args cargs q4 (by rw [q5]; exact hp) hlen.symm hr
    have hz : (lo.params.zip ⟨cargs⟩).foldl (fun tmps (t, a) => tmps.setIfInBounds t a) lo.tmps = (params.toList.zip cargs).foldl (fun tmps (t, a) => tmps.setIfInBounds t a) lo.tmps := by
      rw [q6]
      exact zip_fold params.toList cargs lo.tmps
    rw [hz, q7, q8]
    have hfr : Frame.round (ρ.blk l) lo.fn ((params.toList.zip cargs).foldl (fun tmps (t, a) => tmps.setIfInBounds t a) lo.tmps) assign body .normal = FB.at ⟨lo.fn, .normal, some (ρ.blk l), []⟩ ⟨(params.toList.zip cargs).foldl (fun tmps (t, a) => tmps.setIfInBounds t a) lo.tmps, []⟩ [.code assign, .beginRound, .code body] := rfl
    rw [hfr]
    refine hs H.ok ⟨lo.fn, .normal, some (ρ.blk l), []⟩ _ [.beginRound, .code body] (c :: cs) (fun _ _ _ _ => False) ρ FC w ft rfl (by simp) (fun _ _ _ _ _ x _ => x.elim) ⟨hreg.1, by rw [hreg.2, q5], rfl, by simp⟩ H (Nat.le_refl _) ?_
    intro e f1 h1 ρ1 w1 ft1 a1 q A1 H1 hu1 hn1
    obtain ⟨rfl, pend', fn', r', size', params', assign', body', dfr', hl1, hb⟩ := q
    show J (G (FB.at ⟨lo.fn, .normal, some (ρ.blk l), []⟩ a1 [.beginRound, .code body]) (c :: cs)) w1 ft1
    refine hJ.step rfl fun w2 hr2 => ?_
    have H2 := H1.rely hr2
    have hbl : ρ1.blk l = ρ.blk l := (hu1 l hlt).1
    have hobj := H2.obj _ _ hl1
    have hrd := H2.rd _ _ hl1 rfl
    have hwr := H2.wr _ _ hl1 rfl
    match hlo2 : w2.heap[ρ1.blk l]?, hobj with
    | some (.loop lo2), hobj =>
      obtain ⟨p1, p2, p3, p4, p5, p6, p7, p8, p9, p10⟩ := hobj
      have hrun : RunsTo P (EvOk ft1) (do (some (ρ.blk l)).elim (stuck "beginRound: no round") Instr.beginRound; pure Next.skip) w2 fun nx w3 => nx = .skip ∧ w3 = { w2 with heap := w2.heap.setIfInBounds (ρ1.blk l) (.loop { lo2 with state := .busy }) } := by
        simp only [Option.elim]
        rw [← hbl]
        unfold Instr.beginRound Instr.getLoop
        refine RunsTo.bind (RunsTo.bind (RunsTo.bind (RunsTo.getObj hlo2 (fun _ _ _ e => by cases e) ⟨rfl, hrd, fun e => by cases e⟩ (RunsTo.pure ?_))))
        refine RunsTo.bind (RunsTo.setObj hlo2 (fun _ _ _ e => by cases e) ⟨rfl, hrd, fun _ => hwr⟩ ?_)
        rw [p1]
        exact RunsTo.pure (RunsTo.pure ⟨rfl, rfl⟩)
      obtain ⟨nx, w3, es, hr3, he3, rfl, hw3⟩ := hrun #[] (by simp)
      have hes : ∀ e ∈ seen P lo.fn es, EvOk ft1 e := fun e hm => he3 e (mem_seen hm)
      have G3 := H2.setBlk hl1 rfl (o := .loop .busy pend' fn' r' size' params' assign' body' dfr') (x := .loop { lo2 with state := .busy }) rfl ⟨rfl, p2, p3, p4, p5, p6, p7, p8, p9, p10⟩
      rw [← hw3] at G3
      refine ⟨G (FB.at ⟨lo.fn, .normal, some (ρ.blk l), []⟩ a1 [.code body]) (c :: cs), w3, seen P lo.fn es, ?_, rfl, G3.stays.guar hes, ?_⟩
      · simp only [G, stepG, stepG.exec, FB.at, stepG.apply, hr3, if_true]
        simp [GStep.after, Frame.finish]
      · have A3 := upto_act G3.upto G3.len A1
        refine hb ⟨lo.fn, .normal, some (ρ.blk l), []⟩ a1 [] (c :: cs) (fun jump a w ft => ∀ todo, Heads jump todo → J (G (FB.at ⟨lo.fn, .normal, some (ρ.blk l), []⟩ a todo) (c :: cs)) w ft) ρ1 FC w3 _ rfl (by simp) (fun _ _ _ _ _ x y => x _ y) A3 G3.rel (by rw [List.length_set]; exact hn1) ?_
        intro e f4 h4 ρ4 w4 ft4 a4 q A4 H4 hu4 hn4
        obtain ⟨st, pend, fn, r, size, params, assign, body, dfr, hl4, hq⟩ := q
        have hu : Env.upto h.length ρ ρ4 := Env.upto_trans hu1 hu4
        have hro : (⟨lo.fn, .normal, some (ρ.blk l), []⟩ : FB).ro = some (ρ4.blk l) := by rw [(hu l hlt).1]
        have fin : ∀ (jump : Option Code), Fin h.length K jump.isNone (h4.set l (.loop (if jump.isNone then .ready else .done) jump fn r size params assign body dfr)) → ∀ todo, Heads jump todo → J (G (FB.at ⟨lo.fn, .normal, some (ρ.blk l), []⟩ a4 todo) (c :: cs)) w4 ft4 :=
          fun jump hF todo hh => leave_round hJ hro rfl hh H4 hl4 hF hn4 fun v h' ρ' w' ft' cv k r1 r2 r3 r4 => hc v h' ρ' w' ft' cv k r1 (Env.upto_trans hu r2) r3 r4
        cases e with
        | normal => exact fin none hq [] (.inr (.inr ⟨rfl, rfl⟩))
        | exit id => exact fin (some (.exit id)) hq
        | ret => exact fin (some .ret) hq
        | goto l => exact hq.elim
        | panic l => exact hq.elim
        | outgrown => exact hq.elim
end
end Go.Proofs.Ythnccaajpdnndaa
namespace Go.Proofs.Ythnccaajpdnndaa
open Go.Conc Go.Proofs.Try
set_option maxRecDepth 100000
set_option maxHeartbeats 4000000
set_option linter.unusedVariables false
section
variable {main : Bool} {J : JT} {n0 : Nat} {h : List AObj} {K : Value → List AObj → Prop}
theorem at67 : prog.funcs[67]? = some f67 := by kernel_rfl
theorem body67 : f67.body = some (codeOf f67) := by kernel_rfl
def pl67 : Plans := []
def ct67 : Cuts := .go
theorem pok67 : plansOk prog pl67 (codeOf f67) = true := by kernel_rfl
theorem e67 : W prog J 2 h.length 67 (codeOf f67) (RG.mk (regs []) []) h (RetQ prog [.cell 0 31] h.length K) =
(aAlloc [(vint 0), (vint 0), (vint 0), (vint 0), (vint 0), (vint 0)] h fun v1 h2 =>
 aFill [(vint 0), (vint 0), (vint 0), (vint 0), (vint 0), (vint 0)] [(0, 1, (vint 12)), (1, 1, (vint 20)), (2, 1, (vint 1)), (3, 1, (vint 4)), (4, 1, (vint 3)), (5, 1, (vint 2))] fun c3 =>
 aStore 6 v1 (Value.agg ⟨c3⟩) h2 fun h4 =>
 RetQ prog [.cell 0 31] h.length K .ret (RG.p (RG.p (RG.mk (regs []) []) 0 v1) 1 (Value.agg ⟨c3⟩)) h4) := top_eq pok67 ct67 (by kernel_rfl)
theorem g67 (hJ : Closed prog main J) (hs : heapOk h → W prog J 2 h.length 67 (codeOf f67) (RG.mk (regs []) []) h (RetQ prog [.cell 0 31] h.length K)) : Good prog J 67 [] h K :=
  good_of_W hJ mixed at67 body67 (by kernel_rfl) (Nat.le_of_ble_eq_true rfl) hs
theorem at68 : prog.funcs[68]? = some f68 := by kernel_rfl
theorem body68 : f68.body = some (codeOf f68) := by kernel_rfl
def pl68 : Plans := []
def ct68 : Cuts := .go
theorem pok68 : plansOk prog pl68 (codeOf f68) = true := by kernel_rfl
theorem e68 : W prog J 2 h.length 68 (codeOf f68) (RG.mk (regs []) []) h (RetQ prog [.cell 0 24] h.length K) =
(aAlloc [(vint 0), (vint 0), (vint 0)] h fun v1 h2 =>
 aFill [(vint 0), (vint 0), (vint 0)] [(0, 1, (vint 3)), (1, 1, (vint 2)), (2, 1, (vint 2))] fun c3 =>
 aStore 3 v1 (Value.agg ⟨c3⟩) h2 fun h4 =>
 RetQ prog [.cell 0 24] h.length K .ret (RG.p (RG.p (RG.mk (regs []) []) 0 v1) 1 (Value.agg ⟨c3⟩)) h4) := top_eq pok68 ct68 (by kernel_rfl)
theorem g68 (hJ : Closed prog main J) (hs : heapOk h → W prog J 2 h.length 68 (codeOf f68) (RG.mk (regs []) []) h (RetQ prog [.cell 0 24] h.length K)) : Good prog J 68 [] h K :=
  good_of_W hJ mixed at68 body68 (by kernel_rfl) (Nat.le_of_ble_eq_true rfl) hs
theorem at53 : prog.funcs[53]? = some f53 := by kernel_rfl
theorem body53 : f53.body = some (codeOf f53) := by kernel_rfl
def pl53 : Plans := [(6, true, .take 0 (.take 1 (.take 2 (.take 3 (.take 4 (.take 5 (.take 6 (.take 7 (.take 8 (.fin))))))))))]
def ct53 : Cuts := .go
theorem pok53 : plansOk prog pl53 (codeOf f53) = true := by kernel_rfl
theorem e53 {a0 a1 : Value} : W prog J 26 h.length 53 (codeOf f53) (RG.mk (regs [a0, a1]) []) h (RetQ prog [.tmp 4] h.length K) =
(aLenS a0 fun v1 =>
 aLenS a1 fun v2 =>
 aBin prog .neq 3 v1 v2 fun v3 =>
 cnd v3
(retL h.length K [] [(Value.bool false)] h)
(Sem J 26 h.length 53 (subC [1, 1, 0, 1, 0] (codeOf f53)) (RG.p (RG.p (RG.p (RG.p (RG.p (RG.p (RG.p (RG.mk (regs [a0, a1]) []) 4 (Value.bool false)) 6 a0) 7 v1) 8 a1) 9 v2) 10 v3) 5 (vint 0)) h (contX pl53 prog J 26 h.length 53 ct53 [1, 1, 0, 1, 0] (codeOf f53) [] (RetQ prog [.tmp 4] h.length K)))) := top_eq pok53 ct53 (by kernel_rfl)
theorem g53 (hJ : Closed prog main J) {a0 a1 : Value} (hs : heapOk h → W prog J 26 h.length 53 (codeOf f53) (RG.mk (regs [a0, a1]) []) h (RetQ prog [.tmp 4] h.length K)) : Good prog J 53 [a0, a1] h K :=
  good_of_W hJ mixed at53 body53 (by kernel_rfl) (Nat.le_of_ble_eq_true rfl) hs
theorem s53_1 {f : RG} {nx0 : RG → List AObj → Prop} : W prog J 26 n0 53 (subC [1, 1, 0, 1, 0, 0] (codeOf f53)) f h (thenK nx0 (contX pl53 prog J 26 n0 53 ct53 [1, 1, 0, 1, 0] (codeOf f53) [] (RetQ prog [.tmp 4] n0 K))) =
(aLenS (f.r 0) fun v1 =>
 aBin prog .lss 3 (f.r 5) v1 fun v2 =>
 cnd v2
(aIdx 2 (f.r 0) (f.r 5) fun v3 =>
 aLoad true 2 v3 h fun v4 =>
 aIdx 2 (f.r 1) (f.r 5) fun v5 =>
 aLoad true 2 v5 h fun v6 =>
 aBin prog .neq 61 v4 v6 fun v7 =>
 cnd v7
(retL n0 K f.ds [(Value.bool false)] h)
(aBin prog .add 3 (f.r 5) (vint 1) fun v8 =>
 nx0 (RG.p (RG.p (RG.p (RG.p (RG.p (RG.p (RG.p (RG.p (RG.p (RG.p (RG.p (RG.p (RG.p (RG.p (RG.p (RG.p f 11 (f.r 5)) 12 (f.r 0)) 13 v1) 14 v2) 17 (f.r 0)) 18 (f.r 5)) 19 v3) 20 v4) 21 (f.r 1)) 22 (f.r 5)) 23 v5) 24 v6) 25 v7) 15 (f.r 5)) 16 v8) 5 v8) h))
(retL n0 K f.ds [(Value.bool true)] h)) := sub_eq pok53 ct53 (by kernel_rfl)
theorem l53_1 (hJ : Closed prog main J) {S : Type} (μ : S → Nat) (I : S → RG → List AObj → Prop) (hI : ∀ s f h, I s f h → heapOk h → n0 ≤ h.length → W prog J 26 n0 53 (subC [1, 1, 0, 1, 0, 0] (codeOf f53)) f h (thenK (Nx n0 μ I s) (contX pl53 prog J 26 n0 53 ct53 [1, 1, 0, 1, 0] (codeOf f53) [] (RetQ prog [.tmp 4] n0 K))))
  {s : S} {f : RG} (hi : Gets n0 I s f h) : Sem J 26 n0 53 (subC [1, 1, 0, 1, 0] (codeOf f53)) f h (contX pl53 prog J 26 n0 53 ct53 [1, 1, 0, 1, 0] (codeOf f53) [] (RetQ prog [.tmp 4] n0 K)) :=
  loop_rule hJ mixed (b := subC [1, 1, 0, 1, 0, 0] (codeOf f53)) (by kernel_rfl) μ I hI hi
end
section
variable {main : Bool} {J : JT} {n0 : Nat} {h : List AObj} {K : Value → List AObj → Prop}
theorem at21 : prog.funcs[21]? = some f21 := by kernel_rfl
theorem body21 : f21.body = some (codeOf f21) := by kernel_rfl
def pl21 : Plans := []
def ct21 : Cuts := .go
theorem pok21 : plansOk prog pl21 (codeOf f21) = true := by kernel_rfl
theorem e21 : W prog J 95 h.length 21 (codeOf f21) (RG.mk (regs []) []) h (RetQ prog [.tmp 0] h.length K) =
(Good prog J 67 [] h fun v1 h2 =>
(((3 * 1 : Nat) ≤ 16777216 ∧ (3 : Nat) ≤ 16777216 ∧ List.length [(vint 0)] = 1) ∧ aFill (zrep [(vint 0)] 3) [(0, 1, (vint 5)), (1, 1, (vint 5)), (2, 1, (vint 5))] fun c3 =>
 aNewS 3 c3 h2 fun v4 h5 =>
 Good prog J 32 [v1, v4, (Value.string { data := #[100, 119, 100] })] h5 fun v6 h7 =>
 aExt v6 0 fun v8 =>
 aExt v6 1 fun v9 =>
 Good prog J 67 [] h7 fun v10 h11 =>
(((3 * 1 : Nat) ≤ 16777216 ∧ (3 : Nat) ≤ 16777216 ∧ List.length [(vint 0)] = 1) ∧ aFill (zrep [(vint 0)] 3) [(0, 1, (vint 5)), (1, 1, (vint 5)), (2, 1, (vint 5))] fun c12 =>
 aNewS 3 c12 h11 fun v13 h14 =>
 Good prog J 68 [] h14 fun v15 h16 =>
 Good prog J 41 [v10, v13, v15] h16 fun v17 h18 =>
 aExt v17 0 fun v19 =>
 aExt v17 1 fun v20 =>
 Good prog J 67 [] h18 fun v21 h22 =>
(((3 * 1 : Nat) ≤ 16777216 ∧ (3 : Nat) ≤ 16777216 ∧ List.length [(vint 0)] = 1) ∧ aFill (zrep [(vint 0)] 3) [(0, 1, (vint 5)), (1, 1, (vint 5)), (2, 1, (vint 5))] fun c23 =>
 aNewS 3 c23 h22 fun v24 h25 =>
 Good prog J 68 [] h25 fun v26 h27 =>
 Good prog J 51 [v21, v24, v26] h27 fun v28 h29 =>
 aExt v28 0 fun v30 =>
 aExt v28 1 fun v31 =>
 aExt v28 2 fun v32 =>
 Good prog J 67 [] h29 fun v33 h34 =>
 Good prog J 68 [] h34 fun v35 h36 =>
 Good prog J 33 [v33, v35, (vint 0), (vint 3)] h36 fun v37 h38 =>
 aExt v37 0 fun v39 =>
 aExt v37 1 fun v40 =>
 Good prog J 67 [] h38 fun v41 h42 =>
 Good prog J 67 [] h42 fun v43 h44 =>
(((2 * 6 : Nat) ≤ 16777216 ∧ (2 : Nat) ≤ 16777216 ∧ List.length [(vint 0), (vint 0), (vint 0), (vint 0), (vint 0), (vint 0)] = 6) ∧ aFill (zrep [(vint 0), (vint 0), (vint 0), (vint 0), (vint 0), (vint 0)] 2) [(0, 6, v41), (6, 6, v43)] fun c45 =>
 aNewS 2 c45 h44 fun v46 h47 =>
 Good prog J 68 [] h47 fun v48 h49 =>
 Good prog J 27 [v46, v48, (vint 6)] h49 fun v50 h51 =>
 aExt v50 0 fun v52 =>
 aExt v50 1 fun v53 =>
 aBin prog .eql 37 v9 (vint 0) fun v54 =>
 cnd v54
(aBin prog .eql 37 v20 (vint 0) fun v55 =>
 cnd v55
(aBin prog .eql 37 v32 (vint 0) fun v56 =>
 cnd v56
(aBin prog .eql 37 v40 (vint 0) fun v57 =>
 cnd v57
(aBin prog .eql 37 v53 (vint 0) fun v58 =>
 cnd v58
(aBin prog .eql 9 v30 (Value.string { data := #[100, 100, 119] }) fun v59 =>
 cnd v59
(aBin prog .eql 3 v31 (vint 2) fun v60 =>
 cnd v60
(aBin prog .eql 3 v39 (vint 4) fun v61 =>
 cnd v61
((((3 * 1 : Nat) ≤ 16777216 ∧ (3 : Nat) ≤ 16777216 ∧ List.length [(vint 0)] = 1) ∧ aFill (zrep [(vint 0)] 3) [(0, 1, (vint 8)), (1, 1, (vint 7)), (2, 1, (vint 2))] fun c62 =>
 aNewS 3 c62 h51 fun v63 h64 =>
 Good prog J 29 [v8, v63] h64 fun v65 h66 =>
 cnd v65
(aFill [(vint 0), (vint 0)] [(0, 1, (vint 8)), (1, 1, (vint 11))] fun c67 =>
 aFill [(vint 0), (vint 0)] [(0, 1, (vint 4)), (1, 1, (vint 10))] fun c68 =>
 aFill [(vint 0), (vint 0)] [(1, 1, (vint 6))] fun c69 =>
(((3 * 2 : Nat) ≤ 16777216 ∧ (3 : Nat) ≤ 16777216 ∧ List.length [(vint 0), (vint 0)] = 2) ∧ aFill (zrep [(vint 0), (vint 0)] 3) [(0, 2, (Value.agg ⟨c67⟩)), (2, 2, (Value.agg ⟨c68⟩)), (4, 2, (Value.agg ⟨c69⟩))] fun c70 =>
 aNewS 3 c70 h66 fun v71 h72 =>
 Good prog J 53 [v19, v71] h72 fun v73 h74 =>
 cnd v73
((((3 * 1 : Nat) ≤ 16777216 ∧ (3 : Nat) ≤ 16777216 ∧ List.length [(vint 0)] = 1) ∧ aFill (zrep [(vint 0)] 3) [(0, 1, (vint 0)), (1, 1, (vint 0)), (2, 1, (vint 1))] fun c75 =>
 aNewS 3 c75 h74 fun v76 h77 =>
 Good prog J 29 [v52, v76] h77 fun v78 h79 =>
 retL h.length K [] [v78] h79))
(retL h.length K [] [(Value.bool false)] h74)))
(retL h.length K [] [(Value.bool false)] h66)))
(retL h.length K [] [(Value.bool false)] h51))
(retL h.length K [] [(Value.bool false)] h51))
(retL h.length K [] [(Value.bool false)] h51))
(retL h.length K [] [(Value.bool false)] h51))
(retL h.length K [] [(Value.bool false)] h51))
(retL h.length K [] [(Value.bool false)] h51))
(retL h.length K [] [(Value.bool false)] h51))
(retL h.length K [] [(Value.bool false)] h51)))))) := top_eq pok21 ct21 (by kernel_rfl)
theorem g21 (hJ : Closed prog main J) (hs : heapOk h → W prog J 95 h.length 21 (codeOf f21) (RG.mk (regs []) []) h (RetQ prog [.tmp 0] h.length K)) : Good prog J 21 [] h K :=
  good_of_W hJ mixed at21 body21 (by kernel_rfl) (Nat.le_of_ble_eq_true rfl) hs
end
section
variable {main : Bool} {J : JT} {n0 : Nat} {h : List AObj} {K : Value → List AObj → Prop}
section
variable {Sx : RG → List AObj → Prop}
theorem at27 : prog.funcs[27]? = some f27 := by kernel_rfl
theorem body27 : f27.body = some (codeOf f27) := by kernel_rfl
def pl27 : Plans := []
def ct27 : Cuts := .go
theorem pok27 : plansOk prog pl27 (trunc 6 (codeOf f27)) = true := by kernel_rfl
theorem e27 {a0 a1 a2 : Value} : W prog J 75 h.length 27 (trunc 6 (codeOf f27)) (RG.mk (regs [a0, a1, a2]) []) h (thenK Sx (RetQ prog [.tmp 6, .tmp 7] h.length K)) =
(aBox a0 h fun v1 h2 =>
 aBox a1 h2 fun v3 h4 =>
 aBox a2 h4 fun v5 h6 =>
 aLoad false 1 v1 h6 fun v7 =>
 aLenS v7 fun v8 =>
 Good prog J 71 [v8, (vint 1), (vint 3)] h6 fun v9 h10 =>
 aBin prog .neq 37 v9 (vint 0) fun v11 =>
 cnd v11
(retL h.length K [] [(Value.slice none 0 0), v9] h10)
(aLoad false 1 v1 h10 fun v12 =>
 aLenS v12 fun v13 =>
 Sem J 75 h.length 27 (subC [1, 1, 0, 1, 0] (trunc 6 (codeOf f27))) (RG.p (RG.p (RG.p (RG.p (RG.p (RG.p (RG.p (RG.p (RG.p (RG.p (RG.p (RG.p (RG.p (RG.p (RG.mk (regs [a0, a1, a2]) []) 3 v1) 4 v3) 5 v5) 6 (Value.slice none 0 0)) 7 (vint 0)) 18 v7) 19 v8) 20 v9) 8 v9) 21 v9) 22 v11) 24 v12) 25 v13) 26 (vint 0)) h10 (contX pl27 prog J 75 h.length 27 ct27 [1, 1, 0, 1, 0] (trunc 6 (codeOf f27)) [] (thenK Sx (RetQ prog [.tmp 6, .tmp 7] h.length K))))) := top_eq pok27 ct27 (by kernel_rfl)
theorem s27_1 {f : RG} {nx0 : RG → List AObj → Prop} : W prog J 75 n0 27 (subC [1, 1, 0, 1, 0, 0] (trunc 6 (codeOf f27))) f h (thenK nx0 (contX pl27 prog J 75 n0 27 ct27 [1, 1, 0, 1, 0] (trunc 6 (codeOf f27)) [] (thenK Sx (RetQ prog [.tmp 6, .tmp 7] n0 K)))) =
(aBin prog .lss 3 (f.r 26) (f.r 25) fun v1 =>
 cnd v1
(aIdx 6 (f.r 24) (f.r 26) fun v2 =>
 aLoad true 6 v2 h fun v3 =>
 aAlloc [(vint 0), (vint 0), (vint 0), (vint 0), (vint 0), (vint 0)] h fun v4 h5 =>
 aStore 6 v4 v3 h5 fun h6 =>
 aLoad true 6 v4 h6 fun v7 =>
 Good prog J 36 [v7] h6 fun v8 h9 =>
 aBin prog .neq 37 v8 (vint 0) fun v10 =>
 cnd v10
(retL n0 K f.ds [(Value.slice none 0 0), v8] h9)
(aBin prog .add 3 (f.r 26) (vint 1) fun v11 =>
 nx0 (RG.p (RG.p (RG.p (RG.p (RG.p (RG.p (RG.p (RG.p (RG.p (RG.p (RG.p f 27 v1) 28 v2) 29 v3) 10 v4) 30 v7) 31 v8) 11 v8) 32 v8) 33 v10) 35 v11) 26 v11) h9))
(aLoad true 3 (f.r 4) h fun v12 =>
 Good prog J 72 [v12] h fun v13 h14 =>
 aBin prog .neq 37 v13 (vint 0) fun v15 =>
 cnd v15
(retL n0 K f.ds [(Value.slice none 0 0), v13] h14)
(aLoad false 1 (f.r 5) h14 fun v16 =>
 Good prog J 73 [v16, (vint 0), (vint 40)] h14 fun v17 h18 =>
 aUn .not v17 fun v19 =>
 cnd v19
(retL n0 K f.ds [(Value.slice none 0 0), (vint 1)] h18)
(aAlloc [(Value.slice none 0 0), (Value.slice none 0 0), (Value.slice none 0 0)] h18 fun v20 h21 =>
 Sx (RG.p (RG.p (RG.p (RG.p (RG.p (RG.p (RG.p (RG.p (RG.p (RG.p f 27 v1) 36 v12) 37 v13) 12 v13) 38 v13) 39 v15) 41 v16) 42 v17) 43 v19) 13 v20) h21)))) := sub_eq pok27 ct27 (by kernel_rfl)
theorem l27_1 (hJ : Closed prog main J) {S : Type} (μ : S → Nat) (I : S → RG → List AObj → Prop) (hI : ∀ s f h, I s f h → heapOk h → n0 ≤ h.length → W prog J 75 n0 27 (subC [1, 1, 0, 1, 0, 0] (trunc 6 (codeOf f27))) f h (thenK (Nx n0 μ I s) (contX pl27 prog J 75 n0 27 ct27 [1, 1, 0, 1, 0] (trunc 6 (codeOf f27)) [] (thenK Sx (RetQ prog [.tmp 6, .tmp 7] n0 K)))))
  {s : S} {f : RG} (hi : Gets n0 I s f h) : Sem J 75 n0 27 (subC [1, 1, 0, 1, 0] (trunc 6 (codeOf f27))) f h (contX pl27 prog J 75 n0 27 ct27 [1, 1, 0, 1, 0] (trunc 6 (codeOf f27)) [] (thenK Sx (RetQ prog [.tmp 6, .tmp 7] n0 K))) :=
  loop_rule hJ mixed (b := subC [1, 1, 0, 1, 0, 0] (trunc 6 (codeOf f27))) (by kernel_rfl) μ I hI hi
end
theorem q27_1 {f : RG} {fr : FuncId} {Q : QT} : W prog J 75 n0 fr (subC [1, 1, 1, 1, 1, 1, 1, 0, 0] (codeOf f27)) f h Q =
(aLoad false 1 (f.r 3) h fun v1 =>
 aLenS v1 fun v2 =>
 Q .normal (RG.p (RG.p (RG.p f 44 v1) 45 v2) 46 (vint 0)) h) := by kernel_rfl
theorem q27_2 {f : RG} {fr : FuncId} {Q : QT} : W prog J 75 n0 fr (subC [1, 1, 1, 1, 1, 1, 1, 0, 1, 0, 0, 0] (codeOf f27)) f h Q =
(aBin prog .lss 3 (f.r 46) (f.r 45) fun v1 =>
 Q .normal (RG.p f 47 v1) h) := by kernel_rfl
theorem q27_3 {f : RG} {fr : FuncId} {Q : QT} : W prog J 75 n0 fr (subC [1, 1, 1, 1, 1, 1, 1, 0, 1, 0, 0, 1, 0] (codeOf f27)) f h Q =
(cnd (f.r 47)
(Q .normal f h)
(Q (.exit 2) f h)) := by kernel_rfl
theorem q27_4 {f : RG} {fr : FuncId} {Q : QT} : W prog J 75 n0 fr (subC [1, 1, 1, 1, 1, 1, 1, 0, 1, 0, 0, 1, 1, 0, 0, 0] (codeOf f27)) f h Q =
(aAlloc [(vint 0)] h fun v1 h2 =>
 aStore 1 v1 (f.r 46) h2 fun h3 =>
 Q .normal (RG.p (RG.p f 48 (f.r 46)) 15 v1) h3) := by kernel_rfl
theorem q27_5 {f : RG} {fr : FuncId} {Q : QT} : W prog J 75 n0 fr (subC [1, 1, 1, 1, 1, 1, 1, 0, 1, 0, 0, 1, 1, 0, 0, 1, 0] (codeOf f27)) f h Q =
(aLoad false 1 (f.r 15) h fun v1 =>
 aBin prog .gtr 3 v1 (vint 0) fun v2 =>
 cnd v2
(aLoad false 1 (f.r 3) h fun v3 =>
 aLoad false 1 (f.r 15) h fun v4 =>
 aIdx 6 v3 v4 fun v5 =>
 aLoad true 6 v5 h fun v6 =>
 aLoad false 1 (f.r 3) h fun v7 =>
 aLoad false 1 (f.r 15) h fun v8 =>
 aBin prog .sub 3 v8 (vint 1) fun v9 =>
 aIdx 6 v7 v9 fun v10 =>
 aLoad true 6 v10 h fun v11 =>
 aBin prog .eql 31 v6 v11 fun v12 =>
 cnd v12
(Q (.exit 3) (RG.p (RG.p (RG.p (RG.p (RG.p (RG.p (RG.p (RG.p (RG.p (RG.p (RG.p (RG.p (RG.p (RG.p (RG.p f 49 v1) 50 v2) 51 v2) 51 (Value.bool true)) 52 v3) 53 v4) 54 v5) 55 v6) 56 v7) 57 v8) 58 v9) 59 v10) 60 v11) 61 v12) 62 v12) h)
(Q .normal (RG.p (RG.p (RG.p (RG.p (RG.p (RG.p (RG.p (RG.p (RG.p (RG.p (RG.p (RG.p (RG.p (RG.p (RG.p f 49 v1) 50 v2) 51 v2) 51 (Value.bool true)) 52 v3) 53 v4) 54 v5) 55 v6) 56 v7) 57 v8) 58 v9) 59 v10) 60 v11) 61 v12) 62 v12) h))
(Q .normal (RG.p (RG.p (RG.p (RG.p (RG.p (RG.p (RG.p (RG.p (RG.p (RG.p (RG.p (RG.p (RG.p (RG.p (RG.p f 49 v1) 50 v2) 51 v2) 51 (Value.bool false)) 52 undef) 53 undef) 54 undef) 55 undef) 56 undef) 57 undef) 58 undef) 59 undef) 60 undef) 61 undef) 62 (Value.bool false)) h)) := by kernel_rfl
theorem q27_6 {f : RG} {fr : FuncId} {Q : QT} : W prog J 75 n0 fr (subC [1, 1, 1, 1, 1, 1, 1, 0, 1, 0, 0, 1, 1, 0, 0, 1, 1, 0] (codeOf f27)) f h Q =
(Good prog J 74 [(f.r 14), (vint 1)] h fun v1 h2 =>
 Q .normal (RG.p f 63 v1) h2) := by kernel_rfl
theorem q27_7 {f : RG} {fr : FuncId} {Q : QT} : W prog J 75 n0 fr (subC [1, 1, 1, 1, 1, 1, 1, 0, 1, 0, 0, 1, 1, 1] (codeOf f27)) f h Q =
(aBin prog .add 3 (f.r 46) (vint 1) fun v1 =>
 Q .normal (RG.p (RG.p f 65 v1) 46 v1) h) := by kernel_rfl
theorem q27_8 {f : RG} {fr : FuncId} {Q : QT} : W prog J 75 n0 fr (subC [1, 1, 1, 1, 1, 1, 1, 1, 0] (codeOf f27)) f h Q =
(Good prog J 80 [(f.r 14)] h fun v1 h2 =>
 Q .normal (RG.p f 66 v1) h2) := by kernel_rfl
noncomputable def ops27_1 : Array Oper := opsAt [1, 1, 1, 1, 1, 1, 0] (codeOf f27)
theorem z27_1 : ops27_1.size = 1 := by kernel_rfl
noncomputable def p27_1_0 : Oper := opGet ops27_1 0
theorem o27_1_0 {J : JT} : ops27_1[0]? = some p27_1_0 ∧ p27_1_0.dst = some 14 ∧ dstOk 75 p27_1_0 = true ∧ (∀ r, gd ops27_1 p27_1_0 r = some true) ∧ (∀ (f : RG) (h : List AObj) (H : Value → List AObj → Prop), opW prog (Good prog J) p27_1_0 f.r h H = (aAlloc [(Value.int .u64 0), (Value.int .u32 0)] h fun v1 h2 =>
 H v1 h2)) := ⟨by kernel_rfl, by kernel_rfl, by kernel_rfl, fun _ => by kernel_rfl, fun _ _ _ => by kernel_rfl⟩
noncomputable def ops27_2 : Array Oper := opsAt [1, 1, 1, 1, 1, 1, 1, 0, 1, 0, 0, 1, 1, 0, 0, 1, 1, 1] (codeOf f27)
theorem z27_2 : ops27_2.size = 2 := by kernel_rfl
noncomputable def p27_2_0 : Oper := opGet ops27_2 0
theorem o27_2_0 {J : JT} : ops27_2[0]? = some p27_2_0 ∧ p27_2_0.dst = some 64 ∧ dstOk 75 p27_2_0 = true ∧ (∀ r, gd ops27_2 p27_2_0 r = some true) ∧ (∀ (f : RG) (h : List AObj) (H : Value → List AObj → Prop), opW prog (Good prog J) p27_2_0 f.r h H = (aMkF 75 [] [(f.r 14), (f.r 3), (f.r 4), (f.r 15), (f.r 5), (f.r 13)] fun v1 =>
 H v1 h)) := ⟨by kernel_rfl, by kernel_rfl, by kernel_rfl, fun _ => by kernel_rfl, fun _ _ _ => by kernel_rfl⟩
noncomputable def p27_2_1 : Oper := opGet ops27_2 1
theorem o27_2_1 {J : JT} : ops27_2[1]? = some p27_2_1 ∧ p27_2_1.dst = none ∧ dstOk 75 p27_2_1 = true ∧ (∀ r, gd ops27_2 p27_2_1 r = some true) ∧ (p27_2_1.op = (Go.Op.go { callee := (Go.Callee.value (Go.Operand.tmp 64)), args := #[], argTypes := #[] })) := ⟨by kernel_rfl, by kernel_rfl, by kernel_rfl, fun _ => by kernel_rfl, by kernel_rfl⟩
def pl27t : Plans := [(21, true, .take 0 (.take 1 (.take 2 (.take 3 (.take 4 (.take 5 (.take 6 (.take 7 (.take 8 (.take 9 (.take 10 (.take 11 (.take 12 (.take 13 (.fin)))))))))))))))]
def ct27t : Cuts := .bin (.go) (.bin (.go) (.bin (.go) (.bin (.go) (.bin (.go) (.bin (.go) (.bin (.go) (.bin (.go) (.bin (.go) (.cut (.go))))))))))
theorem pok27t : plansOk prog pl27t (codeOf f27) = true := by kernel_rfl
theorem s27t_1 {f : RG} : W prog J 75 n0 27 (subC [1, 1, 1, 1, 1, 1, 1, 1, 1] (codeOf f27)) f h (contX pl27t prog J 75 n0 27 ct27t [1, 1, 1, 1, 1, 1, 1, 1, 1] (codeOf f27) [] (RetQ prog [.tmp 6, .tmp 7] n0 K)) =
(aLoad true 3 (f.r 13) h fun v1 =>
 Sem J 75 n0 27 (subC [1, 1, 1, 1, 1, 1, 1, 1, 1, 0, 1, 0] (codeOf f27)) (RG.p (RG.p f 67 v1) 68 (vint 0)) h (contX pl27t prog J 75 n0 27 ct27t [1, 1, 1, 1, 1, 1, 1, 1, 1, 0, 1, 0] (codeOf f27) [] (RetQ prog [.tmp 6, .tmp 7] n0 K))) := sub_eq pok27t ct27t (by kernel_rfl)
theorem s27t_2 {f : RG} {nx0 : RG → List AObj → Prop} : W prog J 75 n0 27 (subC [1, 1, 1, 1, 1, 1, 1, 1, 1, 0, 1, 0, 0] (codeOf f27)) f h (thenK nx0 (contX pl27t prog J 75 n0 27 ct27t [1, 1, 1, 1, 1, 1, 1, 1, 1, 0, 1, 0] (codeOf f27) [] (RetQ prog [.tmp 6, .tmp 7] n0 K))) =
(aBin prog .lss 3 (f.r 68) (vint 3) fun v1 =>
 cnd v1
(aIdxV 3 1 false (f.r 67) (f.r 68) fun v2 =>
 aBin prog .neq 25 v2 (Value.slice none 0 0) fun v3 =>
 cnd v3
(retL n0 K f.ds [v2, (vint 0)] h)
(aBin prog .add 3 (f.r 68) (vint 1) fun v4 =>
 nx0 (RG.p (RG.p (RG.p (RG.p (RG.p (RG.p (RG.p f 69 v1) 70 v2) 17 v2) 71 v2) 72 v3) 74 v4) 68 v4) h))
(retL n0 K f.ds [(Value.slice none 0 0), (vint 11)] h)) := sub_eq pok27t ct27t (by kernel_rfl)
theorem l27t_2 (hJ : Closed prog main J) {S : Type} (μ : S → Nat) (I : S → RG → List AObj → Prop) (hI : ∀ s f h, I s f h → heapOk h → n0 ≤ h.length → W prog J 75 n0 27 (subC [1, 1, 1, 1, 1, 1, 1, 1, 1, 0, 1, 0, 0] (codeOf f27)) f h (thenK (Nx n0 μ I s) (contX pl27t prog J 75 n0 27 ct27t [1, 1, 1, 1, 1, 1, 1, 1, 1, 0, 1, 0] (codeOf f27) [] (RetQ prog [.tmp 6, .tmp 7] n0 K))))
  {s : S} {f : RG} (hi : Gets n0 I s f h) : Sem J 75 n0 27 (subC [1, 1, 1, 1, 1, 1, 1, 1, 1, 0, 1, 0] (codeOf f27)) f h (contX pl27t prog J 75 n0 27 ct27t [1, 1, 1, 1, 1, 1, 1, 1, 1, 0, 1, 0] (codeOf f27) [] (RetQ prog [.tmp 6, .tmp 7] n0 K)) :=
  loop_rule hJ mixed (b := subC [1, 1, 1, 1, 1, 1, 1, 1, 1, 0, 1, 0, 0] (codeOf f27)) (by kernel_rfl) μ I hI hi
end
section
variable {main : Bool} {J : JT} {n0 : Nat} {h : List AObj} {K : Value → List AObj → Prop}
theorem at75 : prog.funcs[75]? = some f75 := by kernel_rfl
theorem body75 : f75.body = some (codeOf f75) := by kernel_rfl
theorem q75_1 {f : RG} {fr : FuncId} {Q : QT} : W prog J 50 n0 fr (subC [1, 0] (codeOf f75)) f h Q =
((∃ B, aLoad false 1 (f.r 1) h fun v1 =>
 RdOk (some B) (ptrBlk (f.r 1)) ∧ (aLoad false 1 (f.r 1) h fun v2 =>
 RdOk (some B) (ptrBlk (f.r 1)) ∧ (aLoad true 3 (f.r 2) h fun v3 =>
 RdOk (some B) (ptrBlk (f.r 2)) ∧ (aLoad false 1 (f.r 3) h fun v4 =>
 RdOk (some B) (ptrBlk (f.r 3)) ∧ (aLoad false 1 (f.r 4) h fun v5 =>
 RdOk (some B) (ptrBlk (f.r 4)) ∧ ((aNewM h fun v6 h7 =>
 SameB (some B) h h7 ∧ (Good prog J 78 [v1] h7 fun v8 h9 =>
 SameB (some B) h h9 ∧ (((VOk h9.length (Value.bool true) ∧ one (Value.bool true) = true) ∧ aUpdX prog 102 v6 v8 (Value.bool true) h9 fun h10 =>
 SameB (some B) h h10 ∧ (Good prog J 77 [v6, v2, v3, v4, v5] h10 fun v11 h12 =>
 SameB (some B) h h12 ∧ (aExt v11 0 fun v13 =>
 aExt v11 1 fun v14 =>
 Q .normal (RG.p (RG.p (RG.p (RG.p (RG.p (RG.p (RG.p (RG.p (RG.p (RG.p (RG.p (RG.p (RG.p (RG.p f 11 v1) 14 v2) 15 v3) 16 v4) 17 v5) 10 v6) 12 v8) 13 v6) 18 v11) 9 v11) 19 v13) 20 v14) 6 v13) 7 v14) h12)))))) ∧ (Good prog J 78 [v1] h fun v15 h16 =>
 SameB (some B) h h16 ∧ (aNewM h16 fun v17 h18 =>
 SameB (some B) h h18 ∧ (((VOk h18.length (Value.bool true) ∧ one (Value.bool true) = true) ∧ aUpdX prog 102 v17 v15 (Value.bool true) h18 fun h19 =>
 SameB (some B) h h19 ∧ (Good prog J 77 [v17, v2, v3, v4, v5] h19 fun v20 h21 =>
 SameB (some B) h h21 ∧ (aExt v20 0 fun v22 =>
 aExt v20 1 fun v23 =>
 Q .normal (RG.p (RG.p (RG.p (RG.p (RG.p (RG.p (RG.p (RG.p (RG.p (RG.p (RG.p (RG.p (RG.p (RG.p f 11 v1) 14 v2) 15 v3) 16 v4) 17 v5) 12 v15) 10 v17) 13 v17) 18 v20) 9 v20) 19 v22) 20 v23) 6 v22) 7 v23) h21))))))))))))) := by kernel_rfl
theorem q75_2 {f : RG} {fr : FuncId} {Q : QT} : W prog J 50 n0 fr (subC [1, 1] (codeOf f75)) f h Q =
(cnd (f.r 7)
(aOff (f.r 2) 0 fun v1 =>
 aLoad false 1 v1 h fun v2 =>
 aBin prog .eql 3 v2 (vint 1) fun v3 =>
 cnd v3
(aLoad false 1 (f.r 3) h fun v4 =>
 aLoad false 1 (f.r 3) h fun v5 =>
(((1 * 1 : Nat) ≤ 16777216 ∧ (1 : Nat) ≤ 16777216 ∧ List.length [(vint 0)] = 1) ∧ aFill (zrep [(vint 0)] 1) [(0, 1, v5)] fun c6 =>
 aNewS 1 c6 h fun v7 h8 =>
 aIdxA 3 1 (f.r 5) v4 fun v9 =>
 aStore 1 v9 v7 h8 fun h10 =>
 Q .normal (RG.p (RG.p (RG.p (RG.p (RG.p (RG.p (RG.p (RG.p (RG.p (RG.p (RG.p (RG.p f 22 (f.r 7)) 23 (f.r 7)) 23 (Value.bool true)) 24 v1) 25 v2) 26 v3) 27 v3) 21 v3) 28 v4) 29 v5) 30 v7) 31 v9) h10))
(cnd (f.r 7)
(aLoad false 1 (f.r 1) h fun v11 =>
 aLoad true 3 (f.r 2) h fun v12 =>
 aLoad false 1 (f.r 4) h fun v13 =>
 aOff (f.r 2) 0 fun v14 =>
 aLoad false 1 v14 h fun v15 =>
 aBin prog .sub 3 v15 (vint 1) fun v16 =>
 Good prog J 79 [(f.r 6), v11, v12, v13, v16] h fun v17 h18 =>
 aBin prog .neq 25 v17 (Value.slice none 0 0) fun v19 =>
 cnd v19
((∃ B, aLoad false 1 (f.r 3) h18 fun v20 =>
 RdOk (some B) (ptrBlk (f.r 3)) ∧ (aLoad false 1 (f.r 3) h18 fun v21 =>
 RdOk (some B) (ptrBlk (f.r 3)) ∧ ((((1 * 1 : Nat) ≤ 16777216 ∧ (1 : Nat) ≤ 16777216 ∧ List.length [(vint 0)] = 1) ∧ aFill (zrep [(vint 0)] 1) [(0, 1, v21)] fun c22 =>
 aNewS 1 c22 h18 fun v23 h24 =>
 SameB (some B) h18 h24 ∧ (((List.length [(vint 0)] = 1 ∧ 0 < (1 : Nat) ∧ 0 < (8 : Nat) ∧ (8 : Nat) ≤ 1024) ∧ aApp 1 v23 v17 h24 fun v25 h26 =>
 SameB (some B) h18 h26 ∧ (aIdxA 3 1 (f.r 5) v20 fun v27 =>
 aStore 1 v27 v25 h26 fun h28 =>
 Q .normal (RG.p (RG.p (RG.p (RG.p (RG.p (RG.p (RG.p (RG.p (RG.p (RG.p (RG.p (RG.p (RG.p (RG.p (RG.p (RG.p (RG.p (RG.p (RG.p (RG.p (RG.p (RG.p (RG.p (RG.p (RG.p (RG.p (RG.p f 22 (f.r 7)) 23 (f.r 7)) 23 (Value.bool true)) 24 v1) 25 v2) 26 v3) 27 v3) 21 v3) 33 (f.r 7)) 32 (f.r 7)) 34 (f.r 6)) 35 v11) 36 v12) 37 v13) 38 v14) 39 v15) 40 v16) 41 v17) 8 v17) 42 v17) 43 v19) 44 v20) 45 v21) 47 v17) 46 v23) 48 v25) 49 v27) h28))))))))
(Q .normal (RG.p (RG.p (RG.p (RG.p (RG.p (RG.p (RG.p (RG.p (RG.p (RG.p (RG.p (RG.p (RG.p (RG.p (RG.p (RG.p (RG.p (RG.p (RG.p (RG.p (RG.p f 22 (f.r 7)) 23 (f.r 7)) 23 (Value.bool true)) 24 v1) 25 v2) 26 v3) 27 v3) 21 v3) 33 (f.r 7)) 32 (f.r 7)) 34 (f.r 6)) 35 v11) 36 v12) 37 v13) 38 v14) 39 v15) 40 v16) 41 v17) 8 v17) 42 v17) 43 v19) h18))
(Q .normal (RG.p (RG.p (RG.p (RG.p (RG.p (RG.p (RG.p (RG.p (RG.p (RG.p f 22 (f.r 7)) 23 (f.r 7)) 23 (Value.bool true)) 24 v1) 25 v2) 26 v3) 27 v3) 21 v3) 33 (f.r 7)) 32 (f.r 7)) h)))
(cnd (f.r 7)
(aLoad false 1 (f.r 1) h fun v29 =>
 aLoad true 3 (f.r 2) h fun v30 =>
 aLoad false 1 (f.r 4) h fun v31 =>
 aOff (f.r 2) 0 fun v32 =>
 aLoad false 1 v32 h fun v33 =>
 aBin prog .sub 3 v33 (vint 1) fun v34 =>
 Good prog J 79 [(f.r 6), v29, v30, v31, v34] h fun v35 h36 =>
 aBin prog .neq 25 v35 (Value.slice none 0 0) fun v37 =>
 cnd v37
((∃ B, aLoad false 1 (f.r 3) h36 fun v38 =>
 RdOk (some B) (ptrBlk (f.r 3)) ∧ (aLoad false 1 (f.r 3) h36 fun v39 =>
 RdOk (some B) (ptrBlk (f.r 3)) ∧ ((((1 * 1 : Nat) ≤ 16777216 ∧ (1 : Nat) ≤ 16777216 ∧ List.length [(vint 0)] = 1) ∧ aFill (zrep [(vint 0)] 1) [(0, 1, v39)] fun c40 =>
 aNewS 1 c40 h36 fun v41 h42 =>
 SameB (some B) h36 h42 ∧ (((List.length [(vint 0)] = 1 ∧ 0 < (1 : Nat) ∧ 0 < (8 : Nat) ∧ (8 : Nat) ≤ 1024) ∧ aApp 1 v41 v35 h42 fun v43 h44 =>
 SameB (some B) h36 h44 ∧ (aIdxA 3 1 (f.r 5) v38 fun v45 =>
 aStore 1 v45 v43 h44 fun h46 =>
 Q .normal (RG.p (RG.p (RG.p (RG.p (RG.p (RG.p (RG.p (RG.p (RG.p (RG.p (RG.p (RG.p (RG.p (RG.p (RG.p (RG.p (RG.p (RG.p (RG.p (RG.p (RG.p (RG.p (RG.p (RG.p (RG.p (RG.p (RG.p f 22 (f.r 7)) 23 (f.r 7)) 23 (Value.bool false)) 24 undef) 25 undef) 26 undef) 27 (Value.bool false)) 21 (Value.bool false)) 33 (f.r 7)) 32 (f.r 7)) 34 (f.r 6)) 35 v29) 36 v30) 37 v31) 38 v32) 39 v33) 40 v34) 41 v35) 8 v35) 42 v35) 43 v37) 44 v38) 45 v39) 47 v35) 46 v41) 48 v43) 49 v45) h46))))))))
(Q .normal (RG.p (RG.p (RG.p (RG.p (RG.p (RG.p (RG.p (RG.p (RG.p (RG.p (RG.p (RG.p (RG.p (RG.p (RG.p (RG.p (RG.p (RG.p (RG.p (RG.p (RG.p f 22 (f.r 7)) 23 (f.r 7)) 23 (Value.bool false)) 24 undef) 25 undef) 26 undef) 27 (Value.bool false)) 21 (Value.bool false)) 33 (f.r 7)) 32 (f.r 7)) 34 (f.r 6)) 35 v29) 36 v30) 37 v31) 38 v32) 39 v33) 40 v34) 41 v35) 8 v35) 42 v35) 43 v37) h36))
(Q .normal (RG.p (RG.p (RG.p (RG.p (RG.p (RG.p (RG.p (RG.p (RG.p (RG.p f 22 (f.r 7)) 23 (f.r 7)) 23 (Value.bool false)) 24 undef) 25 undef) 26 undef) 27 (Value.bool false)) 21 (Value.bool false)) 33 (f.r 7)) 32 (f.r 7)) h))) := by kernel_rfl
noncomputable def ops75_1 : Array Oper := opsAt [0] (codeOf f75)
theorem r75_1 : subC [0] (codeOf f75) = .region 0 ops75_1 false := by kernel_rfl
theorem z75_1 : ops75_1.size = 1 := by kernel_rfl
noncomputable def p75_1_0 : Oper := opGet ops75_1 0
theorem o75_1_0 {J : JT} : ops75_1[0]? = some p75_1_0 ∧ p75_1_0.dst = none ∧ dstOk 50 p75_1_0 = true ∧ (∀ r, gd ops75_1 p75_1_0 r = some true) ∧ (∀ (f : RG) (h : List AObj) (H : Value → List AObj → Prop), opW prog (Good prog J) p75_1_0 f.r h H = (False)) := ⟨by kernel_rfl, by kernel_rfl, by kernel_rfl, fun _ => by kernel_rfl, fun _ _ _ => by kernel_rfl⟩
end
section
variable {main : Bool} {J : JT} {n0 : Nat} {h : List AObj} {K : Value → List AObj → Prop}
theorem at78 : prog.funcs[78]? = some f78 := by kernel_rfl
theorem body78 : f78.body = some (codeOf f78) := by kernel_rfl
def pl78 : Plans := []
def ct78 : Cuts := .go
theorem pok78 : plansOk prog pl78 (codeOf f78) = true := by kernel_rfl
theorem e78 {a0 : Value} : W prog J 21 h.length 78 (codeOf f78) (RG.mk (regs [a0]) []) h (RetQ prog [.cell 2 111] h.length K) =
(aAlloc [(vint 0), (vint 0), (vint 0), (vint 0), (vint 0), (vint 0), (Value.int .u8 0), (vint 0)] h fun v1 h2 =>
 aAlloc [(vint 0), (vint 0), (vint 0), (vint 0), (vint 0), (vint 0), (Value.int .u8 0), (vint 0)] h2 fun v3 h4 =>
 aLenS a0 fun v5 =>
 Sem J 21 h.length 78 (subC [1, 1, 0, 1, 0] (codeOf f78)) (RG.p (RG.p (RG.p (RG.p (RG.p (RG.mk (regs [a0]) []) 2 v1) 3 v3) 6 a0) 7 v5) 8 (vint 0)) h4 (contX pl78 prog J 21 h.length 78 ct78 [1, 1, 0, 1, 0] (codeOf f78) [] (RetQ prog [.cell 2 111] h.length K))) := top_eq pok78 ct78 (by kernel_rfl)
theorem g78 (hJ : Closed prog main J) {a0 : Value} (hs : heapOk h → W prog J 21 h.length 78 (codeOf f78) (RG.mk (regs [a0]) []) h (RetQ prog [.cell 2 111] h.length K)) : Good prog J 78 [a0] h K :=
  good_of_W hJ mixed at78 body78 (by kernel_rfl) (Nat.le_of_ble_eq_true rfl) hs
theorem s78_1 {f : RG} {nx0 : RG → List AObj → Prop} : W prog J 21 n0 78 (subC [1, 1, 0, 1, 0, 0] (codeOf f78)) f h (thenK nx0 (contX pl78 prog J 21 n0 78 ct78 [1, 1, 0, 1, 0] (codeOf f78) [] (RetQ prog [.cell 2 111] n0 K))) =
(aBin prog .lss 3 (f.r 8) (f.r 7) fun v1 =>
 cnd v1
(aIdx 6 (f.r 6) (f.r 8) fun v2 =>
 aLoad true 6 v2 h fun v3 =>
 aAlloc [(vint 0), (vint 0), (vint 0), (vint 0), (vint 0), (vint 0)] h fun v4 h5 =>
 aStore 6 v4 v3 h5 fun h6 =>
 aOff v4 0 fun v7 =>
 aLoad false 1 v7 h6 fun v8 =>
 aFill [(vint 0), (vint 0)] [(0, 1, v8)] fun c9 =>
 aOff (f.r 3) 0 fun v10 =>
 aIdxA 3 2 v10 (f.r 8) fun v11 =>
 aStore 2 v11 (Value.agg ⟨c9⟩) h6 fun h12 =>
 aBin prog .add 3 (f.r 8) (vint 1) fun v13 =>
 nx0 (RG.p (RG.p (RG.p (RG.p (RG.p (RG.p (RG.p (RG.p (RG.p (RG.p (RG.p (RG.p (RG.p (RG.p f 9 v1) 10 (f.r 8)) 11 v2) 12 v3) 5 v4) 4 (f.r 8)) 13 (f.r 8)) 14 v7) 15 v8) 16 (Value.agg ⟨c9⟩)) 17 v10) 18 v11) 19 v13) 8 v13) h12)
(aLoad true 8 (f.r 3) h fun v14 =>
 aStore 8 (f.r 2) v14 h fun h15 =>
 RetQ prog [.cell 2 111] n0 K .ret (RG.p (RG.p f 9 v1) 20 v14) h15)) := sub_eq pok78 ct78 (by kernel_rfl)
theorem l78_1 (hJ : Closed prog main J) {S : Type} (μ : S → Nat) (I : S → RG → List AObj → Prop) (hI : ∀ s f h, I s f h → heapOk h → n0 ≤ h.length → W prog J 21 n0 78 (subC [1, 1, 0, 1, 0, 0] (codeOf f78)) f h (thenK (Nx n0 μ I s) (contX pl78 prog J 21 n0 78 ct78 [1, 1, 0, 1, 0] (codeOf f78) [] (RetQ prog [.cell 2 111] n0 K))))
  {s : S} {f : RG} (hi : Gets n0 I s f h) : Sem J 21 n0 78 (subC [1, 1, 0, 1, 0] (codeOf f78)) f h (contX pl78 prog J 21 n0 78 ct78 [1, 1, 0, 1, 0] (codeOf f78) [] (RetQ prog [.cell 2 111] n0 K)) :=
  loop_rule hJ mixed (b := subC [1, 1, 0, 1, 0, 0] (codeOf f78)) (by kernel_rfl) μ I hI hi
theorem at77 : prog.funcs[77]? = some f77 := by kernel_rfl
theorem body77 : f77.body = some (codeOf f77) := by kernel_rfl
def pl77 : Plans := []
def ct77 : Cuts := .go
theorem pok77 : plansOk prog pl77 (codeOf f77) = true := by kernel_rfl
theorem e77 {a0 a1 a2 a3 a4 : Value} : W prog J 56 h.length 77 (codeOf f77) (RG.mk (regs [a0, a1, a2, a3, a4]) []) h (RetQ prog [.tmp 10, .tmp 11] h.length K) =
(aBox a2 h fun v1 h2 =>
 aNewM h2 fun v3 h4 =>
 aRange prog 102 a0 h4 fun v5 h6 =>
 Sem J 56 h.length 77 (subC [1, 1, 0, 1, 0] (codeOf f77)) (RG.p (RG.p (RG.p (RG.p (RG.p (RG.p (RG.p (RG.mk (regs [a0, a1, a2, a3, a4]) []) 7 v1) 10 (Value.map none)) 11 (Value.bool false)) 20 v3) 12 v3) 21 a0) 22 v5) h6 (contX pl77 prog J 56 h.length 77 ct77 [1, 1, 0, 1, 0] (codeOf f77) [] (RetQ prog [.tmp 10, .tmp 11] h.length K))) := top_eq pok77 ct77 (by kernel_rfl)
theorem g77 (hJ : Closed prog main J) {a0 a1 a2 a3 a4 : Value} (hs : heapOk h → W prog J 56 h.length 77 (codeOf f77) (RG.mk (regs [a0, a1, a2, a3, a4]) []) h (RetQ prog [.tmp 10, .tmp 11] h.length K)) : Good prog J 77 [a0, a1, a2, a3, a4] h K :=
  good_of_W hJ mixed at77 body77 (by kernel_rfl) (Nat.le_of_ble_eq_true rfl) hs
theorem s77_1 {f : RG} {nx0 : RG → List AObj → Prop} : W prog J 56 n0 77 (subC [1, 1, 0, 1, 0, 0] (codeOf f77)) f h (thenK nx0 (contX pl77 prog J 56 n0 77 ct77 [1, 1, 0, 1, 0] (codeOf f77) [] (RetQ prog [.tmp 10, .tmp 11] n0 K))) =
(aNext (f.r 22) h fun v1 h2 =>
 aExt v1 0 fun v3 =>
 cnd v3
(aEntry (f.r 22) h2 fun v4 =>
 aExt v4 0 fun v5 =>
 aAlloc [(vint 0), (vint 0), (vint 0), (vint 0), (vint 0), (vint 0), (Value.int .u8 0), (vint 0)] h2 fun v6 h7 =>
 aStore 8 v6 v5 h7 fun h8 =>
 aFill [(Value.int .u8 0), (Value.int .u8 0)] [(0, 1, (Value.int .u8 100)), (1, 1, (Value.int .u8 119))] fun c9 =>
 Sem J 56 n0 77 (subC [1, 1, 0, 1, 0, 0, 1, 1, 0, 1, 1, 0] (codeOf f77)) (RG.p (RG.p (RG.p (RG.p (RG.p (RG.p (RG.p f 23 v1) 24 v3) 25 v4) 26 v5) 13 v6) 27 (Value.agg ⟨c9⟩)) 28 (vint 0)) h8 (contX pl77 prog J 56 n0 77 ct77 [1, 1, 0, 1, 0, 0, 1, 1, 0, 1, 1, 0] (codeOf f77) [nx0] (RetQ prog [.tmp 10, .tmp 11] n0 K)))
(retL n0 K f.ds [(f.r 12), (Value.bool true)] h2)) := sub_eq pok77 ct77 (by kernel_rfl)
theorem l77_1 (hJ : Closed prog main J) {S : Type} (μ : S → Nat) (I : S → RG → List AObj → Prop) (hI : ∀ s f h, I s f h → heapOk h → n0 ≤ h.length → W prog J 56 n0 77 (subC [1, 1, 0, 1, 0, 0] (codeOf f77)) f h (thenK (Nx n0 μ I s) (contX pl77 prog J 56 n0 77 ct77 [1, 1, 0, 1, 0] (codeOf f77) [] (RetQ prog [.tmp 10, .tmp 11] n0 K))))
  {s : S} {f : RG} (hi : Gets n0 I s f h) : Sem J 56 n0 77 (subC [1, 1, 0, 1, 0] (codeOf f77)) f h (contX pl77 prog J 56 n0 77 ct77 [1, 1, 0, 1, 0] (codeOf f77) [] (RetQ prog [.tmp 10, .tmp 11] n0 K)) :=
  loop_rule hJ mixed (b := subC [1, 1, 0, 1, 0, 0] (codeOf f77)) (by kernel_rfl) μ I hI hi
theorem s77_2 {f : RG} {nx0 nx1 : RG → List AObj → Prop} : W prog J 56 n0 77 (subC [1, 1, 0, 1, 0, 0, 1, 1, 0, 1, 1, 0, 0] (codeOf f77)) f h (thenK nx1 (contX pl77 prog J 56 n0 77 ct77 [1, 1, 0, 1, 0, 0, 1, 1, 0, 1, 1, 0] (codeOf f77) [nx0] (RetQ prog [.tmp 10, .tmp 11] n0 K))) =
(aBin prog .lss 3 (f.r 28) (vint 2) fun v1 =>
 cnd v1
(aIdxV 2 1 false (f.r 27) (f.r 28) fun v2 =>
 aOff (f.r 13) 6 fun v3 =>
 aLoad true 2 v3 h fun v4 =>
 aLoad true 3 (f.r 7) h fun v5 =>
 Good prog J 117 [v4, v5, v2] h fun v6 h7 =>
 aExt v6 0 fun v8 =>
 aExt v6 1 fun v9 =>
 aAlloc [(Value.int .u8 0), (vint 0)] h7 fun v10 h11 =>
 aStore 2 v10 v8 h11 fun h12 =>
 aUn .not v9 fun v13 =>
 cnd v13
(aBin prog .add 3 (f.r 28) (vint 1) fun v14 =>
 nx1 (RG.p (RG.p (RG.p (RG.p (RG.p (RG.p (RG.p (RG.p (RG.p (RG.p (RG.p (RG.p (RG.p (RG.p (RG.p (RG.p (RG.p f 29 v1) 30 v2) 15 v2) 32 v3) 33 v4) 34 v5) 35 v2) 36 v6) 31 v6) 37 v8) 38 v9) 16 v10) 17 v9) 39 v9) 40 v13) 54 v14) 28 v14) h12)
(aLoad true 8 (f.r 13) h12 fun v15 =>
 aLoad true 2 v10 h12 fun v16 =>
 Good prog J 118 [v15, (f.r 1), (f.r 3), (f.r 4), v16] h12 fun v17 h18 =>
 aExt v17 0 fun v19 =>
 aExt v17 1 fun v20 =>
 aAlloc [(vint 0), (vint 0), (vint 0), (vint 0), (vint 0), (vint 0), (Value.int .u8 0), (vint 0)] h18 fun v21 h22 =>
 aStore 8 v21 v19 h22 fun h23 =>
 aUn .not v20 fun v24 =>
 cnd v24
(retL n0 K f.ds [(Value.map none), (Value.bool false)] h23)
(aLoad true 8 v21 h23 fun v25 =>
((VOk h23.length (Value.bool true) ∧ one (Value.bool true) = true) ∧ aUpdX prog 102 (f.r 12) v25 (Value.bool true) h23 fun h26 =>
 aBin prog .add 3 (f.r 28) (vint 1) fun v27 =>
 nx1 (RG.p (RG.p (RG.p (RG.p (RG.p (RG.p (RG.p (RG.p (RG.p (RG.p (RG.p (RG.p (RG.p (RG.p (RG.p (RG.p (RG.p (RG.p (RG.p (RG.p (RG.p (RG.p (RG.p (RG.p (RG.p (RG.p (RG.p (RG.p (RG.p (RG.p (RG.p (RG.p f 29 v1) 30 v2) 15 v2) 32 v3) 33 v4) 34 v5) 35 v2) 36 v6) 31 v6) 37 v8) 38 v9) 16 v10) 17 v9) 39 v9) 40 v13) 42 v15) 43 (f.r 1)) 44 (f.r 3)) 45 (f.r 4)) 46 v16) 47 v17) 41 v17) 48 v19) 49 v20) 18 v21) 19 v20) 50 v20) 51 v24) 52 (f.r 12)) 53 v25) 54 v27) 28 v27) h26))))
(nx0 (RG.p f 29 v1) h)) := sub_eq pok77 ct77 (by kernel_rfl)
theorem l77_2 (hJ : Closed prog main J) {nx0 : RG → List AObj → Prop} {S : Type} (μ : S → Nat) (I : S → RG → List AObj → Prop) (hI : ∀ s f h, I s f h → heapOk h → n0 ≤ h.length → W prog J 56 n0 77 (subC [1, 1, 0, 1, 0, 0, 1, 1, 0, 1, 1, 0, 0] (codeOf f77)) f h (thenK (Nx n0 μ I s) (contX pl77 prog J 56 n0 77 ct77 [1, 1, 0, 1, 0, 0, 1, 1, 0, 1, 1, 0] (codeOf f77) [nx0] (RetQ prog [.tmp 10, .tmp 11] n0 K))))
  {s : S} {f : RG} (hi : Gets n0 I s f h) : Sem J 56 n0 77 (subC [1, 1, 0, 1, 0, 0, 1, 1, 0, 1, 1, 0] (codeOf f77)) f h (contX pl77 prog J 56 n0 77 ct77 [1, 1, 0, 1, 0, 0, 1, 1, 0, 1, 1, 0] (codeOf f77) [nx0] (RetQ prog [.tmp 10, .tmp 11] n0 K)) :=
  loop_rule hJ mixed (b := subC [1, 1, 0, 1, 0, 0, 1, 1, 0, 1, 1, 0, 0] (codeOf f77)) (by kernel_rfl) μ I hI hi
theorem at79 : prog.funcs[79]? = some f79 := by kernel_rfl
theorem body79 : f79.body = some (codeOf f79) := by kernel_rfl
def pl79 : Plans := []
def ct79 : Cuts := .go
theorem pok79 : plansOk prog pl79 (codeOf f79) = true := by kernel_rfl
theorem e79 {a0 a1 a2 a3 a4 : Value} : W prog J 49 h.length 79 (codeOf f79) (RG.mk (regs [a0, a1, a2, a3, a4]) []) h (RetQ prog [.tmp 10] h.length K) =
(aBox a2 h fun v1 h2 =>
 aLenS a1 fun v3 =>
 Sem J 49 h.length 79 (subC [1, 0, 1, 0] (codeOf f79)) (RG.p (RG.p (RG.p (RG.p (RG.p (RG.mk (regs [a0, a1, a2, a3, a4]) []) 7 v1) 10 (Value.slice none 0 0)) 15 a1) 16 v3) 17 (vint 0)) h2 (contX pl79 prog J 49 h.length 79 ct79 [1, 0, 1, 0] (codeOf f79) [] (RetQ prog [.tmp 10] h.length K))) := top_eq pok79 ct79 (by kernel_rfl)
theorem g79 (hJ : Closed prog main J) {a0 a1 a2 a3 a4 : Value} (hs : heapOk h → W prog J 49 h.length 79 (codeOf f79) (RG.mk (regs [a0, a1, a2, a3, a4]) []) h (RetQ prog [.tmp 10] h.length K)) : Good prog J 79 [a0, a1, a2, a3, a4] h K :=
  good_of_W hJ mixed at79 body79 (by kernel_rfl) (Nat.le_of_ble_eq_true rfl) hs
theorem s79_1 {f : RG} {nx0 : RG → List AObj → Prop} : W prog J 49 n0 79 (subC [1, 0, 1, 0, 0] (codeOf f79)) f h (thenK nx0 (contX pl79 prog J 49 n0 79 ct79 [1, 0, 1, 0] (codeOf f79) [] (RetQ prog [.tmp 10] n0 K))) =
(aBin prog .lss 3 (f.r 17) (f.r 16) fun v1 =>
 cnd v1
(aLoad true 3 (f.r 7) h fun v2 =>
 Good prog J 77 [(f.r 0), (f.r 1), v2, (f.r 17), (f.r 3)] h fun v3 h4 =>
 aExt v3 0 fun v5 =>
 aExt v3 1 fun v6 =>
 aUn .not v6 fun v7 =>
 cnd v7
(aBin prog .add 3 (f.r 17) (vint 1) fun v8 =>
 nx0 (RG.p (RG.p (RG.p (RG.p (RG.p (RG.p (RG.p (RG.p (RG.p (RG.p (RG.p (RG.p (RG.p (RG.p (RG.p (RG.p (RG.p (RG.p f 18 v1) 19 (f.r 17)) 11 (f.r 17)) 21 (f.r 0)) 22 (f.r 1)) 23 v2) 24 (f.r 17)) 25 (f.r 3)) 26 v3) 20 v3) 27 v5) 28 v6) 12 v5) 13 v6) 29 v6) 30 v7) 48 v8) 17 v8) h4)
(aBin prog .eql 3 (f.r 4) (vint 1) fun v9 =>
 cnd v9
((((1 * 1 : Nat) ≤ 16777216 ∧ (1 : Nat) ≤ 16777216 ∧ List.length [(vint 0)] = 1) ∧ aFill (zrep [(vint 0)] 1) [(0, 1, (f.r 17))] fun c10 =>
 aNewS 1 c10 h4 fun v11 h12 =>
 retL n0 K f.ds [v11] h12))
(aLoad true 3 (f.r 7) h4 fun v13 =>
 aBin prog .sub 3 (f.r 4) (vint 1) fun v14 =>
 Good prog J 79 [v5, (f.r 1), v13, (f.r 3), v14] h4 fun v15 h16 =>
 aBin prog .neq 25 v15 (Value.slice none 0 0) fun v17 =>
 cnd v17
((((1 * 1 : Nat) ≤ 16777216 ∧ (1 : Nat) ≤ 16777216 ∧ List.length [(vint 0)] = 1) ∧ aFill (zrep [(vint 0)] 1) [(0, 1, (f.r 17))] fun c18 =>
 aNewS 1 c18 h16 fun v19 h20 =>
((List.length [(vint 0)] = 1 ∧ 0 < (1 : Nat) ∧ 0 < (8 : Nat) ∧ (8 : Nat) ≤ 1024) ∧ aApp 1 v19 v15 h20 fun v21 h22 =>
 retL n0 K f.ds [v21] h22)))
(aBin prog .add 3 (f.r 17) (vint 1) fun v23 =>
 nx0 (RG.p (RG.p (RG.p (RG.p (RG.p (RG.p (RG.p (RG.p (RG.p (RG.p (RG.p (RG.p (RG.p (RG.p (RG.p (RG.p (RG.p (RG.p (RG.p (RG.p (RG.p (RG.p (RG.p (RG.p (RG.p (RG.p (RG.p (RG.p (RG.p (RG.p f 18 v1) 19 (f.r 17)) 11 (f.r 17)) 21 (f.r 0)) 22 (f.r 1)) 23 v2) 24 (f.r 17)) 25 (f.r 3)) 26 v3) 20 v3) 27 v5) 28 v6) 12 v5) 13 v6) 29 v6) 30 v7) 31 (f.r 4)) 32 v9) 35 v5) 36 (f.r 1)) 37 v13) 38 (f.r 3)) 39 (f.r 4)) 40 v14) 41 v15) 14 v15) 42 v15) 43 v17) 48 v23) 17 v23) h16))))
(retL n0 K f.ds [(Value.slice none 0 0)] h)) := sub_eq pok79 ct79 (by kernel_rfl)
theorem l79_1 (hJ : Closed prog main J) {S : Type} (μ : S → Nat) (I : S → RG → List AObj → Prop) (hI : ∀ s f h, I s f h → heapOk h → n0 ≤ h.length → W prog J 49 n0 79 (subC [1, 0, 1, 0, 0] (codeOf f79)) f h (thenK (Nx n0 μ I s) (contX pl79 prog J 49 n0 79 ct79 [1, 0, 1, 0] (codeOf f79) [] (RetQ prog [.tmp 10] n0 K))))
  {s : S} {f : RG} (hi : Gets n0 I s f h) : Sem J 49 n0 79 (subC [1, 0, 1, 0] (codeOf f79)) f h (contX pl79 prog J 49 n0 79 ct79 [1, 0, 1, 0] (codeOf f79) [] (RetQ prog [.tmp 10] n0 K)) :=
  loop_rule hJ mixed (b := subC [1, 0, 1, 0, 0] (codeOf f79)) (by kernel_rfl) μ I hI hi
theorem at118 : prog.funcs[118]? = some f118 := by kernel_rfl
theorem body118 : f118.body = some (codeOf f118) := by kernel_rfl
def pl118 : Plans := [(8, false, .take 0 (.take 1 (.take 2 (.take 3 (.take 4 (.take 5 (.last 6 true (.last 7 false (.fin)))))))))]
def ct118 : Cuts := .bin (.go) (.bin (.go) (.bin (.bin (.go) (.un (.un (.bin (.go) (.bin (.go) (.bin (.un (.bin (.go) (.bin (.go) (.bin (.go) (.cut (.go)))))) (.go))))))) (.go)))
theorem pok118 : plansOk prog pl118 (codeOf f118) = true := by kernel_rfl
theorem e118 {a0 a1 a2 a3 a4 : Value} : W prog J 55 h.length 118 (codeOf f118) (RG.mk (regs [a0, a1, a2, a3, a4]) []) h (RetQ prog [.cell 10 111, .tmp 11] h.length K) =
(aBox a0 h fun v1 h2 =>
 aBox a4 h2 fun v3 h4 =>
 aAlloc [(vint 0), (vint 0), (vint 0), (vint 0), (vint 0), (vint 0), (Value.int .u8 0), (vint 0)] h4 fun v5 h6 =>
 aLenS a1 fun v7 =>
 Sem J 55 h.length 118 (subC [1, 1, 0, 1, 0] (codeOf f118)) (RG.p (RG.p (RG.p (RG.p (RG.p (RG.p (RG.p (RG.p (RG.mk (regs [a0, a1, a2, a3, a4]) []) 5 v1) 9 v3) 10 v5) 11 (Value.bool false)) 12 (Value.bool true)) 19 a1) 20 v7) 21 (vint 0)) h6 (contX pl118 prog J 55 h.length 118 ct118 [1, 1, 0, 1, 0] (codeOf f118) [] (RetQ prog [.cell 10 111, .tmp 11] h.length K))) := top_eq pok118 ct118 (by kernel_rfl)
theorem g118 (hJ : Closed prog main J) {a0 a1 a2 a3 a4 : Value} (hs : heapOk h → W prog J 55 h.length 118 (codeOf f118) (RG.mk (regs [a0, a1, a2, a3, a4]) []) h (RetQ prog [.cell 10 111, .tmp 11] h.length K)) : Good prog J 118 [a0, a1, a2, a3, a4] h K :=
  good_of_W hJ mixed at118 body118 (by kernel_rfl) (Nat.le_of_ble_eq_true rfl) hs
theorem s118_1 {f : RG} {nx0 : RG → List AObj → Prop} : W prog J 55 n0 118 (subC [1, 1, 0, 1, 0, 0] (codeOf f118)) f h (thenK nx0 (contX pl118 prog J 55 n0 118 ct118 [1, 1, 0, 1, 0] (codeOf f118) [] (RetQ prog [.cell 10 111, .tmp 11] n0 K))) =
(aBin prog .lss 3 (f.r 21) (f.r 20) fun v1 =>
 cnd v1
(aIdx 6 (f.r 19) (f.r 21) fun v2 =>
 aLoad true 6 v2 h fun v3 =>
 aAlloc [(vint 0), (vint 0), (vint 0), (vint 0), (vint 0), (vint 0)] h fun v4 h5 =>
 aStore 6 v4 v3 h5 fun h6 =>
 aBin prog .eql 3 (f.r 21) (f.r 2) fun v7 =>
 cnd v7
(Hold (W prog J 55 n0 118 (subC [1, 1, 0, 1, 0, 0, 1, 1, 0, 0, 1, 1, 1] (codeOf f118)) (RG.p (RG.p (RG.p (RG.p (RG.p (RG.p (RG.p (RG.p (RG.p (RG.p (RG.p (RG.p f 22 v1) 23 (f.r 21)) 24 v2) 25 v3) 14 v4) 13 (f.r 21)) 15 (vint 0)) 26 (f.r 21)) 27 (f.r 2)) 28 v7) 29 (f.r 3)) 15 (f.r 3)) h6 (contX pl118 prog J 55 n0 118 ct118 [1, 1, 0, 1, 0, 0, 1, 1, 0, 0, 1, 1, 1] (codeOf f118) [nx0] (RetQ prog [.cell 10 111, .tmp 11] n0 K))))
(Hold (W prog J 55 n0 118 (subC [1, 1, 0, 1, 0, 0, 1, 1, 0, 0, 1, 1, 1] (codeOf f118)) (RG.p (RG.p (RG.p (RG.p (RG.p (RG.p (RG.p (RG.p (RG.p (RG.p f 22 v1) 23 (f.r 21)) 24 v2) 25 v3) 14 v4) 13 (f.r 21)) 15 (vint 0)) 26 (f.r 21)) 27 (f.r 2)) 28 v7) h6 (contX pl118 prog J 55 n0 118 ct118 [1, 1, 0, 1, 0, 0, 1, 1, 0, 0, 1, 1, 1] (codeOf f118) [nx0] (RetQ prog [.cell 10 111, .tmp 11] n0 K)))))
(aLoad true 2 (f.r 9) h fun v8 =>
 aOff (f.r 5) 6 fun v9 =>
 aStore 2 v9 v8 h fun h10 =>
 aLoad true 8 (f.r 5) h10 fun v11 =>
 aStore 8 (f.r 10) v11 h10 fun h12 =>
 RetQ prog [.cell 10 111, .tmp 11] n0 K .ret (RG.p (RG.p (RG.p (RG.p (RG.p (RG.p f 22 v1) 51 v8) 52 v9) 53 v11) 54 (f.r 12)) 11 (f.r 12)) h12)) := sub_eq pok118 ct118 (by kernel_rfl)
theorem l118_1 (hJ : Closed prog main J) {S : Type} (μ : S → Nat) (I : S → RG → List AObj → Prop) (hI : ∀ s f h, I s f h → heapOk h → n0 ≤ h.length → W prog J 55 n0 118 (subC [1, 1, 0, 1, 0, 0] (codeOf f118)) f h (thenK (Nx n0 μ I s) (contX pl118 prog J 55 n0 118 ct118 [1, 1, 0, 1, 0] (codeOf f118) [] (RetQ prog [.cell 10 111, .tmp 11] n0 K))))
  {s : S} {f : RG} (hi : Gets n0 I s f h) : Sem J 55 n0 118 (subC [1, 1, 0, 1, 0] (codeOf f118)) f h (contX pl118 prog J 55 n0 118 ct118 [1, 1, 0, 1, 0] (codeOf f118) [] (RetQ prog [.cell 10 111, .tmp 11] n0 K)) :=
  loop_rule hJ mixed (b := subC [1, 1, 0, 1, 0, 0] (codeOf f118)) (by kernel_rfl) μ I hI hi
theorem s118_2 {f : RG} {nx0 : RG → List AObj → Prop} : W prog J 55 n0 118 (subC [1, 1, 0, 1, 0, 0, 1, 1, 0, 0, 1, 1, 1] (codeOf f118)) f h (contX pl118 prog J 55 n0 118 ct118 [1, 1, 0, 1, 0, 0, 1, 1, 0, 0, 1, 1, 1] (codeOf f118) [nx0] (RetQ prog [.cell 10 111, .tmp 11] n0 K)) =
((∃ B, aLoad true 6 (f.r 14) h fun v1 =>
 RdOk (some B) (ptrBlk (f.r 14)) ∧ (aOff (f.r 5) 0 fun v2 =>
 aIdxA 3 2 v2 (f.r 13) fun v3 =>
 aLoad true 2 v3 h fun v4 =>
 RdOk (some B) (ptrBlk v3) ∧ (aFill [(vint 0), (vint 0), (vint 0), (vint 0), (vint 0), (vint 0), (vint 0), (vint 0)] [(0, 6, v1), (6, 2, v4)] fun c5 =>
 aAlloc [(vint 0), (vint 0), (vint 0), (vint 0), (vint 0), (vint 0), (vint 0), (vint 0)] h fun v6 h7 =>
 SameB (some B) h h7 ∧ (aStore 8 v6 (Value.agg ⟨c5⟩) h7 fun h8 =>
 aOff (f.r 9) 0 fun v9 =>
 aLoad false 1 v9 h8 fun v10 =>
 aBin prog .eql 5 v10 (Value.int .u8 119) fun v11 =>
 Good prog J 126 [v6, (f.r 15), v11] h8 fun v12 h13 =>
 aExt v12 0 fun v14 =>
 aExt v12 1 fun v15 =>
 cnd v14
(aOff v6 6 fun v16 =>
 aLoad true 2 v16 h13 fun v17 =>
 aOff (f.r 5) 0 fun v18 =>
 aIdxA 3 2 v18 (f.r 13) fun v19 =>
 aStore 2 v19 v17 h13 fun h20 =>
 aBin prog .add 3 (f.r 21) (vint 1) fun v21 =>
 nx0 (RG.p (RG.p (RG.p (RG.p (RG.p (RG.p (RG.p (RG.p (RG.p (RG.p (RG.p (RG.p (RG.p (RG.p (RG.p (RG.p (RG.p (RG.p (RG.p (RG.p (RG.p (RG.p (RG.p (RG.p (RG.p (RG.p f 30 v1) 31 (f.r 13)) 32 v2) 33 v3) 34 v4) 35 (Value.agg ⟨c5⟩)) 16 v6) 37 (f.r 15)) 38 v9) 39 v10) 40 v11) 41 v12) 36 v12) 42 v14) 43 v15) 17 v14) 18 v15) 44 v14) 12 (Value.bool false)) 45 (f.r 13)) 46 v16) 47 v17) 48 v18) 49 v19) 50 v21) 21 v21) h20)
(aOff v6 6 fun v22 =>
 aLoad true 2 v22 h13 fun v23 =>
 aOff (f.r 5) 0 fun v24 =>
 aIdxA 3 2 v24 (f.r 13) fun v25 =>
 aStore 2 v25 v23 h13 fun h26 =>
 aBin prog .add 3 (f.r 21) (vint 1) fun v27 =>
 nx0 (RG.p (RG.p (RG.p (RG.p (RG.p (RG.p (RG.p (RG.p (RG.p (RG.p (RG.p (RG.p (RG.p (RG.p (RG.p (RG.p (RG.p (RG.p (RG.p (RG.p (RG.p (RG.p (RG.p (RG.p (RG.p f 30 v1) 31 (f.r 13)) 32 v2) 33 v3) 34 v4) 35 (Value.agg ⟨c5⟩)) 16 v6) 37 (f.r 15)) 38 v9) 39 v10) 40 v11) 41 v12) 36 v12) 42 v14) 43 v15) 17 v14) 18 v15) 44 v14) 45 (f.r 13)) 46 v22) 47 v23) 48 v24) 49 v25) 50 v27) 21 v27) h26)))))) := sub_eq pok118 ct118 (by kernel_rfl)
end
section
variable {main : Bool} {J : JT} {n0 : Nat} {h : List AObj} {K : Value → List AObj → Prop}
theorem at73 : prog.funcs[73]? = some f73 := by kernel_rfl
theorem body73 : f73.body = some (codeOf f73) := by kernel_rfl
def pl73 : Plans := []
def ct73 : Cuts := .go
theorem pok73 : plansOk prog pl73 (codeOf f73) = true := by kernel_rfl
theorem e73 {a0 a1 a2 : Value} : W prog J 15 h.length 73 (codeOf f73) (RG.mk (regs [a0, a1, a2]) []) h (RetQ prog [.tmp 6] h.length K) =
(aBin prog .leq 3 a1 a0 fun v1 =>
 cnd v1
(aBin prog .leq 3 a0 a2 fun v2 =>
 retL h.length K [] [v2] h)
(retL h.length K [] [(Value.bool false)] h)) := top_eq pok73 ct73 (by kernel_rfl)
theorem g73 (hJ : Closed prog main J) {a0 a1 a2 : Value} (hs : heapOk h → W prog J 15 h.length 73 (codeOf f73) (RG.mk (regs [a0, a1, a2]) []) h (RetQ prog [.tmp 6] h.length K)) : Good prog J 73 [a0, a1, a2] h K :=
  good_of_W hJ mixed at73 body73 (by kernel_rfl) (Nat.le_of_ble_eq_true rfl) hs
theorem at36 : prog.funcs[36]? = some f36 := by kernel_rfl
theorem body36 : f36.body = some (codeOf f36) := by kernel_rfl
def pl36 : Plans := []
def ct36 : Cuts := .bin (.go) (.bin (.bin (.go) (.cut (.go))) (.go))
theorem pok36 : plansOk prog pl36 (codeOf f36) = true := by kernel_rfl
theorem e36 {a0 : Value} : W prog J 37 h.length 36 (codeOf f36) (RG.mk (regs [a0]) []) h (RetQ prog [.tmp 2] h.length K) =
(aBox a0 h fun v1 h2 =>
 aOff v1 1 fun v3 =>
 aLoad false 1 v3 h2 fun v4 =>
 Good prog J 73 [v4, (vint 1), (vint 99)] h2 fun v5 h6 =>
 cnd v5
(aOff v1 0 fun v7 =>
 aLoad false 1 v7 h6 fun v8 =>
 aOff v1 1 fun v9 =>
 aLoad false 1 v9 h6 fun v10 =>
 Good prog J 73 [v8, (vint 0), v10] h6 fun v11 h12 =>
 cnd v11
(aOff v1 2 fun v13 =>
 aLoad false 1 v13 h12 fun v14 =>
 Good prog J 73 [v14, (vint 0), (vint 9)] h12 fun v15 h16 =>
 cnd v15
(aOff v1 3 fun v17 =>
 aLoad false 1 v17 h16 fun v18 =>
 aOff v1 2 fun v19 =>
 aLoad false 1 v19 h16 fun v20 =>
 Good prog J 73 [v18, v20, (vint 9)] h16 fun v21 h22 =>
 cnd v21
(aOff v1 4 fun v23 =>
 aLoad false 1 v23 h22 fun v24 =>
 aOff v1 1 fun v25 =>
 aLoad false 1 v25 h22 fun v26 =>
 Good prog J 73 [v24, (vint 0), v26] h22 fun v27 h28 =>
 cnd v27
(aOff v1 5 fun v29 =>
 aLoad false 1 v29 h28 fun v30 =>
 Good prog J 73 [v30, (vint 0), (vint 5)] h28 fun v31 h32 =>
 Hold (W prog J 37 h.length 36 (subC [1, 0, 1] (codeOf f36)) (RG.p (RG.p (RG.p (RG.p (RG.p (RG.p (RG.p (RG.p (RG.p (RG.p (RG.p (RG.p (RG.p (RG.p (RG.p (RG.p (RG.p (RG.p (RG.p (RG.p (RG.p (RG.p (RG.p (RG.p (RG.p (RG.p (RG.p (RG.p (RG.p (RG.p (RG.p (RG.p (RG.p (RG.p (RG.p (RG.p (RG.p (RG.p (RG.p (RG.p (RG.p (RG.mk (regs [a0]) []) 1 v1) 2 (vint 0)) 3 v3) 4 v4) 5 v5) 6 v5) 6 (Value.bool true)) 7 v7) 8 v8) 9 v9) 10 v10) 11 v11) 12 v11) 13 v11) 13 (Value.bool true)) 14 v13) 15 v14) 16 v15) 17 v15) 18 v15) 18 (Value.bool true)) 19 v17) 20 v18) 21 v19) 22 v20) 23 v21) 24 v21) 25 v21) 25 (Value.bool true)) 26 v23) 27 v24) 28 v25) 29 v26) 30 v27) 31 v27) 32 v27) 32 (Value.bool true)) 33 v29) 34 v30) 35 v31) 36 v31) h32 (contX pl36 prog J 37 h.length 36 ct36 [1, 0, 1] (codeOf f36) [] (RetQ prog [.tmp 2] h.length K))))
(Hold (W prog J 37 h.length 36 (subC [1, 0, 1] (codeOf f36)) (RG.p (RG.p (RG.p (RG.p (RG.p (RG.p (RG.p (RG.p (RG.p (RG.p (RG.p (RG.p (RG.p (RG.p (RG.p (RG.p (RG.p (RG.p (RG.p (RG.p (RG.p (RG.p (RG.p (RG.p (RG.p (RG.p (RG.p (RG.p (RG.p (RG.p (RG.p (RG.p (RG.p (RG.p (RG.p (RG.p (RG.p (RG.p (RG.p (RG.p (RG.p (RG.mk (regs [a0]) []) 1 v1) 2 (vint 0)) 3 v3) 4 v4) 5 v5) 6 v5) 6 (Value.bool true)) 7 v7) 8 v8) 9 v9) 10 v10) 11 v11) 12 v11) 13 v11) 13 (Value.bool true)) 14 v13) 15 v14) 16 v15) 17 v15) 18 v15) 18 (Value.bool true)) 19 v17) 20 v18) 21 v19) 22 v20) 23 v21) 24 v21) 25 v21) 25 (Value.bool true)) 26 v23) 27 v24) 28 v25) 29 v26) 30 v27) 31 v27) 32 v27) 32 (Value.bool false)) 33 undef) 34 undef) 35 undef) 36 (Value.bool false)) h28 (contX pl36 prog J 37 h.length 36 ct36 [1, 0, 1] (codeOf f36) [] (RetQ prog [.tmp 2] h.length K)))))
(Hold (W prog J 37 h.length 36 (subC [1, 0, 1] (codeOf f36)) (RG.p (RG.p (RG.p (RG.p (RG.p (RG.p (RG.p (RG.p (RG.p (RG.p (RG.p (RG.p (RG.p (RG.p (RG.p (RG.p (RG.p (RG.p (RG.p (RG.p (RG.p (RG.p (RG.p (RG.p (RG.p (RG.p (RG.p (RG.p (RG.p (RG.p (RG.p (RG.p (RG.p (RG.p (RG.p (RG.p (RG.p (RG.p (RG.p (RG.p (RG.p (RG.mk (regs [a0]) []) 1 v1) 2 (vint 0)) 3 v3) 4 v4) 5 v5) 6 v5) 6 (Value.bool true)) 7 v7) 8 v8) 9 v9) 10 v10) 11 v11) 12 v11) 13 v11) 13 (Value.bool true)) 14 v13) 15 v14) 16 v15) 17 v15) 18 v15) 18 (Value.bool true)) 19 v17) 20 v18) 21 v19) 22 v20) 23 v21) 24 v21) 25 v21) 25 (Value.bool false)) 26 undef) 27 undef) 28 undef) 29 undef) 30 undef) 31 (Value.bool false)) 32 (Value.bool false)) 32 (Value.bool false)) 33 undef) 34 undef) 35 undef) 36 (Value.bool false)) h22 (contX pl36 prog J 37 h.length 36 ct36 [1, 0, 1] (codeOf f36) [] (RetQ prog [.tmp 2] h.length K)))))
(Hold (W prog J 37 h.length 36 (subC [1, 0, 1] (codeOf f36)) (RG.p (RG.p (RG.p (RG.p (RG.p (RG.p (RG.p (RG.p (RG.p (RG.p (RG.p (RG.p (RG.p (RG.p (RG.p (RG.p (RG.p (RG.p (RG.p (RG.p (RG.p (RG.p (RG.p (RG.p (RG.p (RG.p (RG.p (RG.p (RG.p (RG.p (RG.p (RG.p (RG.p (RG.p (RG.p (RG.p (RG.p (RG.p (RG.p (RG.p (RG.p (RG.mk (regs [a0]) []) 1 v1) 2 (vint 0)) 3 v3) 4 v4) 5 v5) 6 v5) 6 (Value.bool true)) 7 v7) 8 v8) 9 v9) 10 v10) 11 v11) 12 v11) 13 v11) 13 (Value.bool true)) 14 v13) 15 v14) 16 v15) 17 v15) 18 v15) 18 (Value.bool false)) 19 undef) 20 undef) 21 undef) 22 undef) 23 undef) 24 (Value.bool false)) 25 (Value.bool false)) 25 (Value.bool false)) 26 undef) 27 undef) 28 undef) 29 undef) 30 undef) 31 (Value.bool false)) 32 (Value.bool false)) 32 (Value.bool false)) 33 undef) 34 undef) 35 undef) 36 (Value.bool false)) h16 (contX pl36 prog J 37 h.length 36 ct36 [1, 0, 1] (codeOf f36) [] (RetQ prog [.tmp 2] h.length K)))))
(Hold (W prog J 37 h.length 36 (subC [1, 0, 1] (codeOf f36)) (RG.p (RG.p (RG.p (RG.p (RG.p (RG.p (RG.p (RG.p (RG.p (RG.p (RG.p (RG.p (RG.p (RG.p (RG.p (RG.p (RG.p (RG.p (RG.p (RG.p (RG.p (RG.p (RG.p (RG.p (RG.p (RG.p (RG.p (RG.p (RG.p (RG.p (RG.p (RG.p (RG.p (RG.p (RG.p (RG.p (RG.p (RG.p (RG.p (RG.p (RG.p (RG.mk (regs [a0]) []) 1 v1) 2 (vint 0)) 3 v3) 4 v4) 5 v5) 6 v5) 6 (Value.bool true)) 7 v7) 8 v8) 9 v9) 10 v10) 11 v11) 12 v11) 13 v11) 13 (Value.bool false)) 14 undef) 15 undef) 16 undef) 17 (Value.bool false)) 18 (Value.bool false)) 18 (Value.bool false)) 19 undef) 20 undef) 21 undef) 22 undef) 23 undef) 24 (Value.bool false)) 25 (Value.bool false)) 25 (Value.bool false)) 26 undef) 27 undef) 28 undef) 29 undef) 30 undef) 31 (Value.bool false)) 32 (Value.bool false)) 32 (Value.bool false)) 33 undef) 34 undef) 35 undef) 36 (Value.bool false)) h12 (contX pl36 prog J 37 h.length 36 ct36 [1, 0, 1] (codeOf f36) [] (RetQ prog [.tmp 2] h.length K)))))
(Hold (W prog J 37 h.length 36 (subC [1, 0, 1] (codeOf f36)) (RG.p (RG.p (RG.p (RG.p (RG.p (RG.p (RG.p (RG.p (RG.p (RG.p (RG.p (RG.p (RG.p (RG.p (RG.p (RG.p (RG.p (RG.p (RG.p (RG.p (RG.p (RG.p (RG.p (RG.p (RG.p (RG.p (RG.p (RG.p (RG.p (RG.p (RG.p (RG.p (RG.p (RG.p (RG.p (RG.p (RG.p (RG.p (RG.p (RG.p (RG.p (RG.mk (regs [a0]) []) 1 v1) 2 (vint 0)) 3 v3) 4 v4) 5 v5) 6 v5) 6 (Value.bool false)) 7 undef) 8 undef) 9 undef) 10 undef) 11 undef) 12 (Value.bool false)) 13 (Value.bool false)) 13 (Value.bool false)) 14 undef) 15 undef) 16 undef) 17 (Value.bool false)) 18 (Value.bool false)) 18 (Value.bool false)) 19 undef) 20 undef) 21 undef) 22 undef) 23 undef) 24 (Value.bool false)) 25 (Value.bool false)) 25 (Value.bool false)) 26 undef) 27 undef) 28 undef) 29 undef) 30 undef) 31 (Value.bool false)) 32 (Value.bool false)) 32 (Value.bool false)) 33 undef) 34 undef) 35 undef) 36 (Value.bool false)) h6 (contX pl36 prog J 37 h.length 36 ct36 [1, 0, 1] (codeOf f36) [] (RetQ prog [.tmp 2] h.length K))))) := top_eq pok36 ct36 (by kernel_rfl)
theorem g36 (hJ : Closed prog main J) {a0 : Value} (hs : heapOk h → W prog J 37 h.length 36 (codeOf f36) (RG.mk (regs [a0]) []) h (RetQ prog [.tmp 2] h.length K)) : Good prog J 36 [a0] h K :=
  good_of_W hJ mixed at36 body36 (by kernel_rfl) (Nat.le_of_ble_eq_true rfl) hs
theorem s36_1 {f : RG} : W prog J 37 n0 36 (subC [1, 0, 1] (codeOf f36)) f h (contX pl36 prog J 37 n0 36 ct36 [1, 0, 1] (codeOf f36) [] (RetQ prog [.tmp 2] n0 K)) =
(cnd (f.r 36)
(retL n0 K f.ds [(vint 0)] h)
(retL n0 K f.ds [(vint 1)] h)) := sub_eq pok36 ct36 (by kernel_rfl)
theorem at72 : prog.funcs[72]? = some f72 := by kernel_rfl
theorem body72 : f72.body = some (codeOf f72) := by kernel_rfl
def pl72 : Plans := []
def ct72 : Cuts := .bin (.go) (.bin (.bin (.go) (.cut (.go))) (.go))
theorem pok72 : plansOk prog pl72 (codeOf f72) = true := by kernel_rfl
theorem e72 {a0 : Value} : W prog J 20 h.length 72 (codeOf f72) (RG.mk (regs [a0]) []) h (RetQ prog [.tmp 2] h.length K) =
(aBox a0 h fun v1 h2 =>
 aOff v1 0 fun v3 =>
 aLoad false 1 v3 h2 fun v4 =>
 Good prog J 73 [v4, (vint 1), (vint 8)] h2 fun v5 h6 =>
 cnd v5
(aOff v1 1 fun v7 =>
 aLoad false 1 v7 h6 fun v8 =>
 aOff v1 0 fun v9 =>
 aLoad false 1 v9 h6 fun v10 =>
 Good prog J 73 [v8, (vint 1), v10] h6 fun v11 h12 =>
 cnd v11
(aOff v1 2 fun v13 =>
 aLoad false 1 v13 h12 fun v14 =>
 aOff v1 0 fun v15 =>
 aLoad false 1 v15 h12 fun v16 =>
 Good prog J 73 [v14, (vint 1), v16] h12 fun v17 h18 =>
 Hold (W prog J 20 h.length 72 (subC [1, 0, 1] (codeOf f72)) (RG.p (RG.p (RG.p (RG.p (RG.p (RG.p (RG.p (RG.p (RG.p (RG.p (RG.p (RG.p (RG.p (RG.p (RG.p (RG.p (RG.p (RG.p (RG.p (RG.p (RG.p (RG.mk (regs [a0]) []) 1 v1) 2 (vint 0)) 3 v3) 4 v4) 5 v5) 6 v5) 6 (Value.bool true)) 7 v7) 8 v8) 9 v9) 10 v10) 11 v11) 12 v11) 13 v11) 13 (Value.bool true)) 14 v13) 15 v14) 16 v15) 17 v16) 18 v17) 19 v17) h18 (contX pl72 prog J 20 h.length 72 ct72 [1, 0, 1] (codeOf f72) [] (RetQ prog [.tmp 2] h.length K))))
(Hold (W prog J 20 h.length 72 (subC [1, 0, 1] (codeOf f72)) (RG.p (RG.p (RG.p (RG.p (RG.p (RG.p (RG.p (RG.p (RG.p (RG.p (RG.p (RG.p (RG.p (RG.p (RG.p (RG.p (RG.p (RG.p (RG.p (RG.p (RG.p (RG.mk (regs [a0]) []) 1 v1) 2 (vint 0)) 3 v3) 4 v4) 5 v5) 6 v5) 6 (Value.bool true)) 7 v7) 8 v8) 9 v9) 10 v10) 11 v11) 12 v11) 13 v11) 13 (Value.bool false)) 14 undef) 15 undef) 16 undef) 17 undef) 18 undef) 19 (Value.bool false)) h12 (contX pl72 prog J 20 h.length 72 ct72 [1, 0, 1] (codeOf f72) [] (RetQ prog [.tmp 2] h.length K)))))
(Hold (W prog J 20 h.length 72 (subC [1, 0, 1] (codeOf f72)) (RG.p (RG.p (RG.p (RG.p (RG.p (RG.p (RG.p (RG.p (RG.p (RG.p (RG.p (RG.p (RG.p (RG.p (RG.p (RG.p (RG.p (RG.p (RG.p (RG.p (RG.p (RG.mk (regs [a0]) []) 1 v1) 2 (vint 0)) 3 v3) 4 v4) 5 v5) 6 v5) 6 (Value.bool false)) 7 undef) 8 undef) 9 undef) 10 undef) 11 undef) 12 (Value.bool false)) 13 (Value.bool false)) 13 (Value.bool false)) 14 undef) 15 undef) 16 undef) 17 undef) 18 undef) 19 (Value.bool false)) h6 (contX pl72 prog J 20 h.length 72 ct72 [1, 0, 1] (codeOf f72) [] (RetQ prog [.tmp 2] h.length K))))) := top_eq pok72 ct72 (by kernel_rfl)
theorem g72 (hJ : Closed prog main J) {a0 : Value} (hs : heapOk h → W prog J 20 h.length 72 (codeOf f72) (RG.mk (regs [a0]) []) h (RetQ prog [.tmp 2] h.length K)) : Good prog J 72 [a0] h K :=
  good_of_W hJ mixed at72 body72 (by kernel_rfl) (Nat.le_of_ble_eq_true rfl) hs
theorem s72_1 {f : RG} : W prog J 20 n0 72 (subC [1, 0, 1] (codeOf f72)) f h (contX pl72 prog J 20 n0 72 ct72 [1, 0, 1] (codeOf f72) [] (RetQ prog [.tmp 2] n0 K)) =
(cnd (f.r 19)
(retL n0 K f.ds [(vint 0)] h)
(retL n0 K f.ds [(vint 1)] h)) := sub_eq pok72 ct72 (by kernel_rfl)
theorem at71 : prog.funcs[71]? = some f71 := by kernel_rfl
theorem body71 : f71.body = some (codeOf f71) := by kernel_rfl
def pl71 : Plans := []
def ct71 : Cuts := .go
theorem pok71 : plansOk prog pl71 (codeOf f71) = true := by kernel_rfl
theorem e71 {a0 a1 a2 : Value} : W prog J 15 h.length 71 (codeOf f71) (RG.mk (regs [a0, a1, a2]) []) h (RetQ prog [.tmp 6] h.length K) =
(aBin prog .lss 3 a0 a1 fun v1 =>
 cnd v1
(retL h.length K [] [(vint 7)] h)
(aBin prog .gtr 3 a0 a2 fun v2 =>
 cnd v2
(retL h.length K [] [(vint 6)] h)
(retL h.length K [] [(vint 0)] h))) := top_eq pok71 ct71 (by kernel_rfl)
theorem g71 (hJ : Closed prog main J) {a0 a1 a2 : Value} (hs : heapOk h → W prog J 15 h.length 71 (codeOf f71) (RG.mk (regs [a0, a1, a2]) []) h (RetQ prog [.tmp 6] h.length K)) : Good prog J 71 [a0, a1, a2] h K :=
  good_of_W hJ mixed at71 body71 (by kernel_rfl) (Nat.le_of_ble_eq_true rfl) hs
theorem at88 : prog.funcs[88]? = some f88 := by kernel_rfl
theorem body88 : f88.body = some (codeOf f88) := by kernel_rfl
def pl88 : Plans := []
def ct88 : Cuts := .go
theorem pok88 : plansOk prog pl88 (codeOf f88) = true := by kernel_rfl
theorem e88 {a0 : Value} : W prog J 15 h.length 88 (codeOf f88) (RG.mk (regs [a0]) []) h (RetQ prog [.tmp 2] h.length K) =
(aLenS a0 fun v1 =>
 Sem J 15 h.length 88 (subC [1, 0, 1, 0] (codeOf f88)) (RG.p (RG.p (RG.p (RG.p (RG.mk (regs [a0]) []) 2 (vint 0)) 5 a0) 6 v1) 7 (vint 0)) h (contX pl88 prog J 15 h.length 88 ct88 [1, 0, 1, 0] (codeOf f88) [] (RetQ prog [.tmp 2] h.length K))) := top_eq pok88 ct88 (by kernel_rfl)
theorem g88 (hJ : Closed prog main J) {a0 : Value} (hs : heapOk h → W prog J 15 h.length 88 (codeOf f88) (RG.mk (regs [a0]) []) h (RetQ prog [.tmp 2] h.length K)) : Good prog J 88 [a0] h K :=
  good_of_W hJ mixed at88 body88 (by kernel_rfl) (Nat.le_of_ble_eq_true rfl) hs
theorem s88_1 {f : RG} {nx0 : RG → List AObj → Prop} : W prog J 15 n0 88 (subC [1, 0, 1, 0, 0] (codeOf f88)) f h (thenK nx0 (contX pl88 prog J 15 n0 88 ct88 [1, 0, 1, 0] (codeOf f88) [] (RetQ prog [.tmp 2] n0 K))) =
(aBin prog .lss 3 (f.r 7) (f.r 6) fun v1 =>
 cnd v1
(aIdx 1 (f.r 5) (f.r 7) fun v2 =>
 aLoad false 1 v2 h fun v3 =>
 aBin prog .neq 37 v3 (vint 0) fun v4 =>
 cnd v4
(retL n0 K f.ds [v3] h)
(aBin prog .add 3 (f.r 7) (vint 1) fun v5 =>
 nx0 (RG.p (RG.p (RG.p (RG.p (RG.p (RG.p (RG.p (RG.p f 8 v1) 9 v2) 10 v3) 4 v3) 11 v3) 12 v4) 14 v5) 7 v5) h))
(retL n0 K f.ds [(vint 0)] h)) := sub_eq pok88 ct88 (by kernel_rfl)
theorem l88_1 (hJ : Closed prog main J) {S : Type} (μ : S → Nat) (I : S → RG → List AObj → Prop) (hI : ∀ s f h, I s f h → heapOk h → n0 ≤ h.length → W prog J 15 n0 88 (subC [1, 0, 1, 0, 0] (codeOf f88)) f h (thenK (Nx n0 μ I s) (contX pl88 prog J 15 n0 88 ct88 [1, 0, 1, 0] (codeOf f88) [] (RetQ prog [.tmp 2] n0 K))))
  {s : S} {f : RG} (hi : Gets n0 I s f h) : Sem J 15 n0 88 (subC [1, 0, 1, 0] (codeOf f88)) f h (contX pl88 prog J 15 n0 88 ct88 [1, 0, 1, 0] (codeOf f88) [] (RetQ prog [.tmp 2] n0 K)) :=
  loop_rule hJ mixed (b := subC [1, 0, 1, 0, 0] (codeOf f88)) (by kernel_rfl) μ I hI hi
theorem at124 : prog.funcs[124]? = some f124 := by kernel_rfl
theorem body124 : f124.body = some (codeOf f124) := by kernel_rfl
def pl124 : Plans := []
def ct124 : Cuts := .go
theorem pok124 : plansOk prog pl124 (codeOf f124) = true := by kernel_rfl
theorem e124 {a0 a1 : Value} : W prog J 26 h.length 124 (codeOf f124) (RG.mk (regs [a0, a1]) []) h (RetQ prog [.tmp 4] h.length K) =
(aLenS a0 fun v1 =>
 Good prog J 71 [v1, a1, a1] h fun v2 h3 =>
 aBin prog .neq 37 v2 (vint 0) fun v4 =>
 cnd v4
(retL h.length K [] [v2] h3)
(aLenS a0 fun v5 =>
 Sem J 26 h.length 124 (subC [1, 1, 0, 1, 0] (codeOf f124)) (RG.p (RG.p (RG.p (RG.p (RG.p (RG.p (RG.p (RG.p (RG.p (RG.p (RG.p (RG.p (RG.mk (regs [a0, a1]) []) 4 (vint 0)) 8 a0) 9 v1) 10 a1) 11 a1) 12 v2) 5 v2) 13 v2) 14 v4) 16 a0) 17 v5) 18 (vint 0)) h3 (contX pl124 prog J 26 h.length 124 ct124 [1, 1, 0, 1, 0] (codeOf f124) [] (RetQ prog [.tmp 4] h.length K)))) := top_eq pok124 ct124 (by kernel_rfl)
theorem g124 (hJ : Closed prog main J) {a0 a1 : Value} (hs : heapOk h → W prog J 26 h.length 124 (codeOf f124) (RG.mk (regs [a0, a1]) []) h (RetQ prog [.tmp 4] h.length K)) : Good prog J 124 [a0, a1] h K :=
  good_of_W hJ mixed at124 body124 (by kernel_rfl) (Nat.le_of_ble_eq_true rfl) hs
theorem s124_1 {f : RG} {nx0 : RG → List AObj → Prop} : W prog J 26 n0 124 (subC [1, 1, 0, 1, 0, 0] (codeOf f124)) f h (thenK nx0 (contX pl124 prog J 26 n0 124 ct124 [1, 1, 0, 1, 0] (codeOf f124) [] (RetQ prog [.tmp 4] n0 K))) =
(aBin prog .lss 3 (f.r 18) (f.r 17) fun v1 =>
 cnd v1
(aIdx 1 (f.r 16) (f.r 18) fun v2 =>
 aLoad false 1 v2 h fun v3 =>
 Good prog J 73 [v3, (vint 0), (vint 40)] h fun v4 h5 =>
 aUn .not v4 fun v6 =>
 cnd v6
(retL n0 K f.ds [(vint 1)] h5)
(aBin prog .add 3 (f.r 18) (vint 1) fun v7 =>
 nx0 (RG.p (RG.p (RG.p (RG.p (RG.p (RG.p (RG.p (RG.p (RG.p f 19 v1) 20 v2) 21 v3) 7 v3) 22 v3) 23 v4) 24 v6) 25 v7) 18 v7) h5))
(retL n0 K f.ds [(vint 0)] h)) := sub_eq pok124 ct124 (by kernel_rfl)
theorem l124_1 (hJ : Closed prog main J) {S : Type} (μ : S → Nat) (I : S → RG → List AObj → Prop) (hI : ∀ s f h, I s f h → heapOk h → n0 ≤ h.length → W prog J 26 n0 124 (subC [1, 1, 0, 1, 0, 0] (codeOf f124)) f h (thenK (Nx n0 μ I s) (contX pl124 prog J 26 n0 124 ct124 [1, 1, 0, 1, 0] (codeOf f124) [] (RetQ prog [.tmp 4] n0 K))))
  {s : S} {f : RG} (hi : Gets n0 I s f h) : Sem J 26 n0 124 (subC [1, 1, 0, 1, 0] (codeOf f124)) f h (contX pl124 prog J 26 n0 124 ct124 [1, 1, 0, 1, 0] (codeOf f124) [] (RetQ prog [.tmp 4] n0 K)) :=
  loop_rule hJ mixed (b := subC [1, 1, 0, 1, 0, 0] (codeOf f124)) (by kernel_rfl) μ I hI hi
theorem at125 : prog.funcs[125]? = some f125 := by kernel_rfl
theorem body125 : f125.body = some (codeOf f125) := by kernel_rfl
def pl125 : Plans := []
def ct125 : Cuts := .go
theorem pok125 : plansOk prog pl125 (codeOf f125) = true := by kernel_rfl
theorem e125 {a0 : Value} : W prog J 9 h.length 125 (codeOf f125) (RG.mk (regs [a0]) []) h (RetQ prog [.tmp 2] h.length K) =
(aBox a0 h fun v1 h2 =>
 aLoad true 6 v1 h2 fun v3 =>
 aOff v1 0 fun v4 =>
 aLoad false 1 v4 h2 fun v5 =>
 aFill [(vint 0), (vint 0)] [(0, 1, v5)] fun c6 =>
 aFill [(vint 0), (vint 0), (vint 0), (vint 0), (vint 0), (vint 0), (vint 0), (vint 0)] [(0, 6, v3), (6, 2, (Value.agg ⟨c6⟩))] fun c7 =>
 aBox (Value.agg ⟨c7⟩) h2 fun v8 h9 =>
 retL h.length K [] [v8] h9) := top_eq pok125 ct125 (by kernel_rfl)
theorem g125 (hJ : Closed prog main J) {a0 : Value} (hs : heapOk h → W prog J 9 h.length 125 (codeOf f125) (RG.mk (regs [a0]) []) h (RetQ prog [.tmp 2] h.length K)) : Good prog J 125 [a0] h K :=
  good_of_W hJ mixed at125 body125 (by kernel_rfl) (Nat.le_of_ble_eq_true rfl) hs
theorem at126 : prog.funcs[126]? = some f126 := by kernel_rfl
theorem body126 : f126.body = some (codeOf f126) := by kernel_rfl
def pl126 : Plans := [(2, true, .take 0 (.take 1 (.take 2 (.take 3 (.take 4 (.take 5 (.take 6 (.take 7 (.take 8 (.take 9 (.take 10 (.take 11 (.take 12 (.take 13 (.take 14 (.take 15 (.last 16 false (.fin)))))))))))))))))),
  (3, true, .take 0 (.take 1 (.take 2 (.take 3 (.take 4 (.take 5 (.take 6 (.take 7 (.take 8 (.take 9 (.take 10 (.take 11 (.take 12 (.take 13 (.take 14 (.take 15 (.fin))))))))))))))))),
  (10, true, .take 0 (.take 1 (.take 2 (.take 3 (.take 4 (.take 5 (.take 6 (.take 7 (.take 8 (.take 9 (.take 10 (.take 11 (.take 12 (.take 13 (.take 14 (.take 15 (.take 16 (.take 17 (.take 18 (.take 19 (.take 20 (.last 21 false (.fin))))))))))))))))))))))),
  (4, true, .take 0 (.take 1 (.take 2 (.take 3 (.take 4 (.take 5 (.take 6 (.take 7 (.take 8 (.take 9 (.take 10 (.take 11 (.take 12 (.take 13 (.take 14 (.take 15 (.take 16 (.take 17 (.take 18 (.take 19 (.take 20 (.last 21 false (.fin)))))))))))))))))))))))]
def ct126 : Cuts := .bin (.go) (.bin (.go) (.bin (.go) (.bin (.go) (.cut (.go)))))
theorem pok126 : plansOk prog pl126 (codeOf f126) = true := by kernel_rfl
theorem e126 {a0 a1 a2 : Value} : W prog J 119 h.length 126 (codeOf f126) (RG.mk (regs [a0, a1, a2]) []) h (RetQ prog [.tmp 6, .tmp 7] h.length K) =
(aNil a0 fun v1 =>
 aOff v1 6 fun v2 =>
 aOff v2 0 fun v3 =>
 aLoad false 1 v3 h fun v4 =>
 aBin prog .gtr 3 a1 v4 fun v5 =>
 aNil a0 fun v6 =>
 aOff v6 6 fun v7 =>
 aOff v7 0 fun v8 =>
 aLoad false 1 v8 h fun v9 =>
 aNil a0 fun v10 =>
 aOff v10 6 fun v11 =>
 aOff v11 0 fun v12 =>
 aLoad false 1 v12 h fun v13 =>
 aMin a1 [v13] fun v14 =>
 aBin prog .sub 3 v9 v14 fun v15 =>
 aNil a0 fun v16 =>
 aOff v16 6 fun v17 =>
 aOff v17 0 fun v18 =>
 aStore 1 v18 v15 h fun h19 =>
 aBin prog .gtr 3 a1 (vint 0) fun v20 =>
 cnd v20
(aNil a0 fun v21 =>
 aOff v21 6 fun v22 =>
 aOff v22 0 fun v23 =>
 aLoad false 1 v23 h19 fun v24 =>
 aNil a0 fun v25 =>
 aOff v25 0 fun v26 =>
 aOff v26 4 fun v27 =>
 aLoad false 1 v27 h19 fun v28 =>
 aBin prog .lss 3 v24 v28 fun v29 =>
 Hold (W prog J 119 h.length 126 (subC [1, 1, 1, 1] (codeOf f126)) (RG.p (RG.p (RG.p (RG.p (RG.p (RG.p (RG.p (RG.p (RG.p (RG.p (RG.p (RG.p (RG.p (RG.p (RG.p (RG.p (RG.p (RG.p (RG.p (RG.p (RG.p (RG.p (RG.p (RG.p (RG.p (RG.p (RG.p (RG.p (RG.p (RG.p (RG.p (RG.p (RG.p (RG.p (RG.p (RG.p (RG.p (RG.p (RG.p (RG.p (RG.p (RG.p (RG.p (RG.mk (regs [a0, a1, a2]) []) 6 (Value.bool false)) 7 (Value.bool false)) 8 a1) 9 a0) 10 v1) 11 v2) 12 v3) 13 v4) 14 v5) 6 v5) 15 a0) 16 v6) 17 v7) 18 v8) 19 v9) 20 a1) 21 a0) 22 v10) 23 v11) 24 v12) 25 v13) 26 v14) 27 v15) 28 v16) 29 v17) 30 v18) 31 a1) 32 v20) 33 v20) 33 (Value.bool true)) 34 a0) 35 v21) 36 v22) 37 v23) 38 v24) 39 a0) 40 v25) 41 v26) 42 v27) 43 v28) 44 v29) 45 v29) 7 v29) h19 (contX pl126 prog J 119 h.length 126 ct126 [1, 1, 1, 1] (codeOf f126) [] (RetQ prog [.tmp 6, .tmp 7] h.length K))))
(Hold (W prog J 119 h.length 126 (subC [1, 1, 1, 1] (codeOf f126)) (RG.p (RG.p (RG.p (RG.p (RG.p (RG.p (RG.p (RG.p (RG.p (RG.p (RG.p (RG.p (RG.p (RG.p (RG.p (RG.p (RG.p (RG.p (RG.p (RG.p (RG.p (RG.p (RG.p (RG.p (RG.p (RG.p (RG.p (RG.p (RG.p (RG.p (RG.p (RG.p (RG.p (RG.p (RG.p (RG.p (RG.p (RG.p (RG.p (RG.p (RG.p (RG.p (RG.p (RG.mk (regs [a0, a1, a2]) []) 6 (Value.bool false)) 7 (Value.bool false)) 8 a1) 9 a0) 10 v1) 11 v2) 12 v3) 13 v4) 14 v5) 6 v5) 15 a0) 16 v6) 17 v7) 18 v8) 19 v9) 20 a1) 21 a0) 22 v10) 23 v11) 24 v12) 25 v13) 26 v14) 27 v15) 28 v16) 29 v17) 30 v18) 31 a1) 32 v20) 33 v20) 33 (Value.bool false)) 34 undef) 35 undef) 36 undef) 37 undef) 38 undef) 39 undef) 40 undef) 41 undef) 42 undef) 43 undef) 44 undef) 45 (Value.bool false)) 7 (Value.bool false)) h19 (contX pl126 prog J 119 h.length 126 ct126 [1, 1, 1, 1] (codeOf f126) [] (RetQ prog [.tmp 6, .tmp 7] h.length K))))) := top_eq pok126 ct126 (by kernel_rfl)
theorem g126 (hJ : Closed prog main J) {a0 a1 a2 : Value} (hs : heapOk h → W prog J 119 h.length 126 (codeOf f126) (RG.mk (regs [a0, a1, a2]) []) h (RetQ prog [.tmp 6, .tmp 7] h.length K)) : Good prog J 126 [a0, a1, a2] h K :=
  good_of_W hJ mixed at126 body126 (by kernel_rfl) (Nat.le_of_ble_eq_true rfl) hs
theorem s126_1 {f : RG} : W prog J 119 n0 126 (subC [1, 1, 1, 1] (codeOf f126)) f h (contX pl126 prog J 119 n0 126 ct126 [1, 1, 1, 1] (codeOf f126) [] (RetQ prog [.tmp 6, .tmp 7] n0 K)) =
(cnd (f.r 7)
(aNil (f.r 0) fun v1 =>
 aOff v1 0 fun v2 =>
 aOff v2 5 fun v3 =>
 aLoad false 1 v3 h fun v4 =>
 aNil (f.r 0) fun v5 =>
 aOff v5 6 fun v6 =>
 aOff v6 1 fun v7 =>
 aStore 1 v7 v4 h fun h8 =>
 retL n0 K f.ds [(f.r 6), (f.r 7)] h8)
(aNil (f.r 0) fun v9 =>
 aOff v9 6 fun v10 =>
 aOff v10 1 fun v11 =>
 aLoad false 1 v11 h fun v12 =>
 aBin prog .gtr 3 v12 (vint 0) fun v13 =>
 cnd v13
(aNil (f.r 0) fun v14 =>
 aOff v14 6 fun v15 =>
 aOff v15 1 fun v16 =>
 aLoad false 1 v16 h fun v17 =>
 aBin prog .sub 3 v17 (vint 1) fun v18 =>
 aNil (f.r 0) fun v19 =>
 aOff v19 6 fun v20 =>
 aOff v20 1 fun v21 =>
 aStore 1 v21 v18 h fun h22 =>
 retL n0 K f.ds [(f.r 6), (f.r 7)] h22)
(cnd (f.r 2)
(aNil (f.r 0) fun v23 =>
 aOff v23 0 fun v24 =>
 aOff v24 1 fun v25 =>
 aLoad false 1 v25 h fun v26 =>
 aNil (f.r 0) fun v27 =>
 aOff v27 6 fun v28 =>
 aOff v28 0 fun v29 =>
 aLoad false 1 v29 h fun v30 =>
 aNil (f.r 0) fun v31 =>
 aOff v31 0 fun v32 =>
 aOff v32 3 fun v33 =>
 aLoad false 1 v33 h fun v34 =>
 aBin prog .add 3 v30 v34 fun v35 =>
 aMin v26 [v35] fun v36 =>
 aNil (f.r 0) fun v37 =>
 aOff v37 6 fun v38 =>
 aOff v38 0 fun v39 =>
 aStore 1 v39 v36 h fun h40 =>
 retL n0 K f.ds [(f.r 6), (f.r 7)] h40)
(aNil (f.r 0) fun v41 =>
 aOff v41 0 fun v42 =>
 aOff v42 1 fun v43 =>
 aLoad false 1 v43 h fun v44 =>
 aNil (f.r 0) fun v45 =>
 aOff v45 6 fun v46 =>
 aOff v46 0 fun v47 =>
 aLoad false 1 v47 h fun v48 =>
 aNil (f.r 0) fun v49 =>
 aOff v49 0 fun v50 =>
 aOff v50 2 fun v51 =>
 aLoad false 1 v51 h fun v52 =>
 aBin prog .add 3 v48 v52 fun v53 =>
 aMin v44 [v53] fun v54 =>
 aNil (f.r 0) fun v55 =>
 aOff v55 6 fun v56 =>
 aOff v56 0 fun v57 =>
 aStore 1 v57 v54 h fun h58 =>
 retL n0 K f.ds [(f.r 6), (f.r 7)] h58)))) := sub_eq pok126 ct126 (by kernel_rfl)
theorem at117 : prog.funcs[117]? = some f117 := by kernel_rfl
theorem body117 : f117.body = some (codeOf f117) := by kernel_rfl
def pl117 : Plans := [(6, false, .take 0 (.take 1 (.take 2 (.take 3 (.take 4 (.take 5 (.take 6 (.take 7 (.take 8 (.last 9 true (.take 10 (.fin))))))))))))]
def ct117 : Cuts := .bin (.go) (.bin (.go) (.bin (.go) (.bin (.go) (.cut (.go)))))
theorem pok117 : plansOk prog pl117 (codeOf f117) = true := by kernel_rfl
theorem e117 {a0 a1 a2 : Value} : W prog J 30 h.length 117 (codeOf f117) (RG.mk (regs [a0, a1, a2]) []) h (RetQ prog [.cell 6 109, .tmp 7] h.length K) =
(aBox a0 h fun v1 h2 =>
 aBox a1 h2 fun v3 h4 =>
 aAlloc [(Value.int .u8 0), (vint 0)] h4 fun v5 h6 =>
 aOff v1 0 fun v7 =>
 aLoad false 1 v7 h6 fun v8 =>
 aBin prog .neq 5 v8 a2 fun v9 =>
 cnd v9
(aFill [(Value.int .u8 0), (vint 0)] [(0, 1, a2), (1, 1, (vint 1))] fun c10 =>
 aStore 2 v5 (Value.agg ⟨c10⟩) h6 fun h11 =>
 RetQ prog [.cell 6 109, .tmp 7] h.length K .ret (RG.p (RG.p (RG.p (RG.p (RG.p (RG.p (RG.p (RG.p (RG.p (RG.p (RG.p (RG.mk (regs [a0, a1, a2]) []) 3 v1) 4 v3) 6 v5) 7 (Value.bool false)) 9 v7) 10 v8) 11 a2) 12 v9) 13 a2) 14 (Value.agg ⟨c10⟩)) 7 (Value.bool true)) h11)
(aOff v3 1 fun v12 =>
 aLoad false 1 v12 h6 fun v13 =>
 aBin prog .eql 5 a2 (Value.int .u8 119) fun v14 =>
 cnd v14
(aOff v3 2 fun v15 =>
 aLoad false 1 v15 h6 fun v16 =>
 Hold (W prog J 30 h.length 117 (subC [1, 1, 1, 1] (codeOf f117)) (RG.p (RG.p (RG.p (RG.p (RG.p (RG.p (RG.p (RG.p (RG.p (RG.p (RG.p (RG.p (RG.p (RG.p (RG.p (RG.p (RG.mk (regs [a0, a1, a2]) []) 3 v1) 4 v3) 6 v5) 7 (Value.bool false)) 9 v7) 10 v8) 11 a2) 12 v9) 15 v12) 16 v13) 8 v13) 17 a2) 18 v14) 19 v15) 20 v16) 8 v16) h6 (contX pl117 prog J 30 h.length 117 ct117 [1, 1, 1, 1] (codeOf f117) [] (RetQ prog [.cell 6 109, .tmp 7] h.length K))))
(Hold (W prog J 30 h.length 117 (subC [1, 1, 1, 1] (codeOf f117)) (RG.p (RG.p (RG.p (RG.p (RG.p (RG.p (RG.p (RG.p (RG.p (RG.p (RG.p (RG.p (RG.p (RG.mk (regs [a0, a1, a2]) []) 3 v1) 4 v3) 6 v5) 7 (Value.bool false)) 9 v7) 10 v8) 11 a2) 12 v9) 15 v12) 16 v13) 8 v13) 17 a2) 18 v14) h6 (contX pl117 prog J 30 h.length 117 ct117 [1, 1, 1, 1] (codeOf f117) [] (RetQ prog [.cell 6 109, .tmp 7] h.length K)))))) := top_eq pok117 ct117 (by kernel_rfl)
theorem g117 (hJ : Closed prog main J) {a0 a1 a2 : Value} (hs : heapOk h → W prog J 30 h.length 117 (codeOf f117) (RG.mk (regs [a0, a1, a2]) []) h (RetQ prog [.cell 6 109, .tmp 7] h.length K)) : Good prog J 117 [a0, a1, a2] h K :=
  good_of_W hJ mixed at117 body117 (by kernel_rfl) (Nat.le_of_ble_eq_true rfl) hs
theorem s117_1 {f : RG} : W prog J 30 n0 117 (subC [1, 1, 1, 1] (codeOf f117)) f h (contX pl117 prog J 30 n0 117 ct117 [1, 1, 1, 1] (codeOf f117) [] (RetQ prog [.cell 6 109, .tmp 7] n0 K)) =
((∃ B, aOff (f.r 3) 1 fun v1 =>
 aLoad false 1 v1 h fun v2 =>
 RdOk (some B) (ptrBlk v1) ∧ (aBin prog .add 3 v2 (vint 1) fun v3 =>
 aFill [(Value.int .u8 0), (vint 0)] [(0, 1, (f.r 2)), (1, 1, v3)] fun c4 =>
 aOff (f.r 3) 1 fun v5 =>
 aLoad false 1 v5 h fun v6 =>
 RdOk (some B) (ptrBlk v5) ∧ (aBin prog .lss 3 v6 (f.r 8) fun v7 =>
 aStore 2 (f.r 6) (Value.agg ⟨c4⟩) h fun h8 =>
 SameB (some B) h h8 ∧ (RetQ prog [.cell 6 109, .tmp 7] n0 K .ret (RG.p (RG.p (RG.p (RG.p (RG.p (RG.p (RG.p (RG.p (RG.p (RG.p f 21 (f.r 2)) 22 v1) 23 v2) 24 v3) 25 (Value.agg ⟨c4⟩)) 26 v5) 27 v6) 28 (f.r 8)) 29 v7) 7 v7) h8))))) := sub_eq pok117 ct117 (by kernel_rfl)
end
end Go.Proofs.Ythnccaajpdnndaa
namespace Go.Proofs.Ythnccaajpdnndaa
open Go.Conc
section
variable {P : Program} {t : TypeId} {K : Value → Prop} {H : Value → List AObj → Prop} {HL : List AObj → Prop} {a b : Int} {h g : List AObj} {A B : Prop}
theorem box_agg {cs : List Value} (h1 : cs.all one = true) (hk : H (ptr h.length 0) (h ++ [.cells cs true 0])) : aBox (.agg ⟨cs⟩) h H := ⟨h1, hk⟩
theorem box_one {v : Value} (hc : v.cells = #[v]) (h1 : one v = true) (hk : H (ptr h.length 0) (h ++ [.cells [v] true 0])) : aBox v h H := by
  unfold aBox
  rw [hc]
  exact ⟨by simpa using h1, hk⟩
theorem load_part {b o s : Nat} {cs c : List Value} {wr : Bool} {sz : Nat} (hb : h[b]? = some (.cells cs wr sz)) (hl : o + s ≤ cs.length) (hc : (cs.drop o).take s = c) (hn : kn c = true) (hk : K (.agg ⟨c⟩)) : aLoad true s (ptr b o) h K := by
  simp only [aLoad, hb, cond_true, hc]
  exact ⟨hl, hn, hk⟩
theorem store_agg {b : Nat} {cs c : List Value} {s : Nat} {sz : Nat} (hb : h[b]? = some (.cells cs true sz)) (hl : c.length = s) (hs : cs.length = s) (h1 : c.all one = true) (hk : HL (h.set b (.cells c true sz))) : aStore s (ptr b 0) (.agg ⟨c⟩) h HL := by
  have e : ∀ (c cs : List Value) (pre : List Value), cs.length = c.length → wrAt (pre ++ cs) pre.length c = pre ++ c := by
    intro c
    induction c with
    | nil =>
      intro cs pre h
      have : cs = [] := List.length_eq_zero_iff.1 (by simpa using h)
      subst this
      rfl
    | cons x c ih =>
      intro cs pre h
      cases cs with
      | nil => simp at h
      | cons y cs =>
        unfold wrAt
        have := ih cs (pre ++ [x]) (by simpa using h)
        simp only [List.length_append, List.length_cons, List.length_nil, List.append_assoc, List.cons_append, List.nil_append] at this
        simp only [List.set_append_right _ _ (Nat.le_refl _), Nat.sub_self, List.set_cons_zero]
        exact this
  simp only [aStore, hb, Value.cells]
  refine ⟨by simpa using hl, h1, by omega, ?_⟩
  have := e c cs [] (by omega)
  simp only [List.nil_append, List.length_nil] at this
  rw [this]
  exact hk
theorem resW_cell {rs : List ResultVar} {r : Nat → Value} {x : Nat} {gg : Bool} {s : Nat} {KL : List Value → Prop} (ht : tk P t = some (gg, s)) (hk : aLoad gg s (r x) h fun v => resW P rs r h fun vs => KL (v :: vs)) : resW P (.cell x t :: rs) r h KL := by
  unfold resW
  rw [ht]
  exact hk
theorem resW_tmp {rs : List ResultVar} {r : Nat → Value} {x : Nat} {KL : List Value → Prop} (hn : r x ≠ unk) (hk : resW P rs r h fun vs => KL (r x :: vs)) : resW P (.tmp x :: rs) r h KL := ⟨hn, hk⟩
theorem resW_nil {r : Nat → Value} {KL : List Value → Prop} (hk : KL []) : resW P [] r h KL := hk
theorem resW_imp : ∀ (rs : List ResultVar) {r : Nat → Value} {h : List AObj} {K K' : List Value → Prop}, resW P rs r h K → (∀ vs, K vs → K' vs) → resW P rs r h K'
  | [], r, h, K, K', hx, hk => hk _ hx
  | .tmp t :: rs, r, h, K, K', hx, hk => ⟨hx.1, resW_imp rs hx.2 fun vs => hk _⟩
  | .cell a t :: rs, r, h, K, K', hx, hk => by
    unfold resW at hx ⊢
    split at hx
    · obtain ⟨v, k1, k2⟩ := pin_aLoad _ hx
      exact k2 (fun v => resW P rs r h fun vs => K' (v :: vs)) (resW_imp rs k1 fun vs => hk _)
    · exact hx.elim
end
end Go.Proofs.Ythnccaajpdnndaa
namespace Go.Proofs.Ythnccaajpdnndaa
open Go.Conc Go.Proofs.Try
set_option maxRecDepth 100000
set_option maxHeartbeats 4000000
set_option linter.unusedVariables false
section
variable {main : Bool} {J : JT} {n0 : Nat} {h : List AObj} {K : Value → List AObj → Prop}
theorem at70 : prog.funcs[70]? = some f70 := by kernel_rfl
theorem body70 : f70.body = some (codeOf f70) := by kernel_rfl
theorem e70 {a0 : Value} : W prog J 72 h.length 70 (codeOf f70) (RG.mk (regs [a0]) []) h (RetQ prog [.tmp 2] h.length K) =
(aNil a0 fun v1 =>
 aOff v1 1 fun v2 =>
 aLoad false 1 v2 h fun v3 =>
 aConvI .u64 v3 fun v4 =>
 aNil a0 fun v5 =>
 aOff v5 1 fun v6 =>
 aLoad false 1 v6 h fun v7 =>
 aNil a0 fun v8 =>
 aOff v8 0 fun v9 =>
 aLoad false 1 v9 h fun v10 =>
 aLenS v10 fun v11 =>
 aBin prog .lss 3 v7 v11 fun v12 =>
 cnd v12
(aNil a0 fun v13 =>
 aOff v13 0 fun v14 =>
 aLoad false 1 v14 h fun v15 =>
 aNil a0 fun v16 =>
 aOff v16 1 fun v17 =>
 aLoad false 1 v17 h fun v18 =>
 aIdx 1 v15 v18 fun v19 =>
 aLoad false 1 v19 h fun v20 =>
 aConvI .u64 v20 fun v21 =>
 aNil a0 fun v22 =>
 aOff v22 1 fun v23 =>
 aLoad false 1 v23 h fun v24 =>
 aBin prog .add 3 v24 (vint 1) fun v25 =>
 aNil a0 fun v26 =>
 aOff v26 1 fun v27 =>
 aStore 1 v27 v25 h fun h28 =>
 aNil a0 fun v29 =>
 aOff v29 2 fun v30 =>
 aLoad false 1 v30 h28 fun v31 =>
 aBin prog .mul 83 v21 (Value.int .u64 11400714819323198485) fun v32 =>
 aBin prog .xor 83 v31 v32 fun v33 =>
 aBin prog .shl 83 v33 (Value.int .u64 13) fun v34 =>
 aBin prog .xor 83 v33 v34 fun v35 =>
 aBin prog .shr 83 v35 (Value.int .u64 7) fun v36 =>
 aBin prog .xor 83 v35 v36 fun v37 =>
 aBin prog .shl 83 v37 (Value.int .u64 17) fun v38 =>
 aBin prog .xor 83 v37 v38 fun v39 =>
 aBin prog .add 83 v39 (Value.int .u64 7146057691288625177) fun v40 =>
 aNil a0 fun v41 =>
 aOff v41 2 fun v42 =>
 aStore 1 v42 v40 h28 fun h43 =>
 aBin prog .shr 83 v39 (Value.int .u64 31) fun v44 =>
 aBin prog .xor 83 v39 v44 fun v45 =>
 aBin prog .mul 83 v45 (Value.int .u64 13787848793156543929) fun v46 =>
 aBin prog .shr 83 v46 (Value.int .u64 29) fun v47 =>
 aBin prog .xor 83 v46 v47 fun v48 =>
 aBin prog .shr 83 v48 (Value.int .u64 11) fun v49 =>
 retL h.length K [] [v49] h43)
(aNil a0 fun v50 =>
 aOff v50 1 fun v51 =>
 aLoad false 1 v51 h fun v52 =>
 aBin prog .add 3 v52 (vint 1) fun v53 =>
 aNil a0 fun v54 =>
 aOff v54 1 fun v55 =>
 aStore 1 v55 v53 h fun h56 =>
 aNil a0 fun v57 =>
 aOff v57 2 fun v58 =>
 aLoad false 1 v58 h56 fun v59 =>
 aBin prog .mul 83 v4 (Value.int .u64 11400714819323198485) fun v60 =>
 aBin prog .xor 83 v59 v60 fun v61 =>
 aBin prog .shl 83 v61 (Value.int .u64 13) fun v62 =>
 aBin prog .xor 83 v61 v62 fun v63 =>
 aBin prog .shr 83 v63 (Value.int .u64 7) fun v64 =>
 aBin prog .xor 83 v63 v64 fun v65 =>
 aBin prog .shl 83 v65 (Value.int .u64 17) fun v66 =>
 aBin prog .xor 83 v65 v66 fun v67 =>
 aBin prog .add 83 v67 (Value.int .u64 7146057691288625177) fun v68 =>
 aNil a0 fun v69 =>
 aOff v69 2 fun v70 =>
 aStore 1 v70 v68 h56 fun h71 =>
 aBin prog .shr 83 v67 (Value.int .u64 31) fun v72 =>
 aBin prog .xor 83 v67 v72 fun v73 =>
 aBin prog .mul 83 v73 (Value.int .u64 13787848793156543929) fun v74 =>
 aBin prog .shr 83 v74 (Value.int .u64 29) fun v75 =>
 aBin prog .xor 83 v74 v75 fun v76 =>
 aBin prog .shr 83 v76 (Value.int .u64 11) fun v77 =>
 retL h.length K [] [v77] h71)) := by kernel_rfl
theorem g70 (hJ : Closed prog main J) {a0 : Value} (hs : heapOk h → W prog J 72 h.length 70 (codeOf f70) (RG.mk (regs [a0]) []) h (RetQ prog [.tmp 2] h.length K)) : Good prog J 70 [a0] h K :=
  good_of_W hJ mixed at70 body70 (by kernel_rfl) (Nat.le_of_ble_eq_true rfl) hs
theorem at26 : prog.funcs[26]? = some f26 := by kernel_rfl
theorem body26 : f26.body = some (codeOf f26) := by kernel_rfl
theorem e26 {a0 a1 : Value} : W prog J 14 h.length 26 (codeOf f26) (RG.mk (regs [a0, a1]) []) h (RetQ prog [.tmp 4] h.length K) =
(aBin prog .leq 3 a1 (vint 0) fun v1 =>
 cnd v1
(retL h.length K [] [(vint 0)] h)
(Good prog J 70 [a0] h fun v2 h3 =>
 aBin prog .add 3 a1 (vint 1) fun v4 =>
 aConvI .u64 v4 fun v5 =>
 aBin prog .rem 83 v2 v5 fun v6 =>
 aConvI .i64 v6 fun v7 =>
 retL h.length K [] [v7] h3)) := by kernel_rfl
theorem g26 (hJ : Closed prog main J) {a0 a1 : Value} (hs : heapOk h → W prog J 14 h.length 26 (codeOf f26) (RG.mk (regs [a0, a1]) []) h (RetQ prog [.tmp 4] h.length K)) : Good prog J 26 [a0, a1] h K :=
  good_of_W hJ mixed at26 body26 (by kernel_rfl) (Nat.le_of_ble_eq_true rfl) hs
theorem at23 : prog.funcs[23]? = some f23 := by kernel_rfl
theorem body23 : f23.body = some (codeOf f23) := by kernel_rfl
theorem e23 {a0 a1 a2 : Value} : W prog J 14 h.length 23 (codeOf f23) (RG.mk (regs [a0, a1, a2]) []) h (RetQ prog [.tmp 6] h.length K) =
(aBin prog .sub 3 a2 a1 fun v1 =>
 Good prog J 26 [a0, v1] h fun v2 h3 =>
 aBin prog .add 3 a1 v2 fun v4 =>
 retL h.length K [] [v4] h3) := by kernel_rfl
theorem g23 (hJ : Closed prog main J) {a0 a1 a2 : Value} (hs : heapOk h → W prog J 14 h.length 23 (codeOf f23) (RG.mk (regs [a0, a1, a2]) []) h (RetQ prog [.tmp 6] h.length K)) : Good prog J 23 [a0, a1, a2] h K :=
  good_of_W hJ mixed at23 body23 (by kernel_rfl) (Nat.le_of_ble_eq_true rfl) hs
theorem at22 : prog.funcs[22]? = some f22 := by kernel_rfl
theorem body22 : f22.body = some (codeOf f22) := by kernel_rfl
theorem e22 {a0 : Value} : W prog J 6 h.length 22 (codeOf f22) (RG.mk (regs [a0]) []) h (RetQ prog [.tmp 2] h.length K) =
(aFill [(Value.slice none 0 0), (vint 0), (Value.int .u64 0)] [(0, 1, a0), (2, 1, (Value.int .u64 88172645463325252))] fun c1 =>
 aBox (Value.agg ⟨c1⟩) h fun v2 h3 =>
 retL h.length K [] [v2] h3) := by kernel_rfl
theorem g22 (hJ : Closed prog main J) {a0 : Value} (hs : heapOk h → W prog J 6 h.length 22 (codeOf f22) (RG.mk (regs [a0]) []) h (RetQ prog [.tmp 2] h.length K)) : Good prog J 22 [a0] h K :=
  good_of_W hJ mixed at22 body22 (by kernel_rfl) (Nat.le_of_ble_eq_true rfl) hs
theorem at69 : prog.funcs[69]? = some f69 := by kernel_rfl
theorem body69 : f69.body = some (codeOf f69) := by kernel_rfl
theorem e69 {a0 a1 a2 : Value} : W prog J 20 h.length 69 (codeOf f69) (RG.mk (regs [a0, a1, a2]) []) h (RetQ prog [.tmp 6] h.length K) =
(aLenS a2 fun v1 =>
 Good prog J 26 [a0, v1] h fun v2 h3 =>
 aBin prog .gtr 3 v2 (vint 0) fun v4 =>
 cnd v4
(aBin prog .sub 3 v2 (vint 1) fun v5 =>
 aIdx 1 a2 v5 fun v6 =>
 aLoad false 1 v6 h3 fun v7 =>
 retL h.length K [] [v7] h3)
(retL h.length K [] [a1] h3)) := by kernel_rfl
theorem g69 (hJ : Closed prog main J) {a0 a1 a2 : Value} (hs : heapOk h → W prog J 20 h.length 69 (codeOf f69) (RG.mk (regs [a0, a1, a2]) []) h (RetQ prog [.tmp 6] h.length K)) : Good prog J 69 [a0, a1, a2] h K :=
  good_of_W hJ mixed at69 body69 (by kernel_rfl) (Nat.le_of_ble_eq_true rfl) hs
theorem at29 : prog.funcs[29]? = some f29 := by kernel_rfl
theorem body29 : f29.body = some (codeOf f29) := by kernel_rfl
theorem e29 {a0 a1 : Value} : W prog J 26 h.length 29 (codeOf f29) (RG.mk (regs [a0, a1]) []) h (RetQ prog [.tmp 4] h.length K) =
(aLenS a0 fun v1 =>
 aLenS a1 fun v2 =>
 aBin prog .neq 3 v1 v2 fun v3 =>
 cnd v3
(retL h.length K [] [(Value.bool false)] h)
(Sem J 26 h.length 29 (subC [1, 1, 0, 1, 0] (codeOf f29)) (RG.p (RG.p (RG.p (RG.p (RG.p (RG.p (RG.p (RG.mk (regs [a0, a1]) []) 4 (Value.bool false)) 6 a0) 7 v1) 8 a1) 9 v2) 10 v3) 5 (vint 0)) h (contQ prog J 26 h.length 29 [1, 1, 0, 1, 0] (codeOf f29) [] (RetQ prog [.tmp 4] h.length K)))) := by kernel_rfl
theorem g29 (hJ : Closed prog main J) {a0 a1 : Value} (hs : heapOk h → W prog J 26 h.length 29 (codeOf f29) (RG.mk (regs [a0, a1]) []) h (RetQ prog [.tmp 4] h.length K)) : Good prog J 29 [a0, a1] h K :=
  good_of_W hJ mixed at29 body29 (by kernel_rfl) (Nat.le_of_ble_eq_true rfl) hs
theorem s29_1 {f : RG} {nx0 : RG → List AObj → Prop} : W prog J 26 n0 29 (subC [1, 1, 0, 1, 0, 0] (codeOf f29)) f h (thenK nx0 (contQ prog J 26 n0 29 [1, 1, 0, 1, 0] (codeOf f29) [] (RetQ prog [.tmp 4] n0 K))) =
(aLenS (f.r 0) fun v1 =>
 aBin prog .lss 3 (f.r 5) v1 fun v2 =>
 cnd v2
(aIdx 1 (f.r 0) (f.r 5) fun v3 =>
 aLoad false 1 v3 h fun v4 =>
 aIdx 1 (f.r 1) (f.r 5) fun v5 =>
 aLoad false 1 v5 h fun v6 =>
 aBin prog .neq 3 v4 v6 fun v7 =>
 cnd v7
(retL n0 K f.ds [(Value.bool false)] h)
(aBin prog .add 3 (f.r 5) (vint 1) fun v8 =>
 nx0 (RG.p (RG.p (RG.p (RG.p (RG.p (RG.p (RG.p (RG.p (RG.p (RG.p (RG.p (RG.p (RG.p (RG.p (RG.p (RG.p f 11 (f.r 5)) 12 (f.r 0)) 13 v1) 14 v2) 17 (f.r 0)) 18 (f.r 5)) 19 v3) 20 v4) 21 (f.r 1)) 22 (f.r 5)) 23 v5) 24 v6) 25 v7) 15 (f.r 5)) 16 v8) 5 v8) h))
(retL n0 K f.ds [(Value.bool true)] h)) := by kernel_rfl
theorem l29_1 (hJ : Closed prog main J) {S : Type} (μ : S → Nat) (I : S → RG → List AObj → Prop) (hI : ∀ s f h, I s f h → heapOk h → n0 ≤ h.length → W prog J 26 n0 29 (subC [1, 1, 0, 1, 0, 0] (codeOf f29)) f h (thenK (Nx n0 μ I s) (contQ prog J 26 n0 29 [1, 1, 0, 1, 0] (codeOf f29) [] (RetQ prog [.tmp 4] n0 K))))
  {s : S} {f : RG} (hi : Gets n0 I s f h) : Sem J 26 n0 29 (subC [1, 1, 0, 1, 0] (codeOf f29)) f h (contQ prog J 26 n0 29 [1, 1, 0, 1, 0] (codeOf f29) [] (RetQ prog [.tmp 4] n0 K)) :=
  loop_rule hJ mixed (b := subC [1, 1, 0, 1, 0, 0] (codeOf f29)) (by kernel_rfl) μ I hI hi
end
end Go.Proofs.Ythnccaajpdnndaa
namespace Go.Proofs.Ythnccaajpdnndaa
open Go.Conc Go.Proofs.Try
structure HandAt (h : List AObj) (b : Nat) (nv : Value) (nums : List Int) (k : Nat) (s : Int) : Prop where
  at_ : h[b]? = some (.cells [nv, vint k, .int .u64 s] true 0)
  list : Sli h nv 1 nums.length (nums.map vint)
  sane : nums.length < 4611686018427387904
  few : k < 4611686018427387904
  lo : 0 ≤ s
  hi : s < 18446744073709551616
section
variable {main : Bool} {J : JT} {h : List AObj} {K : Value → List AObj → Prop}
theorem nil_ok {b o : Nat} {K : Value → Prop} : aNil (ptr b o) K = K (ptr b o) := rfl
theorem off_ok {b o d : Nat} {K : Value → Prop} : aOff (ptr b o) d K = K (ptr b (o + d)) := rfl
theorem conv_u {n : Int} {K : Value → Prop} (hk : ∀ y, 0 ≤ y → y < 18446744073709551616 → K (.int .u64 y)) : aConvI .u64 (vint n) K := hk _ (wrapU _).1 (wrapU _).2
theorem u_shr11 {t : TypeId} {y : Int} (_h1 : 0 ≤ y) (_h2 : y < 18446744073709551616) {K : Value → Prop} : aBin prog .shr t (.int .u64 y) (.int .u64 11) K = K (.int .u64 (y / 2048)) := by
  have e : min (Int.toNat 11) IntKind.u64.bits = 11 := by decide
  simp only [aBin, aShift, e]
  rw [Int.fdiv_eq_ediv_of_nonneg _ (by decide)]
  simp
theorem set_twice {b : Nat} {x y : AObj} (hb : h[b]? = some x) : (h.set b y)[b]? = some y := by
  have : b < h.length := (List.getElem?_eq_some_iff.1 hb).1
  simp [this]
theorem good70 (hJ : Closed prog main J) {b : Nat} {nv : Value} {nums : List Int} {k : Nat} {s : Int} (H : HandAt h b nv nums k s)
    (hK : ∀ x s', 0 ≤ x → x < 9007199254740992 → 0 ≤ s' → s' < 18446744073709551616 → K (.int .u64 x) (h.set b (.cells [nv, vint (k + 1), .int .u64 s'] true 0))) : Good prog J 70 [ptr b 0] h K := by
  refine g70 hJ fun ok => ?_
  rw [e70]
  obtain ⟨hb, hl, hsane, hfew, hlo, hhi⟩ := H
  have hnv : kn1 nv = true := by
    obtain ⟨_, _, rfl, _⟩ := hl
    rfl
  have l0 : ∀ K, aLoad false 1 (ptr b 0) h K = K nv := fun K => load_cell hb rfl hnv
  have l1 : ∀ K, aLoad false 1 (ptr b 1) h K = K (vint k) := fun K => load_cell hb rfl rfl
  -- what stands behind the joining of the ways
  have rest : ∀ x : Int, aBin prog .add 3 (vint k) (vint 1) fun v25 =>
      aStore 1 (ptr b 1) v25 h fun h28 =>
      aLoad false 1 (ptr b 2) h28 fun v31 =>
      aBin prog .mul 83 (.int .u64 x) (Value.int .u64 11400714819323198485) fun v32 =>
      aBin prog .xor 83 v31 v32 fun v33 =>
      aBin prog .shl 83 v33 (Value.int .u64 13) fun v34 =>
      aBin prog .xor 83 v33 v34 fun v35 =>
      aBin prog .shr 83 v35 (Value.int .u64 7) fun v36 =>
      aBin prog .xor 83 v35 v36 fun v37 =>
      aBin prog .shl 83 v37 (Value.int .u64 17) fun v38 =>
      aBin prog .xor 83 v37 v38 fun v39 =>
      aBin prog .add 83 v39 (Value.int .u64 7146057691288625177) fun v40 =>
      aStore 1 (ptr b 2) v40 h28 fun h43 =>
      aBin prog .shr 83 v39 (Value.int .u64 31) fun v44 =>
      aBin prog .xor 83 v39 v44 fun v45 =>
      aBin prog .mul 83 v45 (Value.int .u64 13787848793156543929) fun v46 =>
      aBin prog .shr 83 v46 (Value.int .u64 29) fun v47 =>
      aBin prog .xor 83 v46 v47 fun v48 =>
      aBin prog .shr 83 v48 (Value.int .u64 11) fun v49 =>
      retL h.length K [] [v49] h43 := by
    intro x
    rw [b_add (by omega)]
    refine store_cell hb (by simp) rfl rfl ?_
    have hb2 : (h.set b (.cells ([nv, vint k, .int .u64 s].set 1 (vint (k + 1))) true 0))[b]? = some (.cells [nv, vint (k + 1), .int .u64 s] true 0) := set_twice hb
    rw [load_cell hb2 rfl rfl]
    refine u_mul fun y1 a1 b1 => u_xor fun y2 a2 b2 => u_shl (by omega) fun y3 a3 b3 => u_xor fun y4 a4 b4 => u_shr (by omega) a4 b4 fun y5 a5 b5 => u_xor fun y6 a6 b6 => u_shl (by omega) fun y7 a7 b7 => u_xor fun y8 a8 b8 => u_add fun y9 a9 b9 => ?_
    refine store_cell hb2 (by simp) rfl rfl ?_
    refine u_shr (by omega) a8 b8 fun z1 c1 d1 => u_xor fun z2 c2 d2 => u_mul fun z3 c3 d3 => u_shr (by omega) c3 d3 fun z4 c4 d4 => u_xor fun z5 c5 d5 => ?_
    rw [u_shr11 c5 d5]
    refine retL_same (by simp [unk]) ?_
    rw [List.set_set]
    exact hK _ _ (by omega) (by omega) a9 b9
  simp only [nil_ok, off_ok, Nat.zero_add, l0, l1]
  refine conv_u fun x0 _ _ => ?_
  simp only [sli_len hl, b_lss, cnd_dec]
  refine ⟨fun hlt => idx_load hl ⟨by omega, by omega⟩ (map_get (by simpa using hlt)) fun p => conv_u fun x1 _ _ => rest x1, fun _ => rest x0⟩
def Dealt (h : List AObj) (b : Nat) (nv : Value) (k n : Nat) (h' : List AObj) : Prop :=
  ∃ (k' : Nat) (s' : Int), k' ≤ k + n ∧ 0 ≤ s' ∧ s' < 18446744073709551616 ∧ h' = h.set b (.cells [nv, vint k', .int .u64 s'] true 0)
theorem good26 (hJ : Closed prog main J) {b : Nat} {nv : Value} {nums : List Int} {k : Nat} {s m : Int} (H : HandAt h b nv nums k s) (hm : m < 9223372036854775807)
    (hK : ∀ y h', 0 ≤ y → (y ≤ m ∨ y = 0) → Dealt h b nv k 1 h' → K (vint y) h') : Good prog J 26 [ptr b 0, vint m] h K := by
  refine g26 hJ fun ok => ?_
  rw [e26]
  simp only [b_leq, cnd_dec]
  refine ⟨fun h0 => retL_same (by simp [unk]) (hK 0 h (by omega) (.inr rfl) ⟨k, s, by omega, H.lo, H.hi, ?_⟩), fun h0 => ?_⟩
  · have hb : b < h.length := (List.getElem?_eq_some_iff.1 H.at_).1
    apply List.ext_getElem?
    intro i
    rw [List.getElem?_set]
    split
    · rename_i e
      subst e
      exact H.at_
    · rfl
  · refine good70 hJ H fun x s' hx hx2 hs hs2 => ?_
    rw [b_add (by omega)]
    have e1 : ∀ n : Int, 0 ≤ n → n < 9223372036854775808 → IntKind.u64.wrap n = n := fun n a b => by
      simp only [IntKind.wrap, IntKind.bits, IntKind.signed]
      simp
      omega
    have hmod : Int.tmod x (m + 1) = x % (m + 1) := Int.tmod_eq_emod_of_nonneg hx
    have h1 := Int.emod_nonneg x (b := m + 1) (by omega)
    have h2 := Int.emod_lt_of_pos x (b := m + 1) (by omega)
    simp only [aConvI, e1 (m + 1) (by omega) (by omega), aBin, aInt, true_and]
    rw [hmod, wrap64 (by omega) (by omega)]
    exact ⟨by omega, retL_same (by simp [unk]) (hK _ _ h1 (.inl (by omega)) ⟨k + 1, s', by omega, hs, hs2, rfl⟩)⟩
theorem good23 (hJ : Closed prog main J) {b : Nat} {nv : Value} {nums : List Int} {k : Nat} {s lo hi : Int} (H : HandAt h b nv nums k s) (h1 : -1000000000000 ≤ lo ∧ lo ≤ 1000000000000) (h2 : -1000000000000 ≤ hi ∧ hi ≤ 1000000000000)
    (hK : ∀ y h', lo ≤ y → (y ≤ hi ∨ y = lo) → Dealt h b nv k 1 h' → K (vint y) h') : Good prog J 23 [ptr b 0, vint lo, vint hi] h K := by
  refine g23 hJ fun ok => ?_
  rw [e23, b_sub (by omega)]
  refine good26 hJ H (by omega) fun y h' hy hy2 hd => ?_
  rw [b_add (by omega)]
  exact retL_same (by simp [unk]) (hK _ _ (by omega) (by omega) hd)
theorem good22 (hJ : Closed prog main J) {base : Option Addr} {n c : Nat}
    (hK : K (ptr h.length 0) (h ++ [.cells [.slice base n c, vint 0, .int .u64 88172645463325252] true 0])) : Good prog J 22 [.slice base n c] h K := by
  refine g22 hJ fun ok => ?_
  rw [e22]
  simp [aFill, aBox, wrAt, Value.cells, one]
  exact retL_same (vs := [ptr h.length 0]) (by simp [unk]) hK
theorem good69 (hJ : Closed prog main J) {b : Nat} {nv ov : Value} {nums others : List Int} {k : Nat} {s a : Int} (H : HandAt h b nv nums k s) (ho : ∀ h', Dealt h b nv k 1 h' → Sli h' ov 1 others.length (others.map vint)) (hl : others.length < 1000000)
    (hK : ∀ y h', (y = a ∨ y ∈ others) → Dealt h b nv k 1 h' → K (vint y) h') : Good prog J 69 [ptr b 0, vint a, ov] h K := by
  refine g69 hJ fun ok => ?_
  rw [e69]
  have hd0 : Dealt h b nv k 1 h := by
    refine ⟨k, s, by omega, H.lo, H.hi, ?_⟩
    apply List.ext_getElem?
    intro i
    rw [List.getElem?_set]
    split
    · rename_i e
      subst e
      have hb : b < h.length := (List.getElem?_eq_some_iff.1 H.at_).1
      rw [if_pos hb]
      exact H.at_
    · rfl
  rw [sli_len (ho h hd0)]
  refine good26 hJ H (by omega) fun y h' hy hy2 hd => ?_
  simp only [b_gtr, cnd_dec]
  refine ⟨fun hg => ?_, fun _ => retL_same (by simp [unk]) (hK _ _ (.inl rfl) hd)⟩
  rw [b_sub (by omega)]
  refine idx_load (ho h' hd) ⟨by omega, by omega⟩ (map_get (by omega)) fun p => ?_
  refine retL_same (by simp [unk]) (hK _ _ (.inr ?_) hd)
  have : (y - 1).toNat < others.length := by omega
  simp only [List.getD_eq_getElem?_getD, List.getElem?_eq_getElem this, Option.getD_some]
  exact List.getElem_mem this
end
end Go.Proofs.Ythnccaajpdnndaa
namespace Go.Proofs.Ythnccaajpdnndaa
open Go.Conc Go.Proofs.Try
section
variable {main : Bool} {J : JT} {h : List AObj} {K : Value → List AObj → Prop}
theorem good29 (hJ : Closed prog main J) {av bv : Value} {xs ys : List Int} (ha : Sli h av 1 xs.length (xs.map vint)) (hb : Sli h bv 1 ys.length (ys.map vint)) (hl : xs.length < 4611686018427387904)
    (hK : K (.bool (decide (xs = ys))) h) : Good prog J 29 [av, bv] h K := by
  refine g29 hJ fun ok => ?_
  rw [e29]
  simp only [sli_len ha, sli_len hb, b_neq, cnd_dec]
  refine ⟨fun hne => retL_same (by simp [unk]) ?_, fun heq => ?_⟩
  · have : xs ≠ ys := fun e => hne (by rw [e])
    simpa [pack, this] using hK
  · have hlen : xs.length = ys.length := by omega
    refine l29_1 hJ (fun i => xs.length - i) (fun i f h' => h' = h ∧ f.ds = [] ∧ f.r 0 = av ∧ f.r 1 = bv ∧ f.r 5 = vint (i : Nat) ∧ i ≤ xs.length ∧ xs.take i = ys.take i) ?_ (s := 0) (.inl ⟨rfl, rfl, rfl, rfl, rfl, by omega, by simp⟩)
    rintro i f h' ⟨rfl, hds, h0, h1, h5, hi, ht⟩ _ hn
    rw [s29_1]
    simp only [h0, h1, h5, hds, sli_len ha, b_lss, cnd_dec]
    refine ⟨fun hlt => ?_, fun hge => ?_⟩
    · have e1 : i < xs.length := by omega
      refine idx_load ha ⟨by omega, by omega⟩ (map_get (by omega)) fun p1 => ?_
      refine idx_load hb ⟨by omega, by omega⟩ (map_get (by omega)) fun p2 => ?_
      simp only [b_neq, cnd_dec, Int.toNat_natCast]
      refine ⟨fun hne => retL_same (by simp [unk]) ?_, fun heq => ?_⟩
      · have : xs ≠ ys := fun e => hne (by rw [e])
        simpa [pack, this] using hK
      · rw [b_add (by omega)]
        refine ⟨i + 1, by dsimp only; omega, .inl ⟨rfl, hds, h0, h1, rfl, by omega, ?_⟩⟩
        have heq : xs.getD i 0 = ys.getD i 0 := by simpa using heq
        simp only [List.getD_eq_getElem?_getD, List.getElem?_eq_getElem e1, List.getElem?_eq_getElem (show i < ys.length by omega), Option.getD_some] at heq
        rw [List.take_add_one, List.take_add_one, ht, List.getElem?_eq_getElem e1, List.getElem?_eq_getElem (show i < ys.length by omega), heq]
    · have : i = xs.length := by omega
      subst this
      rw [List.take_length, hlen, List.take_length] at ht
      refine retL_same (by simp [unk]) ?_
      simpa [pack, ht] using hK
end
end Go.Proofs.Ythnccaajpdnndaa
namespace Go.Proofs.Ythnccaajpdnndaa
open Go.Conc Go.Proofs.Try
section
variable {main : Bool} {J : JT} {h : List AObj} {K : Value → List AObj → Prop}
def HF (h : List AObj) (nv : Value) (k : Nat) (s : Int) (rest : List AObj) : List AObj := h ++ (.cells [nv, vint k, .int .u64 s] true 0 :: rest)
theorem hf_len {h : List AObj} {nv : Value} {k : Nat} {s : Int} {rest : List AObj} : (HF h nv k s rest).length = h.length + 1 + rest.length := by
  simp [HF]; omega
theorem hf_app {h : List AObj} {nv : Value} {k : Nat} {s : Int} {rest g : List AObj} : HF h nv k s rest ++ g = HF h nv k s (rest ++ g) := by
  simp [HF]
theorem hf_hand {h : List AObj} {nv : Value} {ns : List Int} {k : Nat} {s : Int} {rest : List AObj} (sn : Sli h nv 1 ns.length (ns.map vint)) (hln : ns.length < 4611686018427387904) (hk : k < 1000000) (h0 : 0 ≤ s) (h1 : s < 18446744073709551616) :
    HandAt (HF h nv k s rest) h.length nv ns k s :=
  ⟨by simp [HF], sli_app sn, hln, by omega, h0, h1⟩
theorem hf_dealt {h h' : List AObj} {nv : Value} {k n : Nat} {s : Int} {rest : List AObj} (hd : Dealt (HF h nv k s rest) h.length nv k n h') : ∃ k' s', k' ≤ k + n ∧ 0 ≤ s' ∧ s' < 18446744073709551616 ∧ h' = HF h nv k' s' rest := by
  obtain ⟨k', s', a, b, c, rfl⟩ := hd
  refine ⟨k', s', a, b, c, ?_⟩
  simp [HF]
end
end Go.Proofs.Ythnccaajpdnndaa
namespace Go.Proofs.Ythnccaajpdnndaa
open Go.Conc Go.Proofs.Try
def SliE {α : Type} (h : List AObj) (v : Value) (s : Nat) (enc : α → List Value) (xs : List α) : Prop := Sli h v s xs.length (xs.flatMap enc)
theorem flat_take {α : Type} {enc : α → List Value} {s : Nat} (hen : ∀ x, (enc x).length = s) : ∀ (xs : List α) (i : Nat) (hi : i < xs.length), ((xs.flatMap enc).drop (i * s)).take s = enc xs[i]
  | [], i, hi => by simp at hi
  | x :: xs, 0, hi => by
    simp only [List.flatMap_cons, Nat.zero_mul, List.drop_zero, List.getElem_cons_zero]
    rw [List.take_append_of_le_length (by rw [hen]; exact Nat.le_refl _), List.take_of_length_le (by rw [hen]; exact Nat.le_refl _)]
  | x :: xs, i + 1, hi => by
    simp only [List.flatMap_cons, List.getElem_cons_succ]
    have : (i + 1) * s = (enc x).length + i * s := by rw [hen, Nat.succ_mul, Nat.add_comm]
    rw [this, ← List.drop_drop, List.drop_left]
    exact flat_take hen xs i (by simpa using hi)
section
variable {h g : List AObj} {K : Value → Prop}
theorem sliE_len {α : Type} {v : Value} {s : Nat} {enc : α → List Value} {xs : List α} (hs : SliE h v s enc xs) : aLenS v K = K (vint xs.length) := sli_len hs
theorem sliE_elem {α : Type} {v : Value} {s : Nat} {enc : α → List Value} {xs : List α} (hen : ∀ x, (enc x).length = s) (hpos : 0 < s) (hs : SliE h v s enc xs) {i : Nat} (hi : i < xs.length) :
    ∃ b o cs wr sz, (∀ K : Value → Prop, K (ptr b o) → aIdx s v (vint i) K) ∧ h[b]? = some (.cells cs wr sz) ∧ o + s ≤ cs.length ∧ (cs.drop o).take s = enc xs[i] ∧ kn (enc xs[i]) = true := by
  obtain ⟨base, c, rfl, ⟨hl, hkn⟩, hc⟩ := hs
  have hft := flat_take hen xs i hi
  have hmul : (i + 1) * s ≤ xs.length * s := Nat.mul_le_mul_right s (by omega)
  have hsucc : (i + 1) * s = i * s + s := Nat.succ_mul i s
  rcases hc with ⟨_, h0⟩ | ⟨b, o, rfl, h0 | ⟨cs, wr, sz, hb, hx⟩⟩
  · omega
  · omega
  · rw [← hx] at hl hft
    simp only [List.length_take, List.length_drop] at hl
    refine ⟨b, o + i * s, cs, wr, sz, fun K hK => ?_, hb, by omega, ?_, ?_⟩
    · rw [idx_ok]
      exact ⟨⟨by omega, by omega⟩, by simpa using hK⟩
    · rw [← hft, List.drop_take, List.drop_drop, List.take_take]
      congr 1
      omega
    · have : kn ((xs.flatMap enc).drop (i * s)) = true := by
        unfold kn at hkn ⊢
        rw [List.all_eq_true] at hkn ⊢
        exact fun y hy => hkn y (List.mem_of_mem_drop hy)
      rw [← flat_take hen xs i hi]
      unfold kn at this ⊢
      rw [List.all_eq_true] at this ⊢
      exact fun y hy => this y (List.mem_of_mem_take hy)
theorem part_get {cs e : List Value} {o s j : Nat} {x : Value} (ht : (cs.drop o).take s = e) (hx : e[j]? = some x) : cs[o + j]? = some x := by
  rw [← ht, List.getElem?_take] at hx
  split at hx
  · rw [List.getElem?_drop] at hx
    exact hx
  · cases hx
end
end Go.Proofs.Ythnccaajpdnndaa
namespace Go.Proofs.Ythnccaajpdnndaa
open Go.Conc Go.Proofs.Try
set_option maxRecDepth 100000
section
variable {main : Bool} {J : JT} {h A g : List AObj} {K : Value → List AObj → Prop} {KV : Value → Prop} {HL : List AObj → Prop} {H : Value → List AObj → Prop}
theorem a_min {a b : Int} : aMin (vint a) [vint b] KV = KV (vint (min a b)) := by
  show KV (vint (if b < a then b else a)) = _
  congr 2
  split <;> omega
theorem a_max {a b : Int} : aMax (vint a) [vint b] KV = KV (vint (max a b)) := by
  show KV (vint (if b > a then b else a)) = _
  congr 2
  split <;> omega
theorem back_get {i : Nat} : (A ++ g)[A.length + i]? = g[i]? := by
  rw [List.getElem?_append_right (by omega)]
  congr 1
  omega
theorem back_set {i : Nat} {o : AObj} : (A ++ g).set (A.length + i) o = A ++ g.set i o := by
  rw [List.set_append_right _ _ (by omega)]
  congr 2
  omega
def OwnE (n : Nat) (g : List AObj) (s : Nat) (cs : List Value) (len : Nat) (v : Value) (o : Option Nat) : Prop :=
  cs.length = len * s ∧ kn cs = true ∧ ((len = 0 ∧ v = .slice none 0 0 ∧ o = none) ∨ ∃ i c sz, o = some i ∧ v = .slice (some ⟨n + i, 0, none⟩) len c ∧ g[i]? = some (.cells cs true sz) ∧ ((c = fz ∧ sz = s) ∨ c = len))
theorem get_app {i : Nat} {x : AObj} {g' : List AObj} (hx : g[i]? = some x) : (g ++ g')[i]? = some x := by
  rw [List.getElem?_append_left (List.getElem?_eq_some_iff.1 hx).1]
  exact hx
theorem get_set {i j : Nat} {x y : AObj} (hx : g[i]? = some x) (hij : i ≠ j) : (g.set j y)[i]? = some x := by
  rw [List.getElem?_set, if_neg (fun e => hij e.symm)]
  exact hx
theorem ownE_at {n s len : Nat} {cs : List Value} {v : Value} {i : Nat} (ho : OwnE n g s cs len v (some i)) : ∃ sz, g[i]? = some (.cells cs true sz) := by
  obtain ⟨_, _, ⟨_, _, h⟩ | ⟨j, c, sz, h, _, h5, _⟩⟩ := ho
  · cases h
  · cases h
    exact ⟨sz, h5⟩
theorem ownE_lt {n s len : Nat} {cs : List Value} {v : Value} {o : Option Nat} (ho : OwnE n g s cs len v o) {i : Nat} (hi : o = some i) : i < g.length := by
  subst hi
  obtain ⟨sz, h⟩ := ownE_at ho
  exact (List.getElem?_eq_some_iff.1 h).1
theorem ownE_sli {s len : Nat} {cs : List Value} {v : Value} {o : Option Nat} (ho : OwnE A.length g s cs len v o) : Sli (A ++ g) v s len cs := by
  obtain ⟨h1, h2, ⟨rfl, rfl, _⟩ | ⟨i, c, sz, rfl, rfl, h5, _⟩⟩ := ho
  · have : cs = [] := List.length_eq_zero_iff.1 (by omega)
    subst this
    exact sli_nil
  · refine ⟨_, _, rfl, ⟨h1, h2⟩, .inr ⟨_, _, rfl, .inr ⟨cs, true, sz, ?_, by rw [List.drop_zero, List.take_of_length_le (by omega)]⟩⟩⟩
    rw [back_get]
    exact h5
theorem ownE_val {n s len : Nat} {cs : List Value} {v : Value} {o : Option Nat} (ho : OwnE n g s cs len v o) : v.cells = #[v] ∧ one v = true ∧ kn1 v = true := by
  obtain ⟨_, _, ⟨_, rfl, _⟩ | ⟨_, _, _, _, rfl, _⟩⟩ := ho <;> exact ⟨rfl, rfl, rfl⟩
theorem ownE_more {s len : Nat} {cs e : List Value} {v y : Value} {o : Option Nat} (ho : OwnE A.length g s cs len v o) (hs : 0 < s) (hl : len < 100000) (hy : Sli (A ++ g) y s 1 e)
    (hk : ∀ v' g', OwnE A.length g' s (cs ++ e) (len + 1) v' (some g.length) → (∀ i x, o ≠ some i → g[i]? = some x → g'[i]? = some x) → H v' (A ++ g')) : aApp s v y (A ++ g) H := by
  have hr : room = 1073741824 := rfl
  have hel : e.length = s := by
    have := sli_vlen hy
    omega
  have hek : kn e = true := by
    obtain ⟨_, _, _, ⟨_, h⟩, _⟩ := hy
    exact h
  have new : ∀ g1 : List AObj, g1.length = g.length → (∀ i x, o ≠ some i → g[i]? = some x → g1[i]? = some x) → cs.length = len * s → kn cs = true → H (.slice (some ⟨(A ++ g).length, 0, none⟩) (len + 1) fz) (A ++ (g1 ++ [.cells (cs ++ e) true s])) := by
    intro g1 hg1 hkeep h1 h2
    refine hk _ _ ⟨?_, ?_, .inr ⟨g.length, fz, s, rfl, by simp, by simp [← hg1], .inl ⟨rfl, rfl⟩⟩⟩ fun j x hj hx => get_app (hkeep j x hj hx)
    · rw [List.length_append, hel, h1, Nat.succ_mul]
    · unfold kn at *
      rw [List.all_append, h2, hek]
      rfl
  obtain ⟨h1, h2, ⟨rfl, rfl, rfl⟩ | ⟨i, c, sz, rfl, rfl, h5, h6⟩⟩ := ho
  · have hcs : cs = [] := List.length_eq_zero_iff.1 (by omega)
    subst hcs
    refine app_nil hs hy (by omega) (fun e => absurd e (by omega)) fun _ => ?_
    rw [List.append_assoc]
    exact new g rfl (fun _ _ _ hx => hx) h1 h2
  · have hlt := (List.getElem?_eq_some_iff.1 h5).1
    have ht : cs.take (len * s) = cs := List.take_of_length_le (by omega)
    rcases h6 with ⟨rfl, rfl⟩ | rfl
    · refine app_own (cs := cs) (by rw [back_get]; exact h5) (by omega) (by rw [ht]; exact h2) hs hy (by omega) ?_
      rw [back_set, List.append_assoc, ht]
      exact new _ (by simp) (fun j x hj hx => get_set hx fun e => hj (by rw [e])) h1 h2
    · refine app_copy (cs := cs) (by rw [back_get]; exact h5) (by omega) (by rw [List.drop_zero, ht]; exact h2) (by omega) hs hy (by omega) ?_
      rw [List.append_assoc, List.drop_zero, ht]
      exact new g rfl (fun _ _ _ hx => hx) h1 h2
theorem hfa {nv : Value} {k : Nat} {s : Int} {rest : List AObj} (hs : 0 ≤ s ∧ s < 18446744073709551616) (hk : k < 1000000) {ns : List Int} (sn : Sli h nv 1 ns.length (ns.map vint)) (hln : ns.length < 4611686018427387904) : HandAt (HF h nv k s rest ++ g) h.length nv ns k s := by
  rw [hf_app]
  exact hf_hand sn hln hk hs.1 hs.2
theorem hfd {nv : Value} {k n : Nat} {s : Int} {rest h' : List AObj} (hd : Dealt (HF h nv k s rest ++ g) h.length nv k n h') : ∃ k' s', k' ≤ k + n ∧ (0 ≤ s' ∧ s' < 18446744073709551616) ∧ h' = HF h nv k' s' rest ++ g := by
  rw [hf_app] at hd
  obtain ⟨k', s', a, b, c, rfl⟩ := hf_dealt hd
  exact ⟨k', s', a, ⟨b, c⟩, by rw [hf_app]⟩
structure Hnd (h : List AObj) (nv : Value) (ns : List Int) : Prop where
  list : Sli h nv 1 ns.length (ns.map vint)
  sane : ns.length < 4611686018427387904
variable {nv : Value} {ns : List Int} {rest : List AObj} {k : Nat} {s : Int}
section
variable {KV : Value → Prop} {a b : Int} {t : TypeId} {h : List AObj}
theorem offI {b o d : Nat} (hk : KV (ptr b (o + d))) : aOff (ptr b o) d KV := hk
theorem fillI {c : List Value} {KL : List Value → Prop} (hk : KL c) : aFill c [] KL := hk
theorem nilI {b o : Nat} (hk : KV (ptr b o)) : aNil (ptr b o) KV := hk
theorem addI (h : -9223372036854775808 ≤ a + b ∧ a + b < 9223372036854775808) (hk : KV (vint (a + b))) : aBin prog .add t (vint a) (vint b) KV := by rw [b_add h]; exact hk
theorem subI (h : -9223372036854775808 ≤ a - b ∧ a - b < 9223372036854775808) (hk : KV (vint (a - b))) : aBin prog .sub t (vint a) (vint b) KV := by rw [b_sub h]; exact hk
theorem minI (hk : KV (vint (min a b))) : aMin (vint a) [vint b] KV := by rw [a_min]; exact hk
theorem maxI (hk : KV (vint (max a b))) : aMax (vint a) [vint b] KV := by rw [a_max]; exact hk
theorem lssI (hk : KV (.bool (decide (a < b)))) : aBin prog .lss t (vint a) (vint b) KV := by rw [b_lss]; exact hk
theorem gtrI (hk : KV (.bool (decide (a > b)))) : aBin prog .gtr t (vint a) (vint b) KV := by rw [b_gtr]; exact hk
theorem geqI (hk : KV (.bool (decide (a ≥ b)))) : aBin prog .geq t (vint a) (vint b) KV := by rw [b_geq]; exact hk
theorem leqI (hk : KV (.bool (decide (a ≤ b)))) : aBin prog .leq t (vint a) (vint b) KV := by rw [b_leq]; exact hk
theorem eqlI (hk : KV (.bool (decide (a = b)))) : aBin prog .eql t (vint a) (vint b) KV := by rw [b_eql]; exact hk
theorem neqI (hk : KV (.bool (decide (a ≠ b)))) : aBin prog .neq t (vint a) (vint b) KV := by rw [b_neq]; exact hk
theorem notI {x : Bool} (hk : KV (.bool (!x))) : aUn .not (.bool x) KV := hk
theorem cndI {p : Prop} [Decidable p] {A B : Prop} (h1 : p → A) (h2 : ¬ p → B) : cnd (.bool (decide p)) A B := cnd_dec.2 ⟨h1, h2⟩
theorem cndN {p : Prop} [Decidable p] {A B : Prop} (h1 : ¬ p → A) (h2 : p → B) : cnd (.bool (!decide p)) A B := cnd_ndec.2 ⟨h1, h2⟩
theorem lenI {v : Value} {s n : Nat} {cells : List Value} (hs : Sli h v s n cells) (hk : KV (vint n)) : aLenS v KV := by rw [sli_len hs]; exact hk
theorem ldI {b o s : Nat} {c : List Value} {wr : Bool} {sz : Nat} {v : Value} (hb : h[b]? = some (.cells c wr sz)) (hv : c[o]? = some v) (hn : kn1 v = true) (hk : KV v) : aLoad false s (ptr b o) h KV := by rw [load_cell hb hv hn]; exact hk
theorem idxI {s b o n c : Nat} {j : Int} (h1 : 0 ≤ j ∧ j < n) (hk : KV (ptr b (o + j.toNat * s))) : aIdx s (.slice (some ⟨b, o, none⟩) n c) (vint j) KV := by rw [idx_ok]; exact ⟨h1, hk⟩
theorem ext0 {a b : Value} (hk : KV a) : aExt (.tuple ⟨[a, b]⟩) 0 KV := hk
theorem ext1 {a b : Value} (hk : KV b) : aExt (.tuple ⟨[a, b]⟩) 1 KV := hk
theorem ext30 {a b c : Value} (hk : KV a) : aExt (.tuple ⟨[a, b, c]⟩) 0 KV := hk
theorem ext31 {a b c : Value} (hk : KV b) : aExt (.tuple ⟨[a, b, c]⟩) 1 KV := hk
theorem ext32 {a b c : Value} (hk : KV c) : aExt (.tuple ⟨[a, b, c]⟩) 2 KV := hk
end
theorem up (hJ : Closed prog main J) (hn : Hnd h nv ns) (hs : 0 ≤ s ∧ s < 18446744073709551616) (hk : k < 1000000) {m : Int} (hm : m < 1000000)
    (hK : ∀ y k' s', 0 ≤ y → (y ≤ m ∨ y = 0) → k' ≤ k + 1 → (0 ≤ s' ∧ s' < 18446744073709551616) → K (vint y) (HF h nv k' s' rest ++ g)) : Good prog J 26 [ptr h.length 0, vint m] (HF h nv k s rest ++ g) K := by
  refine good26 hJ (hfa hs hk hn.list hn.sane) (by omega) fun y h1 a b hd => ?_
  obtain ⟨k', s', c, d, rfl⟩ := hfd hd
  exact hK y k' s' a b c d
theorem amo (hJ : Closed prog main J) (hn : Hnd h nv ns) (hs : 0 ≤ s ∧ s < 18446744073709551616) (hk : k < 1000000) {lo hi : Int} (h1 : -1000000 ≤ lo ∧ lo ≤ 1000000) (h2 : -1000000 ≤ hi ∧ hi ≤ 1000000)
    (hK : ∀ y k' s', lo ≤ y → (y ≤ hi ∨ y = lo) → k' ≤ k + 1 → (0 ≤ s' ∧ s' < 18446744073709551616) → K (vint y) (HF h nv k' s' rest ++ g)) : Good prog J 23 [ptr h.length 0, vint lo, vint hi] (HF h nv k s rest ++ g) K := by
  refine good23 hJ (hfa hs hk hn.list hn.sane) (by omega) (by omega) fun y h1 a b hd => ?_
  obtain ⟨k', s', c, d, rfl⟩ := hfd hd
  exact hK y k' s' a b c d
end
end Go.Proofs.Ythnccaajpdnndaa
namespace Go.Proofs.Ythnccaajpdnndaa
open Go.Conc Go.Proofs.Try
set_option maxRecDepth 100000
def SameX (X : List Nat) (h H : List AObj) : Prop := h.length ≤ H.length ∧ ∀ i, i < h.length → i ∉ X → H[i]? = h[i]?
theorem SameX.refl {X : List Nat} {h : List AObj} : SameX X h h := ⟨Nat.le_refl _, fun _ _ _ => rfl⟩
theorem SameX.trans {X : List Nat} {h H H' : List AObj} (a : SameX X h H) (b : SameX X H H') : SameX X h H' :=
  ⟨Nat.le_trans a.1 b.1, fun i hi hx => by rw [b.2 i (Nat.lt_of_lt_of_le hi a.1) hx, a.2 i hi hx]⟩
theorem SameX.app {X : List Nat} {h H g : List AObj} (a : SameX X h H) : SameX X h (H ++ g) :=
  ⟨by have := a.1; simp; omega, fun i hi hx => by rw [List.getElem?_append_left (Nat.lt_of_lt_of_le hi a.1), a.2 i hi hx]⟩
theorem SameX.set {X : List Nat} {h H : List AObj} {i : Nat} {o : AObj} (a : SameX X h H) (hi : i ∈ X ∨ h.length ≤ i) : SameX X h (H.set i o) :=
  ⟨by have := a.1; simp; omega, fun j hj hx => by
    rw [List.getElem?_set, if_neg, a.2 j hj hx]
    rintro rfl
    rcases hi with hi | hi
    · exact hx hi
    · omega⟩
theorem SameX.get {X : List Nat} {h H : List AObj} {i : Nat} {o : AObj} (a : SameX X h H) (hx : h[i]? = some o) (hi : i ∉ X) : H[i]? = some o := by
  rw [a.2 i (List.getElem?_eq_some_iff.1 hx).1 hi, hx]
theorem SameX.pre {X : List Nat} {h0 g H : List AObj} (a : SameX X (h0 ++ g) H) (hX : ∀ x ∈ X, h0.length ≤ x) : ∃ g', H = h0 ++ g' := by
  refine ⟨H.drop h0.length, ?_⟩
  have : H.take h0.length = h0 := by
    apply List.ext_getElem?
    intro i
    rw [List.getElem?_take]
    split
    · rename_i hi
      rw [a.2 i (by simp; omega) (fun hx => by have := hX i hx; omega), List.getElem?_append_left hi]
    · rename_i hi
      rw [List.getElem?_eq_none (by omega)]
  conv => lhs; rw [← List.take_append_drop h0.length H, this]
end Go.Proofs.Ythnccaajpdnndaa
namespace Go.Proofs.Ythnccaajpdnndaa
open Go.Conc Go.Proofs.Try
set_option maxRecDepth 100000
def OwnX (H : List AObj) (s : Nat) (cs : List Value) (len : Nat) (v : Value) (o : Option Nat) : Prop :=
  cs.length = len * s ∧ kn cs = true ∧ ((len = 0 ∧ v = .slice none 0 0 ∧ o = none) ∨ ∃ i c sz, o = some i ∧ v = .slice (some ⟨i, 0, none⟩) len c ∧ H[i]? = some (.cells cs true sz) ∧ ((c = fz ∧ sz = s) ∨ c = len))
section
variable {h H : List AObj} {K : Value → List AObj → Prop} {KV : Value → Prop} {HL : List AObj → Prop} {n0 : Nat}
theorem SameX.weak {X Y : List Nat} {h H : List AObj} (a : SameX X h H) (hxy : ∀ x ∈ X, x ∈ Y) : SameX Y h H := ⟨a.1, fun i hi hx => a.2 i hi fun hm => hx (hxy i hm)⟩
theorem SameX.weak0 {Y : List Nat} {h H : List AObj} (a : SameX [] h H) : SameX Y h H := a.weak (by simp)
theorem SameX.thru {X Y : List Nat} {h H H' : List AObj} (a : SameX X h H) (b : SameX Y H H') (hy : ∀ y ∈ Y, y ∈ X ∨ h.length ≤ y) : SameX X h H' :=
  ⟨Nat.le_trans a.1 b.1, fun i hi hx => by
    rw [b.2 i (Nat.lt_of_lt_of_le hi a.1) fun hm => ?_, a.2 i hi hx]
    rcases hy i hm with h1 | h1
    · exact hx h1
    · omega⟩
theorem SameX.app0 {X : List Nat} {h H : List AObj} (a : SameX X h H) (hX : ∀ x ∈ X, h.length ≤ x) : ∃ g, H = h ++ g := by
  have := SameX.pre (h0 := h) (g := []) (X := X) (H := H) (by simpa using a) hX
  exact this
theorem lt_of_get {i : Nat} {o : AObj} (hx : H[i]? = some o) : i < H.length := (List.getElem?_eq_some_iff.1 hx).1
theorem SameX.sli {X : List Nat} {v : Value} {s n : Nat} {cs : List Value} (a : SameX X h H) (hs : Sli h v s n cs) (hX : ∀ x ∈ X, h.length ≤ x) : Sli H v s n cs := by
  obtain ⟨g, rfl⟩ := a.app0 hX
  exact sli_app hs
theorem qAl {l : List Value} (hk : ∀ H' p, p = H.length → SameX [] H H' → H'[p]? = some (.cells l true 0) → H'.length = p + 1 → K (ptr p 0) H') : aAlloc l H K :=
  hk _ _ rfl SameX.refl.app (by simp) (by simp)
theorem qBox {l : List Value} (h1 : l.all one = true) (hk : ∀ H' p, p = H.length → SameX [] H H' → H'[p]? = some (.cells l true 0) → H'.length = p + 1 → K (ptr p 0) H') : aBox (.agg ⟨l⟩) H K :=
  box_agg h1 (hk _ _ rfl SameX.refl.app (by simp) (by simp))
theorem qBox1 {v : Value} (hc : v.cells = #[v]) (h1 : one v = true) (hk : ∀ H' p, p = H.length → SameX [] H H' → H'[p]? = some (.cells [v] true 0) → H'.length = p + 1 → K (ptr p 0) H') : aBox v H K :=
  box_one hc h1 (hk _ _ rfl SameX.refl.app (by simp) (by simp))
theorem qNew {n : Nat} {l : List Value} (hk : ∀ H' p, p = H.length → SameX [] H H' → H'[p]? = some (.cells l true 0) → H'.length = p + 1 → K (.slice (some ⟨p, 0, none⟩) n n) H') : aNewS n l H K :=
  hk _ _ rfl SameX.refl.app (by simp) (by simp)
theorem qNewM (hk : ∀ H' p, p = H.length → SameX [] H H' → H'[p]? = some (.map [] true) → H'.length = p + 1 → K (.map (some p)) H') : aNewM H K :=
  hk _ _ rfl SameX.refl.app (by simp) (by simp)
theorem qSt {b o : Nat} {c : List Value} {sz : Nat} {v : Value} (hb : H[b]? = some (.cells c true sz)) (ho : o < c.length) (h1 : v.cells = #[v]) (h2 : one v = true) (hk : ∀ H', SameX [b] H H' → H'[b]? = some (.cells (c.set o v) true sz) → H'.length = H.length → HL H') : aStore 1 (ptr b o) v H HL :=
  store_cell hb ho h1 h2 (hk _ (SameX.refl.set (.inl (by simp))) (List.getElem?_set_self (lt_of_get hb)) (by simp))
theorem qStA {b n : Nat} {cs c : List Value} {sz : Nat} (hb : H[b]? = some (.cells cs true sz)) (hl : c.length = n) (hs : cs.length = n) (h1 : c.all one = true) (hk : ∀ H', SameX [b] H H' → H'[b]? = some (.cells c true sz) → H'.length = H.length → HL H') : aStore n (ptr b 0) (.agg ⟨c⟩) H HL :=
  store_agg hb hl hs h1 (hk _ (SameX.refl.set (.inl (by simp))) (List.getElem?_set_self (lt_of_get hb)) (by simp))
theorem ownX_iff {s len : Nat} {cs : List Value} {v : Value} {o : Option Nat} : OwnX H s cs len v o ↔ OwnE 0 H s cs len v o := by
  simp [OwnX, OwnE]
theorem ownX_keep {s len : Nat} {cs : List Value} {v : Value} {o : Option Nat} {H' : List AObj} {X : List Nat} (ho : OwnX H s cs len v o) (a : SameX X H H') (hX : ∀ i, o = some i → i ∉ X) : OwnX H' s cs len v o := by
  obtain ⟨h1, h2, h3 | ⟨i, c, sz, rfl, h4, h5, h6⟩⟩ := ho
  · exact ⟨h1, h2, .inl h3⟩
  · exact ⟨h1, h2, .inr ⟨i, c, sz, rfl, h4, a.get h5 (hX i rfl), h6⟩⟩
theorem ownX_sli {s len : Nat} {cs : List Value} {v : Value} {o : Option Nat} (ho : OwnX H s cs len v o) : Sli H v s len cs := by
  have := ownE_sli (A := []) (ownX_iff.1 ho)
  exact this
theorem ownX_val {s len : Nat} {cs : List Value} {v : Value} {o : Option Nat} (ho : OwnX H s cs len v o) : v.cells = #[v] ∧ one v = true ∧ kn1 v = true := ownE_val (ownX_iff.1 ho)
theorem ownX_lt {s len : Nat} {cs : List Value} {v : Value} {o : Option Nat} (ho : OwnX H s cs len v o) : ∀ i, o = some i → i < H.length := fun _ hi => ownE_lt (ownX_iff.1 ho) hi
theorem ownX_new {s n p : Nat} {l : List Value} (hp : H[p]? = some (.cells l true 0)) (hl : l.length = n * s) (hk : kn l = true) : OwnX H s l n (.slice (some ⟨p, 0, none⟩) n n) (some p) :=
  ⟨hl, hk, .inr ⟨p, n, 0, rfl, rfl, hp, .inr rfl⟩⟩
theorem ownX_more {s len : Nat} {cs e : List Value} {v y : Value} {o : Option Nat} (ho : OwnX H s cs len v o) (hs : 0 < s) (hl : len < 100000) (hy : Sli H y s 1 e)
    (hk : ∀ v' H' p, p = H.length → OwnX H' s (cs ++ e) (len + 1) v' (some p) → SameX o.toList H H' → K v' H') : aApp s v y H K := by
  have hlo := ownX_lt ho
  refine ownE_more (A := []) (g := H) (ownX_iff.1 ho) hs hl hy fun v' g' ho' hkeep => hk v' ([] ++ g') _ rfl (ownX_iff.2 ho') ⟨?_, fun i hi hx => ?_⟩
  · have := ownE_lt ho' rfl
    simp only [List.nil_append]
    omega
  · have hx' : o ≠ some i := fun e => hx (by rw [e]; simp)
    obtain ⟨x, hxx⟩ : ∃ x, H[i]? = some x := ⟨H[i], List.getElem?_eq_getElem hi⟩
    rw [hxx]
    exact hkeep i x hx' hxx
theorem retX {X : List Nat} {vs : List Value} (ok : heapOk h) (hn : n0 ≤ h.length) (S : SameX X h H) (hX : ∀ x ∈ X, h.length ≤ x) (hv : ∀ v ∈ vs, v ≠ unk) (hw : VOk h.length (pack vs)) (hk : K (pack vs) h) : retL n0 K [] vs H := by
  obtain ⟨g, rfl⟩ := S.app0 hX
  exact retL_drop ok hn hv hw hk
end
end Go.Proofs.Ythnccaajpdnndaa
namespace Go.Proofs.Ythnccaajpdnndaa
open Go.Conc Go.Proofs.Try
set_option maxRecDepth 100000
def HX (h H : List AObj) (ns : List Int) (k : Nat) : Prop := ∃ nv k' s rest, H = HF h nv k' s rest ∧ k' ≤ k ∧ (0 ≤ s ∧ s < 18446744073709551616) ∧ Hnd h nv ns
section
variable {main : Bool} {J : JT} {h H : List AObj} {K : Value → List AObj → Prop} {ns : List Int} {k : Nat}
theorem HX.mono {k' : Nat} (a : HX h H ns k) (hk : k ≤ k') : HX h H ns k' := by
  obtain ⟨nv, k1, s, rest, e, h1, h2, h3⟩ := a
  exact ⟨nv, k1, s, rest, e, by omega, h2, h3⟩
theorem HX.pre (a : HX h H ns k) : SameX [] h H := by
  obtain ⟨nv, k1, s, rest, rfl, _⟩ := a
  exact SameX.refl.app
theorem HX.same {X : List Nat} {H' : List AObj} (a : HX h H ns k) (S : SameX X H H') (hX : ∀ x ∈ X, h.length < x) : HX h H' ns k := by
  obtain ⟨nv, k1, s, rest, rfl, h1, h2, h3⟩ := a
  have e : HF h nv k1 s rest = (h ++ [.cells [nv, vint k1, .int .u64 s] true 0]) ++ rest := by simp [HF]
  rw [e] at S
  obtain ⟨g, hg⟩ := S.pre (fun x hx => by have := hX x hx; simp; omega)
  exact ⟨nv, k1, s, g, by rw [hg]; simp [HF], h1, h2, h3⟩
theorem hf_same {nv : Value} {k1 k2 : Nat} {s1 s2 : Int} {rest g : List AObj} : SameX [h.length] (HF h nv k1 s1 rest) (HF h nv k2 s2 rest ++ g) := by
  refine ⟨by rw [hf_app, hf_len, hf_len]; simp, fun i hi hx => ?_⟩
  simp at hx
  rw [List.getElem?_append_left (by rw [hf_len] at hi ⊢; omega)]
  unfold HF
  rcases Nat.lt_or_ge i h.length with x | x
  · rw [List.getElem?_append_left x, List.getElem?_append_left x]
  · rw [List.getElem?_append_right x, List.getElem?_append_right x]
    obtain ⟨j, hj⟩ : ∃ j, i - h.length = j + 1 := ⟨i - h.length - 1, by omega⟩
    rw [hj]
    rfl
theorem newX (hJ : Closed prog main J) {nv : Value} (sn : Sli h nv 1 ns.length (ns.map vint)) (hln : ns.length < 4611686018427387904)
    (hK : ∀ H, HX h H ns 0 → K (ptr h.length 0) H) : Good prog J 22 [nv] h K := by
  obtain ⟨nb, nc, hnv, _⟩ := id sn
  subst hnv
  exact good22 hJ (hK _ ⟨_, 0, 88172645463325252, [], rfl, Nat.le_refl _, by omega, ⟨sn, hln⟩⟩)
theorem upX (hJ : Closed prog main J) (a : HX h H ns k) (hk : k < 1000000) {m : Int} (hm : m < 1000000)
    (hK : ∀ y H', 0 ≤ y → (y ≤ m ∨ y = 0) → SameX [h.length] H H' → H'.length = H.length → HX h H' ns (k + 1) → K (vint y) H') : Good prog J 26 [ptr h.length 0, vint m] H K := by
  obtain ⟨nv, k1, s, rest, rfl, h1, h2, h3⟩ := a
  have := up (k := k1) (g := []) (rest := rest) (K := K) hJ h3 h2 (by omega) hm fun y k' s' a1 a2 a3 a4 => hK y _ a1 a2 hf_same (by simp [hf_len]) ⟨nv, k', s', rest, by simp, by omega, a4, h3⟩
  simpa using this
theorem amX (hJ : Closed prog main J) (a : HX h H ns k) (hk : k < 1000000) {lo hi : Int} (h1 : -1000000 ≤ lo ∧ lo ≤ 1000000) (h2 : -1000000 ≤ hi ∧ hi ≤ 1000000)
    (hK : ∀ y H', lo ≤ y → (y ≤ hi ∨ y = lo) → SameX [h.length] H H' → H'.length = H.length → HX h H' ns (k + 1) → K (vint y) H') : Good prog J 23 [ptr h.length 0, vint lo, vint hi] H K := by
  obtain ⟨nv, k1, s, rest, rfl, b1, b2, b3⟩ := a
  have := amo (k := k1) (g := []) (rest := rest) (K := K) hJ b3 b2 (by omega) h1 h2 fun y k' s' a1 a2 a3 a4 => hK y _ a1 a2 hf_same (by simp [hf_len]) ⟨nv, k', s', rest, by simp, by omega, a4, b3⟩
  simpa using this
end
end Go.Proofs.Ythnccaajpdnndaa
namespace Go.Proofs.Ythnccaajpdnndaa
open Go.Conc Go.Proofs.Try
set_option maxRecDepth 100000
end Go.Proofs.Ythnccaajpdnndaa
namespace Go.Proofs.Ythnccaajpdnndaa
open Go.Conc Go.Proofs.Try
set_option maxRecDepth 100000
section
variable {main : Bool} {J : JT} {h H : List AObj} {K : Value → List AObj → Prop} {KV : Value → Prop} {HL : List AObj → Prop} {n0 : Nat}
theorem knV (l : List Int) : kn (l.map vint) = true := by
  simp [kn, kn1]
theorem sliN {v : Value} {xs : List Int} (hs : Sli h v 1 xs.length (xs.map vint)) {i : Nat} {x : Int} (hx : xs[i]? = some x) {K2 : Value → Value → Prop} (hK : ∀ p, K2 p (vint x)) : aIdx 1 v (vint (i : Nat)) fun p => aLoad false 1 p h (K2 p) := by
  have hi := (List.getElem?_eq_some_iff.1 hx).1
  exact idx_load hs ⟨by omega, by omega⟩ (by rw [Int.toNat_natCast, List.getElem?_map, hx]; rfl) hK
theorem fillO {m : List Value} {o s : Nat} {v : Value} {l : List Value} {ps : List (Nat × Nat × Value)} {KL : List Value → Prop} (hv : v.cells.toList = l) (hs : l.length = s) (ho : l.all one = true) (hl : o + s ≤ m.length) (hk : aFill (wrAt m o l) ps KL) : aFill m ((o, s, v) :: ps) KL := by
  subst hv
  exact ⟨hs, ho, hl, hk⟩
theorem retQs {n0 : Nat} {rs : List ResultVar} {f : RG} (ds : f.ds = []) (hr : resW prog rs f.r h fun vs => K (pack vs) h) : RetQ prog rs n0 K .ret f h := by
  unfold RetQ
  rw [ds]
  exact resW_imp rs hr fun vs hk => .inl hk
theorem nu2 {a b : Value} (ha : a ≠ unk) (hb : b ≠ unk) : ∀ v ∈ [a, b], v ≠ unk := by
  intro v hv
  simp only [List.mem_cons, List.not_mem_nil, or_false] at hv
  rcases hv with rfl | rfl <;> assumption
theorem cndB {b : Bool} {A B : Prop} (h1 : b = true → A) (h2 : b = false → B) : cnd (.bool b) A B := by
  cases b
  · exact cnd_false.2 (h2 rfl)
  · exact cnd_true.2 (h1 rfl)
theorem mbSli {v : Value} {s n : Nat} {c : List Value} (hs : Sli H v s n c) : mapBlk v = none := by
  obtain ⟨base, c, rfl, _⟩ := id hs
  rfl
theorem callCz {g : FuncId} {args cap : List Value} (hg : Nat.blt g prog.funcs.size = true) (hk : Good prog J g (args ++ cap) H K) : callV prog (Good prog J) (.func (.func g) ⟨[]⟩ ⟨cap⟩) args H K := by
  show (bif Nat.blt g prog.funcs.size then Good prog J g ([] ++ args ++ cap) H K else False)
  rw [hg, cond_true, List.nil_append]
  exact hk
theorem retLdef {n0 n : Nat} {vs : List Value} (hd : h[n]? = some .deferred) (hv : ∀ v ∈ vs, v ≠ unk) (hk : K (pack vs) (h.set n .dead)) : retL n0 K [n] vs h := by
  have := retL_same (n0 := n0) (H := K) hv hk
  unfold retL at *
  exact ⟨hd, this⟩
theorem appIn {b k m : Nat} {cs : List Value} {v y : Value} (hb : H[b]? = some (.cells cs true 0)) (hl : cs.length = m) (hk : k < m) (hm : m < 1000) (hc : kn (cs.take k) = true) (hy : Sli H y 1 1 [v])
    (hK : ∀ H', SameX [b] H H' → H'[b]? = some (.cells (cs.set k v) true 0) → H'.length = H.length → K (.slice (some ⟨b, 0, none⟩) (k + 1) m) H') : aApp 1 (.slice (some ⟨b, 0, none⟩) k m) y H K := by
  have hfz : (1000 : Nat) < fz := by decide
  have hrm : (2000 : Nat) < room := by decide
  obtain ⟨yb, yc, rfl, hyk, hh⟩ := id hy
  refine ⟨by omega, src_sli hy (by omega) ?_⟩
  simp only [hb]
  refine ⟨⟨by omega, by simpa using hc⟩, fun _ => ⟨fun _ => ⟨trivial, by omega, ?_⟩, fun h => absurd h (by omega)⟩, fun h => absurd h (by omega)⟩
  have e : wrAt cs (0 + k * 1) [v] = cs.set k v := by simp [wrAt]
  rw [e]
  exact hK _ (SameX.refl.set (.inl (by simp))) (List.getElem?_set_self (lt_of_get hb)) (by simp)
theorem neqNilZ {t e : TypeId} {base : Option Addr} {n c : Nat} (ht : prog.underlying t = some (.slice e)) (hg : prog.eqGuardType prog.depth t = false) (hk : KV (.bool (!base.isNone))) : aBin prog .neq t (.slice base n c) (.slice none 0 0) KV := by
  show aEq prog true t (.slice base n c) (.slice none 0 0) KV
  have : teq prog 10000 t (.slice base n c) (.slice none 0 0) = some base.isNone := by
    unfold teq
    rw [ht]
    cases base <;> rfl
  unfold aEq
  rw [this]
  exact ⟨hg, by simpa using hk⟩
theorem idxAz {s len b : Nat} {j : Nat} (h1 : j < len) (hk : KV (ptr b (j * s))) : aIdxA len s (ptr b 0) (vint (j : Nat)) KV :=
  ⟨⟨by omega, by omega⟩, by rw [Int.toNat_natCast, Nat.zero_add]; exact hk⟩
theorem sbOne {X : List Nat} {p : Nat} {H H' : List AObj} (S : SameX X H H') (hp : p < H.length) (hX : p ∉ X) : SameB (some [p]) H H' := fun b hb => by
  simp at hb
  subst hb
  exact S.2 _ hp hX
theorem sbTwo {X : List Nat} {p q : Nat} {H H' : List AObj} (S : SameX X H H') (hp : p < H.length) (hq : q < H.length) (hX : p ∉ X) (hY : q ∉ X) : SameB (some [p, q]) H H' := fun b hb => by
  simp at hb
  rcases hb with rfl | rfl
  · exact S.2 _ hp hX
  · exact S.2 _ hq hY
theorem endQexit {n id : Nat} {f : RG} {Q : QT} {v : Value} {st : LoopState} {fn : FuncId} {r : Nat → Value} {size : Nat} {params : Array Tmp} {assign body : Code} {dfr : Nat} (hl : h[n + 1]? = some (.loop st (some (.exit id)) fn r size params assign body dfr)) (hs : st ≠ .busy) (hq : Q (.exit id) ⟨f.r, n :: f.ds⟩ (h.set (n + 1) .dead)) : endQ n f Q v h :=
  ⟨st, some (.exit id), _, _, _, _, _, _, _, hl, hs, hq⟩
theorem endQnorm {n : Nat} {f : RG} {Q : QT} {v : Value} {st : LoopState} {fn : FuncId} {r : Nat → Value} {size : Nat} {params : Array Tmp} {assign body : Code} {dfr : Nat} (hl : h[n + 1]? = some (.loop st none fn r size params assign body dfr)) (hs : st ≠ .busy) (hq : Q .normal ⟨f.r, n :: f.ds⟩ (h.set (n + 1) .dead)) : endQ n f Q v h :=
  ⟨st, none, _, _, _, _, _, _, _, hl, hs, hq⟩
theorem ownU {s len : Nat} {cs : List Value} {v : Value} {o : Option Nat} (O : OwnX H s cs len v o) : v ≠ unk := by
  have := (ownX_val O).2.2
  intro e
  rw [e] at this
  cases this
theorem fillP2 {a b : Value} {KL : List Value → Prop} (ha : a.cells = #[a] ∧ one a = true) (hb : b.cells = #[b] ∧ one b = true) {z : Value} (hk : KL [a, b]) : aFill (zrep [z] 2) [(0, 1, a), (1, 1, b)] KL := by
  refine fillO (l := [a]) (by rw [ha.1]) rfl (by simp [ha.2]) (by show 0 + 1 ≤ 2; decide) ?_
  refine fillO (l := [b]) (by rw [hb.1]) rfl (by simp [hb.2]) (by rw [wrAt_length]; show 1 + 1 ≤ 2; decide) ?_
  exact fillI hk
theorem beqD (a b : Int) : (a == b) = decide (a = b) := by
  by_cases h : a = b
  · simp [h]
  · simp [h]
theorem eqlU {t : TypeId} {a b : UInt8} (hk : KV (.bool (decide (a = b)))) : aBin prog .eql t (.int .u8 a.toNat) (.int .u8 b.toNat) KV := by
  refine ⟨rfl, ?_⟩
  show KV (.bool (((a.toNat : Nat) : Int) == ((b.toNat : Nat) : Int)))
  rw [beqD]
  have : ((a.toNat : Nat) : Int) = ((b.toNat : Nat) : Int) ↔ a = b := by rw [Int.ofNat_inj]; exact UInt8.toNat_inj
  rw [decide_eq_decide.2 this]
  exact hk
theorem neqU {t : TypeId} {a b : UInt8} (hk : KV (.bool (decide (a ≠ b)))) : aBin prog .neq t (.int .u8 a.toNat) (.int .u8 b.toNat) KV := by
  refine ⟨rfl, ?_⟩
  show KV (.bool (((a.toNat : Nat) : Int) != ((b.toNat : Nat) : Int)))
  unfold bne
  rw [beqD, ← decide_not]
  have : (¬ ((a.toNat : Nat) : Int) = ((b.toNat : Nat) : Int)) ↔ a ≠ b := by rw [Int.ofNat_inj, UInt8.toNat_inj]
  rw [decide_eq_decide.2 this]
  exact hk
theorem byteI {l : List UInt8} {i : Nat} {b : UInt8} (hb : l[i]? = some b) (hk : KV (.int .u8 b.toNat)) : aIdxStr (.string ⟨⟨l⟩⟩) (vint (i : Nat)) KV := by
  refine ⟨by omega, ?_⟩
  show match l[((i : Nat) : Int).toNat]? with
    | some b => KV (.int .u8 b.toNat)
    | none => False
  rw [Int.toNat_natCast, hb]
  exact hk
theorem lenStrI {l : List UInt8} (hk : KV (vint l.length)) : aLenStr (.string ⟨⟨l⟩⟩) KV := hk
end
structure Pas where
  grass : Int
  bears : Int
  dry : Int
  wet : Int
  stubble : Int
  sleep : Int
  deriving DecidableEq
structure SkyR where
  days : Int
  drought : Int
  flood : Int
  deriving DecidableEq
def Pas.cells (p : Pas) : List Value := [vint p.grass, vint p.bears, vint p.dry, vint p.wet, vint p.stubble, vint p.sleep]
def SkyR.cells (s : SkyR) : List Value := [vint s.days, vint s.drought, vint s.flood]
def pasOk (p : Pas) : Prop := (1 ≤ p.bears ∧ p.bears ≤ 99) ∧ (0 ≤ p.grass ∧ p.grass ≤ p.bears) ∧ (0 ≤ p.dry ∧ p.dry ≤ 9) ∧ (p.dry ≤ p.wet ∧ p.wet ≤ 9) ∧ (0 ≤ p.stubble ∧ p.stubble ≤ p.bears) ∧ (0 ≤ p.sleep ∧ p.sleep ≤ 5)
instance (p : Pas) : Decidable (pasOk p) := by unfold pasOk; infer_instance
def pasE (p : Pas) : Int := if pasOk p then 0 else 1
def skyOk (s : SkyR) : Prop := (1 ≤ s.days ∧ s.days ≤ 8) ∧ (1 ≤ s.drought ∧ s.drought ≤ s.days) ∧ (1 ≤ s.flood ∧ s.flood ≤ s.days)
instance (s : SkyR) : Decidable (skyOk s) := by unfold skyOk; infer_instance
def skyE (s : SkyR) : Int := if skyOk s then 0 else 1
def cntE (n lo hi : Int) : Int := if n < lo then 7 else if n > hi then 6 else 0
def hunE (heads : List Int) (days : Int) : Int := if cntE heads.length days days ≠ 0 then cntE heads.length days days else if ∀ n ∈ heads, 0 ≤ n ∧ n ≤ 40 then 0 else 1
def fst2 (a b : Int) : Int := if a ≠ 0 then a else b
abbrev Std := Int × Int
def leftR (x : Std) (heads : Int) : Int := x.1 - min heads x.1
def hungR (x : Std) (heads : Int) : Bool := decide (heads > x.1)
def shortR (p : Pas) (x : Std) (heads : Int) : Bool := decide (heads > 0) && decide (leftR x heads < p.stubble)
def dayR (p : Pas) (x : Std) (heads : Int) (wet : Bool) : Std :=
  if shortR p x heads = true then (leftR x heads, p.sleep) else if x.2 > 0 then (leftR x heads, x.2 - 1) else (min p.bears (leftR x heads + (if wet = true then p.wet else p.dry)), x.2)
def medC (p : Pas) (x : Std) : List Value := p.cells ++ [vint x.1, vint x.2]
structure StdOk (p : Pas) (x : Std) : Prop where
  g : 0 ≤ x.1 ∧ x.1 ≤ p.bears
  a : 0 ≤ x.2 ∧ x.2 ≤ 5
theorem leftR_bd {p : Pas} {x : Std} (o : StdOk p x) {n : Int} (hn : 0 ≤ n) : 0 ≤ leftR x n ∧ leftR x n ≤ x.1 := by
  have := o.g
  unfold leftR
  omega
theorem dayR_ok {p : Pas} {x : Std} (f : pasOk p) (o : StdOk p x) {n : Int} (hn : 0 ≤ n) {w : Bool} : StdOk p (dayR p x n w) := by
  have hl := leftR_bd o hn
  have hg := o.g
  have ha := o.a
  obtain ⟨f1, f2, f3, f4, f5, f6⟩ := f
  unfold dayR
  split
  · exact ⟨by dsimp only; omega, by dsimp only; omega⟩
  · split
    · exact ⟨by dsimp only; omega, by dsimp only; omega⟩
    · refine ⟨?_, by dsimp only; omega⟩
      dsimp only
      split <;> omega
theorem std0_ok {p : Pas} (f : pasOk p) : StdOk p (p.grass, 0) := ⟨f.2.1, by dsimp only; omega⟩
def wetB (b : UInt8) : Bool := decide (b = 119)
def stdR (p : Pas) (heads : List Int) (rain : List UInt8) : Nat → Std
  | 0 => (p.grass, 0)
  | k + 1 => dayR p (stdR p heads rain k) (heads.getD k 0) (wetB (rain.getD k 0))
def hungAt (p : Pas) (heads : List Int) (rain : List UInt8) (k : Nat) : Bool := hungR (stdR p heads rain k) (heads.getD k 0)
def shortAt (p : Pas) (heads : List Int) (rain : List UInt8) (k : Nat) : Bool := shortR p (stdR p heads rain k) (heads.getD k 0)
def headsOk (heads : List Int) : Prop := ∀ n ∈ heads, 0 ≤ n ∧ n ≤ 40
theorem headsOk_getD {heads : List Int} (hh : headsOk heads) (k : Nat) : 0 ≤ heads.getD k 0 ∧ heads.getD k 0 ≤ 40 := by
  rw [List.getD_eq_getElem?_getD]
  cases e : heads[k]? with
  | none => exact ⟨Int.le_refl _, by decide⟩
  | some n => exact hh n (List.mem_of_getElem? e)
theorem stdR_ok {p : Pas} {heads : List Int} {rain : List UInt8} (f : pasOk p) (hh : headsOk heads) : ∀ k, StdOk p (stdR p heads rain k)
  | 0 => std0_ok f
  | k + 1 => dayR_ok f (stdR_ok f hh k) (headsOk_getD hh k).1
def fstH (q : Nat → Bool) : Nat → Int
  | 0 => -1
  | n + 1 => if fstH q n ≥ 0 then fstH q n else if q n = true then (n : Int) else -1
theorem fstH_none {q : Nat → Bool} : ∀ {n : Nat}, (∀ i, i < n → q i = false) → fstH q n = -1
  | 0, _ => rfl
  | n + 1, h => by
    unfold fstH
    rw [fstH_none fun i hi => h i (by omega), if_neg (by decide), if_neg (by rw [h n (by omega)]; decide)]
theorem fstH_some {q : Nat → Bool} {k : Nat} (hq : q k = true) (hno : ∀ i, i < k → q i = false) : ∀ {n : Nat}, k < n → fstH q n = (k : Int)
  | 0, h => absurd h (Nat.not_lt_zero _)
  | n + 1, h => by
    unfold fstH
    by_cases e : k = n
    · subst e
      rw [fstH_none hno, if_neg (by decide), if_pos hq]
    · rw [fstH_some hq hno (by omega : k < n), if_pos (by omega)]
theorem fstH_pos {q : Nat → Bool} {i : Nat} (hq : q i = true) : ∀ {n : Nat}, i < n → 0 ≤ fstH q n
  | 0, h => absurd h (Nat.not_lt_zero _)
  | n + 1, h => by
    unfold fstH
    by_cases x : fstH q n ≥ 0
    · rw [if_pos x]
      exact x
    · rw [if_neg x]
      by_cases y : i = n
      · subst y
        rw [if_pos hq]
        omega
      · exact absurd (fstH_pos hq (by omega)) x
theorem fstH_bd {q : Nat → Bool} : ∀ {n : Nat}, -1 ≤ fstH q n ∧ fstH q n < n
  | 0 => ⟨Int.le_refl _, by show (-1 : Int) < 0; decide⟩
  | n + 1 => by
    have := fstH_bd (q := q) (n := n)
    unfold fstH
    split
    · omega
    · split <;> omega
theorem fstH_iff {q : Nat → Bool} : ∀ {n : Nat}, 0 ≤ fstH q n → (fstH q n).toNat < n ∧ q (fstH q n).toNat = true ∧ ∀ i, i < (fstH q n).toNat → q i = false
  | 0, h => absurd h (by show ¬ (0 : Int) ≤ -1; decide)
  | n + 1, h => by
    by_cases e : fstH q n ≥ 0
    · have e1 : fstH q (n + 1) = fstH q n := by conv => lhs; unfold fstH
                                                rw [if_pos e]
      rw [e1]
      obtain ⟨a, b, c⟩ := fstH_iff e
      exact ⟨by omega, b, c⟩
    · by_cases e2 : q n = true
      · have e1 : fstH q (n + 1) = (n : Int) := by conv => lhs; unfold fstH
                                                   rw [if_neg e, if_pos e2]
        rw [e1]
        refine ⟨by simp, by simpa using e2, fun i hi => ?_⟩
        cases hq : q i with
        | false => rfl
        | true =>
          exact absurd (fstH_pos hq (by simpa using hi)) e
      · have e1 : fstH q (n + 1) = -1 := by conv => lhs; unfold fstH
                                            rw [if_neg e, if_neg e2]
        omega
def starvR (p : Pas) (heads : List Int) (rain : List UInt8) : Int := fstH (hungAt p heads rain) rain.length
abbrev Spl := UInt8 × Int
def spC (x : Spl) : List Value := [.int .u8 x.1.toNat, vint x.2]
def nextX (x : Spl) (c : UInt8) : Spl := if x.1 ≠ c then (c, 1) else (c, x.2 + 1)
def nextOk (s : SkyR) (x : Spl) (c : UInt8) : Bool := if x.1 ≠ c then true else decide (x.2 < if c = 119 then s.flood else s.drought)
def growB (s : SkyR) : Nat → List UInt8 → Spl → List (List UInt8)
  | 0, w, _ => [w]
  | n + 1, w, x => (if nextOk s x 100 = true then growB s n (w ++ [100]) (nextX x 100) else []) ++ (if nextOk s x 119 = true then growB s n (w ++ [119]) (nextX x 119) else [])
def rainsB (s : SkyR) : List (List UInt8) := growB s s.days.toNat [] (0, 0)
theorem growB_len {s : SkyR} : ∀ {n : Nat} {w : List UInt8} {x : Spl}, ∀ u ∈ growB s n w x, u.length = w.length + n
  | 0, w, x, u, hu => by
    rw [List.mem_singleton.1 hu]
    rfl
  | n + 1, w, x, u, hu => by
    unfold growB at hu
    rcases List.mem_append.1 hu with hu | hu
    · split at hu
      · rw [growB_len u hu, List.length_append]
        simp
        omega
      · cases hu
    · split at hu
      · rw [growB_len u hu, List.length_append]
        simp
        omega
      · cases hu
theorem rainsB_len {s : SkyR} {u : List UInt8} (h : u ∈ rainsB s) : u.length = s.days.toNat := by
  have := growB_len u h
  simpa using this
theorem growB_few {s : SkyR} : ∀ {n : Nat} {w : List UInt8} {x : Spl}, (growB s n w x).length ≤ 2 ^ n
  | 0, w, x => Nat.le_refl _
  | n + 1, w, x => by
    unfold growB
    rw [List.length_append, Nat.pow_succ]
    have h1 := growB_few (s := s) (n := n) (w := w ++ [100]) (x := nextX x 100)
    have h2 := growB_few (s := s) (n := n) (w := w ++ [119]) (x := nextX x 119)
    split <;> split <;> simp <;> omega
theorem rainsB_few {s : SkyR} (f : skyOk s) : (rainsB s).length ≤ 256 := by
  have h1 := growB_few (s := s) (n := s.days.toNat) (w := []) (x := (0, 0))
  have h2 : 2 ^ s.days.toNat ≤ 2 ^ 8 := Nat.pow_le_pow_right (by decide) (by have := f.1; omega)
  unfold rainsB
  omega
section
variable {main : Bool} {J : JT} {h H : List AObj} {K : Value → List AObj → Prop} {KV : Value → Prop} {HL : List AObj → Prop} {n0 : Nat}
theorem good73 (hJ : Closed prog main J) {n lo hi : Int} (hK : K (.bool (decide (lo ≤ n ∧ n ≤ hi))) h) : Good prog J 73 [vint n, vint lo, vint hi] h K := by
  refine g73 hJ fun ok => ?_
  rw [e73]
  refine leqI (cndI (fun h1 => leqI (retL_same (by simp [unk]) ?_)) fun h1 => retL_same (by simp [unk]) ?_)
  · simpa [pack, h1] using hK
  · simpa [pack, h1] using hK
theorem good71 (hJ : Closed prog main J) {n lo hi : Int} (hK : K (vint (cntE n lo hi)) h) : Good prog J 71 [vint n, vint lo, vint hi] h K := by
  refine g71 hJ fun ok => ?_
  rw [e71]
  refine lssI (cndI (fun h1 => retL_same (by simp [unk]) ?_) fun h1 => gtrI (cndI (fun h2 => retL_same (by simp [unk]) ?_) fun h2 => retL_same (by simp [unk]) ?_))
  · simpa [cntE, h1, pack] using hK
  · simpa [cntE, h1, h2, pack] using hK
  · simpa [cntE, h1, h2, pack] using hK
theorem good36 (hJ : Closed prog main J) {p : Pas} (hK : K (vint (pasE p)) h) : Good prog J 36 [.agg ⟨p.cells⟩] h K := by
  refine g36 hJ fun ok => ?_
  rw [e36]
  refine qBox (l := p.cells) rfl fun H1 p1 e1 S1 c1 l1 => ?_
  have fin : ∀ e : Int, pasE p = e → retL h.length K [] [vint e] H1 := fun e he => by
    subst he
    exact retX ok (Nat.le_refl _) S1 (by simp) (by simp [unk]) (by simp [pack, VOk]) hK
  have no : ∀ {q : Prop}, (pasOk p → q) → ¬ q → retL h.length K [] [vint 1] H1 := fun a b => fin 1 (by unfold pasE; rw [if_neg fun x => b (a x)])
  refine offI (ldI (v := vint p.bears) c1 rfl rfl (good73 hJ (cndI (fun h1 => ?_) fun h1 => hold.2 ?_)))
  rotate_left
  · rw [s36_1]
    exact cnd_false.2 (no (fun x => x.1) h1)
  refine offI (ldI (v := vint p.grass) c1 rfl rfl (offI (ldI (v := vint p.bears) c1 rfl rfl (good73 hJ (cndI (fun h2 => ?_) fun h2 => hold.2 ?_)))))
  rotate_left
  · rw [s36_1]
    exact cnd_false.2 (no (fun x => x.2.1) h2)
  refine offI (ldI (v := vint p.dry) c1 rfl rfl (good73 hJ (cndI (fun h3 => ?_) fun h3 => hold.2 ?_)))
  rotate_left
  · rw [s36_1]
    exact cnd_false.2 (no (fun x => x.2.2.1) h3)
  refine offI (ldI (v := vint p.wet) c1 rfl rfl (offI (ldI (v := vint p.dry) c1 rfl rfl (good73 hJ (cndI (fun h4 => ?_) fun h4 => hold.2 ?_)))))
  rotate_left
  · rw [s36_1]
    exact cnd_false.2 (no (fun x => x.2.2.2.1) h4)
  refine offI (ldI (v := vint p.stubble) c1 rfl rfl (offI (ldI (v := vint p.bears) c1 rfl rfl (good73 hJ (cndI (fun h5 => ?_) fun h5 => hold.2 ?_)))))
  rotate_left
  · rw [s36_1]
    exact cnd_false.2 (no (fun x => x.2.2.2.2.1) h5)
  refine offI (ldI (v := vint p.sleep) c1 rfl rfl (good73 hJ (hold.2 ?_)))
  rw [s36_1]
  refine cndI (fun h6 => fin 0 ?_) fun h6 => no (fun x => x.2.2.2.2.2) h6
  unfold pasE
  rw [if_pos ⟨h1, h2, h3, h4, h5, h6⟩]
theorem good72 (hJ : Closed prog main J) {s : SkyR} (hK : K (vint (skyE s)) h) : Good prog J 72 [.agg ⟨s.cells⟩] h K := by
  refine g72 hJ fun ok => ?_
  rw [e72]
  refine qBox (l := s.cells) rfl fun H1 p1 e1 S1 c1 l1 => ?_
  have fin : ∀ e : Int, skyE s = e → retL h.length K [] [vint e] H1 := fun e he => by
    subst he
    exact retX ok (Nat.le_refl _) S1 (by simp) (by simp [unk]) (by simp [pack, VOk]) hK
  have no : ∀ {q : Prop}, (skyOk s → q) → ¬ q → retL h.length K [] [vint 1] H1 := fun a b => fin 1 (by unfold skyE; rw [if_neg fun x => b (a x)])
  refine offI (ldI (v := vint s.days) c1 rfl rfl (good73 hJ (cndI (fun h1 => ?_) fun h1 => hold.2 ?_)))
  rotate_left
  · rw [s72_1]
    exact cnd_false.2 (no (fun x => x.1) h1)
  refine offI (ldI (v := vint s.drought) c1 rfl rfl (offI (ldI (v := vint s.days) c1 rfl rfl (good73 hJ (cndI (fun h2 => ?_) fun h2 => hold.2 ?_)))))
  rotate_left
  · rw [s72_1]
    exact cnd_false.2 (no (fun x => x.2.1) h2)
  refine offI (ldI (v := vint s.flood) c1 rfl rfl (offI (ldI (v := vint s.days) c1 rfl rfl (good73 hJ (hold.2 ?_)))))
  rw [s72_1]
  refine cndI (fun h3 => fin 0 ?_) fun h3 => no (fun x => x.2.2) h3
  unfold skyE
  rw [if_pos ⟨h1, h2, h3⟩]
theorem good88 (hJ : Closed prog main J) {v : Value} {a b : Int} (hs : Sli H v 1 2 [vint a, vint b]) (hK : K (vint (fst2 a b)) H) : Good prog J 88 [v] H K := by
  refine g88 hJ fun ok => ?_
  rw [e88]
  have hs' : Sli H v 1 ([a, b] : List Int).length (([a, b] : List Int).map vint) := hs
  refine lenI hs ?_
  refine l88_1 hJ (fun i : Nat => 2 - i) (fun i F H' => H' = H ∧ i ≤ 2 ∧ (1 ≤ i → a = 0) ∧ (2 ≤ i → b = 0) ∧ F.ds = [] ∧ F.r 5 = v ∧ F.r 6 = vint (2 : Nat) ∧ F.r 7 = vint (i : Nat)) ?_ (s := 0)
    (.inl ⟨rfl, by omega, by omega, by omega, rfl, rfl, rfl, rfl⟩)
  rintro i F H' ⟨rfl, hi, ha, hb, ds, r5, r6, r7⟩ okc hnc
  rw [s88_1, r5, r6, r7, ds]
  refine lssI (cndI (fun hlt => ?_) fun hge => ?_)
  rotate_left
  · have h1 := ha (by omega)
    have h2 := hb (by omega)
    refine retL_same (by simp [unk]) ?_
    unfold fst2 at hK
    rw [if_neg (by omega), h2] at hK
    exact hK
  have hil : i < 2 := by omega
  by_cases e : i = 0
  · subst e
    refine sliN hs' (i := 0) (x := a) rfl fun q => neqI (cndI (fun hne => retL_same (by simp [unk]) ?_) fun heq => addI (by omega) ⟨1, by decide, .inl ⟨rfl, by omega, fun _ => by omega, by omega, ds, r5, r6, rfl⟩⟩)
    unfold fst2 at hK
    rw [if_pos hne] at hK
    exact hK
  · have : i = 1 := by omega
    subst this
    have h1 := ha (by omega)
    refine sliN hs' (i := 1) (x := b) rfl fun q => neqI (cndI (fun hne => retL_same (by simp [unk]) ?_) fun heq => addI (by omega) ⟨2, by decide, .inl ⟨rfl, by omega, fun _ => h1, fun _ => by omega, ds, r5, r6, rfl⟩⟩)
    unfold fst2 at hK
    rw [if_neg (by omega)] at hK
    exact hK
theorem good124 (hJ : Closed prog main J) {v : Value} {hs : List Int} {n : Int} (sh : Sli H v 1 hs.length (hs.map vint)) (hl : hs.length < 1000000) (hK : K (vint (hunE hs n)) H) : Good prog J 124 [v, vint n] H K := by
  refine g124 hJ fun ok => ?_
  rw [e124]
  refine lenI sh (good71 hJ (neqI (cndI (fun h1 => retL_same (by simp [unk]) ?_) fun h1 => lenI sh ?_)))
  · unfold hunE at hK
    rw [if_pos h1] at hK
    exact hK
  refine l124_1 hJ (fun i : Nat => hs.length - i) (fun i F H' => H' = H ∧ i ≤ hs.length ∧ (∀ n ∈ hs.take i, 0 ≤ n ∧ n ≤ 40) ∧ F.ds = [] ∧ F.r 16 = v ∧ F.r 17 = vint (hs.length : Nat) ∧ F.r 18 = vint (i : Nat)) ?_ (s := 0)
    (.inl ⟨rfl, by omega, by simp, rfl, rfl, rfl, rfl⟩)
  rintro i F H' ⟨rfl, hi, hd, ds, r16, r17, r18⟩ okc hnc
  rw [s124_1, r16, r17, r18, ds]
  refine lssI (cndI (fun hlt => ?_) fun hge => ?_)
  · have hil : i < hs.length := by omega
    have hx : hs[i]? = some hs[i] := List.getElem?_eq_getElem hil
    refine sliN sh hx fun q => good73 hJ (notI (cndN (fun hno => retL_same (by simp [unk]) ?_) fun hyes => addI (by omega) ⟨i + 1, by dsimp only; omega, .inl ⟨rfl, by omega, fun n hn => ?_, ds, r16, r17, by show vint _ = vint _; congr 1⟩⟩))
    · unfold hunE at hK
      rw [if_neg h1, if_neg fun x => hno (x _ (List.getElem_mem hil))] at hK
      exact hK
    · rw [List.take_add_one, hx] at hn
      rcases List.mem_append.1 hn with hn | hn
      · exact hd n hn
      · have : n = hs[i] := by simpa using hn
        rw [this]
        exact hyes
  · have : i = hs.length := by omega
    subst this
    refine retL_same (by simp [unk]) ?_
    unfold hunE at hK
    rw [if_neg h1, if_pos (by simpa using hd)] at hK
    exact hK
theorem fillM {p : Pas} {a b : Int} {KL : List Value → Prop} (hk : KL (medC p (a, b))) : aFill [(vint 0), (vint 0), (vint 0), (vint 0), (vint 0), (vint 0), (vint 0), (vint 0)] [(0, 6, .agg ⟨p.cells⟩), (6, 2, .agg ⟨[vint a, vint b]⟩)] KL := by
  refine fillO (l := p.cells) rfl rfl rfl (by decide) (fillO (l := [vint a, vint b]) rfl rfl rfl (by rw [wrAt_length]; decide) (fillI hk))
theorem good125 (hJ : Closed prog main J) {p : Pas} (hK : ∀ H' m, m = H'.length - 1 → SameX [] H H' → H'[m]? = some (.cells (medC p (p.grass, 0)) true 0) → H.length ≤ m → K (ptr m 0) H') : Good prog J 125 [.agg ⟨p.cells⟩] H K := by
  refine g125 hJ fun ok => ?_
  rw [e125]
  refine qBox (l := p.cells) rfl fun H1 p1 e1 S1 c1 l1 => load_part (c := p.cells) c1 (by simp [Pas.cells]) rfl rfl (offI (ldI (v := vint p.grass) c1 rfl rfl ?_))
  refine fillO (l := [vint p.grass]) rfl rfl rfl (by decide) (fillI (fillM (qBox (l := medC p (p.grass, 0)) rfl fun H2 p2 e2 S2 c2 l2 => retL_same (by simp [unk]) (hK H2 p2 (by omega) (S1.trans S2) c2 (by omega)))))
theorem good126 (hJ : Closed prog main J) {p : Pas} {x : Std} {n : Int} {w : Bool} {m : Nat} (hm : H[m]? = some (.cells (medC p x) true 0)) (f : pasOk p) (o : StdOk p x) (hn : 0 ≤ n ∧ n ≤ 1000000)
    (hK : ∀ H', SameX [m] H H' → H'[m]? = some (.cells (medC p (dayR p x n w)) true 0) → K (.tuple ⟨[.bool (hungR x n), .bool (shortR p x n)]⟩) H') : Good prog J 126 [ptr m 0, vint n, .bool w] H K := by
  refine g126 hJ fun ok => ?_
  rw [e126]
  have og := o.g
  have oa := o.a
  have hb := leftR_bd o hn.1
  obtain ⟨f1, f2, f3, f4, f5, f6⟩ := f
  have mc : ∀ (a b : Int), medC p (a, b) = [vint p.grass, vint p.bears, vint p.dry, vint p.wet, vint p.stubble, vint p.sleep, vint a, vint b] := fun a b => rfl
  obtain ⟨xa, xb⟩ := x
  dsimp only at og oa
  rw [mc] at hm
  refine nilI (offI (offI (ldI (v := vint xa) hm rfl rfl (gtrI ?_))))
  refine nilI (offI (offI (ldI (v := vint xa) hm rfl rfl ?_)))
  refine nilI (offI (offI (ldI (v := vint xa) hm rfl rfl (minI (subI (by omega) ?_)))))
  refine nilI (offI (offI (qSt hm (by simp) rfl rfl fun H1 S1 c1 l1 => ?_)))
  have el : xa - min n xa = leftR (xa, xb) n := rfl
  rw [el] at c1 ⊢
  have c1 : H1[m]? = some (.cells (medC p (leftR (xa, xb) n, xb)) true 0) := c1
  -- behind the eating
  have post : ∀ {F : RG}, F.ds = [] → F.r 0 = ptr m 0 → F.r 2 = .bool w → F.r 6 = .bool (hungR (xa, xb) n) → F.r 7 = .bool (shortR p (xa, xb) n) →
      W prog J 119 H.length 126 (subC [1, 1, 1, 1] (codeOf f126)) F H1 (contX pl126 prog J 119 H.length 126 ct126 [1, 1, 1, 1] (codeOf f126) [] (RetQ prog [.tmp 6, .tmp 7] H.length K)) := by
    intro F ds r0 r2 r6 r7
    rw [s126_1, r0, r2, r6, r7, ds]
    have fin : ∀ {y : Std} {H2 : List AObj}, dayR p (xa, xb) n w = y → SameX [m] H1 H2 → H2[m]? = some (.cells (medC p y) true 0) → retL H.length K [] [.bool (hungR (xa, xb) n), .bool (shortR p (xa, xb) n)] H2 := fun hy S2 c2 => by
      subst hy
      exact retL_same (by simp [unk]) (hK _ (S1.trans S2) c2)
    rw [mc] at c1
    refine cndB (fun hs => ?_) fun hs => ?_
    · refine nilI (offI (offI (ldI (v := vint p.sleep) c1 rfl rfl (nilI (offI (offI (qSt c1 (by simp) rfl rfl fun H2 S2 c2 l2 => ?_)))))))
      refine fin (y := (leftR (xa, xb) n, p.sleep)) ?_ S2 c2
      unfold dayR
      rw [if_pos hs]
    · have hs' : ¬ shortR p (xa, xb) n = true := by rw [hs]; decide
      refine nilI (offI (offI (ldI (v := vint xb) c1 rfl rfl (gtrI (cndI (fun h0 => ?_) fun h0 => ?_)))))
      · refine nilI (offI (offI (ldI (v := vint xb) c1 rfl rfl (subI (by omega) (nilI (offI (offI (qSt c1 (by simp) rfl rfl fun H2 S2 c2 l2 => ?_))))))))
        refine fin (y := (leftR (xa, xb) n, xb - 1)) ?_ S2 c2
        unfold dayR
        rw [if_neg hs', if_pos h0]
      · refine cndB (fun hw => ?_) fun hw => ?_
        · refine nilI (offI (offI (ldI (v := vint p.bears) c1 rfl rfl (nilI (offI (offI (ldI (v := vint (leftR (xa, xb) n)) c1 rfl rfl (nilI (offI (offI (ldI (v := vint p.wet) c1 rfl rfl (addI (by omega) (minI (nilI (offI (offI (qSt c1 (by simp) rfl rfl fun H2 S2 c2 l2 => ?_)))))))))))))))))
          refine fin (y := (min p.bears (leftR (xa, xb) n + p.wet), xb)) ?_ S2 c2
          unfold dayR
          rw [if_neg hs', if_neg h0, if_pos hw]
        · refine nilI (offI (offI (ldI (v := vint p.bears) c1 rfl rfl (nilI (offI (offI (ldI (v := vint (leftR (xa, xb) n)) c1 rfl rfl (nilI (offI (offI (ldI (v := vint p.dry) c1 rfl rfl (addI (by omega) (minI (nilI (offI (offI (qSt c1 (by simp) rfl rfl fun H2 S2 c2 l2 => ?_)))))))))))))))))
          refine fin (y := (min p.bears (leftR (xa, xb) n + p.dry), xb)) ?_ S2 c2
          unfold dayR
          rw [if_neg hs', if_neg h0, if_neg (by rw [hw]; decide)]
  refine gtrI (cndI (fun h0 => ?_) fun h0 => hold.2 ?_)
  · rw [mc] at c1
    refine nilI (offI (offI (ldI (v := vint (leftR (xa, xb) n)) c1 rfl rfl (nilI (offI (offI (ldI (v := vint p.stubble) c1 rfl rfl (lssI (hold.2 ?_)))))))))
    refine post rfl rfl rfl rfl ?_
    show Value.bool _ = Value.bool _
    unfold shortR
    rw [decide_eq_true h0]
    rfl
  · refine post rfl rfl rfl rfl ?_
    show Value.bool _ = Value.bool _
    unfold shortR
    rw [decide_eq_false h0]
    rfl
theorem good117 (hJ : Closed prog main J) {s : SkyR} {x : Spl} {c : UInt8} (hx : -1 ≤ x.2 ∧ x.2 ≤ 1000000) (hK : ∀ H', SameX [] H H' → K (.tuple ⟨[.agg ⟨spC (nextX x c)⟩, .bool (nextOk s x c)]⟩) H') : Good prog J 117 [.agg ⟨spC x⟩, .agg ⟨s.cells⟩, .int .u8 c.toNat] H K := by
  refine g117 hJ fun ok => ?_
  rw [e117]
  refine qBox (l := spC x) rfl fun H1 p1 e1 S1 c1 l1 => qBox (l := s.cells) rfl fun H2 p2 e2 S2 c2 l2 => qAl fun H3 p3 e3 S3 c3 l3 => ?_
  have c13 := S3.get (S2.get c1 (by simp)) (by simp)
  have c23 := S3.get c2 (by simp)
  have T3 := (S1.trans S2).trans S3
  refine offI (ldI (v := .int .u8 x.1.toNat) c13 rfl rfl (neqU (cndI (fun hne => ?_) fun heq => ?_)))
  · refine fillO (l := [.int .u8 c.toNat]) rfl rfl rfl (by decide) (fillO (l := [vint 1]) rfl rfl rfl (by rw [wrAt_length]; decide) (fillI ?_))
    refine qStA (c := spC (c, 1)) c3 rfl rfl rfl fun H4 S4 c4 l4 => ?_
    refine retQs rfl (resW_cell (gg := true) (s := 2) (by kernel_rfl) (load_part (c := spC (c, 1)) c4 (by simp [spC]) rfl rfl (resW_tmp (by simp [unk, RG.p]) (resW_nil ?_))))
    have := hK H4 (T3.thru S4 (by simp; omega))
    unfold nextX nextOk at this
    rw [if_pos hne, if_pos hne] at this
    exact this
  · have heq : x.1 = c := Classical.not_not.1 heq
    have post : ∀ {F : RG} {most : Int}, most = (if c = 119 then s.flood else s.drought) → F.ds = [] → F.r 2 = .int .u8 c.toNat → F.r 3 = ptr p1 0 → F.r 6 = ptr p3 0 → F.r 8 = vint most →
        W prog J 30 H.length 117 (subC [1, 1, 1, 1] (codeOf f117)) F H3 (contX pl117 prog J 30 H.length 117 ct117 [1, 1, 1, 1] (codeOf f117) [] (RetQ prog [.cell 6 109, .tmp 7] H.length K)) := by
      intro F most hm ds r2 r3 r6 r8
      rw [s117_1, r2, r3, r6, r8]
      refine ⟨[p1], offI (ldI (v := vint x.2) c13 rfl rfl ⟨by simp [RdOk, ptrBlk], addI (by omega) ?_⟩)⟩
      refine fillO (l := [.int .u8 c.toNat]) rfl rfl rfl (by decide) (fillO (l := [vint (x.2 + 1)]) rfl rfl rfl (by rw [wrAt_length]; decide) (fillI ?_))
      refine offI (ldI (v := vint x.2) c13 rfl rfl ⟨by simp [RdOk, ptrBlk], lssI ?_⟩)
      refine qStA (c := spC (c, x.2 + 1)) c3 rfl rfl rfl fun H4 S4 c4 l4 => ⟨sbOne S4 (lt_of_get c13) (by simp; omega), ?_⟩
      refine retQs ds (resW_cell (gg := true) (s := 2) (by kernel_rfl) ?_)
      show aLoad true 2 (F.r 6) H4 _
      rw [r6]
      refine load_part (c := spC (c, x.2 + 1)) c4 (by simp [spC]) rfl rfl (resW_tmp (by simp [unk, RG.p]) (resW_nil ?_))
      have := hK H4 (T3.thru S4 (by simp; omega))
      unfold nextX nextOk at this
      rw [if_neg (not_not_intro heq), if_neg (not_not_intro heq), ← hm] at this
      exact this
    refine offI (ldI (v := vint s.drought) c23 rfl rfl ?_)
    have e119 : (Value.int .u8 119) = .int .u8 (119 : UInt8).toNat := rfl
    rw [e119]
    refine eqlU (cndI (fun hw => ?_) fun hw => hold.2 ?_)
    · exact offI (ldI (v := vint s.flood) c23 rfl rfl (hold.2 (post (most := s.flood) (by rw [if_pos hw]) rfl rfl rfl rfl rfl)))
    · exact post (most := s.drought) (by rw [if_neg hw]) rfl rfl rfl rfl rfl
end
def pas0 : Pas := ⟨0, 0, 0, 0, 0, 0⟩
structure Wd where
  a : Std
  b : Std
  c : Std
  sp : Spl
  deriving DecidableEq
def Wd.cells (w : Wd) : List Value := [vint w.a.1, vint w.a.2, vint w.b.1, vint w.b.2, vint w.c.1, vint w.c.2, .int .u8 w.sp.1.toNat, vint w.sp.2]
def Wd.val (w : Wd) : Value := .agg ⟨w.cells⟩
def Wd.st (w : Wd) : Nat → Std
  | 0 => w.a
  | 1 => w.b
  | _ => w.c
def Wd.lay (w : Wd) : Nat → Std → Wd
  | 0, x => { w with a := x }
  | 1, x => { w with b := x }
  | _, x => { w with c := x }
theorem Wd.st_lay (w : Wd) {k j : Nat} (x : Std) (hk : k < 3) (hj : j < 3) : (w.lay k x).st j = if j = k then x else w.st j := by
  match k, hk with
  | 0, _ => match j, hj with
    | 0, _ => rfl
    | 1, _ => rfl
    | 2, _ => rfl
  | 1, _ => match j, hj with
    | 0, _ => rfl
    | 1, _ => rfl
    | 2, _ => rfl
  | 2, _ => match j, hj with
    | 0, _ => rfl
    | 1, _ => rfl
    | 2, _ => rfl
theorem Wd.sp_lay (w : Wd) (k : Nat) (x : Std) : (w.lay k x).sp = w.sp := by
  match k with
  | 0 => rfl
  | 1 => rfl
  | _ + 2 => rfl
structure WdOk (ls : List Pas) (w : Wd) : Prop where
  std : ∀ k, k < ls.length → StdOk (ls.getD k pas0) (w.st k)
  sp : 0 ≤ w.sp.2 ∧ w.sp.2 ≤ 8
structure LsOk (ls : List Pas) : Prop where
  few : 1 ≤ ls.length ∧ ls.length ≤ 3
  ok : ∀ p ∈ ls, pasOk p
theorem LsOk.get {ls : List Pas} (L : LsOk ls) {k : Nat} (hk : k < ls.length) : pasOk (ls.getD k pas0) := by
  rw [List.getD_eq_getElem?_getD, List.getElem?_eq_getElem hk]
  exact L.ok _ (List.getElem_mem hk)
def startK (ls : List Pas) : Nat → Wd
  | 0 => ⟨(0, 0), (0, 0), (0, 0), (0, 0)⟩
  | k + 1 => (startK ls k).lay k ((ls.getD k pas0).grass, 0)
def startW (ls : List Pas) : Wd := startK ls ls.length
theorem startK_sp {ls : List Pas} : ∀ k, (startK ls k).sp = (0, 0)
  | 0 => rfl
  | k + 1 => by rw [startK, Wd.sp_lay, startK_sp]
theorem startK_st {ls : List Pas} (L : LsOk ls) : ∀ k, k ≤ ls.length → ∀ j, j < k → StdOk (ls.getD j pas0) ((startK ls k).st j)
  | 0, _, j, hj => absurd hj (Nat.not_lt_zero _)
  | k + 1, hk, j, hj => by
    have := L.few
    rw [startK, Wd.st_lay _ _ (by omega) (by omega)]
    by_cases e : j = k
    · subst e
      rw [if_pos rfl]
      exact std0_ok (L.get (by omega))
    · rw [if_neg e]
      exact startK_st L k (by omega) j (by omega)
theorem startW_ok {ls : List Pas} (L : LsOk ls) : WdOk ls (startW ls) := ⟨fun k hk => startK_st L _ (Nat.le_refl _) k hk, by
  unfold startW
  rw [startK_sp]
  decide⟩
def nAt (at_ : Nat) (heads : Int) (k : Nat) : Int := if k = at_ then heads else 0
def gzK (ls : List Pas) (at_ : Nat) (heads : Int) (wet : Bool) (w : Wd) : Nat → Wd × Bool
  | 0 => (w, true)
  | k + 1 => ((gzK ls at_ heads wet w k).1.lay k (dayR (ls.getD k pas0) ((gzK ls at_ heads wet w k).1.st k) (nAt at_ heads k) wet), (gzK ls at_ heads wet w k).2 && !hungR ((gzK ls at_ heads wet w k).1.st k) (nAt at_ heads k))
def gzW (ls : List Pas) (at_ : Nat) (heads : Int) (w : Wd) (x : Spl) : Wd := { (gzK ls at_ heads (wetB x.1) w ls.length).1 with sp := x }
def gzB (ls : List Pas) (at_ : Nat) (heads : Int) (w : Wd) (x : Spl) : Bool := (gzK ls at_ heads (wetB x.1) w ls.length).2
theorem nAt_bd {at_ : Nat} {heads : Int} {k : Nat} (h : 0 ≤ heads ∧ heads ≤ 40) : 0 ≤ nAt at_ heads k ∧ nAt at_ heads k ≤ 1000000 := by
  unfold nAt
  split <;> omega
theorem gzK_ok {ls : List Pas} (L : LsOk ls) {at_ : Nat} {heads : Int} (hh : 0 ≤ heads ∧ heads ≤ 40) {wet : Bool} {w : Wd} (o : WdOk ls w) : ∀ k, k ≤ ls.length → ∀ j, j < ls.length → StdOk (ls.getD j pas0) ((gzK ls at_ heads wet w k).1.st j)
  | 0, _, j, hj => o.std j hj
  | k + 1, hk, j, hj => by
    have hf := L.few
    show StdOk _ (((gzK ls at_ heads wet w k).1.lay k _).st j)
    rw [Wd.st_lay _ _ (by omega) (by omega)]
    by_cases e : j = k
    · subst e
      rw [if_pos rfl]
      exact dayR_ok (L.get hj) (gzK_ok L hh o j (by omega) j hj) (nAt_bd hh).1
    · rw [if_neg e]
      exact gzK_ok L hh o k (by omega) j hj
theorem gzW_ok {ls : List Pas} (L : LsOk ls) {at_ : Nat} {heads : Int} (hh : 0 ≤ heads ∧ heads ≤ 40) {w : Wd} (o : WdOk ls w) {x : Spl} (hx : 0 ≤ x.2 ∧ x.2 ≤ 8) : WdOk ls (gzW ls at_ heads w x) := by
  refine ⟨fun k hk => ?_, hx⟩
  have := gzK_ok L hh (wet := wetB x.1) (at_ := at_) o ls.length (Nat.le_refl _) k hk
  have e : (gzW ls at_ heads w x).st k = (gzK ls at_ heads (wetB x.1) w ls.length).1.st k := by
    match k with
    | 0 => rfl
    | 1 => rfl
    | _ + 2 => rfl
  rw [e]
  exact this
def letters : List UInt8 := [100, 119]
def afters (ls : List Pas) (s : SkyR) (at_ : Nat) (heads : Int) (w : Wd) : List (Wd × Bool) := letters.flatMap fun c => if nextOk s w.sp c = true then [(gzW ls at_ heads w (nextX w.sp c), gzB ls at_ heads w (nextX w.sp c))] else []
def dawnB (ls : List Pas) (s : SkyR) (at_ : Nat) (heads : Int) (L : List Wd) : Bool := L.all fun w => (afters ls s at_ heads w).all fun y => y.2
def dawnL (ls : List Pas) (s : SkyR) (at_ : Nat) (heads : Int) (L : List Wd) : List Wd := L.flatMap fun w => (afters ls s at_ heads w).map fun y => y.1
def turnA (ls : List Pas) (s : SkyR) (heads : Int) (L : List Wd) (rest : List Wd → Option (List Int)) : Nat → Option (List Int)
  | 0 => none
  | k + 1 =>
    let at_ := ls.length - (k + 1)
    if dawnB ls s at_ heads L = true then
      match rest (dawnL ls s at_ heads L) with
      | some r => some ((at_ : Int) :: r)
      | none => turnA ls s heads L rest k
    else turnA ls s heads L rest k
def turnR (ls : List Pas) (s : SkyR) (heads : Int) : Nat → List Wd → Option (List Int)
  | 0, L => turnA ls s heads L (fun _ => some []) ls.length
  | d + 1, L => turnA ls s heads L (turnR ls s heads d) ls.length
def SameW (L L' : List Wd) : Prop := ∀ w, w ∈ L ↔ w ∈ L'
theorem dawnB_same {ls : List Pas} {s : SkyR} {at_ : Nat} {heads : Int} {L L' : List Wd} (h : SameW L L') : dawnB ls s at_ heads L = dawnB ls s at_ heads L' := by
  unfold dawnB
  rw [Bool.eq_iff_iff, List.all_eq_true, List.all_eq_true]
  exact ⟨fun a w hw => a w ((h w).2 hw), fun a w hw => a w ((h w).1 hw)⟩
theorem dawnL_same {ls : List Pas} {s : SkyR} {at_ : Nat} {heads : Int} {L L' : List Wd} (h : SameW L L') : SameW (dawnL ls s at_ heads L) (dawnL ls s at_ heads L') := fun w => by
  unfold dawnL
  rw [List.mem_flatMap, List.mem_flatMap]
  exact ⟨fun ⟨a, h1, h2⟩ => ⟨a, (h a).1 h1, h2⟩, fun ⟨a, h1, h2⟩ => ⟨a, (h a).2 h1, h2⟩⟩
theorem turnA_same {ls : List Pas} {s : SkyR} {heads : Int} {L L' : List Wd} (h : SameW L L') {rest : List Wd → Option (List Int)} (hr : ∀ M M', SameW M M' → rest M = rest M') : ∀ k, turnA ls s heads L rest k = turnA ls s heads L' rest k
  | 0 => rfl
  | k + 1 => by
    simp only [turnA]
    rw [dawnB_same h, hr _ _ (dawnL_same h), turnA_same h hr k]
theorem turnR_same {ls : List Pas} {s : SkyR} {heads : Int} : ∀ (d : Nat) (L L' : List Wd), SameW L L' → turnR ls s heads d L = turnR ls s heads d L'
  | 0, _L, _L', h => turnA_same h (fun _ _ _ => rfl) _
  | d + 1, _L, _L', h => turnA_same h (fun M M' => turnR_same d M M') _
theorem nextX_bd {s : SkyR} (f : skyOk s) {x : Spl} {c : UInt8} (h : nextOk s x c = true) (hx : 0 ≤ x.2 ∧ x.2 ≤ 8) : 0 ≤ (nextX x c).2 ∧ (nextX x c).2 ≤ 8 := by
  obtain ⟨f1, f2, f3⟩ := f
  unfold nextX
  unfold nextOk at h
  split
  · exact ⟨by show (0 : Int) ≤ 1; decide, by show (1 : Int) ≤ 8; decide⟩
  · rename_i e
    rw [if_neg e] at h
    have h := of_decide_eq_true h
    dsimp only
    split at h <;> omega
theorem afters_ok {ls : List Pas} (L : LsOk ls) {s : SkyR} (f : skyOk s) {at_ : Nat} {heads : Int} (hh : 0 ≤ heads ∧ heads ≤ 40) {w : Wd} (o : WdOk ls w) : ∀ y ∈ afters ls s at_ heads w, WdOk ls y.1 := fun y hy => by
  unfold afters at hy
  rw [List.mem_flatMap] at hy
  obtain ⟨c, _, hy⟩ := hy
  split at hy
  · rename_i hc
    rw [List.mem_singleton.1 hy]
    exact gzW_ok L hh o (nextX_bd f hc o.sp)
  · cases hy
end Go.Proofs.Ythnccaajpdnndaa
