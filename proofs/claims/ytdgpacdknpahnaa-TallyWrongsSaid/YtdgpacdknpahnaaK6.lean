/- Parts of the proof, 6. No conditions. -/
import Derived.Test.YtdgpacdknpahnaaK3
import Derived.Conc.Holds
import Derived.Conc.Beside
import Derived.Conc.CrowdComm
import Derived.Conc.TokenTrace
import Derived.Conc.Own2
import Derived.Test.YtdgpacdknpahnaaK2
import Derived.Test.YtdgpacdknpahnaaK5
namespace Go.Proofs.Ytdgpacdknpahnaa
open Go.Conc
open Go.ConcN (sumTo upd sumTo_upd upd_ne upd_same)
def Ends (P : Program) (Post : Value → World → Prop) (m : Machine) (t : Trace) : Prop :=
  ∃ N last o w' t', runNT P (N + 1) m t = (.ended o w', t') ∧ runN P N m = .next last ∧ step P last = .ended o w' ∧ Go.Conc.Good P Post last o w' t'
structure Base (W0 w : World) : Prop where
  tape : w.tape = W0.tape
  os : w.os = W0.os
  output : w.output = W0.output
  size : W0.heap.size ≤ w.heap.size
def J1 (P : Program) (W0 : World) (Post : Value → World → Prop) (g : Goroutine) (w : World) (ft : Foot) : Prop :=
  ∀ (gs : Array Goroutine) (w₁ : World) (sl : Option (Nat × Nat)) (t : Trace) (q : Nat → Nat), (∀ b, ft.rd b → b < w₁.heap.size) → (∀ b, ft.wr b → ft.rd b) → RelyW ft w w₁ → Base W0 w₁ → gs[0]? = some g → Leavers P t gs q → Past (fun _ => False) w₁.heap.size t →
    Ends P Post (crowd gs w₁ sl) t
section
variable {P : Program} {W0 : World} {Post : Value → World → Prop} {g : Goroutine} {w w₁ : World} {ft : Foot}
theorem Ends.next {m m' : Machine} {t : Trace} {ops : Array MemOp} (hs : stepT P m = (.next m', ops)) (h : Ends P Post m' (t ++ ops)) : Ends P Post m t := by
  obtain ⟨n, last, o, w, t', h1, h2, h3, h4⟩ := h
  exact ⟨n + 1, last, o, w, t', by rw [runNT_succ_next hs]; exact h1, by rw [runN_succ_next hs]; exact h2, h3, h4⟩
theorem evL_of {e : Event} {B : Nat} (he : EvOk ft e) (hb : ∀ b, ft.rd b → b < B) : EvL (fun _ => False) B e := by
  obtain ⟨loc, wr, sync⟩ := e
  unfold EvOk at he
  refine ⟨fun x _ hs => hs.elim, ?_, ?_, ?_⟩
  · intro hl
    simp only at hl
    subst hl
    exact he
  · intro hl
    simp only at hl
    subst hl
    exact he
  · cases loc with
    | cell a => exact hb _ he.2.1
    | obj r =>
      have hs : sync = false := he.1
      subst hs
      have := hb _ he.2.1
      cases wr <;> exact this
    | mark m =>
      cases m <;> first | exact he.elim | trivial
    | output => trivial
    | goroutines => trivial
theorem mem_g {i : Nat} {fn : FuncId} {pos : String} {es : Array Event} {op : MemOp} (h : op ∈ MemOp.ofEvents i fn pos es) : op.g = i := by
  rw [ofEvents_eq] at h
  obtain ⟨e, he, rfl⟩ := Array.mem_map.1 h
  rfl
theorem relyW_at (ft : Foot) (w : World) (d : Nat) : RelyW ft w (w.at d) := ⟨fun _ _ => rfl, Nat.le_refl _, rfl, rfl, rfl⟩
theorem J1.both (hrun : g.status = .running)
    (h : ∀ w₁, RelyW ft w w₁ → Base W0 w₁ → (∃ g' w' es, stepG P true g w₁ = .go g' w' es ∧ g'.status = .running ∧ GuarW ft w₁ w' es ∧ J1 P W0 Post g' w' (ft.ext w₁.heap.size w'.heap.size)) ∨
      ∃ v es, stepG P true g w₁ = .ended (.done v) w₁ es ∧ (∀ e ∈ es, EvOk ft e) ∧ Post v w₁) : J1 P W0 Post g w ft := by
  intro gs w₁ sl t q hbd hsub hrel hbase h0 hL hP
  generalize hM : sumTo gs.size q = M
  induction M using Nat.strongRecOn generalizing gs w₁ sl t q with
  | ind M ih =>
    have haw : ∀ g ∈ gs, awake g := by
      intro x hx
      obtain ⟨i, hi, rfl⟩ := Array.mem_iff_getElem.1 hx
      rcases Nat.eq_zero_or_pos i with rfl | hpos
      · have : gs[0] = g := by simpa [Array.getElem?_eq_getElem hi] using h0
        rw [this]; exact awake_of (.inl hrun)
      · exact awake_of ((hL.old i _ hpos (Array.getElem?_eq_getElem hi)).status.elim .inl fun x => .inr (.inr x))
    obtain ⟨i, x, d, sl', hi, hg, hst⟩ := crowd_pick (P := P) (w := w₁) (sl := sl) haw ⟨0, g, h0, hrun⟩
    rcases Nat.eq_zero_or_pos i with rfl | hpos
    · obtain rfl : x = g := by rw [h0] at hi; exact (Option.some.inj hi).symm
      rcases h (w₁.at d) (hrel.trans (relyW_at ft w₁ d)) ⟨hbase.tape, hbase.os, hbase.output, hbase.size⟩ with ⟨g', w', es, hgo, hrun', hgu, hJ⟩ | ⟨v, es, hend, hes, hpost⟩
      · have hrunT := runT_crowd_go (P := P) (sl := sl') (i := 0) hi (show stepG P (0 == 0) x (w₁.at d) = _ from hgo)
        have hsz : ((gs.map (woken P x g' w')).setIfInBounds 0 g').size = gs.size := by simp
        have hlt : 0 < gs.size := (Array.getElem?_eq_some_iff.1 h0).1
        have hw' : w₁.heap.size ≤ w'.heap.size := hgu.size
        refine Ends.next (hst.trans hrunT) ?_
        refine hJ _ w' sl' _ q (fun b hb => ?_) (fun b hb => ?_) (RelyW.refl _ _) ⟨hgu.tape.trans hbase.tape, hgu.os.trans hbase.os, hgu.output.trans hbase.output, Nat.le_trans hbase.size hgu.size⟩ (by simp [hlt]) ⟨fun j y hj hy => ?_, fun j hj => ?_⟩ ?_
        · rcases hb with hb | hb
          · exact Nat.lt_of_lt_of_le (hbd b hb) hw'
          · exact hb.2
        · rcases hb with hb | hb
          · exact .inl (hsub b hb)
          · exact .inr hb
        · have hne : 0 ≠ j := by omega
          rw [Array.getElem?_setIfInBounds_ne hne, Array.getElem?_map] at hy
          obtain ⟨z, hz, rfl⟩ := Option.map_eq_some_iff.1 hy
          have hq := hL.old j z hj hz
          rw [woken_quitsD hq, Deaf_other t (by omega) _ (fun op hop => mem_g hop)]
          exact hq
        · rw [Deaf_other t (g' := 0) (by simp at hj; omega) _ (fun op hop => mem_g hop)]
          exact hL.above j (by simpa using hj)
        · exact (hP.mono hw').own fun e he => evL_of (hgu.evs e he) fun b hb => Nat.lt_of_lt_of_le (hbd b hb) hw'
      · have hrunT := runT_many_ended (P := P) (sl := sl') (i := 0) hi (show stepG P (0 == 0) x (w₁.at d) = _ from hend)
        have hP' := hP.own (fn := x.frame.fn) (pos := x.frame.place) fun e he => evL_of (hes e he) hbd
        refine ⟨0, crowd gs w₁ sl, .done v, w₁.at d, _, by simp only [runNT, hst.trans hrunT], rfl, by simp [step, hst.trans hrunT], v, rfl, hpost, hP'.clean, hP'.over, ⟨fun y hy => ?_, rfl⟩, fun j y hy hj => ?_⟩
        · obtain ⟨j, hj⟩ := List.mem_iff_getElem?.1 hy
          rw [List.getElem?_drop] at hj
          exact ⟨_, (hL.old (1 + j) y (by omega) (by simpa [crowd] using hj)).leaves⟩
        · have hq := hL.old j y (by omega) hy
          refine ⟨q j, ?_⟩
          have e : (t ++ MemOp.ofEvents 0 x.frame.fn x.frame.place es).deaf j (t ++ MemOp.ofEvents 0 x.frame.fn x.frame.place es).size = Deaf t j :=
            Deaf_other t (g := j) (g' := 0) (by omega) _ (fun op hop => mem_g hop)
          rw [e]
          exact hq.hears _
    · have hq := hL.old i x hpos hi
      have hi0 : (i == 0) = false := by simp; omega
      have hlt : i < gs.size := (Array.getElem?_eq_some_iff.1 hi).1
      cases hqi : q i with
      | zero => rw [hqi] at hq; rw [hq.1] at hg; cases hg
      | succ k =>
        rw [hqi] at hq
        rcases hq with ⟨hf, _⟩ | ⟨_, g', es, hm, hstp, hq'⟩
        · rw [hf] at hg; cases hg
        have hrunT := runT_crowd_go (P := P) (sl := sl') (i := i) hi (by rw [hi0]; exact hstp (w₁.at d))
        have hsz : ((gs.map (woken P x g' (w₁.at d))).setIfInBounds i g').size = gs.size := by simp
        have hsum : sumTo gs.size (upd q i k) + (k + 1) = sumTo gs.size q + k := by
          have := sumTo_upd q k id hlt
          simpa [hqi] using this
        refine Ends.next (hst.trans hrunT) (ih (sumTo gs.size (upd q i k)) (by omega) _ (w₁.at d) sl' _ (upd q i k) hbd (hrel.trans (relyW_at ft w₁ d)) ⟨hbase.tape, hbase.os, hbase.output, hbase.size⟩ ?_ ⟨fun j y hj hy => ?_, fun j hj => ?_⟩ (hP.mute (by omega) hm) (by rw [hsz]))
        · have hne : i ≠ 0 := by omega
          rw [Array.getElem?_setIfInBounds_ne hne, Array.getElem?_map, h0]
          simp [woken_run hrun]
        · by_cases hji : i = j
          · subst hji
            rw [Array.getElem?_setIfInBounds_self_of_lt (by simpa using hlt)] at hy
            obtain rfl := Option.some.inj hy
            rw [upd_same, Deaf_own]
            exact hq'
          · rw [Array.getElem?_setIfInBounds_ne hji, Array.getElem?_map] at hy
            obtain ⟨z, hz, rfl⟩ := Option.map_eq_some_iff.1 hy
            have hqj := hL.old j z hj hz
            rw [woken_quitsD hqj, upd_ne q k (Ne.symm hji), Deaf_other t hji _ (fun op hop => mem_g hop)]
            exact hqj
        · rw [Deaf_other t (g' := i) (by simp at hj; omega) _ (fun op hop => mem_g hop)]
          exact hL.above j (by simpa using hj)
theorem J1.closed (P : Program) (W0 : World) (Post : Value → World → Prop) : Closed P true (J1 P W0 Post) where
  rely := fun h hr gs w₂ sl t q hbd hsub hrel hbase h0 hL hP => h gs w₂ sl t q hbd hsub (hr.trans hrel) hbase h0 hL hP
  step := fun hrun h => J1.both hrun fun w₁ h₁ _ => by
    obtain ⟨g', w', es, a, b, c, d⟩ := h w₁ h₁
    exact .inl ⟨g', w', es, a, b, c, d⟩
end
end Go.Proofs.Ytdgpacdknpahnaa
namespace Go.Proofs.Ytdgpacdknpahnaa
open Go.Conc
def putAt {X : Type} (f : Nat → X) (i : Nat) (x : X) : Nat → X := fun j => if j = i then x else f j
theorem putAt_self {X : Type} (f : Nat → X) (i : Nat) (x : X) : putAt f i x i = x := by simp [putAt]
theorem putAt_ne {X : Type} (f : Nat → X) {i j : Nat} (x : X) (h : j ≠ i) : putAt f i x j = f j := by simp [putAt, h]
def Less {X : Type} (r : X → X → Prop) (n : Nat) (f' f : Nat → X) : Prop := ∃ i, i < n ∧ r (f' i) (f i) ∧ ∀ j, j ≠ i → f' j = f j
theorem less_acc {X : Type} (r : X → X → Prop) : ∀ (n : Nat) (f : Nat → X), (∀ i, i < n → Acc r (f i)) → Acc (Less r n) f
  | 0, f, _ => ⟨f, fun _ h => by obtain ⟨i, hi, _⟩ := h; omega⟩
  | n + 1, f, h => by
    have key : ∀ a, Acc r a → ∀ g : Nat → X, Acc (Less r n) g → Acc (Less r (n + 1)) (putAt g n a) := by
      intro a ha
      induction ha with
      | intro a _ iha =>
        intro g hg
        induction hg with
        | intro g hgs ihg =>
          refine ⟨_, fun y hy => ?_⟩
          obtain ⟨i, hi, hr, ho⟩ := hy
          by_cases hin : i = n
          · subst hin
            rw [putAt_self] at hr
            have : y = putAt g i (y i) := by
              funext j
              by_cases hj : j = i
              · subst hj; rw [putAt_self]
              · rw [putAt_ne _ _ hj, ho j hj, putAt_ne _ _ hj]
            rw [this]
            exact iha (y i) hr g ⟨g, hgs⟩
          · rw [putAt_ne _ _ hin] at hr
            have : y = putAt (putAt g i (y i)) n a := by
              funext j
              by_cases hj : j = n
              · subst hj
                rw [putAt_self, ho j (fun e => hin e.symm), putAt_self]
              · rw [putAt_ne _ _ hj]
                by_cases hji : j = i
                · subst hji; rw [putAt_self]
                · rw [putAt_ne _ _ hji, ho j hji, putAt_ne _ _ hj]
            rw [this]
            refine ihg _ ⟨i, by omega, by rw [putAt_self]; exact hr, fun j hj => putAt_ne _ _ hj⟩
    have e : f = putAt f n (f n) := by
      funext j
      by_cases hj : j = n
      · subst hj; rw [putAt_self]
      · rw [putAt_ne _ _ hj]
    rw [e]
    exact key (f n) (h n (by omega)) f (less_acc r n f fun i hi => h i (by omega))
inductive Toward (P : Program) (Stop : JT) : Goroutine → World → Foot → Prop where
  | stop {g : Goroutine} {w : World} {ft : Foot} : g.status = .running → (∀ w₁, RelyW ft w w₁ → Stop g w₁ ft) → Toward P Stop g w ft
  | step {g : Goroutine} {w : World} {ft : Foot} : g.status = .running → (∀ w₁, RelyW ft w w₁ → ∃ g' w' es, stepG P false g w₁ = .go g' w' es ∧ g'.status = .running ∧ GuarW ft w₁ w' es) →
      (∀ w₁ g' w' es, RelyW ft w w₁ → stepG P false g w₁ = .go g' w' es → Toward P Stop g' w' (ft.ext w₁.heap.size w'.heap.size)) → Toward P Stop g w ft
theorem Toward.running {P : Program} {Stop : JT} {g : Goroutine} {w : World} {ft : Foot} (h : Toward P Stop g w ft) : g.status = .running := by
  cases h with
  | stop h _ => exact h
  | step h _ _ => exact h
theorem Toward.rely {P : Program} {Stop : JT} {g : Goroutine} {w w₁ : World} {ft : Foot} (h : Toward P Stop g w ft) (hr : RelyW ft w w₁) : Toward P Stop g w₁ ft := by
  cases h with
  | stop h1 h2 => exact .stop h1 fun w₂ h₂ => h2 w₂ (hr.trans h₂)
  | step h1 h2 h3 => exact .step h1 (fun w₂ h₂ => h2 w₂ (hr.trans h₂)) fun w₂ g' w' es h₂ hs => h3 w₂ g' w' es (hr.trans h₂) hs
theorem Toward.closed (P : Program) (Stop : JT) : Closed P false (Toward P Stop) where
  rely := fun h hr => h.rely hr
  step := fun hrun h => .step hrun (fun w₁ h₁ => by
    obtain ⟨g', w', es, a, b, c, _⟩ := h w₁ h₁
    exact ⟨g', w', es, a, b, c⟩) fun w₁ g' w' es h₁ hs => by
    obtain ⟨g2, w2, es2, a, b, c, d⟩ := h w₁ h₁
    rw [hs] at a
    cases a
    exact d
inductive WS where
  | quit (n : Nat)
  | way (w : World) (ft : Foot)
  | park
inductive WLt (P : Program) : Goroutine × WS → Goroutine × WS → Prop where
  | step {g g' : Goroutine} {w w₁ w' : World} {ft : Foot} {es : Array Event} : RelyW ft w w₁ → stepG P false g w₁ = .go g' w' es → WLt P (g', .way w' (ft.ext w₁.heap.size w'.heap.size)) (g, .way w ft)
  | quit {g g' : Goroutine} {w : World} {ft : Foot} {n : Nat} : WLt P (g', .quit n) (g, .way w ft)
  | park {g g' : Goroutine} {w : World} {ft : Foot} : WLt P (g', .park) (g, .way w ft)
  | out {g g' : Goroutine} {n : Nat} : WLt P (g', .quit n) (g, .park)
  | less {g g' : Goroutine} {n m : Nat} : n < m → WLt P (g', .quit n) (g, .quit m)
theorem acc_quit (P : Program) : ∀ (n : Nat) (g : Goroutine), Acc (WLt P) (g, .quit n) := by
  intro n
  induction n using Nat.strongRecOn with
  | ind n ih =>
    intro g
    refine ⟨_, fun y hy => ?_⟩
    cases hy with
    | less h => exact ih _ h _
theorem acc_park (P : Program) (g : Goroutine) : Acc (WLt P) (g, .park) :=
  ⟨_, fun y hy => by cases hy with | out => exact acc_quit P _ _⟩
def Halts (P : Program) (Stop : JT) : Prop := ∀ g w ft g' w' es, Stop g w ft → stepG P false g w ≠ .go g' w' es
theorem acc_way {P : Program} {Stop : JT} (hS : Halts P Stop) {g : Goroutine} {w : World} {ft : Foot} (h : Toward P Stop g w ft) : Acc (WLt P) (g, .way w ft) := by
  induction h with
  | stop h1 h2 =>
    refine ⟨_, fun y hy => ?_⟩
    cases hy with
    | step hr hs => exact absurd hs (hS _ _ _ _ _ _ (h2 _ hr))
    | quit => exact acc_quit P _ _
    | park => exact acc_park P _
  | step h1 h2 _ ih =>
    refine ⟨_, fun y hy => ?_⟩
    cases hy with
    | step hr hs => exact ih _ _ _ _ hr hs
    | quit => exact acc_quit P _ _
    | park => exact acc_park P _
def locBlk : Loc → Option Nat
  | .cell a => some a.block
  | .obj r => some r
  | _ => none
def KnowsOk (t : Trace) (x : Nat) (ft : Foot) : Prop :=
  ∀ i a, touchAt t i = some a → a.loc.isMemory = true → Knows t x i ∨ ∀ b, locBlk a.loc = some b → ¬ ft.wr b ∧ (a.write = true → ¬ ft.rd b)
theorem evOk_touch {ft : Foot} {e : Event} {a : Touch} (he : EvOk ft e) (ha : (MemAct.ofEvent e).touch? = some a) : ∃ b, locBlk a.loc = some b ∧ ft.rd b ∧ (a.write = true → ft.wr b) := by
  obtain ⟨loc, wr, sync⟩ := e
  unfold EvOk at he
  cases loc with
  | cell x =>
    simp only at he
    simp only [MemAct.ofEvent, MemAct.touch?, Option.some.injEq] at ha
    subst ha
    exact ⟨_, rfl, he.2.1, he.2.2⟩
  | obj r =>
    obtain ⟨rfl, h1, h2⟩ := he
    cases wr <;> (simp only [MemAct.ofEvent, MemAct.touch?, Option.some.injEq] at ha; subst ha; exact ⟨_, rfl, h1, h2⟩)
  | mark m => cases m <;> first | exact he.elim | (simp [MemAct.ofEvent, MemAct.touch?] at ha)
  | output => exact he.elim
  | goroutines => exact he.elim
theorem touch_low {x : MemAct} {a : Touch} {n b : Nat} (hl : x.low n) (ha : x.touch? = some a) (hb : locBlk a.loc = some b) : b < n := by
  cases x with
  | access e =>
    obtain ⟨loc, wr, sy⟩ := e
    simp only [MemAct.touch?, Option.some.injEq] at ha
    subst ha
    cases loc with
    | cell x => injection hb with hb; subst hb; exact hl
    | obj x => injection hb with hb; subst hb; exact hl
    | _ => cases hb
  | mark mk =>
    cases mk with
    | read x => injection ha with ha; subst ha; injection hb with hb; subst hb; exact hl
    | write x => injection ha with ha; subst ha; injection hb with hb; subst hb; exact hl
    | _ => cases ha
  | _ => cases ha
theorem touch_app {t u : Trace} {i : Nat} {a : Touch} (h : touchAt (t ++ u) i = some a) : (i < t.size ∧ touchAt t i = some a) ∨ ∃ op ∈ u, (t ++ u)[i]? = some op ∧ op.act.touch? = some a := by
  obtain ⟨x, hx, hxa⟩ := touch_of h
  rcases getElem?_append_cases hx with ⟨hi, hx'⟩ | ⟨_, hxu⟩
  · exact .inl ⟨hi, by rw [touchAt_of hx']; exact hxa⟩
  · exact .inr ⟨x, hxu, hx, hxa⟩
theorem conf_blk {said : Bool} {a b : Touch} (h : a.conflicts said b) : locBlk a.loc = locBlk b.loc ∧ a.loc.isMemory = true ∧ (a.write = true ∨ b.write = true) := ⟨by rw [h.1], h.2.1, h.2.2.1⟩
section
variable {t u : Trace} {x y : Nat} {ft fy : Foot} {fn : FuncId} {pos : String} {es : Array Event}
theorem KnowsOk.noRace {said : Bool} (hc : ¬ Race said t) (hk : KnowsOk t x ft) (he : ∀ e ∈ es, EvOk ft e) : ¬ Race said (t ++ MemOp.ofEvents x fn pos es) := by
  refine noRace_append hc (fun op hop => mem_g hop) fun i a ha op hop b hb hcf => ?_
  obtain ⟨e, hee, rfl⟩ := Go.Conc.mem_ofEvents hop
  obtain ⟨bl, h1, h2, h3⟩ := evOk_touch (he e hee) hb
  obtain ⟨c1, c2, c3⟩ := conf_blk hcf
  rcases hk i a ha c2 with h | h
  · exact h
  · obtain ⟨n1, n2⟩ := h bl (by rw [c1]; exact h1)
    rcases c3 with c | c
    · exact absurd h2 (n2 c)
    · exact absurd (h3 c) n1
theorem KnowsOk.mute (hk : KnowsOk t y fy) (hu : ∀ op ∈ u, op.act.touch? = none) : KnowsOk (t ++ u) y fy := by
  intro i a ha hm
  rcases touch_app ha with ⟨hi, h⟩ | ⟨op, hop, _, h⟩
  · exact (hk i a h hm).imp (·.app u) id
  · rw [hu op hop] at h; cases h
theorem KnowsOk.other (hk : KnowsOk t y fy) (he : ∀ e ∈ es, EvOk ft e) (d1 : ∀ b, ft.wr b → ¬ fy.rd b) (d2 : ∀ b, fy.wr b → ¬ ft.rd b) : KnowsOk (t ++ MemOp.ofEvents x fn pos es) y fy := by
  intro i a ha hm
  rcases touch_app ha with ⟨hi, h⟩ | ⟨op, hop, _, h⟩
  · exact (hk i a h hm).imp (·.app _) id
  · obtain ⟨e, hee, rfl⟩ := Go.Conc.mem_ofEvents hop
    obtain ⟨bl, h1, h2, h3⟩ := evOk_touch (he e hee) h
    refine .inr fun b hb => ?_
    rw [h1] at hb
    cases hb
    exact ⟨fun hw => d2 _ hw h2, fun hw => d1 _ (h3 hw)⟩
theorem KnowsOk.own {n m : Nat} (hk : KnowsOk t x ft) (he : ∀ e ∈ es, EvOk ft e) (hs : ∀ op ∈ t, op.act.low n) : KnowsOk (t ++ MemOp.ofEvents x fn pos es) x (ft.ext n m) := by
  intro i a ha hm
  rcases touch_app ha with ⟨hi, h⟩ | ⟨op, hop, hg, h⟩
  · rcases hk i a h hm with hh | hh
    · exact .inl (hh.app _)
    · refine .inr fun b hb => ?_
      obtain ⟨n1, n2⟩ := hh b hb
      have hlow : b < n := by
        obtain ⟨z, hz, hza⟩ := touch_of h
        exact touch_low (hs z (Array.mem_of_getElem? hz)) hza hb
      exact ⟨fun hw => hw.elim n1 (fun e => by omega), fun hw hr => hr.elim (n2 hw) fun e => by omega⟩
  · have := knows_own hg
    rw [mem_g hop] at this
    exact .inl this
theorem KnowsOk.less {f' : Foot} (hk : KnowsOk t x ft) (h1 : ∀ b, f'.rd b → ft.rd b) (h2 : ∀ b, f'.wr b → ft.wr b) : KnowsOk t x f' := fun i a ha hm =>
  (hk i a ha hm).imp id fun hh b hb => ⟨fun hw => (hh b hb).1 (h2 b hw), fun hw hr => (hh b hb).2 hw (h1 b hr)⟩
theorem low_events {n : Nat} (he : ∀ e ∈ es, EvOk ft e) (hb : ∀ b, ft.rd b → b < n) : ∀ op ∈ MemOp.ofEvents x fn pos es, op.act.low n := fun op hop => by
  obtain ⟨e, hee, rfl⟩ := Go.Conc.mem_ofEvents hop
  exact (evL_of (he e hee) hb).2.2.2
end
structure Crew where
  ch : Nat → Option (Nat × Array Value × Bool)
  c : Nat
  pend : List Nat
  phi : Nat → Value → Prop
def AtSend (P : Program) (c : Nat) (Φ : Value → Prop) : JT := fun g w _ =>
  ∃ g₂ v z, stepG P false g w = .comm g₂ #[scase c v z] true .send w #[] ∧ Φ v ∧ ∃ n, QuitsD P n 0 (Conc.served g₂ undef)
theorem atSend_halts (P : Program) (c : Nat) (Φ : Value → Prop) : Halts P (AtSend P c Φ) := fun g w ft g' w' es h e => by
  obtain ⟨g₂, v, z, h, _⟩ := h
  rw [h] at e
  cases e
structure WayOk (P : Program) (T : Crew) (t : Trace) (i k : Nat) (ft : Foot) (w : World) (g : Goroutine) (wi : World) (fi : Foot) : Prop where
  way : Toward P (AtSend P T.c (T.phi k)) g wi fi
  rely : RelyW fi wi w
  lt : ∀ b, fi.rd b → b < w.heap.size
  sub : ∀ b, fi.wr b → fi.rd b
  ch : ∀ b x, T.ch b = some x → ¬ fi.rd b
  d1 : ∀ b, fi.wr b → ¬ ft.rd b
  d2 : ∀ b, ft.wr b → ¬ fi.rd b
  know : KnowsOk t i fi
def ParkOk (P : Program) (T : Crew) (k : Nat) (g : Goroutine) : Prop := ∃ g₂ v z, g = parked g₂ #[scase T.c v z] .send ∧ T.phi k v ∧ ∃ n, QuitsD P n 0 (Conc.served g₂ undef)
structure Inv (P : Program) (W0 : World) (T : Crew) (ft : Foot) (gs : Array Goroutine) (w : World) (t : Trace) (st : Nat → WS) (ix : Nat → Nat) : Prop where
  base : Base W0 w
  lt : ∀ b, ft.rd b → b < w.heap.size
  sub : ∀ b, ft.wr b → ft.rd b
  chan : ∀ b x, T.ch b = some x → ∃ s r tm, w.heap[b]? = some (.chan x.1 x.2.1 x.2.2 s r tm)
  cnt : ∀ b x s r tm, T.ch b = some x → w.heap[b]? = some (.chan x.1 x.2.1 x.2.2 s r tm) → s = r + x.2.1.size
  chft : ∀ b x, T.ch b = some x → ¬ ft.rd b
  own : T.pend ≠ [] → T.ch T.c = some (0, #[], false)
  nd : T.pend.Nodup
  ixr : ∀ k ∈ T.pend, 0 < ix k ∧ ix k < gs.size
  inj : ∀ k ∈ T.pend, ∀ l ∈ T.pend, ix k = ix l → k = l
  pnd : ∀ k ∈ T.pend, ∃ g, gs[ix k]? = some g ∧ Deaf t (ix k) = 0 ∧ ((∃ wi fi, st (ix k) = .way wi fi ∧ WayOk P T t (ix k) k ft w g wi fi) ∨ (st (ix k) = .park ∧ ParkOk P T k g))
  old : ∀ i g, 0 < i → gs[i]? = some g → (∀ k ∈ T.pend, ix k ≠ i) → ∃ n, st i = .quit n ∧ QuitsD P n (Deaf t i) g
  disj : ∀ k ∈ T.pend, ∀ l ∈ T.pend, k ≠ l → ∀ wk fk wl fl, st (ix k) = .way wk fk → st (ix l) = .way wl fl → ∀ b, fk.wr b → ¬ fl.rd b
  above : ∀ j, gs.size ≤ j → Deaf t j = 0
  hears : Deaf t 0 = 0
  clean : ∀ said, ¬ Race said t
  known : KnowsOk t 0 ft
  done : ∀ i a, touchAt t i = some a → a.loc.isMemory = true → Knows t 0 i ∨ ∃ k ∈ T.pend, t.g? i = some (ix k)
  seen : ∀ op ∈ t, op.act.low w.heap.size
def MainOk (T : Crew) (g : Goroutine) : Prop := g.status = .running ∨ ∃ g₂ z sh, g = parked g₂ #[rcase T.c z] sh ∧ T.ch T.c = some (0, #[], false)
def JC (P : Program) (W0 : World) (Post : Value → World → Prop) (T : Crew) (g : Goroutine) (w : World) (ft : Foot) : Prop :=
  ∀ (gs : Array Goroutine) (w₁ : World) (sl : Option (Nat × Nat)) (t : Trace) (st : Nat → WS) (ix : Nat → Nat), RelyW ft w w₁ → gs[0]? = some g → Inv P W0 T ft gs w₁ t st ix → Ends P Post (crowd gs w₁ sl) t
section
variable {P : Program} {W0 : World} {Post : Value → World → Prop} {T : Crew} {g : Goroutine} {w w₁ w' : World} {ft : Foot} {gs : Array Goroutine} {t : Trace} {st : Nat → WS} {ix : Nat → Nat} {i : Nat} {sl : Option (Nat × Nat)}
theorem Inv.at (I : Inv P W0 T ft gs w t st ix) (d : Nat) : Inv P W0 T ft gs (w.at d) t st ix where
  base := ⟨I.base.tape, I.base.os, I.base.output, I.base.size⟩
  lt := I.lt
  sub := I.sub
  chan := I.chan
  cnt := I.cnt
  chft := I.chft
  own := I.own
  nd := I.nd
  ixr := I.ixr
  inj := I.inj
  pnd := fun k hk => by
    obtain ⟨g, h1, h2, h3⟩ := I.pnd k hk
    refine ⟨g, h1, h2, h3.imp (fun ⟨wi, fi, e, W⟩ => ⟨wi, fi, e, ?_⟩) id⟩
    exact ⟨W.way, W.rely.trans (relyW_at fi w d), W.lt, W.sub, W.ch, W.d1, W.d2, W.know⟩
  old := I.old
  disj := I.disj
  above := I.above
  hears := I.hears
  clean := I.clean
  known := I.known
  done := I.done
  seen := I.seen
theorem moved_get {f : Goroutine → Goroutine} {g' : Goroutine} {j : Nat} {y : Goroutine} (hne : i ≠ j) (h : ((gs.map f).setIfInBounds i g')[j]? = some y) : ∃ z, gs[j]? = some z ∧ y = f z := by
  rw [Array.getElem?_setIfInBounds_ne hne, Array.getElem?_map] at h
  obtain ⟨z, hz, e⟩ := Option.map_eq_some_iff.1 h
  exact ⟨z, hz, e.symm⟩
theorem moved_put {f : Goroutine → Goroutine} {g' : Goroutine} {j : Nat} {z : Goroutine} (hne : i ≠ j) (h : gs[j]? = some z) (e : f z = z) : ((gs.map f).setIfInBounds i g')[j]? = some z := by
  rw [Array.getElem?_setIfInBounds_ne hne, Array.getElem?_map, h]
  simp [e]
theorem moved_own {f : Goroutine → Goroutine} {g g' : Goroutine} (h : gs[i]? = some g) : ((gs.map f).setIfInBounds i g')[i]? = some g' := by
  have hlt := (Array.getElem?_eq_some_iff.1 h).1
  rw [Array.getElem?_setIfInBounds_self_of_lt (by simpa using hlt)]
theorem main_still {x g' : Goroutine} (hm : MainOk T g) (hc : T.ch T.c = some (0, #[], false) → ∃ s r tm, w'.heap[T.c]? = some (.chan 0 #[] false s r tm)) : woken P x g' w' g = g := by
  rcases hm with h | ⟨g₂, z, sh, rfl, h⟩
  · exact woken_run h
  · obtain ⟨s, r, tm, h⟩ := hc h
    exact woken_recv_open _ _ h
theorem pend_still {x g' y : Goroutine} {k : Nat} (hc : T.ch T.c = some (0, #[], false)) (hch : ∃ s r tm, w'.heap[T.c]? = some (.chan 0 #[] false s r tm)) (h : (∃ wi fi, WayOk P T t i k ft w y wi fi) ∨ ParkOk P T k y) : woken P x g' w' y = y := by
  rcases h with ⟨wi, fi, W⟩ | ⟨g₂, v, z, rfl, _⟩
  · exact woken_run W.way.running
  · obtain ⟨s, r, tm, h⟩ := hch
    exact woken_send_open _ _ h
theorem deaf_evs {fi : Foot} {fn : FuncId} {pos : String} {es : Array Event} {n : Nat} (he : ∀ e ∈ es, EvOk fi e) (hb : ∀ b, fi.rd b → b < n) (j : Nat) : Deaf (t ++ MemOp.ofEvents i fn pos es) j = Deaf t j := by
  by_cases h : i = j
  · subst h
    rw [Deaf_own]
    exact deafBehind_still (fun e hm => ⟨(evL_of (he e hm) hb).2.1, (evL_of (he e hm) hb).2.2.1⟩) _
  · rw [Deaf_other t h _ (fun op hop => mem_g hop)]
theorem g_app {u : Trace} {j : Nat} {y : Nat} (h : t.g? j = some y) : (t ++ u).g? j = some y := by
  unfold Trace.g? at h ⊢
  obtain ⟨z, hz, e⟩ := Option.map_eq_some_iff.1 h
  rw [getElem?_append_old (lt_size_of_getElem? hz), hz]
  simp [e]
theorem done_mute {u : Trace} (hd : ∀ i a, touchAt t i = some a → a.loc.isMemory = true → Knows t 0 i ∨ ∃ k ∈ T.pend, t.g? i = some (ix k)) (hu : ∀ op ∈ u, op.act.touch? = none) :
    ∀ i a, touchAt (t ++ u) i = some a → a.loc.isMemory = true → Knows (t ++ u) 0 i ∨ ∃ k ∈ T.pend, (t ++ u).g? i = some (ix k) := by
  intro i a ha hm
  rcases touch_app ha with ⟨_, h⟩ | ⟨op, hop, _, h⟩
  · exact (hd i a h hm).imp (·.app u) fun ⟨k, hk, e⟩ => ⟨k, hk, g_app e⟩
  · rw [hu op hop] at h; cases h
theorem Inv.quit (I : Inv P W0 T ft gs w t st ix) {x g' : Goroutine} {es : Array Event} {m : Nat} (hpos : 0 < i) (hi : gs[i]? = some x) (hn : ∀ k ∈ T.pend, ix k ≠ i) (hm : ∀ e ∈ es, Event.mute e = true)
    (hq : QuitsD P m (deafBehind (Deaf t i) es) g') : Inv P W0 T ft ((gs.map (woken P x g' w)).setIfInBounds i g') w (t ++ MemOp.ofEvents i x.frame.fn x.frame.place es) (putAt st i (.quit m)) ix := by
  have htn : ∀ op ∈ MemOp.ofEvents i x.frame.fn x.frame.place es, op.act.touch? = none := fun op hop => by
    obtain ⟨e, he, rfl⟩ := Go.Conc.mem_ofEvents hop
    exact touch_mute (hm e he)
  have hdo : ∀ j, i ≠ j → Deaf (t ++ MemOp.ofEvents i x.frame.fn x.frame.place es) j = Deaf t j := fun j hj => Deaf_other t hj _ (fun op hop => mem_g hop)
  have hlt : i < gs.size := (Array.getElem?_eq_some_iff.1 hi).1
  refine { base := I.base, lt := I.lt, sub := I.sub, chan := I.chan, cnt := I.cnt, chft := I.chft, own := I.own, nd := I.nd, ixr := fun k hk => ?_, inj := I.inj, pnd := fun k hk => ?_, old := fun j y hj hy hnj => ?_, disj := fun k hk l hl hkl wk fk wl fl e1 e2 => ?_, above := fun j hj => ?_, hears := ?_, clean := fun said => ?_, known := I.known.mute htn, done := done_mute I.done htn, seen := ?_ }
  · simpa using I.ixr k hk
  · obtain ⟨y, h1, h2, h3⟩ := I.pnd k hk
    have hne : i ≠ ix k := fun e => hn k hk e.symm
    have hown := I.own (List.ne_nil_of_mem hk)
    have hst : woken P x g' w y = y := pend_still (t := t) (i := ix k) (ft := ft) (w := w) hown (I.chan _ _ hown) (h3.imp (fun ⟨a, b, _, c⟩ => ⟨a, b, c⟩) fun h => h.2)
    refine ⟨y, moved_put hne h1 hst, by rw [hdo _ hne]; exact h2, ?_⟩
    rw [putAt_ne _ _ (Ne.symm hne)]
    refine h3.imp (fun ⟨wi, fi, e, W⟩ => ⟨wi, fi, e, W.way, W.rely, W.lt, W.sub, W.ch, W.d1, W.d2, W.know.mute htn⟩) id
  · by_cases hji : i = j
    · subst hji
      rw [moved_own hi] at hy
      cases hy
      exact ⟨m, putAt_self _ _ _, by rw [Deaf_own]; exact hq⟩
    · obtain ⟨z, hz, rfl⟩ := moved_get hji hy
      obtain ⟨n, e, hqz⟩ := I.old j z hj hz hnj
      refine ⟨n, by rw [putAt_ne _ _ (Ne.symm hji)]; exact e, ?_⟩
      rw [woken_quitsD hqz, hdo _ hji]
      exact hqz
  · rw [putAt_ne _ _ (hn k hk)] at e1
    rw [putAt_ne _ _ (hn l hl)] at e2
    exact I.disj k hk l hl hkl wk fk wl fl e1 e2
  · have : i ≠ j := by simp at hj; omega
    rw [hdo _ this]
    exact I.above j (by simpa using hj)
  · rw [hdo _ (by omega)]
    exact I.hears
  · exact noRace_append (I.clean said) (fun op hop => mem_g hop) fun _ _ _ op hop b hb _ => by rw [htn op hop] at hb; cases hb
  · exact seen_app I.seen fun op hop => by
      obtain ⟨e, he, rfl⟩ := Go.Conc.mem_ofEvents hop
      exact low_mute (hm e he) _
theorem Inv.walk (I : Inv P W0 T ft gs w t st ix) {k : Nat} (hk : k ∈ T.pend) {x g' : Goroutine} {es : Array Event} {wi : World} {fi : Foot} (hi : gs[ix k]? = some x) (hst : st (ix k) = .way wi fi) (W : WayOk P T t (ix k) k ft w x wi fi)
    (hgu : GuarW fi w w' es) (hto : Toward P (AtSend P T.c (T.phi k)) g' w' (fi.ext w.heap.size w'.heap.size)) :
    Inv P W0 T ft ((gs.map (woken P x g' w')).setIfInBounds (ix k) g') w' (t ++ MemOp.ofEvents (ix k) x.frame.fn x.frame.place es) (putAt st (ix k) (.way w' (fi.ext w.heap.size w'.heap.size))) ix := by
  have hsz := hgu.size
  have hdf := fun j => deaf_evs (t := t) (i := ix k) (fn := x.frame.fn) (pos := x.frame.place) hgu.evs W.lt j
  have hch : ∀ b y, T.ch b = some y → ∃ s r tm, w'.heap[b]? = some (.chan y.1 y.2.1 y.2.2 s r tm) := fun b y hb => by
    obtain ⟨s, r, tm, e⟩ := I.chan b y hb
    have hlt : b < w.heap.size := (Array.getElem?_eq_some_iff.1 e).1
    exact ⟨s, r, tm, by rw [hgu.heap b hlt fun hw => W.ch b y hb (W.sub b hw)]; exact e⟩
  have hcnt : ∀ b y s r tm, T.ch b = some y → w'.heap[b]? = some (.chan y.1 y.2.1 y.2.2 s r tm) → s = r + y.2.1.size := fun b y s r tm hb hw' => by
    obtain ⟨s', r', tm', e⟩ := I.chan b y hb
    have hlt : b < w.heap.size := (Array.getElem?_eq_some_iff.1 e).1
    rw [hgu.heap b hlt fun hw => W.ch b y hb (W.sub b hw)] at hw'
    exact I.cnt b y s r tm hb hw'
  have hown := I.own (List.ne_nil_of_mem hk)
  have other : ∀ {fy : Foot}, (∀ b, fi.wr b → ¬ fy.rd b) → (∀ b, fy.rd b → b < w.heap.size) → ∀ b, fy.rd b → w'.heap[b]? = w.heap[b]? := fun hd hl b hb => hgu.heap b (hl b hb) fun hw => hd b hw hb
  refine { base := ⟨hgu.tape.trans I.base.tape, hgu.os.trans I.base.os, hgu.output.trans I.base.output, Nat.le_trans I.base.size hsz⟩, lt := fun b hb => Nat.lt_of_lt_of_le (I.lt b hb) hsz, sub := I.sub, chan := hch, cnt := hcnt, chft := I.chft, own := I.own, nd := I.nd, ixr := fun l hl => ?_, inj := I.inj, pnd := fun l hl => ?_, old := fun j y hj hy hnj => ?_, disj := fun a ha b hb hab wa fa wb fb e1 e2 => ?_, above := fun j hj => ?_, hears := ?_, clean := fun said => W.know.noRace (I.clean said) hgu.evs, known := I.known.other hgu.evs W.d1 W.d2, done := fun j a ha hm => ?_, seen := ?_ }
  · simpa using I.ixr l hl
  · by_cases hlk : l = k
    · subst hlk
      refine ⟨g', moved_own hi, by rw [hdf]; obtain ⟨_, _, h2, _⟩ := I.pnd l hk; exact h2, .inl ⟨w', _, putAt_self _ _ _, ?_⟩⟩
      refine ⟨hto, RelyW.refl _ _, fun b hb => ?_, fun b hb => ?_, fun b y hb hr => ?_, fun b hb hr => ?_, fun b hb hr => ?_, W.know.own hgu.evs I.seen⟩
      · rcases hb with hb | hb
        · exact Nat.lt_of_lt_of_le (W.lt b hb) hsz
        · exact hb.2
      · rcases hb with hb | hb
        · exact .inl (W.sub b hb)
        · exact .inr hb
      · rcases hr with hr | hr
        · exact W.ch b y hb hr
        · obtain ⟨s, r, tm, e⟩ := I.chan b y hb
          have hlt : b < w.heap.size := (Array.getElem?_eq_some_iff.1 e).1
          omega
      · rcases hb with hb | hb
        · exact W.d1 b hb hr
        · have := I.lt b hr
          omega
      · rcases hr with hr | hr
        · exact W.d2 b hb hr
        · have := I.lt b (I.sub b hb)
          omega
    · obtain ⟨y, h1, h2, h3⟩ := I.pnd l hl
      have hne : ix k ≠ ix l := fun e => hlk (I.inj k hk l hl e).symm
      have hst' : woken P x g' w' y = y := pend_still (t := t) (i := ix l) (ft := ft) (w := w) hown (hch _ _ hown) (h3.imp (fun ⟨a, b, _, c⟩ => ⟨a, b, c⟩) fun h => h.2)
      refine ⟨y, moved_put hne h1 hst', by rw [hdf]; exact h2, ?_⟩
      rw [putAt_ne _ _ (Ne.symm hne)]
      refine h3.imp (fun ⟨wl, fl, e, V⟩ => ⟨wl, fl, e, ?_⟩) id
      have hd := I.disj k hk l hl (fun e => hlk e.symm) wi fi wl fl hst e
      have hd' := I.disj l hl k hk hlk wl fl wi fi e hst
      exact ⟨V.way, V.rely.trans ⟨fun b hb => other hd V.lt b hb, hsz, hgu.tape, hgu.os, hgu.output⟩, fun b hb => Nat.lt_of_lt_of_le (V.lt b hb) hsz, V.sub, V.ch, V.d1, V.d2, V.know.other hgu.evs hd hd'⟩
  · by_cases hji : ix k = j
    · exact absurd hji (hnj k hk)
    · obtain ⟨z, hz, rfl⟩ := moved_get hji hy
      obtain ⟨n, e, hqz⟩ := I.old j z hj hz hnj
      refine ⟨n, by rw [putAt_ne _ _ (Ne.symm hji)]; exact e, ?_⟩
      rw [woken_quitsD hqz, hdf]
      exact hqz
  · have low : ∀ l, l ∈ T.pend → ∀ wl fl, st (ix l) = .way wl fl → ∀ b, fl.rd b → b < w.heap.size := fun l hl wl fl e => by
      obtain ⟨y, _, _, h3⟩ := I.pnd l hl
      rcases h3 with ⟨_, _, e', V⟩ | ⟨e', _⟩
      · rw [e] at e'
        cases e'
        exact V.lt
      · rw [e] at e'
        cases e'
    have sub : ∀ l, l ∈ T.pend → ∀ wl fl, st (ix l) = .way wl fl → ∀ b, fl.wr b → fl.rd b := fun l hl wl fl e => by
      obtain ⟨y, _, _, h3⟩ := I.pnd l hl
      rcases h3 with ⟨_, _, e', V⟩ | ⟨e', _⟩
      · rw [e] at e'
        cases e'
        exact V.sub
      · rw [e] at e'
        cases e'
    by_cases hak : a = k
    · subst hak
      rw [putAt_self] at e1
      cases e1
      have hne : ix b ≠ ix a := fun e => hab (I.inj b hb a ha e).symm
      rw [putAt_ne _ _ hne] at e2
      intro y hy hr
      rcases hy with hy | hy
      · exact I.disj a ha b hb hab wi fi wb fb hst e2 y hy hr
      · have := low b hb wb fb e2 y hr
        omega
    · have hne : ix a ≠ ix k := fun e => hak (I.inj a ha k hk e)
      rw [putAt_ne _ _ hne] at e1
      by_cases hbk : b = k
      · subst hbk
        rw [putAt_self] at e2
        cases e2
        intro y hy hr
        rcases hr with hr | hr
        · exact I.disj a ha b hb hab wa fa wi fi e1 hst y hy hr
        · have := low a ha wa fa e1 y (sub a ha wa fa e1 y hy)
          omega
      · have hne' : ix b ≠ ix k := fun e => hbk (I.inj b hb k hk e)
        rw [putAt_ne _ _ hne'] at e2
        exact I.disj a ha b hb hab wa fa wb fb e1 e2
  · rw [hdf]
    exact I.above j (by simpa using hj)
  · rw [hdf]
    exact I.hears
  · rcases touch_app ha with ⟨_, h⟩ | ⟨op, hop, hg, h⟩
    · exact (I.done j a h hm).imp (·.app _) fun ⟨l, hl, e⟩ => ⟨l, hl, g_app e⟩
    · refine .inr ⟨k, hk, ?_⟩
      unfold Trace.g?
      rw [hg]
      simp [mem_g hop]
  · exact seen_app (fun op hop => MemAct.low_mono hsz (I.seen op hop)) fun op hop => MemAct.low_mono hsz (low_events hgu.evs W.lt op hop)
end
def Crew.less (T : Crew) (k : Nat) : Crew := { T with pend := T.pend.erase k }
def meas (gs : Array Goroutine) (st : Nat → WS) : Nat → Goroutine × WS := fun i => if i = 0 then (default, .quit 0) else (gs.getD i default, st i)
section
variable {P : Program} {W0 : World} {Post : Value → World → Prop} {T : Crew} {g g0 : Goroutine} {w w₁ w' : World} {ft : Foot} {gs gs' : Array Goroutine} {t : Trace} {st st' : Nat → WS} {ix : Nat → Nat} {i k : Nat} {sl : Option (Nat × Nat)}
theorem meas_acc (I : Inv P W0 T ft gs w t st ix) : Acc (Less (WLt P) gs.size) (meas gs st) := by
  refine less_acc _ _ _ fun j hj => ?_
  by_cases h0 : j = 0
  · have e : meas gs st j = (default, .quit 0) := if_pos h0
    rw [e]
    exact acc_quit P _ _
  · have e : meas gs st j = (gs.getD j default, st j) := if_neg h0
    rw [e]
    clear e
    have hg : gs[j]? = some gs[j] := Array.getElem?_eq_getElem hj
    have hd : gs.getD j default = gs[j] := by rw [Array.getD_eq_getD_getElem?, hg]; rfl
    rw [hd]
    by_cases hp : ∃ k ∈ T.pend, ix k = j
    · obtain ⟨k, hk, rfl⟩ := hp
      obtain ⟨y, h1, _, h3⟩ := I.pnd k hk
      rw [hg] at h1
      cases h1
      rcases h3 with ⟨wi, fi, e, W⟩ | ⟨e, _⟩
      · rw [e]
        exact acc_way (atSend_halts P _ _) W.way
      · rw [e]
        exact acc_park P _
    · obtain ⟨n, e, _⟩ := I.old j gs[j] (by omega) hg fun k hk e => hp ⟨k, hk, e⟩
      rw [e]
      exact acc_quit P _ _
theorem meas_less (hi : i < gs.size) (h0 : 0 < i) (hs : gs'.size = gs.size) {x y : Goroutine} {a b : WS} (hx : gs[i]? = some x) (hy : gs'[i]? = some y) (ha : st i = a) (hb : st' i = b) (hr : WLt P (y, b) (x, a))
    (ho : ∀ j, 0 < j → j ≠ i → gs'[j]? = gs[j]? ∧ st' j = st j) : Less (WLt P) gs.size (meas gs' st') (meas gs st) := by
  refine ⟨i, hi, ?_, fun j hj => ?_⟩
  · have h0' : ¬ i = 0 := by omega
    unfold meas
    rw [if_neg h0', if_neg h0', Array.getD_eq_getD_getElem?, Array.getD_eq_getD_getElem?, hx, hy, ha, hb]
    exact hr
  · by_cases hj0 : j = 0
    · have e1 : meas gs' st' j = (default, .quit 0) := if_pos hj0
      have e2 : meas gs st j = (default, .quit 0) := if_pos hj0
      rw [e1, e2]
    · obtain ⟨e1, e2⟩ := ho j (by omega) hj
      have x1 : meas gs' st' j = (gs'.getD j default, st' j) := if_neg hj0
      have x2 : meas gs st j = (gs.getD j default, st j) := if_neg hj0
      rw [x1, x2, Array.getD_eq_getD_getElem?, Array.getD_eq_getD_getElem?, e1, e2]
theorem Inv.still (I : Inv P W0 T ft gs w t st ix) {x g' : Goroutine} (hc : ∀ b y, T.ch b = some y → ∃ s r tm, w'.heap[b]? = some (.chan y.1 y.2.1 y.2.2 s r tm)) : ∀ (j : Nat) (y : Goroutine), 0 < j → gs[j]? = some y → woken P x g' w' y = y := by
  intro j y hj hy
  by_cases hp : ∃ k ∈ T.pend, ix k = j
  · obtain ⟨k, hk, rfl⟩ := hp
    obtain ⟨z, h1, _, h3⟩ := I.pnd k hk
    rw [hy] at h1
    cases h1
    have hown := I.own (List.ne_nil_of_mem hk)
    exact pend_still (t := t) (i := ix k) (ft := ft) (w := w) hown (hc _ _ hown) (h3.imp (fun ⟨a, b, _, c⟩ => ⟨a, b, c⟩) fun h => h.2)
  · obtain ⟨n, _, hq⟩ := I.old j y hj hy fun k hk e => hp ⟨k, hk, e⟩
    exact woken_quitsD hq
theorem moved_same (I : Inv P W0 T ft gs w t st ix) {x g' : Goroutine} (hc : ∀ b y, T.ch b = some y → ∃ s r tm, w'.heap[b]? = some (.chan y.1 y.2.1 y.2.2 s r tm)) {j : Nat} (h0 : 0 < j) (hj : j ≠ i) : ((gs.map (woken P x g' w')).setIfInBounds i g')[j]? = gs[j]? := by
  rw [Array.getElem?_setIfInBounds_ne (Ne.symm hj), Array.getElem?_map]
  cases e : gs[j]? with
  | none => rfl
  | some y => rw [Option.map_some, I.still hc j y h0 e]
theorem park_put {a : WS} (h : a ≠ .park) : ∀ j, putAt st i a j = .park → st j = .park := fun j e => by
  by_cases hj : j = i
  · subst hj
    rw [putAt_self] at e
    exact absurd e h
  · rwa [putAt_ne _ _ hj] at e
theorem Inv.other (I : Inv P W0 T ft gs w t st ix) (hm : MainOk T g0) (h0 : gs[0]? = some g0) (hpos : 0 < i) {x : Goroutine} (hi : gs[i]? = some x) (hrun : x.status = .running) :
    (∃ gs' w' ops st', runT P (crowd gs w sl) i = (.next (crowd gs' w' sl), ops) ∧ gs'.size = gs.size ∧ gs'[0]? = some g0 ∧ RelyW ft w w' ∧ Inv P W0 T ft gs' w' (t ++ ops) st' ix ∧ Less (WLt P) gs.size (meas gs' st') (meas gs st) ∧ ∀ j, st' j = .park → st j = .park) ∨
    (∃ k wi fi, k ∈ T.pend ∧ ix k = i ∧ st i = .way wi fi ∧ AtSend P T.c (T.phi k) x w fi) := by
  have hi0 : (i == 0) = false := by simp; omega
  have hlt : i < gs.size := (Array.getElem?_eq_some_iff.1 hi).1
  by_cases hp : ∃ k ∈ T.pend, ix k = i
  · obtain ⟨k, hk, rfl⟩ := hp
    obtain ⟨y, h1, _, h3⟩ := I.pnd k hk
    rw [hi] at h1
    cases h1
    rcases h3 with ⟨wi, fi, e, W⟩ | ⟨_, g₂, v, z, rfl, _⟩
    · cases hw : W.way with
      | stop _ hs => exact .inr ⟨k, wi, fi, hk, rfl, e, hs w W.rely⟩
      | step _ h2 h3 =>
        obtain ⟨g', w', es, hgo, hr', hgu⟩ := h2 w W.rely
        have hto := h3 w g' w' es W.rely hgo
        have hI := I.walk hk hi e W hgu hto
        have hch := hI.chan
        have hrel : RelyW ft w w' := ⟨fun b hb => hgu.heap b (I.lt b hb) fun hwr => W.d1 b hwr hb, hgu.size, hgu.tape, hgu.os, hgu.output⟩
        refine .inl ⟨_, w', _, _, runT_crowd_go (P := P) (sl := sl) hi (by rw [hi0]; exact hgo), by simp, ?_, hrel, hI, ?_, park_put (by simp)⟩
        · exact moved_put (by omega) h0 (main_still hm fun h => hch _ _ h)
        · exact meas_less hlt hpos (by simp) hi (moved_own hi) e (putAt_self _ _ _) (.step W.rely hgo) fun j hj hji => ⟨moved_same I hch hj hji, putAt_ne _ _ hji⟩
    · cases hrun
  · have hn : ∀ k ∈ T.pend, ix k ≠ i := fun k hk e => hp ⟨k, hk, e⟩
    obtain ⟨n, e, hq⟩ := I.old i x hpos hi hn
    cases n with
    | zero => rw [hq.1] at hrun; cases hrun
    | succ m =>
      rcases hq with ⟨hf, _⟩ | ⟨_, g', es, hmu, hst, hq'⟩
      · rw [hf] at hrun; cases hrun
      have hI := I.quit hpos hi hn hmu hq'
      refine .inl ⟨_, w, _, _, runT_crowd_go (P := P) (sl := sl) hi (by rw [hi0]; exact hst w), by simp, ?_, RelyW.refl _ _, hI, ?_, park_put (by simp)⟩
      · exact moved_put (by omega) h0 (main_still hm fun h => I.chan _ _ h)
      · exact meas_less hlt hpos (by simp) hi (moved_own hi) e (putAt_self _ _ _) (.less (Nat.lt_succ_self m)) fun j hj hji => ⟨moved_same I I.chan hj hji, putAt_ne _ _ hji⟩
theorem Inv.awake (I : Inv P W0 T ft gs w t st ix) (h0 : gs[0]? = some g0) (hm : MainOk T g0) : ∀ g ∈ gs, awake g := by
  intro y hy
  obtain ⟨j, hj, rfl⟩ := Array.mem_iff_getElem.1 hy
  have hg : gs[j]? = some gs[j] := Array.getElem?_eq_getElem hj
  rcases Nat.eq_zero_or_pos j with rfl | hpos
  · have : gs[0] = g0 := by rw [hg] at h0; exact Option.some.inj h0
    rw [this]
    rcases hm with h | ⟨g₂, z, sh, rfl, _⟩
    · exact awake_of (.inl h)
    · exact awake_of (.inr (.inl rfl))
  · by_cases hp : ∃ k ∈ T.pend, ix k = j
    · obtain ⟨k, hk, rfl⟩ := hp
      obtain ⟨z, h1, _, h3⟩ := I.pnd k hk
      rw [hg] at h1
      cases h1
      rcases h3 with ⟨_, _, _, W⟩ | ⟨_, g₂, v, z, e, _⟩
      · exact awake_of (.inl W.way.running)
      · rw [e]
        exact awake_of (.inr (.inl rfl))
    · obtain ⟨n, _, hq⟩ := I.old j _ hpos hg fun k hk e => hp ⟨k, hk, e⟩
      exact awake_of (hq.status.elim .inl fun x => .inr (.inr x))
theorem Inv.noRecv (I : Inv P W0 T ft gs w t st ix) {j : Nat} {y : Goroutine} (hj : 0 < j) (hy : gs[j]? = some y) (c : Nat) : offersAt y c false = [] := by
  by_cases hp : ∃ k ∈ T.pend, ix k = j
  · obtain ⟨k, hk, rfl⟩ := hp
    obtain ⟨z, h1, _, h3⟩ := I.pnd k hk
    rw [hy] at h1
    cases h1
    rcases h3 with ⟨_, _, _, W⟩ | ⟨_, g₂, v, z, rfl, _⟩
    · exact offersAt_of_not_blocked (by rw [W.way.running]; simp) _ _
    · exact offersAt_parked_send' _ _ _ _ _ _
  · obtain ⟨n, _, hq⟩ := I.old j _ hj hy fun k hk e => hp ⟨k, hk, e⟩
    exact offersAt_of_not_blocked (by rcases hq.status with h | h <;> rw [h] <;> simp) _ _
theorem Inv.parks (I : Inv P W0 T ft gs w t st ix) (hk : k ∈ T.pend) {g₂ : Goroutine} {v z : Value} (hv : T.phi k v) (hq : ∃ n, QuitsD P n 0 (Conc.served g₂ undef)) :
    Inv P W0 T ft (gs.setIfInBounds (ix k) (parked g₂ #[scase T.c v z] .send)) w t (putAt st (ix k) .park) ix := by
  have hlt := I.ixr k hk
  refine { base := I.base, lt := I.lt, sub := I.sub, chan := I.chan, cnt := I.cnt, chft := I.chft, own := I.own, nd := I.nd, ixr := fun l hl => by simpa using I.ixr l hl, inj := I.inj, pnd := fun l hl => ?_, old := fun j y hj hy hnj => ?_, disj := fun a ha b hb hab wa fa wb fb e1 e2 => ?_, above := fun j hj => I.above j (by simpa using hj), hears := I.hears, clean := I.clean, known := I.known, done := I.done, seen := I.seen }
  · by_cases hlk : l = k
    · subst hlk
      obtain ⟨_, _, h2, _⟩ := I.pnd l hl
      exact ⟨_, Array.getElem?_setIfInBounds_self_of_lt hlt.2, h2, .inr ⟨putAt_self _ _ _, g₂, v, z, rfl, hv, hq⟩⟩
    · have hne : ix k ≠ ix l := fun e => hlk (I.inj k hk l hl e).symm
      obtain ⟨y, h1, h2, h3⟩ := I.pnd l hl
      exact ⟨y, by rw [Array.getElem?_setIfInBounds_ne hne]; exact h1, h2, by rw [putAt_ne _ _ (Ne.symm hne)]; exact h3⟩
  · have hne : ix k ≠ j := hnj k hk
    rw [Array.getElem?_setIfInBounds_ne hne] at hy
    rw [putAt_ne _ _ (Ne.symm hne)]
    exact I.old j y hj hy hnj
  · by_cases hak : ix a = ix k
    · rw [hak, putAt_self] at e1; cases e1
    · by_cases hbk : ix b = ix k
      · rw [hbk, putAt_self] at e2; cases e2
      · rw [putAt_ne _ _ hak] at e1
        rw [putAt_ne _ _ hbk] at e2
        exact I.disj a ha b hb hab wa fa wb fb e1 e2
end
section
variable {P : Program} {W0 : World} {Post : Value → World → Prop} {T : Crew} {g g0 : Goroutine} {w w₁ w' : World} {ft : Foot} {gs gs' : Array Goroutine} {t : Trace} {st st' : Nat → WS} {ix : Nat → Nat} {i k : Nat} {sl : Option (Nat × Nat)}
theorem evs_nil (t : Trace) (i : Nat) (fn : FuncId) (pos : String) : t ++ MemOp.ofEvents i fn pos #[] = t := by
  rw [ofEvents_eq]
  simp
theorem JC.main (hrun : g.status = .running) (h : ∀ gs w₁ sl t st ix, RelyW ft w w₁ → gs[0]? = some g → Inv P W0 T ft gs w₁ t st ix → ∃ m' ops, runT P (crowd gs w₁ sl) 0 = (.next m', ops) ∧ Ends P Post m' (t ++ ops)) : JC P W0 Post T g w ft := by
  intro gs w₁ sl t st ix hrel h0 I
  have hacc := meas_acc I
  generalize hM : meas gs st = M at hacc
  generalize hn : gs.size = n at hacc
  induction hacc generalizing gs w₁ sl t st with
  | intro M _ ih =>
    obtain ⟨i, x, d, sl', hi, hx, hst⟩ := crowd_pick (P := P) (w := w₁) (sl := sl) (I.awake h0 (.inl hrun)) ⟨0, g, h0, hrun⟩
    rcases Nat.eq_zero_or_pos i with rfl | hpos
    · obtain rfl : x = g := by rw [h0] at hi; exact (Option.some.inj hi).symm
      obtain ⟨m', ops, hr, he⟩ := h gs (w₁.at d) sl' t st ix (hrel.trans (relyW_at ft w₁ d)) h0 (I.at d)
      exact Ends.next (hst.trans hr) he
    · have hi0 : (i == 0) = false := by simp; omega
      rcases (I.at d).other (sl := sl') (.inl hrun) h0 hpos hi hx with ⟨gs', w', ops, st', hr, hs, h0', hrel', I', hl, _⟩ | ⟨k, wi, fi, hk, rfl, e, g₂, v, z, hgo, hv, hq⟩
      · subst hM hn
        exact Ends.next (hst.trans hr) (ih _ hl gs' w' sl' _ st' ((hrel.trans (relyW_at ft w₁ d)).trans hrel') h0' I' rfl hs)
      · subst hM hn
        have hown := I.own (List.ne_nil_of_mem hk)
        obtain ⟨s, r, tm, hc⟩ := I.chan _ _ hown
        have hr := crowd_waits (P := P) (sl := sl') (gs := gs) (w := w₁.at d) hi (show stepG P (ix k == 0) x (w₁.at d) = _ from by rw [hi0]; exact hgo) fun cc hcc => by
          obtain rfl : cc = scase T.c v z := by simpa using hcc
          refine ways_send_none (w₁ := w₁.at d) hc (Nat.zero_le _) (partners_nil fun j y hy => ?_)
          rcases getElem?_stand _ _ _ _ hy with ⟨_, rfl⟩ | ⟨_, hy⟩
          · rfl
          · rcases Nat.eq_zero_or_pos j with rfl | hj
            · rw [h0] at hy
              cases hy
              exact offersAt_of_not_blocked (by rw [hrun]; simp) _ _
            · exact I.noRecv hj hy _
        refine Ends.next (hst.trans hr) ?_
        rw [evs_nil]
        have hlt := I.ixr k hk
        refine ih _ ?_ (gs.setIfInBounds (ix k) (parked g₂ #[scase T.c v z] .send)) (w₁.at d) sl' t (putAt st (ix k) .park) (hrel.trans (relyW_at ft w₁ d)) (by rw [Array.getElem?_setIfInBounds_ne (by omega)]; exact h0) ((I.at d).parks hk hv hq) rfl (by simp)
        exact meas_less hlt.2 hpos (by simp) hi (Array.getElem?_setIfInBounds_self_of_lt hlt.2) e (putAt_self _ _ _) .park fun j hj hji => ⟨Array.getElem?_setIfInBounds_ne (Ne.symm hji), putAt_ne _ _ hji⟩
theorem Inv.main (I : Inv P W0 T ft gs w t st ix) (h0 : gs[0]? = some g) {g' : Goroutine} {es : Array Event} (hgu : GuarW ft w w' es) :
    Inv P W0 T (ft.ext w.heap.size w'.heap.size) ((gs.map (woken P g g' w')).setIfInBounds 0 g') w' (t ++ MemOp.ofEvents 0 g.frame.fn g.frame.place es) st ix := by
  have hsz := hgu.size
  have hdf := fun j => deaf_evs (t := t) (i := 0) (fn := g.frame.fn) (pos := g.frame.place) hgu.evs I.lt j
  have heap : ∀ b y, T.ch b = some y → w'.heap[b]? = w.heap[b]? := fun b y hb => by
    obtain ⟨s, r, tm, e⟩ := I.chan b y hb
    exact hgu.heap b (Array.getElem?_eq_some_iff.1 e).1 fun hw => I.chft b y hb (I.sub b hw)
  have hch : ∀ b y, T.ch b = some y → ∃ s r tm, w'.heap[b]? = some (.chan y.1 y.2.1 y.2.2 s r tm) := fun b y hb => by
    rw [heap b y hb]
    exact I.chan b y hb
  refine { base := ⟨hgu.tape.trans I.base.tape, hgu.os.trans I.base.os, hgu.output.trans I.base.output, Nat.le_trans I.base.size hsz⟩, lt := fun b hb => ?_, sub := fun b hb => ?_, chan := hch, cnt := fun b y s r tm hb hw => I.cnt b y s r tm hb (by rw [← heap b y hb]; exact hw), chft := fun b y hb hr => ?_, own := I.own, nd := I.nd, ixr := fun l hl => by simpa using I.ixr l hl, inj := I.inj, pnd := fun l hl => ?_, old := fun j y hj hy hnj => ?_, disj := I.disj, above := fun j hj => ?_, hears := by rw [hdf]; exact I.hears, clean := fun said => I.known.noRace (I.clean said) hgu.evs, known := I.known.own hgu.evs I.seen, done := fun j a ha hm => ?_, seen := ?_ }
  · rcases hb with hb | hb
    · exact Nat.lt_of_lt_of_le (I.lt b hb) hsz
    · exact hb.2
  · rcases hb with hb | hb
    · exact .inl (I.sub b hb)
    · exact .inr hb
  · rcases hr with hr | hr
    · exact I.chft b y hb hr
    · obtain ⟨s, r, tm, e⟩ := I.chan b y hb
      have hlt : b < w.heap.size := (Array.getElem?_eq_some_iff.1 e).1
      omega
  · obtain ⟨y, h1, h2, h3⟩ := I.pnd l hl
    have hpos := (I.ixr l hl).1
    refine ⟨y, moved_put (by omega) h1 (I.still hch _ _ hpos h1), by rw [hdf]; exact h2, h3.imp (fun ⟨wl, fl, e, V⟩ => ⟨wl, fl, e, ?_⟩) id⟩
    have heq : ∀ b, fl.rd b → w'.heap[b]? = w.heap[b]? := fun b hb => hgu.heap b (V.lt b hb) fun hw => V.d2 b hw hb
    refine ⟨V.way, V.rely.trans ⟨heq, hsz, hgu.tape, hgu.os, hgu.output⟩, fun b hb => Nat.lt_of_lt_of_le (V.lt b hb) hsz, V.sub, V.ch, fun b hb hr => ?_, fun b hb hr => ?_, V.know.other hgu.evs V.d2 V.d1⟩
    · rcases hr with hr | hr
      · exact V.d1 b hb hr
      · have := V.lt b (V.sub b hb)
        omega
    · rcases hb with hb | hb
      · exact V.d2 b hb hr
      · have := V.lt b hr
        omega
  · obtain ⟨z, hz, rfl⟩ := moved_get (by omega) hy
    obtain ⟨n, e, hqz⟩ := I.old j z hj hz hnj
    refine ⟨n, e, ?_⟩
    rw [woken_quitsD hqz, hdf]
    exact hqz
  · rw [hdf]
    exact I.above j (by simpa using hj)
  · rcases touch_app ha with ⟨_, h⟩ | ⟨op, hop, hg, h⟩
    · exact (I.done j a h hm).imp (·.app _) fun ⟨l, hl, e⟩ => ⟨l, hl, g_app e⟩
    · have := knows_own hg
      rw [mem_g hop] at this
      exact .inl this
  · exact seen_app (fun op hop => MemAct.low_mono hsz (I.seen op hop)) fun op hop => MemAct.low_mono hsz (low_events hgu.evs I.lt op hop)
theorem JC.closed (P : Program) (W0 : World) (Post : Value → World → Prop) (T : Crew) : Closed P true (JC P W0 Post T) where
  rely := fun h hr gs w₂ sl t st ix hrel h0 I => h gs w₂ sl t st ix (hr.trans hrel) h0 I
  step := fun hrun h => JC.main hrun fun gs w₁ sl t st ix hrel h0 I => by
    obtain ⟨g', w', es, hgo, hr', hgu, hJ⟩ := h w₁ hrel
    refine ⟨_, _, runT_crowd_go (P := P) (sl := sl) (i := 0) h0 (show stepG P (0 == 0) _ w₁ = _ from hgo), ?_⟩
    exact hJ _ w' sl _ st ix (RelyW.refl _ _) (moved_own h0) (I.main h0 hgu)
theorem JC.last {f' : Foot} (hp : T.pend = []) (hrd : ∀ b, f'.rd b → ft.rd b ∨ (T.ch b).isSome = true) (hsub : ∀ b, f'.wr b → f'.rd b)
    (h : ∀ w₂, RelyW ft w w₂ → (∀ b, (T.ch b).isSome = true → b < w₂.heap.size) → J1 P W0 Post g w₂ f') : JC P W0 Post T g w ft := by
  intro gs w₁ sl t st ix hrel h0 I
  have hchl : ∀ b, (T.ch b).isSome = true → b < w₁.heap.size := fun b hb => by
    obtain ⟨x, hx⟩ := Option.isSome_iff_exists.1 hb
    obtain ⟨s, r, tm, e⟩ := I.chan b x hx
    exact (Array.getElem?_eq_some_iff.1 e).1
  refine h w₁ hrel hchl gs w₁ sl t (fun i => match st i with | .quit n => n | _ => 0) (fun b hb => (hrd b hb).elim (I.lt b) (hchl b)) hsub (RelyW.refl _ _) I.base h0 ⟨fun j y hj hy => ?_, I.above⟩ ?_
  · obtain ⟨n, e, hq⟩ := I.old j y hj hy (by rw [hp]; simp)
    rw [e]
    exact hq
  · have kn : ∀ i a, touchAt t i = some a → a.loc.isMemory = true → Knows t 0 i := fun i a ha hm => by
      rcases I.done i a ha hm with h | ⟨k, hk, _⟩
      · exact h
      · rw [hp] at hk
        cases hk
    refine ⟨I.clean, fun i a ha hm => .inl (kn i a ha hm), fun i x hx hne hc => ?_, I.hears, I.seen⟩
    obtain ⟨a, ha, hm, _⟩ := hc
    obtain ⟨q, z, h1, h2, h3⟩ := kn i a ha hm
    rcases h3 with rfl | h3
    · unfold Trace.g? at hx
      rw [h1] at hx
      simp at hx
      omega
    · exact ⟨q, by unfold Trace.g?; rw [h1]; simp [h2], h3⟩
end
def Crew.more (T : Crew) (k : Nat) : Crew := { T with pend := T.pend ++ [k] }
def Foot.lend (ft : Foot) : Foot := ⟨ft.rd, fun _ => False⟩
section
variable {P : Program} {W0 : World} {Post : Value → World → Prop} {T : Crew} {g g0 : Goroutine} {w w₁ w' : World} {ft : Foot} {gs gs' : Array Goroutine} {t : Trace} {st st' : Nat → WS} {ix : Nat → Nat} {i k : Nat} {sl : Option (Nat × Nat)}
def hired (c : Nat) (f0 : FuncId) (p0 : String) (f1 : FuncId) (p1 : String) : Trace := #[{ g := 0, fn := f0, pos := p0, act := .go c }, { g := c, fn := f1, pos := p1, act := .start }]
theorem hired_quiet (c : Nat) (f0 : FuncId) (p0 : String) (f1 : FuncId) (p1 : String) (g : Nat) : ∀ op ∈ hired c f0 p0 f1 p1, ∀ d, deafStep g d op = d := by
  intro op hop d
  simp only [hired, List.mem_toArray, List.mem_cons, List.not_mem_nil, or_false] at hop
  rcases hop with rfl | rfl <;> rfl
theorem hired_mute (c : Nat) (f0 : FuncId) (p0 : String) (f1 : FuncId) (p1 : String) : ∀ op ∈ hired c f0 p0 f1 p1, op.act.touch? = none := by
  intro op hop
  simp only [hired, List.mem_toArray, List.mem_cons, List.not_mem_nil, or_false] at hop
  rcases hop with rfl | rfl <;> rfl
theorem hired_low (c : Nat) (f0 : FuncId) (p0 : String) (f1 : FuncId) (p1 : String) (n : Nat) : ∀ op ∈ hired c f0 p0 f1 p1, op.act.low n := by
  intro op hop
  simp only [hired, List.mem_toArray, List.mem_cons, List.not_mem_nil, or_false] at hop
  rcases hop with rfl | rfl <;> trivial
theorem Inv.hire (I : Inv P W0 T ft gs w t st ix) (hlt0 : 0 < gs.size) (hk : k ∉ T.pend) (hown : T.ch T.c = some (0, #[], false)) {g' child : Goroutine} (hto : Toward P (AtSend P T.c (T.phi k)) child w ft.lend) (f0 : FuncId) (p0 : String) (f1 : FuncId) (p1 : String) :
    Inv P W0 (T.more k) ft.lend ((gs.setIfInBounds 0 g').push child) w (t ++ hired gs.size f0 p0 f1 p1) (putAt st gs.size (.way w ft.lend)) (putAt ix k gs.size) := by
  have hd := fun j => Deaf_quiet (t := t) (hired_quiet gs.size f0 p0 f1 p1 j)
  have hmu := hired_mute gs.size f0 p0 f1 p1
  have hix : ∀ l ∈ T.pend, putAt ix k gs.size l = ix l := fun l hl => putAt_ne _ _ fun e => hk (e ▸ hl)
  have hmem : ∀ {l}, l ∈ (T.more k).pend → l ∈ T.pend ∨ l = k := fun hl => by simpa [Crew.more] using hl
  have hget : ∀ l ∈ T.pend, ((gs.setIfInBounds 0 g').push child)[ix l]? = gs[ix l]? := fun l hl => by
    have := I.ixr l hl
    rw [Array.getElem?_push_lt (by simpa using this.2), Array.getElem_setIfInBounds (by simpa using this.2), if_neg (by omega), Array.getElem?_eq_getElem this.2]
  have hst : ∀ l ∈ T.pend, putAt st gs.size (.way w ft.lend) (ix l) = st (ix l) := fun l hl => putAt_ne _ _ (by have := I.ixr l hl; omega)
  have hkn : putAt ix k gs.size k = gs.size := putAt_self _ _ _
  have e0 : (t ++ hired gs.size f0 p0 f1 p1)[t.size]? = some { g := 0, fn := f0, pos := p0, act := .go gs.size } := by simp [hired]
  have e1 : (t ++ hired gs.size f0 p0 f1 p1)[t.size + 1]? = some { g := gs.size, fn := f1, pos := p1, act := .start } := by simp [hired]
  have edge : HappensBefore (t ++ hired gs.size f0 p0 f1 p1) t.size (t.size + 1) :=
    Relation.TransGen.single (.inr ⟨.spawn (act?_of e0) (act?_of e1) (g?_of e1), ⟨0, g?_of e0, by rw [deaf_old (Nat.le_refl _)]; exact I.hears⟩, ⟨gs.size, g?_of e1, by rw [deaf_quiet (hired_quiet gs.size f0 p0 f1 p1 gs.size) 1 (by simp [hired])]; exact I.above _ (Nat.le_refl _)⟩⟩)
  refine { base := I.base, lt := I.lt, sub := fun _ h => h.elim, chan := I.chan, cnt := I.cnt, chft := I.chft, own := fun _ => hown, nd := ?_, ixr := fun l hl => ?_, inj := fun a ha b hb e => ?_, pnd := fun l hl => ?_, old := fun j y hj hy hnj => ?_, disj := fun a ha b hb hab wa fa wb fb x1 x2 => ?_, above := fun j hj => ?_, hears := by rw [hd]; exact I.hears, clean := fun said => noRace_appendMute (I.clean said) hmu, known := (I.known.less (f' := ft.lend) (fun _ h => h) (fun _ h => h.elim)).mute hmu, done := fun j a ha hm => ?_, seen := seen_app I.seen (hired_low _ _ _ _ _ _) }
  · show (T.pend ++ [k]).Nodup
    rw [List.nodup_append]
    exact ⟨I.nd, by simp, fun a ha b hb => by simp at hb; subst hb; exact fun e => hk (e ▸ ha)⟩
  · rcases hmem hl with h | rfl
    · rw [hix l h]
      have := I.ixr l h
      exact ⟨this.1, by simp; omega⟩
    · rw [hkn]
      exact ⟨hlt0, by simp⟩
  · rcases hmem ha with h | rfl <;> rcases hmem hb with h' | rfl
    · rw [hix a h, hix b h'] at e
      exact I.inj a h b h' e
    · rw [hix a h, hkn] at e
      have := I.ixr a h
      omega
    · rw [hix b h', hkn] at e
      have := I.ixr b h'
      omega
    · rfl
  · rcases hmem hl with h | rfl
    · rw [hix l h, hget l h, hst l h, hd]
      obtain ⟨y, h1, h2, h3⟩ := I.pnd l h
      exact ⟨y, h1, h2, h3.imp (fun ⟨wl, fl, e, V⟩ => ⟨wl, fl, e, V.way, V.rely, V.lt, V.sub, V.ch, V.d1, fun _ h => h.elim, V.know.mute hmu⟩) id⟩
    · rw [hkn, hd, putAt_self]
      refine ⟨child, by rw [Array.getElem?_push, if_pos (by simp)], I.above _ (Nat.le_refl _), .inl ⟨w, _, rfl, hto, RelyW.refl _ _, I.lt, fun _ h => h.elim, I.chft, fun _ h => h.elim, fun _ h => h.elim, fun j a ha hm => ?_⟩⟩
      rcases touch_app ha with ⟨_, h⟩ | ⟨op, hop, _, h⟩
      · rcases I.known j a h hm with hh | hh
        · exact .inl ⟨t.size + 1, _, e1, rfl, .inr ((hh.hb_new (Nat.le_refl _) e0 rfl).trans edge)⟩
        · exact .inr fun b hb => ⟨fun h => h.elim, (hh b hb).2⟩
      · rw [hmu op hop] at h; cases h
  · have hjs : j ≠ gs.size := fun e => hnj k (by simp [Crew.more]) (by rw [hkn]; exact e.symm)
    have hlt : j < gs.size := by
      have := (Array.getElem?_eq_some_iff.1 hy).1
      simp at this
      omega
    rw [Array.getElem?_push_lt (by simpa using hlt), Array.getElem_setIfInBounds (by simpa using hlt), if_neg (by omega), ← Array.getElem?_eq_getElem hlt] at hy
    obtain ⟨n, e, hq⟩ := I.old j y hj hy fun l hl e => hnj l (by simp [Crew.more, hl]) (by rw [hix l hl]; exact e)
    exact ⟨n, by rw [putAt_ne _ _ hjs]; exact e, by rw [hd]; exact hq⟩
  · rcases hmem ha with h | rfl <;> rcases hmem hb with h' | rfl
    · rw [hix a h, hst a h] at x1
      rw [hix b h', hst b h'] at x2
      exact I.disj a h b h' hab wa fa wb fb x1 x2
    · rw [hix a h, hst a h] at x1
      rw [hkn, putAt_self] at x2
      cases x2
      obtain ⟨y, _, _, h3⟩ := I.pnd a h
      rcases h3 with ⟨wl, fl, e, V⟩ | ⟨e, _⟩
      · rw [e] at x1
        cases x1
        exact V.d1
      · rw [e] at x1
        cases x1
    · rw [hkn, putAt_self] at x1
      cases x1
      exact fun _ h => h.elim
    · exact absurd rfl hab
  · rw [hd]
    exact I.above j (by simp at hj; omega)
  · rcases done_mute (ix := ix) I.done hmu j a ha hm with h | ⟨l, hl, e⟩
    · exact .inl h
    · exact .inr ⟨l, by simp [Crew.more, hl], by rw [hix l hl]; exact e⟩
theorem JC.spawn (hrun : g.status = .running) (hk : k ∉ T.pend) (hown : T.ch T.c = some (0, #[], false))
    (h : ∀ w₁, RelyW ft w w₁ → ∃ g' child, stepG P true g w₁ = .spawn g' child w₁ #[] ∧ Toward P (AtSend P T.c (T.phi k)) child w₁ ft.lend ∧ JC P W0 Post (T.more k) g' w₁ ft.lend) : JC P W0 Post T g w ft :=
  JC.main hrun fun gs w₁ sl t st ix hrel h0 I => by
    obtain ⟨g', child, hgo, hto, hJ⟩ := h w₁ hrel
    have hlt0 : 0 < gs.size := (Array.getElem?_eq_some_iff.1 h0).1
    refine ⟨_, _, runT_crowd_spawn (P := P) (sl := sl) (i := 0) h0 (show stepG P (0 == 0) _ w₁ = _ from hgo), ?_⟩
    have e : t ++ ((MemOp.ofEvents 0 g.frame.fn g.frame.place #[]).push { g := 0, fn := g.frame.fn, pos := g.frame.place, act := .go gs.size } |>.push { g := gs.size, fn := child.frame.fn, pos := g.frame.place, act := .start }) = t ++ hired gs.size g.frame.fn g.frame.place child.frame.fn g.frame.place := by
      rw [ofEvents_eq]
      simp [hired]
    rw [e]
    refine hJ _ w₁ sl _ _ _ (RelyW.refl _ _) ?_ (I.hire hlt0 hk hown hto _ _ _ _)
    rw [Array.getElem?_push_lt (by simpa using hlt0), Array.getElem_setIfInBounds (by simpa using hlt0)]
    simp
end
section
variable {P : Program} {W0 : World} {Post : Value → World → Prop} {T : Crew} {g g0 : Goroutine} {w w₁ w' : World} {ft : Foot} {gs gs' : Array Goroutine} {t : Trace} {st st' : Nat → WS} {ix : Nat → Nat} {i k : Nat} {sl : Option (Nat × Nat)}
theorem mem_less {l : Nat} (h : l ∈ (T.less k).pend) : l ∈ T.pend := List.mem_of_mem_erase h
theorem ne_less {l : Nat} (hn : T.pend.Nodup) (h : l ∈ (T.less k).pend) : l ≠ k := fun e => by
  subst e
  exact (hn.not_mem_erase) h
theorem less_mem {l : Nat} (h : l ∈ T.pend) (hne : l ≠ k) : l ∈ (T.less k).pend := (List.mem_erase_of_ne hne).2 h
theorem passed_heap (w : World) (c s r : Nat) (tm : Bool) (b : Nat) : (w.setChan c 0 #[] false s r tm).heap[b]? = if b = c ∧ c < w.heap.size then some (.chan 0 #[] false s r tm) else w.heap[b]? := by
  unfold World.setChan
  by_cases h : c = b
  · subst h
    by_cases hl : c < w.heap.size
    · simp [hl]
    · simp [hl]
  · rw [if_neg (fun e => h e.1.symm)]
    simp [Array.getElem?_setIfInBounds_ne h]
theorem Inv.handed (I : Inv P W0 T ft gs w t st ix) (hk : k ∈ T.pend) {s r : Nat} {tm : Bool} (hc : w.heap[T.c]? = some (.chan 0 #[] false s r tm)) (hs : gs'.size = gs.size) {y : Goroutine} {n : Nat} (hy : gs'[ix k]? = some y) (hq : QuitsD P n 0 y)
    (ho : ∀ j, 0 < j → j ≠ ix k → gs'[j]? = gs[j]?) (d : Nat) (fh : FuncId) (ph : String) (fj : FuncId) (pj : String) :
    Inv P W0 (T.less k) ft gs' ((w.at d).setChan T.c 0 #[] false (s + 1) (r + 1) tm) (t ++ met (ix k) 0 fh ph fj pj T.c s 0) (putAt st (ix k) (.quit n)) ix := by
  have hown := I.own (List.ne_nil_of_mem hk)
  have hsr : s = r := by have := I.cnt _ _ s r tm hown hc; simpa using this
  have hclt : T.c < w.heap.size := (Array.getElem?_eq_some_iff.1 hc).1
  have hd := fun j => Deaf_quiet (t := t) (met_quiet (ix k) 0 fh ph fj pj T.c s 0 j)
  have hmu := met_mute (ix k) 0 fh ph fj pj T.c s 0
  have hpas := fun b => passed_heap (w.at d) T.c (s + 1) (r + 1) tm b
  have hpos := (I.ixr k hk).1
  have e0 : (t ++ met (ix k) 0 fh ph fj pj T.c s 0)[t.size]? = some { g := ix k, fn := fh, pos := ph, act := .send T.c s } := by simp [met]
  have e3 : (t ++ met (ix k) 0 fh ph fj pj T.c s 0)[t.size + 3]? = some { g := 0, fn := fj, pos := pj, act := .recvDone T.c s } := by simp [met]
  have hdk : Deaf t (ix k) = 0 := by
    obtain ⟨_, _, h2, _⟩ := I.pnd k hk
    exact h2
  have edge : HappensBefore (t ++ met (ix k) 0 fh ph fj pj T.c s 0) t.size (t.size + 3) :=
    Relation.TransGen.single (.inr ⟨.handOver (act?_of e0) (act?_of e3), ⟨ix k, g?_of e0, by rw [deaf_old (Nat.le_refl _)]; exact hdk⟩, ⟨0, g?_of e3, by rw [deaf_quiet (met_quiet (ix k) 0 fh ph fj pj T.c s 0 0) 3 (by simp [met])]; exact I.hears⟩⟩)
  have heap : ∀ b, b ≠ T.c → ((w.at d).setChan T.c 0 #[] false (s + 1) (r + 1) tm).heap[b]? = w.heap[b]? := fun b hb => by
    rw [hpas, if_neg (fun e => hb e.1)]
    rfl
  have rel : ∀ {f : Foot}, ¬ f.rd T.c → RelyW f w ((w.at d).setChan T.c 0 #[] false (s + 1) (r + 1) tm) := fun hn =>
    ⟨fun b hb => heap b fun e => hn (e ▸ hb), by simp [World.setChan, World.at], rfl, rfl, rfl⟩
  have hsz : ((w.at d).setChan T.c 0 #[] false (s + 1) (r + 1) tm).heap.size = w.heap.size := by simp [World.setChan, World.at]
  have hst : ∀ l ∈ (T.less k).pend, putAt st (ix k) (.quit n) (ix l) = st (ix l) := fun l hl => putAt_ne _ _ fun e => ne_less I.nd hl (I.inj l (mem_less hl) k hk e)
  refine { base := ⟨I.base.tape, I.base.os, I.base.output, by rw [hsz]; exact I.base.size⟩, lt := fun b hb => by rw [hsz]; exact I.lt b hb, sub := I.sub, chan := fun b x hb => ?_, cnt := fun b x s' r' tm' hb hw => ?_, chft := I.chft, own := fun _ => hown, nd := I.nd.erase _, ixr := fun l hl => by rw [hs]; exact I.ixr l (mem_less hl), inj := fun a ha b hb e => I.inj a (mem_less ha) b (mem_less hb) e, pnd := fun l hl => ?_, old := fun j z hj hz hnj => ?_, disj := fun a ha b hb hab wa fa wb fb x1 x2 => ?_, above := fun j hj => by rw [hd]; exact I.above j (by omega), hears := by rw [hd]; exact I.hears, clean := fun said => noRace_appendMute (I.clean said) hmu, known := I.known.mute hmu, done := fun j a ha hm => ?_, seen := ?_ }
  · by_cases hbc : b = T.c
    · subst hbc
      rw [show (T.less k).ch T.c = T.ch T.c from rfl, hown] at hb
      cases hb
      exact ⟨_, _, _, by rw [hpas, if_pos ⟨rfl, hclt⟩]⟩
    · rw [heap b hbc]
      exact I.chan b x hb
  · by_cases hbc : b = T.c
    · subst hbc
      rw [show (T.less k).ch T.c = T.ch T.c from rfl, hown] at hb
      cases hb
      rw [hpas, if_pos ⟨rfl, hclt⟩] at hw
      simp only [Option.some.injEq, Obj.chan.injEq] at hw
      obtain ⟨_, _, _, rfl, rfl, _⟩ := hw
      simp [hsr]
    · rw [heap b hbc] at hw
      exact I.cnt b x s' r' tm' hb hw
  · obtain ⟨z, h1, h2, h3⟩ := I.pnd l (mem_less hl)
    have hne : ix l ≠ ix k := fun e => ne_less I.nd hl (I.inj l (mem_less hl) k hk e)
    refine ⟨z, by rw [ho _ (I.ixr l (mem_less hl)).1 hne]; exact h1, by rw [hd]; exact h2, ?_⟩
    rw [hst l hl]
    refine h3.imp (fun ⟨wl, fl, e, V⟩ => ⟨wl, fl, e, V.way, V.rely.trans (rel (V.ch _ _ hown)), fun b hb => by rw [hsz]; exact V.lt b hb, V.sub, V.ch, V.d1, V.d2, V.know.mute hmu⟩) id
  · by_cases hjk : j = ix k
    · subst hjk
      rw [hy] at hz
      cases hz
      exact ⟨n, putAt_self _ _ _, by rw [hd, hdk]; exact hq⟩
    · rw [ho j hj hjk] at hz
      rw [putAt_ne _ _ hjk, hd]
      exact I.old j z hj hz fun l hl e => by
        by_cases hlk : l = k
        · subst hlk
          exact hjk e.symm
        · exact hnj l (less_mem hl hlk) e
  · rw [hst a ha] at x1
    rw [hst b hb] at x2
    exact I.disj a (mem_less ha) b (mem_less hb) hab wa fa wb fb x1 x2
  · rcases touch_app ha with ⟨_, h⟩ | ⟨op, hop, _, h⟩
    · rcases I.done j a h hm with h | ⟨l, hl, e⟩
      · exact .inl (h.app _)
      · by_cases hlk : l = k
        · subst hlk
          obtain ⟨z, hz, hzg⟩ := Option.map_eq_some_iff.1 e
          have hkn : Knows t (ix l) j := by
            have := knows_own hz
            rwa [hzg] at this
          exact .inl ⟨t.size + 3, _, e3, rfl, .inr ((hkn.hb_new (Nat.le_refl _) e0 rfl).trans edge)⟩
        · exact .inr ⟨l, less_mem hl hlk, g_app e⟩
    · rw [hmu op hop] at h; cases h
  · rw [hsz]
    refine seen_app I.seen fun op hop => ?_
    simp only [met, List.mem_toArray, List.mem_cons, List.not_mem_nil, or_false] at hop
    rcases hop with rfl | rfl | rfl | rfl <;> exact hclt
theorem passed_rely {f : Foot} {c s r d : Nat} {tm : Bool} (hn : ¬ f.rd c) : RelyW f w ((w.at d).setChan c 0 #[] false s r tm) :=
  ⟨fun b hb => by
    have hne : b ≠ c := fun e => hn (e ▸ hb)
    rw [passed_heap, if_neg (fun e => hne e.1)]
    rfl, by simp [World.setChan, World.at], rfl, rfl, rfl⟩
theorem evs_front (u : Trace) (i : Nat) (fn : FuncId) (pos : String) : MemOp.ofEvents i fn pos #[] ++ u = u := by
  rw [ofEvents_eq]
  simp
theorem Inv.front (I : Inv P W0 T ft gs w t st ix) (hs : gs'.size = gs.size) (ho : ∀ j, 0 < j → gs'[j]? = gs[j]?) : Inv P W0 T ft gs' w t st ix where
  base := I.base
  lt := I.lt
  sub := I.sub
  chan := I.chan
  cnt := I.cnt
  chft := I.chft
  own := I.own
  nd := I.nd
  ixr := fun k hk => by rw [hs]; exact I.ixr k hk
  inj := I.inj
  pnd := fun k hk => by
    rw [ho _ (I.ixr k hk).1]
    exact I.pnd k hk
  old := fun i g hi hg hn => I.old i g hi (by rw [← ho i hi]; exact hg) hn
  disj := I.disj
  above := fun j hj => I.above j (by omega)
  hears := I.hears
  clean := I.clean
  known := I.known
  done := I.done
  seen := I.seen
theorem finish_recv {g₂ : Goroutine} {cs : Array CommCase} {ok : Bool} {v : Value} : g₂.finishComm P cs (.recv ok) 0 v true = Conc.served g₂ (recvd ok v true) := finishComm_recv P g₂ cs ok 0 v true
theorem park_ends {g₂ : Goroutine} {z : Value} {ok : Bool} (hp : T.pend ≠ []) (hN : ∀ k ∈ T.pend, ∀ v, T.phi k v → JC P W0 Post (T.less k) (Conc.served g₂ (recvd ok v true)) w ft) (h0 : gs[0]? = some (parked g₂ #[rcase T.c z] (.recv ok))) (hrel : RelyW ft w w₁)
    (I : Inv P W0 T ft gs w₁ t st ix) (hnp : ∀ k ∈ T.pend, st (ix k) ≠ .park) : Ends P Post (crowd gs w₁ sl) t := by
  have hown := I.own hp
  have hm : MainOk T (parked g₂ #[rcase T.c z] (.recv ok)) := .inr ⟨g₂, z, _, rfl, hown⟩
  have hacc := meas_acc I
  generalize hM : meas gs st = M at hacc
  generalize hn : gs.size = n at hacc
  induction hacc generalizing gs w₁ sl t st with
  | intro M _ ih =>
    obtain ⟨l, hl⟩ := List.exists_mem_of_ne_nil _ hp
    obtain ⟨y, hy, _, h3⟩ := I.pnd l hl
    have hyr : y.status = .running := by
      rcases h3 with ⟨_, _, _, V⟩ | ⟨e, _⟩
      · exact V.way.running
      · exact absurd e (hnp l hl)
    obtain ⟨i, x, d, sl', hi, hx, hst⟩ := crowd_pick (P := P) (w := w₁) (sl := sl) (I.awake h0 hm) ⟨ix l, y, hy, hyr⟩
    have hpos : 0 < i := by
      rcases Nat.eq_zero_or_pos i with rfl | h
      · rw [h0] at hi
        cases hi
        cases hx
      · exact h
    have hi0 : (i == 0) = false := by simp; omega
    rcases (I.at d).other (sl := sl') hm h0 hpos hi hx with ⟨gs', w', ops, st', hr, hs, h0', hrel', I', hl', hpk⟩ | ⟨k, wi, fi, hk, rfl, e, gk, v, zk, hgo, hv, n, hq⟩
    · subst hM hn
      exact Ends.next (hst.trans hr) (ih _ hl' h0' ((hrel.trans (relyW_at ft w₁ d)).trans hrel') I' (fun k hk e => hnp k hk (hpk _ e)) rfl hs)
    · obtain ⟨s, r, tm, hc⟩ := I.chan _ _ hown
      have hlt := I.ixr k hk
      have hmem : ∀ j b, (j, b) ∈ partners (gs.setIfInBounds (ix k) ph) T.c false → j = 0 ∧ b = 0 := fun j b hjb => by
        obtain ⟨y, hy, hb⟩ := mem_partners.1 hjb
        rcases getElem?_stand _ _ _ _ hy with ⟨_, rfl⟩ | ⟨_, hy⟩
        · cases hb
        · rcases Nat.eq_zero_or_pos j with rfl | hj
          · rw [h0] at hy
            cases hy
            rw [offersAt_parked_recv, if_pos rfl] at hb
            exact ⟨rfl, by simpa using hb⟩
          · rw [I.noRecv hj hy] at hb
            cases hb
      have h0k : (gs.setIfInBounds (ix k) ph)[0]? = some (parked g₂ #[rcase T.c z] (.recv ok)) := by rw [Array.getElem?_setIfInBounds_ne (by omega)]; exact h0
      obtain ⟨j, gj, zj, shj, d2, hij, hgj, hr⟩ := crowd_send_meets_some (P := P) (sl := sl') (gs := gs) (w := w₁.at d) (w₁ := w₁.at d) hi (show stepG P (ix k == 0) x (w₁.at d) = _ from by rw [hi0]; exact hgo) (show (w₁.at d).heap[T.c]? = _ from hc)
        (fun e => by
          have : (0, 0) ∈ partners (gs.setIfInBounds (ix k) ph) T.c false := mem_partners.2 ⟨_, h0k, by rw [offersAt_parked_recv, if_pos rfl]; simp⟩
          rw [e] at this
          cases this)
        (fun j b hjb => by
          obtain ⟨rfl, rfl⟩ := hmem j b hjb
          exact ⟨rfl, by omega, g₂, z, _, h0⟩)
      have hj0 : j = 0 := by
        rcases Nat.eq_zero_or_pos j with h | h
        · exact h
        · have := I.noRecv h hgj T.c
          rw [offersAt_parked_recv, if_pos rfl] at this
          cases this
      subst hj0
      rw [h0] at hgj
      have hpe : parked g₂ #[rcase T.c z] (.recv ok) = parked gj #[rcase T.c zj] shj := Option.some.inj hgj
      have hoff := congrArg Goroutine.offers hpe
      simp only [parked, rcase, Option.some.injEq, Prod.mk.injEq] at hoff
      obtain ⟨ho1, rfl⟩ := hoff
      have hz : z = zj := by simpa using ho1
      subst hz
      have hgeq : gj.finishComm P #[rcase T.c z] (.recv ok) 0 v true = Conc.served g₂ (recvd ok v true) := by
        rw [← finish_recv (P := P) (cs := #[rcase T.c z]), ← finishComm_parked P gj _ #[rcase T.c z] _ (.recv ok), ← hpe, finishComm_parked]
      have hsr : s = r := by have := I.cnt _ _ s r tm hown hc; simpa using this
      subst hsr
      subst hM hn
      rw [hgeq, finishComm_send] at hr
      refine Ends.next (hst.trans hr) ?_
      rw [evs_front]
      exact hN k hk v hv _ _ sl' _ _ ix (hrel.trans ((relyW_at ft w₁ d).trans (passed_rely (I.chft _ _ hown)))) (by rw [Array.getElem?_setIfInBounds_ne (by omega), Array.getElem?_setIfInBounds_self_of_lt (by omega)])
        ((I.at d).handed (n := n) (y := Conc.served gk undef) hk hc (by simp) (Array.getElem?_setIfInBounds_self_of_lt (by simpa using hlt.2)) hq
          (fun j h1 h2 => by rw [Array.getElem?_setIfInBounds_ne (Ne.symm h2), Array.getElem?_setIfInBounds_ne (by omega)]) d2 gk.frame.fn gk.frame.place gj.frame.fn gj.frame.place)
theorem Inv.sends (I : Inv P W0 T ft gs w t st ix) {j b : Nat} {y : Goroutine} (hj : 0 < j) (hy : gs[j]? = some y) (hb : b ∈ offersAt y T.c true) : ∃ k ∈ T.pend, ix k = j ∧ b = 0 ∧ ParkOk P T k y := by
  by_cases hp : ∃ k ∈ T.pend, ix k = j
  · obtain ⟨k, hk, rfl⟩ := hp
    obtain ⟨z, h1, _, h3⟩ := I.pnd k hk
    rw [hy] at h1
    cases h1
    rcases h3 with ⟨_, _, _, W⟩ | ⟨_, hpk⟩
    · rw [offersAt_of_not_blocked (by rw [W.way.running]; simp)] at hb
      cases hb
    · refine ⟨k, hk, rfl, ?_, hpk⟩
      obtain ⟨g₂, v, z, rfl, _⟩ := hpk
      rw [offersAt_parked_send, if_pos rfl] at hb
      simpa using hb
  · obtain ⟨n, _, hq⟩ := I.old j _ hj hy fun k hk e => hp ⟨k, hk, e⟩
    rw [offersAt_of_not_blocked (by rcases hq.status with h | h <;> rw [h] <;> simp)] at hb
    cases hb
theorem JC.recv (hrun : g.status = .running) (hp : T.pend ≠ []) {ok : Bool}
    (h : ∀ w₁, RelyW ft w w₁ → ∃ g₂ z, stepG P true g w₁ = .comm g₂ #[rcase T.c z] true (.recv ok) w₁ #[] ∧ ∀ k ∈ T.pend, ∀ v, T.phi k v → JC P W0 Post (T.less k) (Conc.served g₂ (recvd ok v true)) w₁ ft) : JC P W0 Post T g w ft :=
  JC.main hrun fun gs w₁ sl t st ix hrel h0 I => by
    obtain ⟨g₂, z, hgo, hN⟩ := h w₁ hrel
    have hown := I.own hp
    obtain ⟨s, r, tm, hc⟩ := I.chan _ _ hown
    have hlt0 : 0 < gs.size := (Array.getElem?_eq_some_iff.1 h0).1
    have hsr : s = r := by have := I.cnt _ _ s r tm hown hc; simpa using this
    subst hsr
    by_cases hpk : ∃ k ∈ T.pend, st (ix k) = .park
    · obtain ⟨k0, hk0, e0⟩ := hpk
      obtain ⟨y0, hy0, _, h3⟩ := I.pnd k0 hk0
      have hpar : ParkOk P T k0 y0 := by
        rcases h3 with ⟨_, _, e, _⟩ | ⟨_, hpk⟩
        · rw [e0] at e; cases e
        · exact hpk
      have hpos0 := (I.ixr k0 hk0).1
      obtain ⟨j, gj, vj, zj, shj, d, hij, hgj, hr⟩ := crowd_recv_meets_some (P := P) (sl := sl) (gs := gs) (w := w₁) (w₁ := w₁) (i := 0) h0 (show stepG P (0 == 0) _ w₁ = _ from hgo) hc
        (fun e => by
          obtain ⟨gp, vp, zp, rfl, _⟩ := hpar
          have : (ix k0, 0) ∈ partners (gs.setIfInBounds 0 ph) T.c true := mem_partners.2 ⟨_, by rw [Array.getElem?_setIfInBounds_ne (by omega)]; exact hy0, by rw [offersAt_parked_send, if_pos rfl]; simp⟩
          rw [e] at this
          cases this)
        (fun j b hjb => by
          obtain ⟨y, hy, hb⟩ := mem_partners.1 hjb
          rcases getElem?_stand _ _ _ _ hy with ⟨_, rfl⟩ | ⟨hj0, hy⟩
          · cases hb
          · obtain ⟨k, hk, rfl, rfl, gp, vp, zp, rfl, _⟩ := I.sends (by omega) hy hb
            exact ⟨rfl, hj0, gp, vp, zp, _, hy⟩)
      obtain ⟨k, hk, rfl, _, gp, vp, zp, hpe, hv, n, hq⟩ := I.sends (b := 0) (Nat.pos_of_ne_zero hij) hgj (by rw [offersAt_parked_send, if_pos rfl]; simp)
      have hoff := congrArg Goroutine.offers hpe
      simp only [parked, scase, Option.some.injEq, Prod.mk.injEq] at hoff
      obtain ⟨ho1, rfl⟩ := hoff
      have hz : vj = vp ∧ zj = zp := by simpa using ho1
      obtain ⟨rfl, rfl⟩ := hz
      have hgeq : gj.finishComm P #[scase T.c vj zj] .send 0 undef false = Conc.served gp undef := by
        rw [← finishComm_send P gp #[scase T.c vj zj] 0 undef false, ← finishComm_parked P gj _ #[scase T.c vj zj] _ .send, hpe, finishComm_parked]
      refine ⟨_, _, hr, ?_⟩
      rw [hgeq, finish_recv, evs_front]
      have hlt := I.ixr k hk
      exact hN k hk vj hv _ _ sl _ _ ix (passed_rely (I.chft _ _ hown)) (Array.getElem?_setIfInBounds_self_of_lt (by simpa using hlt0))
        (I.handed (n := n) (y := Conc.served gp undef) hk hc (by simp) (by rw [Array.getElem?_setIfInBounds_ne (by omega)]; exact Array.getElem?_setIfInBounds_self_of_lt hlt.2) hq
          (fun j h1 h2 => by rw [Array.getElem?_setIfInBounds_ne (by omega), Array.getElem?_setIfInBounds_ne (Ne.symm h2)]) d gj.frame.fn gj.frame.place g₂.frame.fn g₂.frame.place)
    · have hr := crowd_waits (P := P) (sl := sl) (gs := gs) (w := w₁) (i := 0) h0 (show stepG P (0 == 0) _ w₁ = _ from hgo) fun cc hcc => by
        obtain rfl : cc = rcase T.c z := by simpa using hcc
        refine ways_recv_none hc (partners_nil fun j y hy => ?_)
        rcases getElem?_stand _ _ _ _ hy with ⟨_, rfl⟩ | ⟨hj0, hy⟩
        · rfl
        · cases e : offersAt y T.c true with
          | nil => rfl
          | cons b l =>
            obtain ⟨k, hk, rfl, rfl, gp, vp, zp, rfl, _⟩ := I.sends (b := b) (by omega) hy (by rw [e]; simp)
            exfalso
            obtain ⟨z', h1, _, h3⟩ := I.pnd k hk
            rw [hy] at h1
            cases h1
            rcases h3 with ⟨_, _, _, W⟩ | ⟨e', _⟩
            · have := W.way.running
              cases this
            · exact hpk ⟨k, hk, e'⟩
      refine ⟨_, _, hr, ?_⟩
      rw [evs_nil]
      have h0' : (gs.setIfInBounds 0 (parked g₂ #[rcase T.c z] (.recv ok)))[0]? = some (parked g₂ #[rcase T.c z] (.recv ok)) := Array.getElem?_setIfInBounds_self_of_lt hlt0
      refine park_ends hp hN h0' (RelyW.refl _ _) (I.front (by simp) fun j hj => Array.getElem?_setIfInBounds_ne (by omega)) fun k hk e => hpk ⟨k, hk, e⟩
end
section
variable {P : Program} {W0 : World} {Post : Value → World → Prop} {T : Crew} {g : Goroutine} {w w₁ w' : World} {ft f' : Foot}
theorem J1.crew (hp : T.pend = []) (hch : ∀ b x, T.ch b = some x → ft.rd b ∧ x.2 = (#[], false) ∧ w.heap[b]? = some (.chan x.1 #[] false 0 0 false))
    (hrd : ∀ b, f'.rd b → ft.rd b ∧ T.ch b = none) (hwr : ∀ b, f'.wr b → ft.wr b ∧ f'.rd b) (h : JC P W0 Post T g w f') : J1 P W0 Post g w ft := by
  intro gs w₁ sl t q hbd hsub hrel hbase h0 hL hP
  have heap : ∀ b x, T.ch b = some x → w₁.heap[b]? = some (.chan x.1 x.2.1 x.2.2 0 0 false) := fun b x hb => by
    obtain ⟨h1, h2, h3⟩ := hch b x hb
    rw [hrel.heap b h1, h3, h2]
  have no : ∀ k, k ∉ T.pend := fun k hk => by rw [hp] at hk; cases hk
  refine h gs w₁ sl t (fun i => .quit (q i)) (fun _ => 0) ⟨fun b hb => hrel.heap b (hrd b hb).1, hrel.size, hrel.tape, hrel.os, hrel.output⟩ h0
    { base := hbase, lt := fun b hb => hbd b (hrd b hb).1, sub := fun b hb => (hwr b hb).2, chan := fun b x hb => ⟨0, 0, false, heap b x hb⟩, cnt := fun b x s r tm hb hw => ?_, chft := fun b x hb hr => ?_, own := fun hne => absurd hp hne, nd := by rw [hp]; exact List.nodup_nil, ixr := fun k hk => absurd hk (no k), inj := fun k hk => absurd hk (no k), pnd := fun k hk => absurd hk (no k), old := fun i y hi hy _ => ⟨q i, rfl, hL.old i y hi hy⟩, disj := fun k hk => absurd hk (no k), above := hL.above, hears := hP.hears, clean := hP.clean, known := fun i a ha hm => .inl ((hP.known i a ha hm).resolve_right fun x => x.1), done := fun i a ha hm => .inl ((hP.known i a ha hm).resolve_right fun x => x.1), seen := hP.seen }
  · rw [heap b x hb] at hw
    obtain ⟨_, h2, _⟩ := hch b x hb
    simp only [Option.some.injEq, Obj.chan.injEq] at hw
    obtain ⟨_, _, _, rfl, rfl, _⟩ := hw
    rw [h2]
    rfl
  · have := (hrd b hr).2
    rw [hb] at this
    cases this
def base0 (P : Program) : Frame := { (default : Frame) with fn := P.funcs.size, defers := [], mode := .panicking [goexitEntry] }
theorem base_catches (P : Program) : (base0 P).catches P = false := by
  have e : (base0 P).todo = [] := rfl
  unfold Frame.catches
  rw [e]
  split
  · rename_i h
    cases h
  · rfl
theorem base_quits (hc : (base0 P).catches P = false) : QuitsD P 1 0 (G (base0 P) []) := by
  refine .inr ⟨rfl, { frame := base0 P, callers := [], status := .finished, dying := none }, #[], by simp, fun w => ?_, rfl, rfl⟩
  have e1 : (base0 P).defers = [] := rfl
  have e2 : (base0 P).mode = .panicking [goexitEntry] := rfl
  simp only [G, stepG, e2, unwind, e1, hc]
  simp [goexitEntry]
theorem quiet_run {α : Type} {s : Go.Sem α} {w : World} {Q : α → World → Prop} (h : RunsTo P (fun _ => False) s w Q) : ∃ v w', s.runT P w #[] = (.ok v w', #[]) ∧ Q v w' := by
  obtain ⟨v, w', es, hr, he, hq⟩ := h #[] (by simp)
  have hes : es = #[] := by
    apply Array.eq_empty_of_size_eq_zero
    cases hs : es.size with
    | zero => rfl
    | succ n => exact (he es[0] (Array.getElem_mem (by omega))).elim
  subst hes
  exact ⟨v, w', hr, hq⟩
variable {b : FB} {a : Act} {cs : List Frame} {ops : Array Oper} {fn : Func}
theorem worker_quits (hk : b.kind = .deferred) (hr : b.ro = none) (hd : a.defers = []) (hf : P.funcs[b.fn]? = some fn) (hres : fn.results = #[]) (hc : (base0 P).catches P = false) :
    QuitsD P 4 0 (G (b.at a [.inRegion ops []]) [base0 P]) := by
  obtain ⟨bf, bk, br⟩ := b
  simp only at hk hr hf
  subst hk hr
  refine .ctl (g' := G (FB.at ⟨bf, .deferred, none⟩ a []) [base0 P]) rfl (fun w => by simp [G, stepG, stepG.exec, FB.at]) ?_
  refine .ctl (g' := G { FB.at ⟨bf, .deferred, none⟩ a [] with mode := .returning } [base0 P]) rfl (fun w => by simp [G, stepG, stepG.exec, FB.at]) ?_
  refine .ctl (g' := G (base0 P) []) rfl (fun w => ?_) (base_quits hc)
  have he : (results fn a.tmps).runT P w #[] = (.ok (.tuple #[]) w, #[]) := by
    have hrun : RunsTo P (fun _ => False) (results fn a.tmps) w fun v w' => v = .tuple #[] ∧ w' = w := by
      unfold results
      rw [hres, Array.mapM_eq_mapM_toList]
      exact RunsTo.bind (RunsTo.map (RunsTo.pure (RunsTo.pure ⟨by simp, rfl⟩)))
    obtain ⟨v, w', hr, rfl, rfl⟩ := quiet_run hrun
    exact hr
  simp only [G, stepG, FB.at, unwind, hd, hf, he]
  simp [doReturn, base0, goexitEntry, GStep.after, seen]
theorem born_toward {Stop : JT} {d : Deferred} {g : FuncId} {caps : List Value} (hd : d = { target := .fn (.func g) ⟨caps⟩, args := #[] }) (hcl : callable P g = true)
    (h : Toward P Stop (G (Frame.enter P g ⟨caps⟩ .deferred) [base0 P]) w ft) : Toward P Stop (born P d) w ft := by
  subst hd
  refine (Toward.closed P Stop).step rfl fun w₁ h₁ => ?_
  have hrun : RunsTo P (EvOk ft) (invoke (.fn (.func g) ⟨caps⟩) #[]) w₁ fun nx w' => nx = .enter g ⟨caps⟩ ∧ w' = w₁ := by
    unfold invoke
    simp only
    refine callFunc_run hcl ⟨?_, rfl⟩
    congr 1
    apply Array.ext'
    simp
  obtain ⟨nx, w', es, hr, he, rfl, rfl⟩ := hrun #[] (by simp)
  have hes : ∀ e ∈ seen P P.funcs.size es, EvOk ft e := fun e hm => he e (mem_seen hm)
  refine ⟨G (Frame.enter P g ⟨caps⟩ .deferred) [base0 P], w', seen P P.funcs.size es, ?_, rfl, (Stays.refl ft w').guar hes, ?_⟩
  · simp only [stepG, born, unwind, callDeferred, hr]
    simp [GStep.after, G, base0]
  · rw [Foot.ext_self]
    exact h.rely h₁
end
section
variable {P : Program} {main : Bool} {W0 : World} {Post : Value → World → Prop} {T : Crew} {w w₁ w' : World} {ft : Foot} {ρ : Env} {h : List AObj} {FC : Frm} {N : Nat} {f : RG} {b : FB} {a : Act} {cs : List Frame} {K : List Item} {ops : Array Oper} {i : Nat} {rest : List Nat} {o : Oper}
theorem stepG_go (hk : b.kind ≠ .early) (ho : ops[i]? = some o) (hg : gd ops o f.r = some true) (A : ActRel h.length ρ N f a) {x : Operand} {ats : Array TypeId} (hop : o.op = .go { callee := .value x, args := #[], argTypes := ats })
    {g : FuncId} {cap : List Value} (hx : ev f.r x = .func (.func g) ⟨[]⟩ ⟨cap⟩) (w : World) :
    stepG P main (G (b.at a (.inRegion ops (i :: rest) :: K)) cs) w = .spawn (G (b.at (a.put o.dst undef) (.inRegion ops rest :: K)) cs) (born P { target := .fn (.func g) ⟨cap.map (ren ρ)⟩, args := #[] }) w #[] := by
  have hw := gd_wanted A hg
  have hnd : ∀ c, o.op ≠ .defer c := fun c e => by rw [hop] at e; cases e
  have hk' : (b.kind == CallKind.early) = false := by simpa using hk
  obtain ⟨hok, hv⟩ := (ev_rel A.regs x).val (by rw [hx]; simp [unk])
  rw [hx] at hv
  simp only [ren, renFn, renA, renL_eq, List.map_nil] at hv
  have hr : (execOp a.eval o).runT P w #[] = (.ok (.spawn { target := .fn (.func g) ⟨cap.map (ren ρ)⟩, args := #[] }) w, #[]) := by
    have hrun : RunsTo P (fun _ => False) (execOp a.eval o) w fun nx w' => nx = .spawn { target := .fn (.func g) ⟨cap.map (ren ρ)⟩, args := #[] } ∧ w' = w := by
      unfold execOp
      rw [hop]
      simp only [resolve, hv, Deferred.ofValue]
      refine RunsTo.bind (RunsTo.pure (RunsTo.pure ⟨?_, rfl⟩))
      congr 2
      simp
    obtain ⟨v, w', hr, rfl, rfl⟩ := quiet_run hrun
    exact hr
  have hf := FB.finish_at b a ops i rest K undef
  rw [ho] at hf
  simp only [Option.bind_some] at hf
  rw [stepG_op ho hw hnd, ← hf]
  simp only [stepG.apply, hr, if_true]
  simp [FB.at, hk', GStep.after, G, born, seen]
theorem stepG_recv (hk : b.kind ≠ .early) (ho : ops[i]? = some o) (hg : gd ops o f.r = some true) (A : ActRel h.length ρ N f a) {x : Operand} {t : TypeId} {ok : Bool} (hop : o.op = .recv t x ok)
    {dir : ChanDir} {e : TypeId} (hu : P.underlying t = some (.chan dir e)) {ie : TypeInfo} (hi : P.info? e = some ie) {z : Value} (hz : ie.zero = some z) {c : Nat} (hx : ev f.r x = .chan (some c)) (w : World) :
    stepG P main (G (b.at a (.inRegion ops (i :: rest) :: K)) cs) w = .comm (G (b.at a (.inRegion ops (i :: rest) :: K)) cs) #[rcase (ρ.blk c) z] true (.recv ok) w #[] := by
  have hw := gd_wanted A hg
  have hnd : ∀ c, o.op ≠ .defer c := fun c e => by rw [hop] at e; cases e
  have hk' : (b.kind == CallKind.early) = false := by simpa using hk
  obtain ⟨hok, hv⟩ := (ev_rel A.regs x).val (by rw [hx]; simp [unk])
  rw [hx] at hv
  simp only [ren] at hv
  have hrun : RunsTo P (fun _ => False) (execOp a.eval o) w fun nx w' => nx = .comm #[rcase (ρ.blk c) z] true (.recv ok) ∧ w' = w := by
    unfold execOp
    rw [hop]
    simp only
    refine RunsTo.bind (RunsTo.underlying hu ?_)
    simp only
    refine RunsTo.bind (RunsTo.zeroValue hi hz (RunsTo.pure ⟨?_, rfl⟩))
    rw [hv]
    rfl
  obtain ⟨nx, w', hr, rfl, rfl⟩ := quiet_run hrun
  rw [stepG_op ho hw hnd]
  simp only [stepG.apply, hr, if_true]
  simp [FB.at, hk', GStep.after, G, seen]
theorem stepG_send (hk : b.kind ≠ .early) (ho : ops[i]? = some o) (hg : gd ops o f.r = some true) (A : ActRel h.length ρ N f a) {x y : Operand} (hop : o.op = .send x y) {c : Nat} (hx : ev f.r x = .chan (some c)) {v : Value} (hy : ev f.r y = v) (hv : v ≠ unk) (w : World) :
    stepG P main (G (b.at a (.inRegion ops (i :: rest) :: K)) cs) w = .comm (G (b.at a (.inRegion ops (i :: rest) :: K)) cs) #[scase (ρ.blk c) (ren ρ v) (.tuple #[])] true .send w #[] := by
  have hw := gd_wanted A hg
  have hnd : ∀ c, o.op ≠ .defer c := fun c e => by rw [hop] at e; cases e
  have hk' : (b.kind == CallKind.early) = false := by simpa using hk
  have hxv := ((ev_rel A.regs x).val (by rw [hx]; simp [unk])).2
  have hyv := ((ev_rel A.regs y).val (by rw [hy]; exact hv)).2
  rw [hx] at hxv
  rw [hy] at hyv
  simp only [ren] at hxv
  have hr : (execOp a.eval o).runT P w #[] = (.ok (.comm #[scase (ρ.blk c) (ren ρ v) (.tuple #[])] true .send) w, #[]) := by
    unfold execOp
    rw [hop]
    simp only [hxv, hyv]
    rfl
  rw [stepG_op ho hw hnd]
  simp only [stepG.apply, hr, if_true]
  simp [FB.at, hk', GStep.after, G, seen]
theorem served_at (v : Value) : Conc.served (G (b.at a (.inRegion ops (i :: rest) :: K)) cs) v = G (b.at (a.put ((ops[i]?).bind (·.dst)) v) (.inRegion ops rest :: K)) cs := by
  rw [← FB.finish_at]
  rfl
theorem go_step (hk : b.kind ≠ .early) (ho : ops[i]? = some o) (hg : gd ops o f.r = some true) (A : ActRel h.length ρ N f a) {x : Operand} {ats : Array TypeId} (hop : o.op = .go { callee := .value x, args := #[], argTypes := ats })
    {g : FuncId} {cap : List Value} (hx : ev f.r x = .func (.func g) ⟨[]⟩ ⟨cap⟩) (hcl : callable P g = true) {k : Nat} (hkp : k ∉ T.pend) (hown : T.ch T.c = some (0, #[], false))
    (hto : ∀ w₁, RelyW ft w w₁ → Toward P (AtSend P T.c (T.phi k)) (G (Frame.enter P g ⟨cap.map (ren ρ)⟩ .deferred) [base0 P]) w₁ ft.lend)
    (hJ : ∀ w₁, RelyW ft w w₁ → JC P W0 Post (T.more k) (G (b.at (a.put o.dst undef) (.inRegion ops rest :: K)) cs) w₁ ft.lend) :
    JC P W0 Post T (G (b.at a (.inRegion ops (i :: rest) :: K)) cs) w ft :=
  JC.spawn rfl hkp hown fun w₁ h₁ => ⟨_, _, stepG_go hk ho hg A hop hx w₁, born_toward rfl hcl (hto w₁ h₁), hJ w₁ h₁⟩
theorem recv_step (hk : b.kind ≠ .early) (ho : ops[i]? = some o) (hg : gd ops o f.r = some true) (A : ActRel h.length ρ N f a) {x : Operand} {t : TypeId} {ok : Bool} (hop : o.op = .recv t x ok)
    {dir : ChanDir} {e : TypeId} (hu : P.underlying t = some (.chan dir e)) {ie : TypeInfo} (hi : P.info? e = some ie) {z : Value} (hz : ie.zero = some z) {c : Nat} (hx : ev f.r x = .chan (some c)) (hc : ρ.blk c = T.c) (hp : T.pend ≠ [])
    (hN : ∀ k ∈ T.pend, ∀ v, T.phi k v → ∀ w₁, RelyW ft w w₁ → JC P W0 Post (T.less k) (G (b.at (a.put o.dst (recvd ok v true)) (.inRegion ops rest :: K)) cs) w₁ ft) :
    JC P W0 Post T (G (b.at a (.inRegion ops (i :: rest) :: K)) cs) w ft :=
  JC.recv rfl hp fun w₁ h₁ => ⟨_, z, by rw [← hc]; exact stepG_recv hk ho hg A hop hu hi hz hx w₁, fun k hk v hv => by
    rw [served_at, ho]
    exact hN k hk v hv w₁ h₁⟩
theorem send_stop (hk : b.kind = .deferred) (hr : b.ro = none) (ho : ops[i]? = some o) (hg : gd ops o f.r = some true) (A : ActRel h.length ρ N f a) (hds : f.ds = []) {x y : Operand} (hop : o.op = .send x y) (hdst : o.dst = none) {c : Nat} (hx : ev f.r x = .chan (some c)) (hc : ρ.blk c = T.c) {v : Value} (hy : ev f.r y = v) (hv : v ≠ unk)
    {k : Nat} (hphi : T.phi k (ren ρ v)) {fn : Func} (hf : P.funcs[b.fn]? = some fn) (hres : fn.results = #[]) (hca : (base0 P).catches P = false) :
    Toward P (AtSend P T.c (T.phi k)) (G (b.at a [.inRegion ops [i]]) [base0 P]) w ft :=
  .stop rfl fun w₁ _ => ⟨_, _, _, by rw [← hc]; exact stepG_send (by rw [hk]; simp) ho hg A hop hx hy hv w₁, hphi, 4, by
    rw [served_at, ho]
    simp only [Option.bind_some, hdst]
    exact worker_quits hk hr (by simp [Act.put, A.defers, hds]) hf hres hca⟩
end
def frzO : AObj → AObj
  | .cells c _ sz => .cells c false sz
  | .map es _ => .map es false
  | _ => .dead
def frz (h : List AObj) : List AObj := h.map frzO
def unchO : AObj → AObj
  | .chan _ => .dead
  | o => o
def unch (h : List AObj) : List AObj := h.map unchO
def Chs (ρ : Env) (h : List AObj) (b : Nat) : Prop := ∃ i cap, h[i]? = some (.chan cap) ∧ ρ.blk i = b
open Classical in
/-- All that is ours, but the channels, stays as it is. -/
noncomputable def keepF (ρ : Env) (h : List AObj) (w : World) (ft : Foot) : Frm := ⟨fun b => if ft.rd b ∧ ¬ Chs ρ h b then w.heap[b]? else none, fun _ => False⟩
def lentF (ρ : Env) (h : List AObj) (ft : Foot) : Foot := ⟨fun b => ft.rd b ∧ ¬ Chs ρ h b, fun _ => False⟩
section
variable {ρ ρ' : Env} {h h' g : List AObj} {FC : Frm} {w w' : World} {ft ft' : Foot}
theorem frz_len : (frz h).length = h.length := by simp [frz]
theorem frz_get {i : Nat} {o : AObj} (e : (frz h)[i]? = some o) : ∃ x, h[i]? = some x ∧ frzO x = o := by
  unfold frz at e
  rw [List.getElem?_map] at e
  exact Option.map_eq_some_iff.1 e
theorem frz_wrt (o : AObj) : (frzO o).wrt = false := by cases o <;> rfl
theorem frz_live {o : AObj} (hl : (frzO o).live = true) : o.live = true ∧ ∀ cap, o ≠ .chan cap := by
  cases o <;> first | (cases hl; done) | exact ⟨rfl, fun _ e => by cases e⟩
theorem unch_len : (unch h).length = h.length := by simp [unch]
theorem not_chs (H : HRel ρ h FC w ft) {i : Nat} {o : AObj} (hi : h[i]? = some o) (hl : o.live = true) (hn : ∀ cap, o ≠ .chan cap) : ¬ Chs ρ h (ρ.blk i) := by
  rintro ⟨j, cap, hj, e⟩
  have := H.inj i j _ _ hi hj hl rfl e.symm
  subst this
  rw [hi] at hj
  cases hj
  exact hn cap rfl
theorem frz_orel {n b : Nat} {o : AObj} {x : Option Obj} (ho : ORel n ρ b o x) : ORel n ρ b (frzO o) x := by
  cases o with
  | cells c wr sz =>
    match x, ho with
    | some (.cells c' ty fr), ho =>
      obtain ⟨h1, h2, h3, _⟩ := ho
      exact ⟨fun i v hv => (h1 i v hv).imp (fun e => ⟨e.1, rfl⟩) id, h2, h3, fun e => by cases e⟩
  | map es wr =>
    match x, ho with
    | some (.map es' ty), ho => exact ho
  | _ => trivial
theorem frz_rel (H : HRel ρ h FC w ft) : HRel ρ (frz h) (keepF ρ h w ft) w (lentF ρ h ft) where
  obj := fun i o hi => by
    obtain ⟨x, hx, rfl⟩ := frz_get hi
    rw [frz_len]
    exact frz_orel (H.obj i x hx)
  inj := fun i j o o' hi hj l l' e => by
    obtain ⟨x, hx, rfl⟩ := frz_get hi
    obtain ⟨y, hy, rfl⟩ := frz_get hj
    exact H.inj i j x y hx hy (frz_live l).1 (frz_live l').1 e
  rd := fun i o hi l => by
    obtain ⟨x, hx, rfl⟩ := frz_get hi
    exact ⟨H.rd i x hx (frz_live l).1, not_chs H hx (frz_live l).1 (frz_live l).2⟩
  wr := fun i o hi l => by
    obtain ⟨x, hx, rfl⟩ := frz_get hi
    rw [frz_wrt] at l
    cases l
  lt := fun b hb => H.lt b hb.1
  sub := fun _ hb => hb.elim
  kept := fun b o hb => by
    unfold keepF at hb
    simp only at hb
    split at hb
    · rename_i hc
      refine ⟨hb, hc, fun i oi hi l => ?_⟩
      obtain ⟨x, hx, rfl⟩ := frz_get hi
      rw [frz_wrt] at l
      cases l
    · cases hb
  keptW := fun _ hb => hb.elim
theorem lend_rel (H : HRel ρ h FC w ft) (hn : ∀ o ∈ h, o.wrt = false) (hw : ∀ b, ¬ FC.wr b) : HRel ρ h FC w ft.lend where
  obj := H.obj
  inj := H.inj
  rd := H.rd
  wr := fun i o hi l => by rw [hn o (List.mem_of_getElem? hi)] at l; cases l
  lt := H.lt
  sub := fun _ hb => hb.elim
  kept := H.kept
  keptW := fun b hb => (hw b hb).elim
def thawF (ρ : Env) (h : List AObj) (ft ft' : Foot) : Foot := ⟨fun b => ft'.rd b ∨ Chs ρ h b, fun b => ft.wr b ∨ ft'.wr b⟩
theorem keep_ob (H : HRel ρ h FC w ft) {b : Nat} (hr : ft.rd b) (hc : ¬ Chs ρ h b) : (keepF ρ h w ft).ob b = w.heap[b]? := if_pos ⟨hr, hc⟩
theorem thaw_rel (H : HRel ρ h FC w ft) (H' : HRel ρ' (frz h ++ g) (keepF ρ h w ft) w' ft') (hu : Env.upto h.length ρ ρ') (hg : ∀ o ∈ g, o.live = true → o.wrt = true) (hs : ∀ b, Chs ρ h b → b < w'.heap.size) :
    HRel ρ' (unch h ++ g) FC w' (thawF ρ h ft ft') ∧ (∀ b, (thawF ρ h ft ft').wr b → (thawF ρ h ft ft').rd b) := by
  have stay : ∀ b, ft.rd b → ¬ Chs ρ h b → w'.heap[b]? = w.heap[b]? ∧ ft'.rd b ∧ ∀ (a : Nat) (oa : AObj), (frz h ++ g)[a]? = some oa → oa.wrt = true → ρ'.blk a ≠ b := fun b hr hc => by
    have hlt := H.lt b hr
    have := H'.kept b w.heap[b] (by rw [keep_ob H hr hc, Array.getElem?_eq_getElem hlt])
    exact ⟨by rw [this.1, Array.getElem?_eq_getElem hlt], this.2⟩
  have hblk : ∀ i o, h[i]? = some o → ρ'.blk i = ρ.blk i := fun i o hi => (hu i (List.getElem?_eq_some_iff.1 hi).1).1
  -- what is met in the heap
  have get : ∀ {i : Nat} {o : AObj}, (unch h ++ g)[i]? = some o → (∃ x, h[i]? = some x ∧ unchO x = o) ∨ (h.length ≤ i ∧ g[i - h.length]? = some o ∧ (frz h ++ g)[i]? = some o) := fun {i o} e => by
    rw [List.getElem?_append] at e
    split at e
    · unfold unch at e
      rw [List.getElem?_map] at e
      exact .inl (Option.map_eq_some_iff.1 e)
    · rename_i hge
      rw [unch_len] at hge e
      exact .inr ⟨by omega, e, by rw [List.getElem?_append_right (by rw [frz_len]; omega), frz_len]; exact e⟩
  have live : ∀ {x : AObj}, (unchO x).live = true → x.live = true ∧ (∀ cap, x ≠ .chan cap) ∧ unchO x = x := fun {x} l => by
    cases x <;> first | (cases l; done) | exact ⟨rfl, (fun _ e => by cases e), rfl⟩
  have wlive : ∀ {o : AObj}, o.wrt = true → o.live = true := fun {o} l => by cases o <;> first | (cases l; done) | rfl
  have old : ∀ {i : Nat} {x : AObj}, h[i]? = some x → (unchO x).live = true → ft.rd (ρ.blk i) ∧ ¬ Chs ρ h (ρ.blk i) := fun {i x} hx l => by
    obtain ⟨l1, l2, _⟩ := live l
    exact ⟨H.rd i x hx l1, not_chs H hx l1 l2⟩
  have hsub : ∀ b, (thawF ρ h ft ft').wr b → (thawF ρ h ft ft').rd b := fun b hb => by
    rcases hb with hb | hb
    · by_cases hc : Chs ρ h b
      · exact .inr hc
      · exact .inl (stay b (H.sub b hb) hc).2.1
    · exact .inl (H'.sub b hb)
  refine ⟨⟨fun i o hi => ?_, fun i j o o' hi hj l l' e => ?_, fun i o hi l => ?_, fun i o hi l => ?_, fun b hb => hb.elim (H'.lt b) (hs b), hsub, fun b o hb => ?_, fun b hb => .inl (H.keptW b hb)⟩, hsub⟩
  · rcases get hi with ⟨x, hx, rfl⟩ | ⟨hge, hgi, hfi⟩
    · by_cases l : (unchO x).live = true
      · obtain ⟨o1, o2⟩ := old hx l
        obtain ⟨_, _, e⟩ := live l
        rw [e, hblk i x hx, (stay _ o1 o2).1]
        have := (H.obj i x hx).congr (m := (unch h ++ g).length) hu (by rw [List.length_append, unch_len]; omega) (List.getElem?_eq_some_iff.1 hx).1
        exact this
      · cases hx' : unchO x <;> rw [hx'] at l <;> first | trivial | exact absurd rfl l
    · have := H'.obj i o hfi
      rw [List.length_append, frz_len] at this
      rw [List.length_append, unch_len]
      exact this
  · rcases get hi with ⟨x, hx, rfl⟩ | ⟨hge, hgi, hfi⟩ <;> rcases get hj with ⟨y, hy, rfl⟩ | ⟨hge', hgj, hfj⟩
    · rw [hblk i x hx, hblk j y hy] at e
      exact H.inj i j x y hx hy (live l).1 (live l').1 e
    · exfalso
      obtain ⟨o1, o2⟩ := old hx l
      refine (stay _ o1 o2).2.2 j o' hfj (hg o' (List.mem_of_getElem? hgj) l') ?_
      rw [← e, hblk i x hx]
    · exfalso
      obtain ⟨o1, o2⟩ := old hy l'
      refine (stay _ o1 o2).2.2 i o hfi (hg o (List.mem_of_getElem? hgi) l) ?_
      rw [e, hblk j y hy]
    · exact H'.inj i j o o' hfi hfj l l' e
  · rcases get hi with ⟨x, hx, rfl⟩ | ⟨hge, hgi, hfi⟩
    · obtain ⟨o1, o2⟩ := old hx l
      rw [hblk i x hx]
      exact .inl (stay _ o1 o2).2.1
    · exact .inl (H'.rd i o hfi l)
  · rcases get hi with ⟨x, hx, rfl⟩ | ⟨hge, hgi, hfi⟩
    · obtain ⟨_, _, e⟩ := live (wlive l)
      rw [e] at l
      rw [hblk i x hx]
      exact .inl (H.wr i x hx l)
    · exact .inr (H'.wr i o hfi l)
  · obtain ⟨a1, a2, a3⟩ := H.kept b o hb
    have hc : ¬ Chs ρ h b := fun ⟨i, cap, hi, e⟩ => a3 i _ hi rfl e
    obtain ⟨s1, s2, s3⟩ := stay b a2 hc
    refine ⟨by rw [s1]; exact a1, .inl s2, fun i oi hi l => ?_⟩
    rcases get hi with ⟨x, hx, rfl⟩ | ⟨hge, hgi, hfi⟩
    · obtain ⟨_, _, e⟩ := live (wlive l)
      rw [e] at l
      rw [hblk i x hx]
      exact a3 i x hx l
    · exact s3 i oi hfi l
end
def At (J : JT) (N : Nat) (b : FB) (cs : List Frame) (FC : Frm) (ρ0 : Env) (m : Nat) (k : List Item) (f : RG) (h : List AObj) : Prop :=
  ∀ (a : Act) (ρ : Env) (w : World) (ft : Foot), ActRel h.length ρ N f a → HRel ρ h FC w ft → Env.upto m ρ0 ρ → m ≤ h.length → J (G (b.at a k) cs) w ft
section
variable {P : Program} {main : Bool} {J : JT} {N m n1 : Nat} {fn : FuncId} {b : FB} {cs : List Frame} {FC : Frm} {ρ0 : Env} {k : List Item} {f : RG} {h : List AObj} {Q : QT} {c x y : Code} {ops : Array Oper} {i : Nat} {rest : List Nat} {o : Oper}
theorem At.ctrl (hJ : Closed P main J) {k' : List Item} (hst : ∀ a w, stepG P main (G (b.at a k) cs) w = .go (G (b.at a k') cs) w #[]) (h' : At J N b cs FC ρ0 m k' f h) : At J N b cs FC ρ0 m k f h :=
  fun a ρ w ft A H hu hm => hJ.ctrl rfl rfl (hst a) (h' a ρ w ft A H hu hm)
theorem At.seq (hJ : Closed P main J) (h' : At J N b cs FC ρ0 m (.code x :: .code y :: k) f h) : At J N b cs FC ρ0 m (.code (.seq x y) :: k) f h :=
  At.ctrl hJ (fun a w => by simp [G, stepG, stepG.exec, FB.at]) h'
theorem At.block (hJ : Closed P main J) {id : Nat} (h' : At J N b cs FC ρ0 m (.code c :: .inBlock id :: k) f h) : At J N b cs FC ρ0 m (.code (.block id c) :: k) f h :=
  At.ctrl hJ (fun a w => by simp [G, stepG, stepG.exec, FB.at]) h'
theorem At.inBlock (hJ : Closed P main J) {id : Nat} (h' : At J N b cs FC ρ0 m k f h) : At J N b cs FC ρ0 m (.inBlock id :: k) f h :=
  At.ctrl hJ (fun a w => by simp [G, stepG, stepG.exec, FB.at]) h'
theorem At.loop (hJ : Closed P main J) (h' : At J N b cs FC ρ0 m (.code c :: .inLoop c :: k) f h) : At J N b cs FC ρ0 m (.code (.loop c) :: k) f h :=
  At.ctrl hJ (fun a w => by simp [G, stepG, stepG.exec, FB.at]) h'
theorem At.inLoop (hJ : Closed P main J) (h' : At J N b cs FC ρ0 m (.code c :: .inLoop c :: k) f h) : At J N b cs FC ρ0 m (.inLoop c :: k) f h :=
  At.ctrl hJ (fun a w => by simp [G, stepG, stepG.exec, FB.at]) h'
theorem At.region (hJ : Closed P main J) {id : Nat} (h' : At J N b cs FC ρ0 m (.inRegion ops (List.range ops.size) :: k) f h) : At J N b cs FC ρ0 m (.code (.region id ops false) :: k) f h :=
  At.ctrl hJ (fun a w => by simp [G, stepG, stepG.exec, FB.at]) h'
theorem At.ops_nil (hJ : Closed P main J) (h' : At J N b cs FC ρ0 m k f h) : At J N b cs FC ρ0 m (.inRegion ops [] :: k) f h :=
  At.ctrl hJ (fun a w => by simp [G, stepG, stepG.exec, FB.at]) h'
theorem At.piece (hb : b.tag = fn) (hk : b.kind ≠ .early) (hs : Sem J N n1 fn c f h Q) (h1 : m ≤ n1) (h2 : n1 ≤ h.length) (hq : ∀ e f' h', Q e f' h' → (e = .normal ∧ At J N b cs FC ρ0 m k f' h') ∨ ∃ id k', e = .exit id ∧ exitTo id k = some k' ∧ At J N b cs FC ρ0 m k' f' h') : At J N b cs FC ρ0 m (.code c :: k) f h := by
  intro a ρ w ft A H hu hm
  refine hs b a k cs (fun _ _ _ _ => False) ρ FC w ft hb hk (fun _ _ _ _ _ hf _ => hf.elim) A H h2 fun e f' h' ρ' w' ft' a' q A' H' hu' hl' => ?_
  have up : Env.upto m ρ0 ρ' := Env.upto_trans hu (Env.upto_le hu' h1)
  rcases hq e f' h' q with ⟨rfl, hat⟩ | ⟨id, k', rfl, hex, hat⟩
  · exact hat a' ρ' w' ft' A' H' up (Nat.le_trans h1 hl')
  · unfold AfterJ
    simp only [hex]
    exact hat a' ρ' w' ft' A' H' up (Nat.le_trans h1 hl')
theorem At.op (hJ : Closed P main J) (hk : b.kind ≠ .early) (ho : ops[i]? = some o) (hd : dstOk N o = true) (hg : gd ops o f.r = some true) (hop : opW P (Good P J) o f.r h fun v h' => h.length ≤ h'.length → At J N b cs FC ρ0 m (.inRegion ops rest :: k) (f.putO o.dst v) h') :
    At J N b cs FC ρ0 m (.inRegion ops (i :: rest) :: k) f h := fun a ρ w ft A H hu hm =>
  step_any hJ hk ho hg (dstOk_lt hd) A H hop fun v h' ρ' w' ft' a' hK A' H' hu' hl' => hK hl' a' ρ' w' ft' A' H' (Env.upto_trans hu (Env.upto_le hu' hm)) (Nat.le_trans hm hl')
theorem At.drop {g : List AObj} {f' : RG} (ok : heapOk h) (hf : ∀ t, f'.r t = unk ∨ (f'.r t = f.r t ∧ VOk h.length (f'.r t))) (hd : f'.ds = f.ds) (hds : ∀ b ∈ f.ds, b < h.length) (hm' : m ≤ h.length) (h' : At J N b cs FC ρ0 m k f' h) : At J N b cs FC ρ0 m k f (h ++ g) := by
  intro a ρ w ft A H hu hm
  have gc := gc_drop (g := g) ok (Nat.le_refl h.length)
  have hcomp : ρ.comp id = ρ := rfl
  have H2 := gc.rel H
  rw [hcomp] at H2
  refine h' a ρ w ft ⟨fun t => ?_, A.size, by rw [hd]; exact A.defers, by rw [hd]; exact hds⟩ H2 hu hm'
  rcases hf t with e | ⟨e, hv⟩
  · exact .inl e
  · rcases A.regs t with e2 | ⟨_, e2⟩
    · exact .inl (e.trans e2)
    · exact .inr ⟨hv, by rw [e2, e]⟩
end
section
variable {P : Program} {W0 : World} {Post : Value → World → Prop} {T : Crew} {N m : Nat} {b : FB} {cs : List Frame} {FC : Frm} {ρ0 : Env} {K : List Item} {f : RG} {h : List AObj} {ops : Array Oper} {i : Nat} {rest : List Nat} {o : Oper}
theorem At.go (hk : b.kind ≠ .early) (ho : ops[i]? = some o) (hg : gd ops o f.r = some true) {x : Operand} {ats : Array TypeId} (hop : o.op = .go { callee := .value x, args := #[], argTypes := ats }) (hdst : o.dst = none)
    {g : FuncId} {cap : List Value} (hx : ev f.r x = .func (.func g) ⟨[]⟩ ⟨cap⟩) (hcl : callable P g = true) {k : Nat} (hkp : k ∉ T.pend) (hown : T.ch T.c = some (0, #[], false))
    {h0 hd : List AObj} (hh : h = h0 ++ hd) (hn : ∀ o ∈ h0, o.wrt = false) (hw : ∀ b, ¬ FC.wr b) (ok : heapOk h0) (hm0 : m ≤ h0.length)
    (hto : ∀ (ρ : Env) (w : World) (ft : Foot), HRel ρ (frz h) (keepF ρ h w ft) w ft.lend → Env.upto m ρ0 ρ → Toward P (AtSend P T.c (T.phi k)) (G (Frame.enter P g ⟨cap.map (ren ρ)⟩ .deferred) [base0 P]) w ft.lend)
    (hnc : ∀ cap, .chan cap ∉ h)
    {f' : RG} (hf : ∀ t, f'.r t = unk ∨ (f'.r t = f.r t ∧ VOk h0.length (f'.r t))) (hfd : f'.ds = f.ds) (hds : ∀ b ∈ f.ds, b < h0.length)
    (hJ : At (JC P W0 Post (T.more k)) N b cs FC ρ0 m (.inRegion ops rest :: K) f' h0) :
    At (JC P W0 Post T) N b cs FC ρ0 m (.inRegion ops (i :: rest) :: K) f h := by
  intro a ρ w ft A H hu hm
  have nc : ∀ b, ¬ Chs ρ h b := fun b ⟨j, cap, hj, _⟩ => hnc cap (List.mem_of_getElem? hj)
  refine go_step hk ho hg A hop hx hcl hkp hown (fun w₁ h₁ => ?_) fun w₁ h₁ => ?_
  · have hlf : lentF ρ h ft = ft.lend := by
      unfold lentF Foot.lend
      simp only [Foot.mk.injEq, and_true]
      funext b
      simp [nc b]
    have hfr := frz_rel (H.rely h₁)
    rw [hlf] at hfr
    exact hto ρ w₁ ft hfr hu
  · subst hh
    have gc := gc_drop (g := hd) ok (Nat.le_refl h0.length)
    have H2 := gc.rel (H.rely h₁)
    rw [show ρ.comp id = ρ from rfl] at H2
    refine hJ _ ρ w₁ ft.lend ⟨fun t => ?_, by simp [Act.put, hdst, A.size], by simp [Act.put, hdst, hfd, A.defers], by rw [hfd]; exact hds⟩ (lend_rel H2 hn hw) hu hm0
    simp only [Act.put, hdst]
    rcases hf t with e | ⟨e, hv⟩
    · exact .inl e
    · rcases A.regs t with e2 | ⟨_, e2⟩
      · exact .inl (e.trans e2)
      · exact .inr ⟨hv, by rw [e2, e]⟩
theorem At.recv (hk : b.kind ≠ .early) (ho : ops[i]? = some o) (hd : dstOk N o = true) (hg : gd ops o f.r = some true) {x : Operand} {t : TypeId} {ok : Bool} (hop : o.op = .recv t x ok)
    {dir : ChanDir} {e : TypeId} (hu : P.underlying t = some (.chan dir e)) {ie : TypeInfo} (hi : P.info? e = some ie) {z : Value} (hz : ie.zero = some z) {c : Nat} (hx : ev f.r x = .chan (some c)) (hcm : c < m) (hc : ρ0.blk c = T.c) (hp : T.pend ≠ [])
    (hN : ∀ k ∈ T.pend, ∀ v, T.phi k v → ∃ v0, v = v0 ∧ VOk 0 v0 ∧ At (JC P W0 Post (T.less k)) N b cs FC ρ0 m (.inRegion ops rest :: K) (f.putO o.dst (recvd ok v0 true)) h) :
    At (JC P W0 Post T) N b cs FC ρ0 m (.inRegion ops (i :: rest) :: K) f h := by
  intro a ρ w ft A H hu' hm
  refine recv_step hk ho hg A hop hu hi hz hx (by rw [(hu' c hcm).1]; exact hc) hp fun k hkm v hv w₁ h₁ => ?_
  obtain ⟨v0, rfl, hv0, hat⟩ := hN k hkm v hv
  refine hat _ ρ w₁ ft (act_put A (dstOk_lt hd) (.inr ?_)) (H.rely h₁) hu' hm
  have h0 : VOk 0 (recvd ok v true) := by
    unfold recvd
    cases ok
    · exact hv0
    · simp [VOk, AOk, LOk, hv0]
  exact ⟨VOk.mono (Nat.zero_le _) _ h0, (ren0 _ h0).symm⟩
end
def Crew.put (T : Crew) (b : Nat) (y : Nat × Array Value × Bool) : Crew := { T with ch := putAt T.ch b (some y) }
section
variable {P : Program} {W0 : World} {Post : Value → World → Prop} {T : Crew} {g g0 : Goroutine} {w w₁ w' : World} {ft : Foot} {gs gs' : Array Goroutine} {t : Trace} {st st' : Nat → WS} {ix : Nat → Nat} {i k : Nat} {sl : Option (Nat × Nat)}
theorem setChan_heap (w : World) (c cap : Nat) (buf : Array Value) (cl : Bool) (s r : Nat) (tm : Bool) (b : Nat) : (w.setChan c cap buf cl s r tm).heap[b]? = if b = c ∧ c < w.heap.size then some (.chan cap buf cl s r tm) else w.heap[b]? := by
  unfold World.setChan
  by_cases h : c = b
  · subst h
    by_cases hl : c < w.heap.size
    · simp [hl]
    · simp [hl]
  · rw [if_neg (fun e => h e.1.symm)]
    simp [Array.getElem?_setIfInBounds_ne h]
theorem Inv.turn (I : Inv P W0 T ft gs w t st ix) {b : Nat} {x y : Nat × Array Value × Bool} (hb : T.ch b = some x) (hne : T.pend ≠ [] → b ≠ T.c) {s r : Nat} {tm : Bool} (hsr : s = r + y.2.1.size) (hs : gs'.size = gs.size) (ho : ∀ j, 0 < j → gs'[j]? = gs[j]?)
    {u : Trace} (hmu : ∀ op ∈ u, op.act.touch? = none) (hq : ∀ j, ∀ op ∈ u, ∀ d, deafStep j d op = d) (hlow : ∀ op ∈ u, op.act.low w.heap.size) : Inv P W0 (T.put b y) ft gs' (w.setChan b y.1 y.2.1 y.2.2 s r tm) (t ++ u) st ix := by
  have hd := fun j => Deaf_quiet (t := t) (hq j)
  have hblt : b < w.heap.size := by
    obtain ⟨_, _, _, e⟩ := I.chan b x hb
    exact (Array.getElem?_eq_some_iff.1 e).1
  have hpas := fun a => setChan_heap w b y.1 y.2.1 y.2.2 s r tm a
  have heap : ∀ a, a ≠ b → (w.setChan b y.1 y.2.1 y.2.2 s r tm).heap[a]? = w.heap[a]? := fun a ha => by
    rw [hpas, if_neg (fun e => ha e.1)]
  have hsz : (w.setChan b y.1 y.2.1 y.2.2 s r tm).heap.size = w.heap.size := by simp [World.setChan]
  have rel : ∀ {f : Foot}, ¬ f.rd b → RelyW f w (w.setChan b y.1 y.2.1 y.2.2 s r tm) := fun hn =>
    ⟨fun a ha => heap a fun e => hn (e ▸ ha), by rw [hsz]; exact Nat.le_refl _, rfl, rfl, rfl⟩
  have hch : ∀ a z, (T.put b y).ch a = some z → ∃ z', T.ch a = some z' := fun a z ha => by
    by_cases e : a = b
    · exact ⟨x, e ▸ hb⟩
    · unfold Crew.put at ha
      dsimp only at ha
      rw [putAt_ne _ _ e] at ha
      exact ⟨z, ha⟩
  refine { base := ⟨I.base.tape, I.base.os, I.base.output, by rw [hsz]; exact I.base.size⟩, lt := fun a ha => by rw [hsz]; exact I.lt a ha, sub := I.sub, chan := fun a z ha => ?_, cnt := fun a z s' r' tm' ha hw => ?_, chft := fun a z ha => ?_, own := fun hp => ?_, nd := I.nd, ixr := fun l hl => by rw [hs]; exact I.ixr l hl, inj := I.inj, pnd := fun l hl => ?_, old := fun j z hj hz hnj => ?_, disj := I.disj, above := fun j hj => by rw [hd]; exact I.above j (by omega), hears := by rw [hd]; exact I.hears, clean := fun said => noRace_appendMute (I.clean said) hmu, known := I.known.mute hmu, done := done_mute I.done hmu, seen := by rw [hsz]; exact seen_app I.seen hlow }
  · by_cases e : a = b
    · subst e
      have : z = y := by
        unfold Crew.put at ha
        dsimp only at ha
        rw [putAt_self] at ha
        exact (Option.some.inj ha).symm
      subst this
      exact ⟨_, _, _, by rw [hpas, if_pos ⟨rfl, hblt⟩]⟩
    · rw [heap a e]
      unfold Crew.put at ha
      dsimp only at ha
      rw [putAt_ne _ _ e] at ha
      exact I.chan a z ha
  · by_cases e : a = b
    · subst e
      have : z = y := by
        unfold Crew.put at ha
        dsimp only at ha
        rw [putAt_self] at ha
        exact (Option.some.inj ha).symm
      subst this
      rw [hpas, if_pos ⟨rfl, hblt⟩] at hw
      simp only [Option.some.injEq, Obj.chan.injEq] at hw
      obtain ⟨_, _, _, rfl, rfl, _⟩ := hw
      exact hsr
    · rw [heap a e] at hw
      unfold Crew.put at ha
      dsimp only at ha
      rw [putAt_ne _ _ e] at ha
      exact I.cnt a z s' r' tm' ha hw
  · obtain ⟨z', hz⟩ := hch a z ha
    exact I.chft a z' hz
  · unfold Crew.put
    dsimp only
    rw [putAt_ne _ _ (Ne.symm (hne hp))]
    exact I.own hp
  · obtain ⟨z, h1, h2, h3⟩ := I.pnd l hl
    refine ⟨z, by rw [ho _ (I.ixr l hl).1]; exact h1, by rw [hd]; exact h2, h3.imp (fun ⟨wl, fl, e, V⟩ => ⟨wl, fl, e, V.way, V.rely.trans (rel (V.ch b x hb)), fun a ha => by rw [hsz]; exact V.lt a ha, V.sub, fun a z ha => ?_, V.d1, V.d2, V.know.mute hmu⟩) id⟩
    obtain ⟨z', hz⟩ := hch a z ha
    exact V.ch a z' hz
  · rw [ho j hj] at hz
    obtain ⟨n, e, h⟩ := I.old j z hj hz hnj
    exact ⟨n, e, by rw [hd]; exact h⟩
theorem setChan_rely {f : Foot} {c cap s r : Nat} {buf : Array Value} {cl tm : Bool} (hn : ¬ f.rd c) : RelyW f w (w.setChan c cap buf cl s r tm) :=
  ⟨fun b hb => by
    have hne : b ≠ c := fun e => hn (e ▸ hb)
    rw [setChan_heap, if_neg (fun e => hne e.1)], by simp [World.setChan], rfl, rfl, rfl⟩
theorem JC.room (hrun : g.status = .running) {b cap : Nat} {buf : Array Value} (hb : T.ch b = some (cap, buf, false)) (hne : T.pend ≠ [] → b ≠ T.c) (hroom : buf.size < cap) {v : Value}
    (h : ∀ w₁, RelyW ft w w₁ → ∃ g₂ z, stepG P true g w₁ = .comm g₂ #[scase b v z] true .send w₁ #[] ∧ JC P W0 Post (T.put b (cap, buf.push v, false)) (Conc.served g₂ undef) w₁ ft) : JC P W0 Post T g w ft :=
  JC.main hrun fun gs w₁ sl t st ix hrel h0 I => by
    obtain ⟨g₂, z, hgo, hN⟩ := h w₁ hrel
    obtain ⟨s, r, tm, hc⟩ := I.chan _ _ hb
    have hlt0 : 0 < gs.size := (Array.getElem?_eq_some_iff.1 h0).1
    have hlt : b < w₁.heap.size := (Array.getElem?_eq_some_iff.1 hc).1
    have hsr : s = r + buf.size := I.cnt _ _ s r tm hb hc
    have hr := crowd_send_room (P := P) (sl := sl) (gs := gs) (w := w₁) (w₁ := w₁) (i := 0) h0 (show stepG P (0 == 0) _ w₁ = _ from hgo) hc hroom (partners_nil fun j y hy => by
      rcases getElem?_stand _ _ _ _ hy with ⟨_, rfl⟩ | ⟨hj, hy⟩
      · rfl
      · exact I.noRecv (by omega) hy _)
    refine ⟨_, _, hr, ?_⟩
    rw [finishComm_send, evs_front]
    refine hN _ _ sl _ st ix (setChan_rely (I.chft _ _ hb)) (Array.getElem?_setIfInBounds_self_of_lt hlt0) (I.turn (y := (cap, buf.push v, false)) hb hne (by simp; omega) (by simp) (fun j hj => Array.getElem?_setIfInBounds_ne (by omega)) ?_ ?_ ?_)
    · intro op hop
      simp only [List.mem_toArray, List.mem_cons, List.not_mem_nil, or_false] at hop
      rcases hop with rfl | rfl <;> rfl
    · intro j op hop d
      simp only [List.mem_toArray, List.mem_cons, List.not_mem_nil, or_false] at hop
      rcases hop with rfl | rfl <;> rfl
    · intro op hop
      simp only [List.mem_toArray, List.mem_cons, List.not_mem_nil, or_false] at hop
      rcases hop with rfl | rfl <;> exact hlt
theorem Inv.noSend (I : Inv P W0 T ft gs w t st ix) (hp : T.pend = []) {j : Nat} {y : Goroutine} (hj : 0 < j) (hy : gs[j]? = some y) (c : Nat) (sd : Bool) : offersAt y c sd = [] := by
  obtain ⟨n, _, hq⟩ := I.old j _ hj hy fun k hk => by rw [hp] at hk; cases hk
  exact offersAt_of_not_blocked (by rcases hq.status with h | h <;> rw [h] <;> simp) _ _
theorem JC.take (hrun : g.status = .running) (hp : T.pend = []) {b cap : Nat} {buf : Array Value} {cl : Bool} (hb : T.ch b = some (cap, buf, cl)) (hsome : 0 < buf.size) {ok : Bool}
    (h : ∀ w₁, RelyW ft w w₁ → ∃ g₂ z, stepG P true g w₁ = .comm g₂ #[rcase b z] true (.recv ok) w₁ #[] ∧ JC P W0 Post (T.put b (cap, buf.extract 1 buf.size, cl)) (Conc.served g₂ (recvd ok (buf.getD 0 undef) true)) w₁ ft) : JC P W0 Post T g w ft :=
  JC.main hrun fun gs w₁ sl t st ix hrel h0 I => by
    obtain ⟨g₂, z, hgo, hN⟩ := h w₁ hrel
    obtain ⟨s, r, tm, hc⟩ := I.chan _ _ hb
    have hlt0 : 0 < gs.size := (Array.getElem?_eq_some_iff.1 h0).1
    have hlt : b < w₁.heap.size := (Array.getElem?_eq_some_iff.1 hc).1
    have hsr : s = r + buf.size := I.cnt _ _ s r tm hb hc
    have hr := crowd_recv_buf (P := P) (sl := sl) (gs := gs) (w := w₁) (w₁ := w₁) (i := 0) h0 (show stepG P (0 == 0) _ w₁ = _ from hgo) hc hsome (partners_nil fun j y hy => by
      rcases getElem?_stand _ _ _ _ hy with ⟨_, rfl⟩ | ⟨hj, hy⟩
      · rfl
      · exact I.noSend hp (by omega) hy _ _)
    refine ⟨_, _, hr, ?_⟩
    rw [finishComm_recv, evs_front]
    refine hN _ _ sl _ st ix (setChan_rely (I.chft _ _ hb)) (Array.getElem?_setIfInBounds_self_of_lt hlt0) (I.turn (y := (cap, buf.extract 1 buf.size, cl)) hb (fun h => absurd hp h) (by simp; omega) (by simp) (fun j hj => Array.getElem?_setIfInBounds_ne (by omega)) ?_ ?_ ?_)
    · intro op hop
      simp only [List.mem_toArray, List.mem_cons, List.not_mem_nil, or_false] at hop
      rcases hop with rfl | rfl <;> rfl
    · intro j op hop d
      simp only [List.mem_toArray, List.mem_cons, List.not_mem_nil, or_false] at hop
      rcases hop with rfl | rfl <;> rfl
    · intro op hop
      simp only [List.mem_toArray, List.mem_cons, List.not_mem_nil, or_false] at hop
      rcases hop with rfl | rfl <;> exact hlt
theorem setChan_same {b cap s r : Nat} {buf : Array Value} {cl tm : Bool} (hc : w.heap[b]? = some (.chan cap buf cl s r tm)) : w.setChan b cap buf cl s r tm = w := by
  unfold World.setChan
  have : w.heap.setIfInBounds b (.chan cap buf cl s r tm) = w.heap := by
    apply Array.ext_getElem?
    intro j
    by_cases e : b = j
    · subst e
      rw [hc, Array.getElem?_setIfInBounds_self_of_lt (Array.getElem?_eq_some_iff.1 hc).1]
    · rw [Array.getElem?_setIfInBounds_ne e]
  rw [this]
theorem put_same {b : Nat} {x : Nat × Array Value × Bool} (hb : T.ch b = some x) : T.put b x = T := by
  unfold Crew.put
  have : putAt T.ch b (some x) = T.ch := by
    funext j
    by_cases e : j = b
    · subst e
      rw [putAt_self, hb]
    · rw [putAt_ne _ _ e]
  rw [this]
theorem JC.drained (hrun : g.status = .running) (hp : T.pend = []) {b cap : Nat} (hb : T.ch b = some (cap, #[], true)) {ok : Bool} {z : Value}
    (h : ∀ w₁, RelyW ft w w₁ → ∃ g₂, stepG P true g w₁ = .comm g₂ #[rcase b z] true (.recv ok) w₁ #[] ∧ JC P W0 Post T (Conc.served g₂ (recvd ok z false)) w₁ ft) : JC P W0 Post T g w ft :=
  JC.main hrun fun gs w₁ sl t st ix hrel h0 I => by
    obtain ⟨g₂, hgo, hN⟩ := h w₁ hrel
    obtain ⟨s, r, tm, hc⟩ := I.chan _ _ hb
    have hlt0 : 0 < gs.size := (Array.getElem?_eq_some_iff.1 h0).1
    have hlt : b < w₁.heap.size := (Array.getElem?_eq_some_iff.1 hc).1
    have hsr := I.cnt _ _ s r tm hb hc
    have hr := crowd_recv_closed (P := P) (sl := sl) (gs := gs) (w := w₁) (w₁ := w₁) (i := 0) h0 (show stepG P (0 == 0) _ w₁ = _ from hgo) hc (partners_nil fun j y hy => by
      rcases getElem?_stand _ _ _ _ hy with ⟨_, rfl⟩ | ⟨hj, hy⟩
      · rfl
      · exact I.noSend hp (by omega) hy _ _)
    refine ⟨_, _, hr, ?_⟩
    rw [finishComm_recv, evs_front]
    have I2 := I.turn (y := (cap, #[], true)) (s := s) (r := r) (tm := tm) (gs' := gs.setIfInBounds 0 (Conc.served g₂ (recvd ok z false))) (u := #[{ g := 0, fn := g₂.frame.fn, pos := g₂.frame.place, act := .recvClosed b }]) hb (fun h => absurd hp h) hsr (by simp) (fun j hj => Array.getElem?_setIfInBounds_ne (by omega)) (by
      intro op hop
      simp only [List.mem_toArray, List.mem_cons, List.not_mem_nil, or_false] at hop
      subst hop
      rfl) (by
      intro j op hop d
      simp only [List.mem_toArray, List.mem_cons, List.not_mem_nil, or_false] at hop
      subst hop
      rfl) (by
      intro op hop
      simp only [List.mem_toArray, List.mem_cons, List.not_mem_nil, or_false] at hop
      subst hop
      exact hlt)
    dsimp only at I2
    rw [setChan_same hc, put_same hb] at I2
    exact hN _ _ sl _ st ix (RelyW.refl _ _) (Array.getElem?_setIfInBounds_self_of_lt hlt0) I2
theorem Inv.all (I : Inv P W0 T ft gs w t st ix) (hp : T.pend = []) : ∀ i a, touchAt t i = some a → a.loc.isMemory = true → Knows t 0 i := fun i a ha hm => by
  rcases I.done i a ha hm with h | ⟨k, hk, _⟩
  · exact h
  · rw [hp] at hk
    cases hk
theorem Inv.turn0 (I : Inv P W0 T ft gs w t st ix) (hp : T.pend = []) {b : Nat} {x y : Nat × Array Value × Bool} (hb : T.ch b = some x) {s r : Nat} {tm : Bool} (hsr : s = r + y.2.1.size) (hs : gs'.size = gs.size) (ho : ∀ j, 0 < j → gs'[j]? = gs[j]?)
    {u : Trace} (hg0 : ∀ op ∈ u, op.g = 0) (hq : ∀ j, ∀ op ∈ u, ∀ d, deafStep j d op = d) (hlow : ∀ op ∈ u, op.act.low w.heap.size) : Inv P W0 (T.put b y) ft gs' (w.setChan b y.1 y.2.1 y.2.2 s r tm) (t ++ u) st ix := by
  have J := I.turn (u := #[]) (y := y) (tm := tm) hb (fun h => absurd hp h) hsr hs ho (by simp) (by simp) (by simp)
  have e0 : t ++ (#[] : Trace) = t := by simp
  rw [e0] at J
  have hd := fun j => Deaf_quiet (t := t) (hq j)
  have kn := I.all hp
  have hsz : (w.setChan b y.1 y.2.1 y.2.2 s r tm).heap.size = w.heap.size := by simp [World.setChan]
  have know : ∀ i a, touchAt (t ++ u) i = some a → a.loc.isMemory = true → Knows (t ++ u) 0 i := fun i a ha hm => by
    rcases touch_app ha with ⟨_, h⟩ | ⟨op, hop, hg, h⟩
    · exact (kn i a h hm).app _
    · have := knows_own hg
      rw [hg0 op hop] at this
      exact this
  refine ⟨J.base, J.lt, J.sub, J.chan, J.cnt, J.chft, J.own, J.nd, J.ixr, J.inj, fun l hl => ?_, fun j z hj hz hnj => ?_, J.disj, fun j hj => ?_, ?_, fun said => ?_, fun i a ha hm => .inl (know i a ha hm), fun i a ha hm => .inl (know i a ha hm), ?_⟩
  · have : l ∈ T.pend := hl
    rw [hp] at this
    cases this
  · rw [hd]
    exact J.old j z hj hz hnj
  · rw [hd]
    exact J.above j hj
  · rw [hd]
    exact J.hears
  · exact noRace_append (I.clean said) hg0 fun i a ha op hop b hb hcf => kn i a ha (conf_blk hcf).2.1
  · rw [hsz]
    exact seen_app I.seen hlow
theorem JC.shut (hrun : g.status = .running) (hp : T.pend = []) {b cap : Nat} {buf : Array Value} (hb : T.ch b = some (cap, buf, false))
    (h : ∀ w₁, RelyW ft w w₁ → ∀ s r tm, w₁.heap[b]? = some (.chan cap buf false s r tm) → ∃ g', stepG P true g w₁ = .go g' (w₁.setChan b cap buf true s r tm) #[⟨.obj b, false, true⟩, ⟨.obj b, true, true⟩] ∧ JC P W0 Post (T.put b (cap, buf, true)) g' w₁ ft) : JC P W0 Post T g w ft :=
  JC.main hrun fun gs w₁ sl t st ix hrel h0 I => by
    obtain ⟨s, r, tm, hc⟩ := I.chan _ _ hb
    obtain ⟨g', hgo, hN⟩ := h w₁ hrel s r tm hc
    have hlt0 : 0 < gs.size := (Array.getElem?_eq_some_iff.1 h0).1
    have hlt : b < w₁.heap.size := (Array.getElem?_eq_some_iff.1 hc).1
    have hsr : s = r + buf.size := I.cnt _ _ s r tm hb hc
    refine ⟨_, _, runT_crowd_go (P := P) (sl := sl) (i := 0) h0 (show stepG P (0 == 0) _ w₁ = _ from hgo), ?_⟩
    have hev : MemOp.ofEvents 0 g.frame.fn g.frame.place #[⟨.obj b, false, true⟩, ⟨.obj b, true, true⟩] = #[{ g := 0, fn := g.frame.fn, pos := g.frame.place, act := .access ⟨.obj b, false, true⟩ }, { g := 0, fn := g.frame.fn, pos := g.frame.place, act := .close b }] := by
      rw [ofEvents_eq]
      simp [MemAct.ofEvent]
    rw [hev]
    refine hN _ _ sl _ st ix (setChan_rely (I.chft _ _ hb)) (moved_own h0) (I.turn0 (y := (cap, buf, true)) hp hb hsr (by simp) (fun j hj => ?_) ?_ ?_ ?_)
    · rw [Array.getElem?_setIfInBounds_ne (by omega), Array.getElem?_map]
      cases e : gs[j]? with
      | none => rfl
      | some y =>
        obtain ⟨n, _, hq⟩ := I.old j y hj e fun k hk => by rw [hp] at hk; cases hk
        rw [Option.map_some, woken_quitsD hq]
    · intro op hop
      simp only [List.mem_toArray, List.mem_cons, List.not_mem_nil, or_false] at hop
      rcases hop with rfl | rfl <;> rfl
    · intro j op hop d
      simp only [List.mem_toArray, List.mem_cons, List.not_mem_nil, or_false] at hop
      rcases hop with rfl | rfl <;> rfl
    · intro op hop
      simp only [List.mem_toArray, List.mem_cons, List.not_mem_nil, or_false] at hop
      rcases hop with rfl | rfl <;> exact hlt
end
section
variable {P : Program} {main : Bool} {W0 : World} {Post : Value → World → Prop} {T : Crew} {w w₁ w' : World} {ft : Foot} {ρ ρ0 : Env} {h : List AObj} {FC : Frm} {N m : Nat} {f : RG} {b : FB} {a : Act} {cs : List Frame} {K : List Item} {ops : Array Oper} {i : Nat} {rest : List Nat} {o : Oper}
theorem stepG_close (hk : b.kind ≠ .early) (ho : ops[i]? = some o) (hg : gd ops o f.r = some true) (A : ActRel h.length ρ N f a) {x : Operand} {ats : Array TypeId} (hop : o.op = .call { callee := .builtin .close, args := #[x], argTypes := ats }) {c : Nat} (hx : ev f.r x = .chan (some c)) (hdst : o.dst = none)
    (w : World) {cap s r : Nat} {buf : Array Value} {tm : Bool} (hc : w.heap[ρ.blk c]? = some (.chan cap buf false s r tm)) :
    stepG P main (G (b.at a (.inRegion ops (i :: rest) :: K)) cs) w = .go (G (b.at a (.inRegion ops rest :: K)) cs) (w.setChan (ρ.blk c) cap buf true s r tm) #[⟨.obj (ρ.blk c), false, true⟩, ⟨.obj (ρ.blk c), true, true⟩] := by
  have hw := gd_wanted A hg
  have hnd : ∀ c, o.op ≠ .defer c := fun c e => by rw [hop] at e; cases e
  have hk' : (b.kind == CallKind.early) = false := by simpa using hk
  have hxv := ((ev_rel A.regs x).val (by rw [hx]; simp [unk])).2
  rw [hx] at hxv
  simp only [ren] at hxv
  have hr : (execOp a.eval o).runT P w #[] = (.ok (.value (.tuple #[])) (w.setChan (ρ.blk c) cap buf true s r tm), #[⟨.obj (ρ.blk c), false, true⟩, ⟨.obj (ρ.blk c), true, true⟩]) := by
    unfold execOp
    rw [hop]
    simp only [resolve, List.map_toArray, List.map_cons, List.map_nil, hxv]
    show (Sem.bind _ _).runT P w #[] = _
    rw [Sem.runT_bind']
    simp only [pure, Sem.runT]
    unfold invoke builtin
    simp only
    delta Builtin.close_
    dsimp only
    have h1 : (getObj (ρ.blk c)).runT P w #[] = (.ok (.chan cap buf false s r tm) w, #[⟨.obj (ρ.blk c), false, true⟩]) := by
      show Sem.runT P (.getObj _ .pure) w #[] = _
      unfold Sem.runT
      rw [hc]
      rfl
    have h2 : (setObj (ρ.blk c) (.chan cap buf true s r tm)).runT P w #[⟨.obj (ρ.blk c), false, true⟩] = (.ok () (w.setChan (ρ.blk c) cap buf true s r tm), #[⟨.obj (ρ.blk c), false, true⟩, ⟨.obj (ρ.blk c), true, true⟩]) := by
      show Sem.runT P (.setObj _ _ (.pure ())) w _ = _
      unfold Sem.runT
      rw [hc]
      rfl
    have h3 : (Sem.bind (setObj (ρ.blk c) (.chan cap buf true s r tm)) fun _ => Sem.pure (Value.tuple #[])).runT P w #[⟨.obj (ρ.blk c), false, true⟩] = (.ok (Value.tuple #[]) (w.setChan (ρ.blk c) cap buf true s r tm), #[⟨.obj (ρ.blk c), false, true⟩, ⟨.obj (ρ.blk c), true, true⟩]) := by
      rw [Sem.runT_bind', h2]
      rfl
    show (Sem.bind (Sem.bind (getObj (ρ.blk c)) _) _).runT P w #[] = _
    rw [Sem.runT_bind', Sem.runT_bind', h1]
    dsimp only
    rw [if_neg (by decide)]
    have h3' := h3
    simp only [bind, pure] at h3' ⊢
    rw [h3']
    rfl
  have hf := FB.finish_at b a ops i rest K (.tuple #[])
  rw [ho] at hf
  simp only [Option.bind_some, hdst] at hf
  have ha : a.put none (.tuple #[]) = a := rfl
  rw [ha] at hf
  rw [stepG_op ho hw hnd, ← hf]
  simp only [stepG.apply, hr, if_true]
  simp [FB.at, hk', GStep.after, G, seen]
theorem At.room (hk : b.kind ≠ .early) (ho : ops[i]? = some o) (hg : gd ops o f.r = some true) {x y : Operand} (hop : o.op = .send x y) (hdst : o.dst = none) {c : Nat} (hx : ev f.r x = .chan (some c)) (hcm : c < m) {v : Value} (hy : ev f.r y = v) (hv : v ≠ unk) (hv0 : VOk 0 v)
    {cap : Nat} {buf : Array Value} (hb : T.ch (ρ0.blk c) = some (cap, buf, false)) (hne : T.pend ≠ [] → ρ0.blk c ≠ T.c) (hroom : buf.size < cap)
    (hJ : At (JC P W0 Post (T.put (ρ0.blk c) (cap, buf.push v, false))) N b cs FC ρ0 m (.inRegion ops rest :: K) f h) : At (JC P W0 Post T) N b cs FC ρ0 m (.inRegion ops (i :: rest) :: K) f h := by
  intro a ρ w ft A H hu hm
  refine JC.room rfl hb hne hroom (v := v) fun w₁ h₁ => ?_
  have hs := stepG_send (P := P) (main := true) (K := K) (cs := cs) (b := b) (rest := rest) hk ho hg A hop hx hy hv w₁
  rw [(hu c hcm).1, ren0 _ hv0] at hs
  refine ⟨_, _, hs, ?_⟩
  rw [served_at, ho]
  simp only [Option.bind_some, hdst]
  exact hJ a ρ w₁ ft A (H.rely h₁) hu hm
theorem At.shut (hk : b.kind ≠ .early) (ho : ops[i]? = some o) (hg : gd ops o f.r = some true) {x : Operand} {ats : Array TypeId} (hop : o.op = .call { callee := .builtin .close, args := #[x], argTypes := ats }) (hdst : o.dst = none) {c : Nat} (hx : ev f.r x = .chan (some c)) (hcm : c < m)
    (hp : T.pend = []) {cap : Nat} {buf : Array Value} (hb : T.ch (ρ0.blk c) = some (cap, buf, false))
    (hJ : At (JC P W0 Post (T.put (ρ0.blk c) (cap, buf, true))) N b cs FC ρ0 m (.inRegion ops rest :: K) f h) : At (JC P W0 Post T) N b cs FC ρ0 m (.inRegion ops (i :: rest) :: K) f h := by
  intro a ρ w ft A H hu hm
  refine JC.shut rfl hp hb fun w₁ h₁ s r tm hc => ?_
  have e := (hu c hcm).1
  have hs := stepG_close (P := P) (main := true) (K := K) (cs := cs) (b := b) (rest := rest) hk ho hg A hop hx hdst w₁ (by rw [e]; exact hc)
  rw [e] at hs
  exact ⟨_, hs, hJ a ρ w₁ ft A (H.rely h₁) hu hm⟩
theorem At.take (hk : b.kind ≠ .early) (ho : ops[i]? = some o) (hd : dstOk N o = true) (hg : gd ops o f.r = some true) {x : Operand} {t : TypeId} {ok : Bool} (hop : o.op = .recv t x ok)
    {dir : ChanDir} {e : TypeId} (hu : P.underlying t = some (.chan dir e)) {ie : TypeInfo} (hi : P.info? e = some ie) {z : Value} (hz : ie.zero = some z) {c : Nat} (hx : ev f.r x = .chan (some c)) (hcm : c < m)
    (hp : T.pend = []) {cap : Nat} {buf : Array Value} {cl : Bool} (hb : T.ch (ρ0.blk c) = some (cap, buf, cl)) (hsome : 0 < buf.size) (hv0 : VOk 0 (buf.getD 0 undef))
    (hJ : At (JC P W0 Post (T.put (ρ0.blk c) (cap, buf.extract 1 buf.size, cl))) N b cs FC ρ0 m (.inRegion ops rest :: K) (f.putO o.dst (recvd ok (buf.getD 0 undef) true)) h) : At (JC P W0 Post T) N b cs FC ρ0 m (.inRegion ops (i :: rest) :: K) f h := by
  intro a ρ w ft A H hu' hm
  refine JC.take rfl hp hb hsome (ok := ok) fun w₁ h₁ => ?_
  have hs := stepG_recv (P := P) (main := true) (K := K) (cs := cs) (b := b) (rest := rest) hk ho hg A hop hu hi hz hx w₁
  rw [(hu' c hcm).1] at hs
  refine ⟨_, _, hs, ?_⟩
  rw [served_at, ho]
  refine hJ _ ρ w₁ ft (act_put A (dstOk_lt hd) (.inr ?_)) (H.rely h₁) hu' hm
  have h1 : ∀ bv, VOk 0 bv → VOk 0 (recvd ok bv true) := fun bv hbv => by
    unfold recvd
    cases ok
    · exact hbv
    · simp [VOk, AOk, LOk, hbv]
  have h0 := h1 _ hv0
  exact ⟨VOk.mono (Nat.zero_le _) _ h0, (ren0 _ h0).symm⟩
theorem At.drained (hk : b.kind ≠ .early) (ho : ops[i]? = some o) (hd : dstOk N o = true) (hg : gd ops o f.r = some true) {x : Operand} {t : TypeId} {ok : Bool} (hop : o.op = .recv t x ok)
    {dir : ChanDir} {e : TypeId} (hu : P.underlying t = some (.chan dir e)) {ie : TypeInfo} (hi : P.info? e = some ie) {z : Value} (hz : ie.zero = some z) {c : Nat} (hx : ev f.r x = .chan (some c)) (hcm : c < m)
    (hp : T.pend = []) {cap : Nat} (hb : T.ch (ρ0.blk c) = some (cap, #[], true)) (hz0 : VOk 0 z)
    (hJ : At (JC P W0 Post T) N b cs FC ρ0 m (.inRegion ops rest :: K) (f.putO o.dst (recvd ok z false)) h) : At (JC P W0 Post T) N b cs FC ρ0 m (.inRegion ops (i :: rest) :: K) f h := by
  intro a ρ w ft A H hu' hm
  refine JC.drained rfl hp hb (ok := ok) (z := z) fun w₁ h₁ => ?_
  have hs := stepG_recv (P := P) (main := true) (K := K) (cs := cs) (b := b) (rest := rest) hk ho hg A hop hu hi hz hx w₁
  rw [(hu' c hcm).1] at hs
  refine ⟨_, hs, ?_⟩
  rw [served_at, ho]
  refine hJ _ ρ w₁ ft (act_put A (dstOk_lt hd) (.inr ?_)) (H.rely h₁) hu' hm
  have h0 : VOk 0 (recvd ok z false) := by
    unfold recvd
    cases ok
    · exact hz0
    · simp [VOk, AOk, LOk, hz0]
  exact ⟨VOk.mono (Nat.zero_le _) _ h0, (ren0 _ h0).symm⟩
end
def lastOk (ops ops' : Array Oper) (last : Nat) : Nat → Array Bool → Array Bool → Bool
  | 0, L, L' => (Region.ready .any ops L == [last]) && (Region.ready .any ops' L').isEmpty
  | n + 1, L, L' => (Region.ready .any ops L == Region.ready .any ops' L') && !(Region.ready .any ops L).isEmpty && (Region.ready .any ops L).all fun i => lastOk ops ops' last n (L.setIfInBounds i true) (L'.setIfInBounds i true)
section
variable {P : Program} {main : Bool} {J : JT} {N m : Nat} {b : FB} {cs : List Frame} {FC : Frm} {ρ0 : Env} {k : List Item} {f : RG} {h : List AObj} {ops ops' : Array Oper} {last : Nat}
theorem At.orders (hJ : Closed P main J) (hk : b.kind ≠ .early) (hsame : ∀ (i : Nat) (o : Oper), ops'[i]? = some o → ops[i]? = some o ∧ ∀ r, gd ops' o r = gd ops o r) {S : List AObj → Prop} {K : RG → List AObj → Prop}
    (hK : ∀ f h, K f h → At J N b cs FC ρ0 m (.inRegion ops [last] :: k) f h) : ∀ (n t : Nat) (L L' : Array Bool) (f : RG) (h : List AObj), lastOk ops ops' last n L L' = true → AnyH P (Good P J) N ops' S n L' f h K → At J N b cs FC ρ0 m (.inRegion ops (Region.linearise.go .any ops (n + 1) t L []) :: k) f h := by
  intro n
  induction n with
  | zero =>
    intro t L L' f h hc hA
    unfold lastOk at hc
    have hr : Region.ready .any ops L = [last] := by simp at hc; exact hc.1
    have e : Region.linearise.go .any ops (0 + 1) t L [] = [last] := by
      simp only [Region.linearise.go]
      change (match (Region.ready .any ops L)[t % (Region.ready .any ops L).length]? with
        | some i => [i].reverse
        | none => [].reverse) = [last]
      rw [hr]
      simp [Nat.mod_one]
    rw [e]
    exact hK f h hA.2
  | succ n ih =>
    intro t L L' f h hc hA
    obtain ⟨_, h₁⟩ := hA
    unfold lastOk at hc
    simp only [Bool.and_eq_true, beq_iff_eq, Bool.not_eq_true', List.all_eq_true] at hc
    obtain ⟨⟨hr, hne⟩, hall⟩ := hc
    rw [Region.linearise.go]
    change At J N b cs FC ρ0 m (.inRegion ops (match (Region.ready .any ops L)[t % (Region.ready .any ops L).length]? with
      | some i => Region.linearise.go .any ops (n + 1) (t / (Region.ready .any ops L).length) (L.setIfInBounds i true) [i]
      | none => [].reverse) :: k) f h
    cases hi : (Region.ready .any ops L)[t % (Region.ready .any ops L).length]? with
    | none =>
      exfalso
      have hpos : 0 < (Region.ready .any ops L).length := by
        cases hr2 : Region.ready .any ops L with
        | nil => rw [hr2] at hne; cases hne
        | cons x xs => simp
      have := Nat.mod_lt t hpos
      rw [List.getElem?_eq_none_iff] at hi
      omega
    | some i =>
      simp only []
      rw [linearise_go_acc, List.reverse_singleton, List.singleton_append]
      have hm := List.mem_of_getElem? hi
      have hm' : i ∈ Region.ready .any ops' L' := by rw [← hr]; exact hm
      have hm2 := hm'
      rw [mem_ready] at hm2
      obtain ⟨_, o, ho', _⟩ := hm2
      obtain ⟨ho, hgd⟩ := hsame i o ho'
      obtain ⟨hN, K', hK', hsub⟩ := h₁ i hm' o ho'
      intro a ρ w ft A H hu hm0
      unfold opG at hK'
      rw [hgd] at hK'
      split at hK'
      · rename_i hg
        exact step_any hJ hk ho hg hN A H hK' fun v h' ρ' w' ft' a' kk A' H' hu' hl' => ih _ _ _ _ _ (hall i hm) (hsub v h' kk).2 a' ρ' w' ft' A' H' (Env.upto_trans hu (Env.upto_le hu' hm0)) (Nat.le_trans hm0 hl')
      · rename_i hg
        refine step_skip hJ ho hg A ?_
        exact ih _ _ _ _ _ (hall i hm) (hsub _ _ hK').2 _ ρ w ft (act_put A hN (vrel_undef _ _)) H hu hm0
      · exact hK'.elim
theorem At.draw (hJ : Closed P main J) (hm : P.follows .mixedOrders = true) (hk : b.kind ≠ .early) (hsame : ∀ (i : Nat) (o : Oper), ops'[i]? = some o → ops[i]? = some o ∧ ∀ r, gd ops' o r = gd ops o r) {K : RG → List AObj → Prop} {id n : Nat} (hn : ops.size = n + 1) (hn' : ops'.size = n)
    (hl : lastOk ops ops' last n (Array.replicate (n + 1) false) (Array.replicate n false) = true) {p : Plan} (hp : planOk P ops' p n (Array.replicate n false) none = true) {B : Option (List Nat)}
    (hq : planW P (Good P J) N ops' B h p true [] f h K) (hB : B ≠ none)
    (hK : ∀ f h, K f h → At J N b cs FC ρ0 m (.inRegion ops [last] :: k) f h) : At J N b cs FC ρ0 m (.code (.region id ops true) :: k) f h := by
  have hA : AnyH P (Good P J) N ops' (SameB B h) n (Array.replicate n false) f h K := by
    refine anyW_sound _ _ true [] f h down_init (fun j b e => by cases e) (fun _ => ?_) ?_
    · cases B with
      | none => exact absurd rfl hB
      | some B => exact fun _ _ => rfl
    · have := planW_eq (C := Good P J) (P := P) (N := N) (B := B) (h0 := h) (K := K) p n (Array.replicate n false) none true [] f h hp
      simp only [planT] at this
      rw [← this]
      exact hq
  intro a ρ w ft A H hu hm0
  refine hJ.step rfl fun w₁ h₁ => ⟨G (b.at a (.inRegion ops (Region.schedule (P.follows .mixedOrders) ops (w₁.tape w₁.drawn (.order b.fn id))) :: k)) cs, { w₁ with drawn := w₁.drawn + 1 }, #[], ?_, rfl, (Stays.drawn ft w₁ _).guar (by simp), ?_⟩
  · simp [G, stepG, stepG.exec, FB.at, choose, Go.Sem.run, Question.forced, Question.cut]
  · rw [show ({ w₁ with drawn := w₁.drawn + 1 } : World).heap = w₁.heap from rfl, Foot.ext_self]
    have H₁ := (H.rely h₁).of_drawn (w₁.drawn + 1)
    simp only [Region.schedule, hm, Bool.true_or, if_true]
    have := At.orders hJ hk hsame hK n (w₁.tape w₁.drawn (.order b.fn id)) _ _ f h hl hA a ρ _ ft A H₁ hu hm0
    rw [← hn] at this
    exact this
theorem At.enter {g : FuncId} {fn : Func} (hf : P.funcs[g]? = some fn) {c : Code} (hb : fn.body = some c) {args : List Value} (ha : args.length ≤ fn.ntmps) (hv : ∀ v ∈ args, VOk h.length v) {ρ : Env} {w : World} {ft : Foot} (H : HRel ρ h FC w ft)
    (hA : At J fn.ntmps ⟨g, .deferred, none⟩ cs FC ρ h.length [.code c] ⟨regs args, []⟩ h) : J (G (Frame.enter P g ⟨args.map (ren ρ)⟩ .deferred) cs) w ft := by
  have he : Frame.enter P g ⟨args.map (ren ρ)⟩ .deferred = FB.at ⟨g, .deferred, none⟩ ⟨⟨args.map (ren ρ)⟩ ++ Array.replicate (fn.ntmps - args.length) undef, []⟩ [.code c] := by
    simp [Frame.enter, FB.at, hf, hb]
  rw [he]
  refine hA _ ρ w ft ⟨fun t => ?_, by simp; omega, rfl, by simp⟩ H (fun _ _ => ⟨rfl, rfl⟩) (Nat.le_refl _)
  have ht : ((⟨args.map (ren ρ)⟩ : Array Value) ++ Array.replicate (fn.ntmps - args.length) undef).getD t undef = (args.map (ren ρ)).getD t undef := by
    rw [Array.getD_eq_getD_getElem?, List.getD_eq_getElem?_getD]
    by_cases hx : t < args.length
    · rw [Array.getElem?_append_left (by simpa using hx)]
      simp
    · rw [Array.getElem?_append_right (by simp; omega), List.getElem?_eq_none (by simp; omega)]
      simp only [Array.getElem?_replicate]
      split <;> rfl
  rw [ht]
  by_cases hx : t < args.length
  · refine .inr ?_
    show VOk h.length (regs args t) ∧ _
    have e1 : regs args t = args[t] := by simp [regs, List.getD_eq_getElem?_getD, List.getElem?_eq_getElem hx]
    rw [e1]
    refine ⟨hv _ (List.getElem_mem hx), ?_⟩
    show _ = ren ρ (regs args t)
    rw [e1]
    simp [List.getD_eq_getElem?_getD, List.getElem?_eq_getElem hx]
  · refine .inl ?_
    show regs args t = unk
    simp [regs, List.getD_eq_getElem?_getD, List.getElem?_eq_none (Nat.le_of_not_lt hx)]
end
end Go.Proofs.Ytdgpacdknpahnaa
namespace Go.Proofs.Ytdgpacdknpahnaa
open Go.Conc Go.Proofs.Try
set_option maxRecDepth 100000
section
variable {P : Program} {main : Bool} {J : JT} {N m : Nat} {b : FB} {cs : List Frame} {FC : Frm} {ρ0 : Env} {k : List Item} {f : RG} {h : List AObj}
theorem At.cond (hJ : Closed P main J) {c : Operand} {x y : Code} {t : Bool} (ht : ev f.r c = .bool t) (h' : At J N b cs FC ρ0 m (.code (if t then x else y) :: k) f h) : At J N b cs FC ρ0 m (.code (.cond c x y) :: k) f h := by
  intro a ρ w ft A H hu hm
  have hv := ((ev_rel A.regs c).val (by rw [ht]; simp [unk])).2
  rw [ht] at hv
  simp only [ren] at hv
  have he : ∀ todo, (b.at a todo).eval c = .bool t := fun todo => by rw [← hv]; cases c <;> rfl
  refine hJ.ctrl rfl rfl (g' := G (b.at a (.code (if t then x else y) :: k)) cs) (fun w => ?_) (h' a ρ w ft A H hu hm)
  have := he (.code (.cond c x y) :: k)
  simp only [FB.at] at this
  simp [G, stepG, stepG.exec, FB.at, this]
end
def strU (cs : List Int) (l : List Int) : Int := l.foldl (fun s k => orU s (cs.getD k.toNat 0)) 0
theorem strU_snoc {cs l : List Int} {k : Int} : strU cs (l ++ [k]) = orU (strU cs l) (cs.getD k.toNat 0) := by simp [strU]
noncomputable def sentV (t : Tal) (cs l : List Int) (i : Nat) : Int := if truthS t (strU cs l) then (i : Int) else -1
theorem shape110 : codeOf f110 = .seq (subC [0] (codeOf f110)) (.seq (.seq (subC [1, 0, 0] (codeOf f110)) (.block 0 (.loop (subC [1, 0, 1, 0, 0] (codeOf f110))))) (.seq (subC [1, 1, 0] (codeOf f110)) (.cond (.tmp 24) (subC [1, 1, 1, 0] (codeOf f110)) (subC [1, 1, 1, 1] (codeOf f110))))) := by kernel_rfl
theorem round110 : subC [1, 0, 1, 0, 0] (codeOf f110) = .seq (subC [1, 0, 1, 0, 0, 0] (codeOf f110)) (.seq (subC [1, 0, 1, 0, 0, 1, 0] (codeOf f110)) (.seq (subC [1, 0, 1, 0, 0, 1, 1, 0] (codeOf f110)) (subC [1, 0, 1, 0, 0, 1, 1, 1] (codeOf f110)))) := by kernel_rfl
structure R110 (f : RG) (b1 b2 b3 b4 : Nat) (lv : Value) (n k : Nat) (u : Int) : Prop where
  ds : f.ds = []
  r1 : f.r 1 = ptr b1 0
  r2 : f.r 2 = ptr b2 0
  r3 : f.r 3 = ptr b3 0
  r4 : f.r 4 = ptr b4 0
  r5 : f.r 5 = .int .u64 u
  r8 : f.r 8 = lv
  r9 : f.r 9 = vint (n : Nat)
  r10 : f.r 10 = vint (k : Nat)
section
variable {J : JT} {h : List AObj} {FC : Frm} {ρ0 : Env} {fs : List Frame} {b : FB} {k1 : List Item}
theorem loop110 (hJ : Closed prog false J) (hk : b.kind ≠ .early) {b1 b2 b3 b4 : Nat} {wr1 : Bool} {kv lv : Value} {cs l : List Int} (h1 : h[b1]? = some (.cells [kv] wr1 0)) (hc : Sli h kv 1 cs.length (cs.map fun n => .int .u64 n)) (hl : Sli h lv 1 l.length (l.map vint)) (hb : ∀ x ∈ l, 0 ≤ x ∧ x < cs.length) (hll : l.length ≤ 1000)
    (hdone : ∀ f, R110 f b1 b2 b3 b4 lv l.length l.length (strU cs l) → At J 28 b fs FC ρ0 h.length k1 f h) :
    ∀ (d k : Nat) (f : RG), d = l.length - k → k ≤ l.length → R110 f b1 b2 b3 b4 lv l.length k (strU cs (l.take k)) → At J 28 b fs FC ρ0 h.length (.code (subC [1, 0, 1, 0, 0] (codeOf f110)) :: .inLoop (subC [1, 0, 1, 0, 0] (codeOf f110)) :: .inBlock 0 :: k1) f h := by
  intro d
  induction d with
  | zero =>
    intro k f hd hk' R
    have hkn : k = l.length := by omega
    subst hkn
    rw [round110]
    refine At.seq hJ (At.piece (Q := fun e f' h' => e = .normal ∧ f' = f.p 11 (.bool false) ∧ h' = h) rfl hk (W_sound hJ mixed _ ?_) (Nat.le_refl _) (Nat.le_refl _) ?_)
    · rw [q110_3, R.r9, R.r10]
      refine lssI ⟨rfl, ?_, rfl⟩
      simp
    rintro e f' h' ⟨rfl, rfl, rfl⟩
    refine .inl ⟨rfl, At.seq hJ (At.piece (Q := fun e f' h1 => e = .exit 0 ∧ f' = f.p 11 (.bool false) ∧ h1 = h') rfl hk (W_sound hJ mixed _ ?_) (Nat.le_refl _) (Nat.le_refl _) ?_)⟩
    · rw [q110_4]
      exact cnd_false.2 ⟨rfl, rfl, rfl⟩
    rintro e f1 h1 ⟨rfl, rfl, rfl⟩
    refine .inr ⟨0, k1, rfl, by simp [exitTo], ?_⟩
    refine hdone _ ⟨R.ds, R.r1, R.r2, R.r3, R.r4, ?_, R.r8, R.r9, R.r10⟩
    have := R.r5
    rw [List.take_length] at this
    exact this
  | succ d ih =>
    intro k f hd hk' R
    have hkl : k < l.length := by omega
    have hx := List.getElem?_eq_getElem hkl
    have hbx := hb _ (List.getElem_mem hkl)
    rw [round110]
    refine At.seq hJ (At.piece (Q := fun e f' h' => e = .normal ∧ f' = f.p 11 (.bool true) ∧ h' = h) rfl hk (W_sound hJ mixed _ ?_) (Nat.le_refl _) (Nat.le_refl _) ?_)
    · rw [q110_3, R.r9, R.r10]
      refine lssI ⟨rfl, ?_, rfl⟩
      have : ((k : Int) < (l.length : Int)) := by omega
      simp [this]
    rintro e f' h' ⟨rfl, rfl, rfl⟩
    refine .inl ⟨rfl, At.seq hJ (At.piece (Q := fun e f' h1 => e = .normal ∧ f' = f.p 11 (.bool true) ∧ h1 = h') rfl hk (W_sound hJ mixed _ ?_) (Nat.le_refl _) (Nat.le_refl _) ?_)⟩
    · rw [q110_4]
      exact cnd_true.2 ⟨rfl, rfl, rfl⟩
    rintro e f1 h ⟨rfl, rfl, rfl⟩
    refine .inl ⟨rfl, At.seq hJ (At.piece (Q := fun e f' h' => e = .normal ∧ R110 f' b1 b2 b3 b4 lv l.length k (strU cs (l.take (k + 1))) ∧ h' = h) rfl hk (W_sound hJ mixed _ ?_) (Nat.le_refl _) (Nat.le_refl _) ?_)⟩
    · rw [q110_5]
      show aIdx 1 (f.r 8) (f.r 10) _
      rw [R.r8, R.r10]
      refine idx_load hl ⟨by omega, by omega⟩ (x := vint l[k]) (by rw [Int.toNat_natCast, List.getElem?_map, hx]; rfl) fun q => ?_
      show aLoad false 1 (f.r 1) h _
      rw [R.r1]
      refine ldI h1 rfl (sli_one hc).2.2 ?_
      refine idx_load hc ⟨by omega, by omega⟩ (x := .int .u64 (cs.getD l[k].toNat 0)) (by
        rw [List.getElem?_map, List.getD_eq_getElem?_getD, List.getElem?_eq_getElem (show l[k].toNat < cs.length by omega)]
        rfl) fun q2 => ?_
      show aBin prog .or 101 (f.r 5) _ _
      rw [R.r5]
      refine u_orI ⟨rfl, ⟨R.ds, R.r1, R.r2, R.r3, R.r4, ?_, R.r8, R.r9, R.r10⟩, rfl⟩
      show Value.int .u64 _ = _
      rw [List.take_add_one, hx]
      simp only [Option.toList]
      rw [strU_snoc]
    rintro e f2 h2 ⟨rfl, R2, rfl⟩
    refine .inl ⟨rfl, At.piece (Q := fun e f' h' => e = .normal ∧ R110 f' b1 b2 b3 b4 lv l.length (k + 1) (strU cs (l.take (k + 1))) ∧ h' = h2) rfl hk (W_sound hJ mixed _ ?_) (Nat.le_refl _) (Nat.le_refl _) ?_⟩
    · rw [q110_6, R2.r10]
      refine addI (by omega) ⟨rfl, ⟨R2.ds, R2.r1, R2.r2, R2.r3, R2.r4, R2.r5, R2.r8, R2.r9, rfl⟩, rfl⟩
    rintro e f3 h3 ⟨rfl, R3, rfl⟩
    exact .inl ⟨rfl, At.inLoop hJ (ih (k + 1) f3 (by omega) (by omega) R3)⟩
end
theorem work110 {h : List AObj} {FC : Frm} {ρ : Env} {w : World} {ft : Foot} (R : HRel ρ h FC w ft) {b0 b1 b2 b3 b4 c i : Nat} {lv kv cv nv : Value} {wr0 wr1 wr2 wr3 wr4 : Bool} {t : Tal} {cs l : List Int}
    (h0 : h[b0]? = some (.cells [lv] wr0 0)) (h1 : h[b1]? = some (.cells [kv] wr1 0)) (h2 : h[b2]? = some (.cells (talCells t cv nv) wr2 0)) (h3 : h[b3]? = some (.cells [.chan (some c)] wr3 0)) (h4 : h[b4]? = some (.cells [vint (i : Nat)] wr4 0))
    (ta : TalAt h (.agg ⟨talCells t cv nv⟩) t cv nv) (fine : TalFine t) (hc : Sli h kv 1 cs.length (cs.map fun n => .int .u64 n)) (hl : Sli h lv 1 l.length (l.map vint)) (hb : ∀ x ∈ l, 0 ≤ x ∧ x < cs.length) (hll : l.length ≤ 1000)
    {T : Crew} (hlt : c < h.length) (hcT : ρ.blk c = T.c) {k : Nat} (hphi : T.phi k (vint (sentV t cs l i))) :
    Toward prog (AtSend prog T.c (T.phi k)) (G (Frame.enter prog 110 ⟨[ptr b0 0, ptr b1 0, ptr b2 0, ptr b3 0, ptr b4 0].map (ren ρ)⟩ .deferred) [base0 prog]) w ft := by
  have hJ := Toward.closed prog (AtSend prog T.c (T.phi k))
  have vp : ∀ {b : Nat} {x : AObj}, h[b]? = some x → VOk h.length (ptr b 0) := fun hb => by
    have := lt_of_get hb
    simp [VOk, ptr, AddrOk, this]
  refine At.enter (fn := f110) (args := [ptr b0 0, ptr b1 0, ptr b2 0, ptr b3 0, ptr b4 0]) at110 body110 (Nat.le_of_ble_eq_true rfl) ?_ R ?_
  · intro v hv
    simp only [List.mem_cons, List.not_mem_nil, or_false] at hv
    rcases hv with rfl | rfl | rfl | rfl | rfl
    · exact vp h0
    · exact vp h1
    · exact vp h2
    · exact vp h3
    · exact vp h4
  rw [show f110.ntmps = 28 from by kernel_rfl, shape110]
  have kl := (sli_one hl).2.2
  refine At.seq hJ (At.piece (Q := fun e f' h' => e = .normal ∧ f' = (RG.mk (regs [ptr b0 0, ptr b1 0, ptr b2 0, ptr b3 0, ptr b4 0]) []).p 5 (.int .u64 0) ∧ h' = h) rfl (by simp) (W_sound hJ mixed _ ?_) (Nat.le_refl _) (Nat.le_refl _) ?_)
  · rw [q110_1]
    exact ⟨rfl, rfl, rfl⟩
  rintro e f' h' ⟨rfl, rfl, rfl⟩
  refine .inl ⟨rfl, At.seq hJ (At.seq hJ (At.piece (Q := fun e f' h1 => e = .normal ∧ R110 f' b1 b2 b3 b4 lv l.length 0 (strU cs (l.take 0)) ∧ h1 = h') rfl (by simp) (W_sound hJ mixed _ ?_) (Nat.le_refl _) (Nat.le_refl _) ?_))⟩
  · rw [q110_2]
    refine ldI h0 rfl kl (lenI hl ⟨rfl, ⟨rfl, rfl, rfl, rfl, rfl, rfl, rfl, rfl, rfl⟩, rfl⟩)
  rintro e f1 h ⟨rfl, R1, rfl⟩
  refine .inl ⟨rfl, At.block hJ (At.loop hJ (loop110 hJ (by simp) h1 hc hl hb hll (fun f2 R2 => ?_) l.length 0 f1 rfl (by omega) R1))⟩
  refine At.seq hJ (At.piece (Q := fun e f' h' => e = .normal ∧ f'.ds = [] ∧ f'.r 3 = ptr b3 0 ∧ f'.r 4 = ptr b4 0 ∧ f'.r 24 = .bool (truthS t (strU cs l)) ∧ SameX [] h h') rfl (by simp) (W_sound hJ mixed _ ?_) (Nat.le_refl _) (Nat.le_refl _) ?_)
  · rw [q110_7, R2.r2, R2.r5]
    refine load_part (c := talCells t cv nv) h2 (by rw [cs_val]; omega) rfl (talAt_kc ta) ?_
    refine good95 (h0 := h) hJ ta ta.ch ta.co ⟨[], by simp⟩ fun H bw bm S a1 a2 a3 wk hm => ?_
    refine good74 hJ wk a1 a2 a3 fine hm metOk_nil fun H2 es' S2 _ _ _ => ⟨rfl, R2.ds, R2.r3, R2.r4, rfl, S.thru S2 ?_⟩
    intro y hy
    simp at hy
    rcases hy with rfl | rfl
    · exact .inr a1
    · exact .inr a2
  rintro e f3 h5 ⟨rfl, ds, r3, r4, r24, S⟩
  refine .inl ⟨rfl, At.cond hJ (t := truthS t (strU cs l)) r24 ?_⟩
  have c3 := S.get h3 (by simp)
  have c4 := S.get h4 (by simp)
  cases hT : truthS t (strU cs l) with
  | true =>
    have e1 : sentV t cs l i = (i : Int) := by unfold sentV; rw [if_pos hT]
    rw [e1] at hphi
    show At _ _ _ _ _ _ _ (.code (subC [1, 1, 1, 0] (codeOf f110)) :: _) _ _
    rw [r110_1]
    refine At.region hJ ?_
    rw [show List.range ops110_1.size = [0, 1, 2] from by rw [z110_1]; rfl]
    obtain ⟨o1, o2, o3, o4, o5⟩ := o110_1_0 (J := Toward prog (AtSend prog T.c (T.phi k)))
    obtain ⟨x1, x2, x3, x4, x5⟩ := o110_1_1 (J := Toward prog (AtSend prog T.c (T.phi k)))
    obtain ⟨y1, y2, y3, y4, y5⟩ := o110_1_2 (J := Toward prog (AtSend prog T.c (T.phi k)))
    refine At.op hJ (by simp) o1 o3 (o4 _) ?_
    rw [o5, o2, r3]
    refine ldI c3 rfl rfl fun _ => At.op hJ (by simp) x1 x3 (x4 _) ?_
    rw [x5, x2]
    show aLoad false 1 (f3.r 4) _ _
    rw [r4]
    refine ldI c4 rfl rfl fun _ => ?_
    intro a ρ' w' ft' A H' hu hm
    refine send_stop rfl rfl y1 (y4 _) A ds y5 y2 (c := c) rfl (by rw [(hu c hlt).1]; exact hcT) (v := vint (i : Nat)) rfl (by simp [unk]) hphi at110 (by kernel_rfl) (base_catches _)
  | false =>
    have e1 : sentV t cs l i = -1 := by unfold sentV; rw [if_neg (by rw [hT]; decide)]
    rw [e1] at hphi
    show At _ _ _ _ _ _ _ (.code (subC [1, 1, 1, 1] (codeOf f110)) :: _) _ _
    rw [r110_2]
    refine At.region hJ ?_
    rw [show List.range ops110_2.size = [0, 1] from by rw [z110_2]; rfl]
    obtain ⟨o1, o2, o3, o4, o5⟩ := o110_2_0 (J := Toward prog (AtSend prog T.c (T.phi k)))
    obtain ⟨y1, y2, y3, y4, y5⟩ := o110_2_1 (J := Toward prog (AtSend prog T.c (T.phi k)))
    refine At.op hJ (by simp) o1 o3 (o4 _) ?_
    rw [o5, o2, r3]
    refine ldI c3 rfl rfl fun _ => ?_
    intro a ρ' w' ft' A H' hu hm
    refine send_stop rfl rfl y1 (y4 _) A ds y5 y2 (c := c) rfl (by rw [(hu c hlt).1]; exact hcT) (v := vint (-1)) rfl (by simp [unk]) hphi at110 (by kernel_rfl) (base_catches _)
theorem At.weak {J : JT} {N m : Nat} {b : FB} {cs : List Frame} {FC : Frm} {ρ0 : Env} {k : List Item} {f f' : RG} {h : List AObj} (ok : heapOk h) (hf : ∀ t, f'.r t = unk ∨ (f'.r t = f.r t ∧ VOk h.length (f'.r t))) (hd : f'.ds = f.ds) (hds : f.ds = []) (hm' : m ≤ h.length) (h' : At J N b cs FC ρ0 m k f' h) : At J N b cs FC ρ0 m k f h := by
  have := At.drop (g := []) (f := f) ok hf hd (by rw [hds]; simp) hm' h'
  simpa using this
theorem frz_at {h : List AObj} {i : Nat} {c : List Value} {wr : Bool} {sz : Nat} (hb : h[i]? = some (.cells c wr sz)) : (frz h)[i]? = some (.cells c false sz) := by
  unfold frz
  rw [List.getElem?_map, hb]
  rfl
theorem frz_sli {h : List AObj} {v : Value} {s n : Nat} {cs : List Value} (hs : Sli h v s n cs) : Sli (frz h) v s n cs := by
  obtain ⟨base, c, rfl, hk, hh⟩ := hs
  refine ⟨base, c, rfl, hk, hh.imp id ?_⟩
  rintro ⟨b, o, e, h0⟩
  exact ⟨b, o, e, h0.imp id fun ⟨cs, wr, sz, hb, ht⟩ => ⟨cs, false, sz, frz_at hb, ht⟩⟩
theorem two_more {h H : List AObj} {x y : AObj} (S : SameX [] h H) (hl : H.length = h.length + 2) (hx : H[h.length]? = some x) (hy : H[h.length + 1]? = some y) : H = h ++ [x, y] := by
  obtain ⟨g, rfl⟩ := S.app0 (by simp)
  rw [List.length_append] at hl
  have h2 : g.length = 2 := by omega
  obtain ⟨a, b, rfl⟩ : ∃ a b, g = [a, b] := by
    cases g with
    | nil => simp at h2
    | cons a g => cases g with
      | nil => simp at h2
      | cons b g => cases g with
        | nil => exact ⟨a, b, rfl⟩
        | cons c g => simp at h2
  rw [List.getElem?_append_right (Nat.le_refl _)] at hx
  rw [List.getElem?_append_right (by omega)] at hy
  simp at hx hy
  rw [hx, hy]
structure Fr (h4 H : List AObj) (n : Nat) (a b p : Option Nat) (w : Value) : Prop where
  S : SameX [] h4 H
  ha : ∀ x, a = some x → h4.length ≤ x ∧ H[x]? = some (.chan 0)
  hb : ∀ x, b = some x → h4.length ≤ x ∧ H[x]? = some (.chan n) ∧ a ≠ some x
  hp : ∀ x, p = some x → h4.length ≤ x ∧ H[x]? = some (.cells [w] true 0)
section
variable {h4 H : List AObj} {n : Nat} {a b p : Option Nat} {w : Value} {K : Value → List AObj → Prop} {HL : List AObj → Prop}
theorem Fr.mkA (F : Fr h4 H n none b p w) (hk : ∀ H' x, Fr h4 H' n (some x) b p w → K (.chan (some x)) H') : (8 : Nat) ≤ 1024 ∧ aMkC (vint 0) H K := by
  have S : SameX [] H (H ++ [.chan (Int.toNat 0)]) := SameX.refl.app
  have hl := F.S.1
  refine ⟨by decide, ⟨by omega, by omega⟩, hk _ H.length ⟨F.S.trans S, fun x hx => ?_, fun x hx => ?_, fun x hx => ?_⟩⟩
  · cases hx
    exact ⟨hl, by simp⟩
  · obtain ⟨h1, h2, _⟩ := F.hb x hx
    have := lt_of_get h2
    exact ⟨h1, S.get h2 (by simp), fun e => by cases e; omega⟩
  · obtain ⟨h1, h2⟩ := F.hp x hx
    exact ⟨h1, S.get h2 (by simp)⟩
theorem Fr.mkB (F : Fr h4 H n a none p w) (hn : n ≤ 1000) (hk : ∀ H' x, Fr h4 H' n a (some x) p w → K (.chan (some x)) H') : (8 : Nat) ≤ 1024 ∧ aMkC (vint (n : Nat)) H K := by
  have S : SameX [] H (H ++ [.chan (Int.toNat (n : Nat))]) := SameX.refl.app
  have hl := F.S.1
  refine ⟨by decide, ⟨by omega, by omega⟩, hk _ H.length ⟨F.S.trans S, fun x hx => ?_, fun x hx => ?_, fun x hx => ?_⟩⟩
  · obtain ⟨h1, h2⟩ := F.ha x hx
    exact ⟨h1, S.get h2 (by simp)⟩
  · cases hx
    refine ⟨hl, by simp, fun e => ?_⟩
    have := lt_of_get (F.ha _ e).2
    omega
  · obtain ⟨h1, h2⟩ := F.hp x hx
    exact ⟨h1, S.get h2 (by simp)⟩
theorem Fr.al {v : Value} (F : Fr h4 H n a b none v) (hk : ∀ H' x, Fr h4 H' n a b (some x) w → K (ptr x 0) H') : aAlloc [w] H K := by
  refine qAl fun H' x e S c l => hk H' x ⟨F.S.trans S, fun y hy => ?_, fun y hy => ?_, fun y hy => ?_⟩
  · obtain ⟨h1, h2⟩ := F.ha y hy
    exact ⟨h1, S.get h2 (by simp)⟩
  · obtain ⟨h1, h2, h3⟩ := F.hb y hy
    exact ⟨h1, S.get h2 (by simp), h3⟩
  · cases hy
    have := F.S.1
    exact ⟨by omega, c⟩
theorem Fr.st {x q : Nat} (F : Fr h4 H n (some x) b (some q) w) (hk : ∀ H', Fr h4 H' n (some x) b (some q) (.chan (some x)) → HL H') : aStore 1 (ptr q 0) (.chan (some x)) H HL := by
  obtain ⟨h1, h2⟩ := F.hp q rfl
  have hne : ∀ {y : Nat} {cap : Nat}, H[y]? = some (.chan cap) → y ∉ [q] := fun hy hm => by
    rw [List.mem_singleton.1 hm, h2] at hy
    cases hy
  refine qSt h2 (by simp) rfl rfl fun H' S c l => hk H' ⟨F.S.thru S (by simp; exact h1), fun y hy => ?_, fun y hy => ?_, fun y hy => ?_⟩
  · obtain ⟨g1, g2⟩ := F.ha y hy
    exact ⟨g1, S.get g2 (hne g2)⟩
  · obtain ⟨g1, g2, g3⟩ := F.hb y hy
    exact ⟨g1, S.get g2 (hne g2), g3⟩
  · cases hy
    exact ⟨h1, c⟩
end
def EleS (H : List AObj) (cells : List Value) (ls : List (List Int)) : Prop := ∀ (i : Nat) l, ls[i]? = some l → ∃ c, cells[i]? = some c ∧ Sli H c 1 l.length (l.map vint)
structure Mid92 (h H : List AObj) (f : RG) (t : Tal) (cv nv kv ov : Value) (p3 p5 p7 c1 c2 n : Nat) : Prop where
  S : SameX [] h H
  ds : f.ds = []
  r1 : f.r 1 = ov
  r3 : f.r 3 = ptr p3 0
  r5 : f.r 5 = ptr p5 0
  r7 : f.r 7 = ptr p7 0
  r8 : f.r 8 = .chan (some c2)
  h3 : H[p3]? = some (.cells (talCells t cv nv) true 0)
  h5 : H[p5]? = some (.cells [kv] true 0)
  h7 : H[p7]? = some (.cells [.chan (some c1)] true 0)
  hc1 : H[c1]? = some (.chan 0)
  hc2 : H[c2]? = some (.chan n)
  ne : c1 ≠ c2
section
variable {main : Bool} {J : JT} {h : List AObj} {K : Value → List AObj → Prop} {Sx : RG → List AObj → Prop}
theorem front92 {cv nv kv ov : Value} {t : Tal} {n : Nat} {cells ks : List Value} {nk : Nat} (ta : TalAt h (.agg ⟨talCells t cv nv⟩) t cv nv) (hk : Sli h kv 1 nk ks) (ho : Sli h ov 1 n cells) (hn : n ≤ 1000)
    (hS : ∀ f H p3 p5 p7 c1 c2, Mid92 h H f t cv nv kv ov p3 p5 p7 c1 c2 n → Sx f H) :
    W prog J 50 h.length 92 (trunc 2 (codeOf f92)) (RG.mk (regs [.agg ⟨talCells t cv nv⟩, ov, kv]) []) h (thenK Sx (RetQ prog [.tmp 6] h.length K)) := by
  rw [e92]
  have kk := sli_one hk
  refine qBox (tal_one ta) fun H1 p3 e1 S1 k1 l1 => qBox1 kk.1 kk.2.1 fun H2 p5 e2 S2 k2 l2 => ⟨[], lenI ho ⟨?_, ?_⟩⟩
  · obtain ⟨base, c, rfl, _⟩ := ho
    trivial
  have k1' := S2.get k1 (by simp)
  have F0 : Fr H2 H2 n none none none (.chan none) := ⟨SameX.refl, by simp, by simp, by simp⟩
  have tt : ∀ {H' : List AObj}, SameB (some []) H2 H' := fun {H'} b hb => by cases hb
  have fin : ∀ {F : RG} {H : List AObj} {a b p : Nat}, Fr H2 H n (some a) (some b) (some p) (.chan (some a)) → F.ds = [] → F.r 1 = ov → F.r 3 = ptr p3 0 → F.r 5 = ptr p5 0 → F.r 7 = ptr p 0 → F.r 8 = .chan (some b) → Sx F H := by
    intro F H a b p Z g0 g1 g3 g5 g7 g8
    have hb := Z.hb b rfl
    exact hS F H p3 p5 p a b ⟨(S1.trans S2).trans Z.S, g0, g1, g3, g5, g7, g8, Z.S.get k1' (by simp), Z.S.get k2 (by simp), (Z.hp p rfl).2, (Z.ha a rfl).2, hb.2.1, fun e => hb.2.2 (by rw [e])⟩
  refine ⟨F0.mkA fun Ha a Fa => ⟨tt, Fa.mkB hn fun Hb b Fb => Fb.al fun Hc p Fc => ⟨tt, Fc.st fun Hd Fd => ⟨tt, fin Fd rfl rfl rfl rfl rfl rfl⟩⟩, Fa.al fun Hb p Fb => ⟨tt, Fb.mkB hn fun Hc b Fc => Fc.st fun Hd Fd => ⟨tt, fin Fd rfl rfl rfl rfl rfl rfl⟩, Fb.st fun Hc Fc => ⟨tt, Fc.mkB hn fun Hd b Fd => fin Fd rfl rfl rfl rfl rfl rfl⟩⟩⟩,
    F0.mkB hn fun Ha b Fa => ⟨Fa.mkA fun Hb a Fb => ⟨tt, Fb.al fun Hc p Fc => ⟨tt, Fc.st fun Hd Fd => ⟨tt, fin Fd rfl rfl rfl rfl rfl rfl⟩⟩⟩, Fa.al fun Hb p Fb => ⟨tt, Fb.mkA fun Hc a Fc => ⟨tt, Fc.st fun Hd Fd => ⟨tt, fin Fd rfl rfl rfl rfl rfl rfl⟩⟩⟩⟩,
    F0.al fun Ha p Fa => ⟨tt, Fa.mkA fun Hb a Fb => ⟨tt, Fb.mkB hn fun Hc b Fc => Fc.st fun Hd Fd => ⟨tt, fin Fd rfl rfl rfl rfl rfl rfl⟩, Fb.st fun Hc Fc => ⟨tt, Fc.mkB hn fun Hd b Fd => fin Fd rfl rfl rfl rfl rfl rfl⟩⟩, Fa.mkB hn fun Hb b Fb => Fb.mkA fun Hc a Fc => ⟨tt, Fc.st fun Hd Fd => ⟨tt, fin Fd rfl rfl rfl rfl rfl rfl⟩⟩⟩⟩
end
theorem shape92 : subC [1, 1] (codeOf f92) = .seq (.seq (subC [1, 1, 0, 0] (codeOf f92)) (.block 0 (.loop (subC [1, 1, 0, 1, 0, 0] (codeOf f92))))) (subC [1, 1, 1] (codeOf f92)) := by kernel_rfl
theorem round92 : subC [1, 1, 0, 1, 0, 0] (codeOf f92) = .seq (subC [1, 1, 0, 1, 0, 0, 0] (codeOf f92)) (.seq (subC [1, 1, 0, 1, 0, 0, 1, 0] (codeOf f92)) (.seq (.block 1 (.seq (subC [1, 1, 0, 1, 0, 0, 1, 1, 0, 0, 0] (codeOf f92)) (.region 5 ops92_1 false))) (subC [1, 1, 0, 1, 0, 0, 1, 1, 1] (codeOf f92)))) := by kernel_rfl
def R92 (ov : Value) (p3 p5 p7 c2 n i : Nat) : RG := ((((((((RG.mk (fun _ => unk) []).p 1 ov).p 3 (ptr p3 0)).p 5 (ptr p5 0)).p 7 (ptr p7 0)).p 8 (.chan (some c2))).p 18 ov).p 19 (vint (n : Nat))).p 20 (vint (i : Nat))
theorem r92_cases (ov : Value) (p3 p5 p7 c2 n i t : Nat) : (R92 ov p3 p5 p7 c2 n i).r t = unk ∨ t = 1 ∨ t = 3 ∨ t = 5 ∨ t = 7 ∨ t = 8 ∨ t = 18 ∨ t = 19 ∨ t = 20 := by
  by_cases h : t = 1 ∨ t = 3 ∨ t = 5 ∨ t = 7 ∨ t = 8 ∨ t = 18 ∨ t = 19 ∨ t = 20
  · exact .inr h
  · refine .inl ?_
    simp only [not_or] at h
    obtain ⟨h1, h2, h3, h4, h5, h6, h7, h8⟩ := h
    simp [R92, RG.p, beq_eq_false_iff_ne.2 h1, beq_eq_false_iff_ne.2 h2, beq_eq_false_iff_ne.2 h3, beq_eq_false_iff_ne.2 h4, beq_eq_false_iff_ne.2 h5, beq_eq_false_iff_ne.2 h6, beq_eq_false_iff_ne.2 h7, beq_eq_false_iff_ne.2 h8]
structure LentS (hz : List AObj) (t : Tal) (cv nv kv ov : Value) (cs : List Int) (p3 p5 p7 c1 c2 : Nat) (cells : List Value) (ls : List (List Int)) : Prop where
  ok : heapOk hz
  nw : ∀ x ∈ hz, x.wrt = false
  nc : ∀ cap, .chan cap ∉ hz
  h3 : hz[p3]? = some (.cells (talCells t cv nv) false 0)
  h5 : hz[p5]? = some (.cells [kv] false 0)
  h7 : hz[p7]? = some (.cells [.chan (some c1)] false 0)
  hc1 : c1 < hz.length
  hc2 : c2 < hz.length
  ta : TalAt hz (.agg ⟨talCells t cv nv⟩) t cv nv
  kv : Sli hz kv 1 cs.length (cs.map fun n => .int .u64 n)
  os : Sli hz ov 1 ls.length cells
  ovk : VOk hz.length ov
  el : EleS hz cells ls
  lb : ∀ l ∈ ls, l.length ≤ 1000 ∧ ∀ x ∈ l, 0 ≤ x ∧ x < cs.length
  few : ls.length ≤ 1000
theorem LentS.regs {hz : List AObj} {t : Tal} {cv nv kv ov : Value} {cs : List Int} {p3 p5 p7 c1 c2 n i : Nat} {cells : List Value} {ls : List (List Int)} (L : LentS hz t cv nv kv ov cs p3 p5 p7 c1 c2 cells ls) {f : RG}
    (e1 : f.r 1 = ov) (e3 : f.r 3 = ptr p3 0) (e5 : f.r 5 = ptr p5 0) (e7 : f.r 7 = ptr p7 0) (e8 : f.r 8 = .chan (some c2)) (e18 : f.r 18 = ov) (e19 : f.r 19 = vint (n : Nat)) (e20 : f.r 20 = vint (i : Nat)) :
    ∀ t, (R92 ov p3 p5 p7 c2 n i).r t = unk ∨ ((R92 ov p3 p5 p7 c2 n i).r t = f.r t ∧ VOk hz.length ((R92 ov p3 p5 p7 c2 n i).r t)) := by
  have vp : ∀ {b : Nat} {x : AObj}, hz[b]? = some x → VOk hz.length (ptr b 0) := fun hb => by
    have := lt_of_get hb
    simp [VOk, ptr, AddrOk, this]
  intro t
  rcases r92_cases ov p3 p5 p7 c2 n i t with h | rfl | rfl | rfl | rfl | rfl | rfl | rfl | rfl
  · exact .inl h
  · exact .inr ⟨e1.symm, L.ovk⟩
  · exact .inr ⟨e3.symm, vp L.h3⟩
  · exact .inr ⟨e5.symm, vp L.h5⟩
  · exact .inr ⟨e7.symm, vp L.h7⟩
  · refine .inr ⟨e8.symm, ?_⟩
    show VOk hz.length (.chan (some c2))
    simp [VOk, L.hc2]
  · exact .inr ⟨e18.symm, L.ovk⟩
  · refine .inr ⟨e19.symm, ?_⟩
    show VOk hz.length (vint (n : Nat))
    simp [VOk]
  · refine .inr ⟨e20.symm, ?_⟩
    show VOk hz.length (vint (i : Nat))
    simp [VOk]
def phi92 (t : Tal) (cs : List Int) (ls : List (List Int)) (k : Nat) (v : Value) : Prop := ∃ l, ls[k]? = some l ∧ v = vint (sentV t cs l k)
def crew92 (ch : Nat → Option (Nat × Array Value × Bool)) (c d : Nat) (t : Tal) (cs : List Int) (ls : List (List Int)) (buf : Array Value) (cl : Bool) (pend : List Nat) : Crew := ⟨putAt ch d (some (ls.length, buf, cl)), c, pend, phi92 t cs ls⟩
theorem crew92_put {ch : Nat → Option (Nat × Array Value × Bool)} {c d : Nat} {t : Tal} {cs : List Int} {ls : List (List Int)} {buf buf' : Array Value} {cl cl' : Bool} {pend : List Nat} : (crew92 ch c d t cs ls buf cl pend).put d (ls.length, buf', cl') = crew92 ch c d t cs ls buf' cl' pend := by
  unfold Crew.put crew92
  dsimp only
  congr 1
  funext j
  by_cases e : j = d
  · subst e
    rw [putAt_self, putAt_self]
  · rw [putAt_ne _ _ e, putAt_ne _ _ e, putAt_ne _ _ e]
section
variable {ch : Nat → Option (Nat × Array Value × Bool)} {W0 : World} {Post : Value → World → Prop} {b : FB} {fs : List Frame} {FC : Frm} {ρ0 : Env} {m : Nat} {k2 : List Item} {hz : List AObj} {t : Tal} {cv nv kv ov : Value} {cs : List Int} {p3 p5 p7 c1 c2 : Nat} {cells : List Value} {ls : List (List Int)}
theorem hire92 (hk : b.kind ≠ .early) (hown : ch (ρ0.blk c1) = some (0, #[], false)) (hne : ρ0.blk c1 ≠ ρ0.blk c2) (fine : TalFine t) (L : LentS hz t cv nv kv ov cs p3 p5 p7 c1 c2 cells ls) (hm : m ≤ hz.length) (hpm : c1 < m) (hw : ∀ b, ¬ FC.wr b)
    (hdone : At (JC prog W0 Post (crew92 ch (ρ0.blk c1) (ρ0.blk c2) t cs ls #[] false (List.range ls.length))) 50 b fs FC ρ0 m k2 (R92 ov p3 p5 p7 c2 ls.length ls.length) hz) :
    ∀ (d i : Nat), d = ls.length - i → i ≤ ls.length → At (JC prog W0 Post (crew92 ch (ρ0.blk c1) (ρ0.blk c2) t cs ls #[] false (List.range i))) 50 b fs FC ρ0 m (.code (subC [1, 1, 0, 1, 0, 0] (codeOf f92)) :: .inLoop (subC [1, 1, 0, 1, 0, 0] (codeOf f92)) :: .inBlock 0 :: k2) (R92 ov p3 p5 p7 c2 ls.length i) hz := by
  intro d
  induction d with
  | zero =>
    intro i hd hi
    have hin : i = ls.length := by omega
    subst hin
    have hJ := JC.closed prog W0 Post (crew92 ch (ρ0.blk c1) (ρ0.blk c2) t cs ls #[] false (List.range ls.length))
    rw [round92]
    refine At.seq hJ (At.piece (Q := fun e f' h' => e = .normal ∧ f' = (R92 ov p3 p5 p7 c2 ls.length ls.length).p 21 (.bool false) ∧ h' = hz) rfl hk (W_sound hJ mixed _ ?_) hm (Nat.le_refl _) ?_)
    · rw [q92_2]
      refine lssI ⟨rfl, ?_, rfl⟩
      simp
    rintro e f' h' ⟨rfl, rfl, rfl⟩
    refine .inl ⟨rfl, At.seq hJ (At.piece (Q := fun e f' h1 => e = .exit 0 ∧ f' = (R92 ov p3 p5 p7 c2 ls.length ls.length).p 21 (.bool false) ∧ h1 = h') rfl hk (W_sound hJ mixed _ ?_) hm (Nat.le_refl _) ?_)⟩
    · rw [q92_3]
      exact cnd_false.2 ⟨rfl, rfl, rfl⟩
    rintro e f1 h1 ⟨rfl, rfl, rfl⟩
    refine .inr ⟨0, k2, rfl, by simp [exitTo], ?_⟩
    exact At.weak L.ok (L.regs rfl rfl rfl rfl rfl rfl rfl rfl) rfl rfl hm hdone
  | succ d ih =>
    intro i hd hi
    have hil : i < ls.length := by omega
    have hJ := JC.closed prog W0 Post (crew92 ch (ρ0.blk c1) (ρ0.blk c2) t cs ls #[] false (List.range i))
    have hJ2 := JC.closed prog W0 Post (crew92 ch (ρ0.blk c1) (ρ0.blk c2) t cs ls #[] false (List.range i ++ [i]))
    rw [round92]
    refine At.seq hJ (At.piece (Q := fun e f' h' => e = .normal ∧ f' = (R92 ov p3 p5 p7 c2 ls.length i).p 21 (.bool true) ∧ h' = hz) rfl hk (W_sound hJ mixed _ ?_) hm (Nat.le_refl _) ?_)
    · rw [q92_2]
      refine lssI ⟨rfl, ?_, rfl⟩
      have : ((i : Int) < (ls.length : Int)) := by omega
      simp [this]
    rintro e f' h' ⟨rfl, rfl, rfl⟩
    refine .inl ⟨rfl, At.seq hJ (At.piece (Q := fun e f' h1 => e = .normal ∧ f' = (R92 ov p3 p5 p7 c2 ls.length i).p 21 (.bool true) ∧ h1 = h') rfl hk (W_sound hJ mixed _ ?_) hm (Nat.le_refl _) ?_)⟩
    · rw [q92_3]
      exact cnd_true.2 ⟨rfl, rfl, rfl⟩
    rintro e f1 hz ⟨rfl, rfl, rfl⟩
    obtain ⟨l, hl⟩ : ∃ l, ls[i]? = some l := ⟨_, List.getElem?_eq_getElem hil⟩
    obtain ⟨c, hc, E⟩ := L.el i l hl
    obtain ⟨hll, hlb⟩ := L.lb l (List.mem_of_getElem? hl)
    refine .inl ⟨rfl, At.seq hJ (At.block hJ (At.seq hJ (At.piece (Q := fun e f' h' => e = .normal ∧ f'.ds = [] ∧ (f'.r 1 = ov ∧ f'.r 3 = ptr p3 0 ∧ f'.r 5 = ptr p5 0 ∧ f'.r 7 = ptr p7 0 ∧ f'.r 8 = .chan (some c2) ∧ f'.r 18 = ov ∧ f'.r 19 = vint (ls.length : Nat) ∧ f'.r 20 = vint (i : Nat)) ∧ f'.r 9 = ptr hz.length 0 ∧ f'.r 10 = ptr (hz.length + 1) 0 ∧ h' = hz ++ [.cells [vint (i : Nat)] true 0, .cells [c] true 0]) rfl hk (W_sound hJ mixed _ ?_) hm (Nat.le_refl _) ?_)))⟩
    · rw [q92_4]
      refine idx_load L.os ⟨by show (0 : Int) ≤ (i : Nat); omega, by show ((i : Nat) : Int) < _; omega⟩ (by rw [Int.toNat_natCast]; exact hc) fun p => ?_
      refine qAl fun H1 p9 e1 S1 k1 l1 => qAl fun H2 p10 e2 S2 k2 l2 => ?_
      refine qSt (S2.get k1 (by simp)) (by simp) rfl rfl fun H3 S3 k3 l3 => qSt (S3.get k2 (by simp; omega)) (by simp) (sli_one E).1 (sli_one E).2.1 fun H4 S4 k4 l4 => ?_
      have SS : SameX [] hz H4 := ((S1.trans S2).thru S3 (by intro x hx; rw [List.mem_singleton.1 hx]; exact .inr (by omega))).thru S4 (by intro x hx; rw [List.mem_singleton.1 hx]; exact .inr (by omega))
      have k3' := S4.get k3 (by simp; omega)
      have e2' : p10 = hz.length + 1 := by omega
      subst e1 e2'
      exact ⟨rfl, rfl, ⟨rfl, rfl, rfl, rfl, rfl, rfl, rfl, rfl⟩, rfl, rfl, two_more SS (by omega) k3' k4⟩
    rintro e f h' ⟨rfl, ds, ⟨r1, r3, r5, r7, r8, r18, r19, r20⟩, r9, r10, rfl⟩
    refine .inl ⟨rfl, At.region hJ ?_⟩
    rw [show List.range ops92_1.size = [0, 1] from by rw [z92_1]; rfl]
    obtain ⟨o1, o2, o3, o4, o5⟩ := o92_1_0 (J := JC prog W0 Post (crew92 ch (ρ0.blk c1) (ρ0.blk c2) t cs ls #[] false (List.range i)))
    obtain ⟨x1, x2, x3, x4, x5⟩ := o92_1_1 (J := JC prog W0 Post (crew92 ch (ρ0.blk c1) (ρ0.blk c2) t cs ls #[] false (List.range i)))
    refine At.op hJ hk o1 o3 (o4 _) ?_
    rw [o5, r9, r10, r3, r5, r7, o2]
    refine ⟨rfl, fun _ => ?_⟩
    have fz : ∀ {q : Nat} {l : List Value} {wr : Bool} {sz : Nat}, (hz ++ [.cells [vint (i : Nat)] true 0, .cells [c] true 0])[q]? = some (.cells l wr sz) → (frz (hz ++ [.cells [vint (i : Nat)] true 0, .cells [c] true 0]))[q]? = some (.cells l false sz) := frz_at
    have ga : (hz ++ [.cells [vint (i : Nat)] true 0, .cells [c] true 0])[hz.length]? = some (.cells [vint (i : Nat)] true 0) := by simp
    have gb : (hz ++ [.cells [vint (i : Nat)] true 0, .cells [c] true 0])[hz.length + 1]? = some (.cells [c] true 0) := by simp
    have hT : (crew92 ch (ρ0.blk c1) (ρ0.blk c2) t cs ls #[] false (List.range i)).ch (ρ0.blk c1) = some (0, #[], false) := by
      unfold crew92
      dsimp only
      rw [putAt_ne _ _ hne]
      exact hown
    refine At.go hk x1 (x4 _) x5 x2 (g := 110) (cap := [ptr (hz.length + 1) 0, ptr p5 0, ptr p3 0, ptr p7 0, ptr hz.length 0]) rfl (by kernel_rfl) (k := i) (by show i ∉ List.range i; simp) hT rfl L.nw hw L.ok hm (fun ρ w ft R hu => ?_) (fun cap hcm => ?_) (f' := R92 ov p3 p5 p7 c2 ls.length i) (L.regs r1 r3 r5 r7 r8 r18 r19 r20) ds.symm (by show ∀ x ∈ f.ds, _; rw [ds]; simp) ?_
    · exact work110 (T := crew92 ch (ρ0.blk c1) (ρ0.blk c2) t cs ls #[] false (List.range i)) R (fz gb) (fz (get_app L.h5)) (fz (get_app L.h3)) (fz (get_app L.h7)) (fz ga) ⟨rfl, frz_sli (sli_app L.ta.ch), frz_sli (sli_app L.ta.co)⟩ fine (frz_sli (sli_app L.kv)) (frz_sli (sli_app E)) hlb hll (by rw [frz_len, List.length_append]; have := L.hc1; omega) (hu c1 hpm).1 (k := i) ⟨l, hl, rfl⟩
    · rcases List.mem_append.1 hcm with y | y
      · exact L.nc cap y
      · simp at y
    · refine At.ops_nil hJ2 (At.inBlock hJ2 (At.piece (Q := fun e f' h' => e = .normal ∧ f' = ((R92 ov p3 p5 p7 c2 ls.length i).p 26 (vint (i + 1 : Nat))).p 20 (vint (i + 1 : Nat)) ∧ h' = hz) rfl hk (W_sound hJ2 mixed _ ?_) hm (Nat.le_refl _) ?_))
      · rw [q92_5]
        have hf := L.few
        refine addI (by omega) ⟨rfl, ?_, rfl⟩
        rfl
      rintro e f1 h1 ⟨rfl, rfl, rfl⟩
      refine .inl ⟨rfl, At.inLoop hJ2 ?_⟩
      have := ih (i + 1) (by omega) (by omega)
      rw [List.range_succ] at this
      exact At.weak L.ok (L.regs rfl rfl rfl rfl rfl rfl rfl rfl) rfl rfl hm this
end
theorem At.skip {P : Program} {main : Bool} {J : JT} {N m : Nat} {b : FB} {cs : List Frame} {FC : Frm} {ρ0 : Env} {k : List Item} {f : RG} {h : List AObj} (hJ : Closed P main J) (h' : At J N b cs FC ρ0 m k f h) : At J N b cs FC ρ0 m (.code .skip :: k) f h :=
  At.ctrl hJ (fun a w => by simp [G, stepG, stepG.exec, FB.at]) h'
theorem At.forget {J : JT} {N m : Nat} {b : FB} {cs : List Frame} {FC : Frm} {ρ0 : Env} {k : List Item} {f f' : RG} {h : List AObj} (hf : ∀ t, f'.r t = unk ∨ f'.r t = f.r t) (hd : f'.ds = f.ds) (h' : At J N b cs FC ρ0 m k f' h) : At J N b cs FC ρ0 m k f h := by
  intro a ρ w ft A H hu hm
  refine h' a ρ w ft ⟨fun t => ?_, A.size, by rw [hd]; exact A.defers, by rw [hd]; exact A.ok⟩ H hu hm
  rcases hf t with e | e
  · exact .inl e
  · rw [e]
    exact A.regs t
theorem shape92b : subC [1, 1, 1] (codeOf f92) = .seq (.seq (subC [1, 1, 1, 0, 0] (codeOf f92)) (.block 2 (.loop (subC [1, 1, 1, 0, 1, 0, 0] (codeOf f92))))) (subC [1, 1, 1, 1] (codeOf f92)) := by kernel_rfl
theorem round92b : subC [1, 1, 1, 0, 1, 0, 0] (codeOf f92) = .seq (subC [1, 1, 1, 0, 1, 0, 0, 0] (codeOf f92)) (.seq (subC [1, 1, 1, 0, 1, 0, 0, 1, 0] (codeOf f92)) (.seq (.block 3 (.seq (.region 9 ops92_2 false) (.seq (subC [1, 1, 1, 0, 1, 0, 0, 1, 1, 0, 0, 1, 0] (codeOf f92)) (.cond (.tmp 34) (.region 11 ops92_3 false) .skip)))) (subC [1, 1, 1, 0, 1, 0, 0, 1, 1, 1] (codeOf f92)))) := by kernel_rfl
theorem shape92c : subC [1, 1, 1, 1] (codeOf f92) = .seq (.region 13 ops92_4 false) (.seq (subC [1, 1, 1, 1, 1, 0] (codeOf f92)) (.seq (.seq (subC [1, 1, 1, 1, 1, 1, 0, 0] (codeOf f92)) (.block 4 (.loop (subC [1, 1, 1, 1, 1, 1, 0, 1, 0, 0] (codeOf f92))))) (subC [1, 1, 1, 1, 1, 1, 1] (codeOf f92)))) := by kernel_rfl
theorem round92c : subC [1, 1, 1, 1, 1, 1, 0, 1, 0, 0] (codeOf f92) = .seq (.region 16 ops92_5 false) (.seq (subC [1, 1, 1, 1, 1, 1, 0, 1, 0, 0, 1, 0] (codeOf f92)) (subC [1, 1, 1, 1, 1, 1, 0, 1, 0, 0, 1, 1] (codeOf f92))) := by kernel_rfl
def vis (is : List Nat) : Array Value := ⟨is.map fun k => vint (k : Nat)⟩
theorem vis_push {is : List Nat} {k : Nat} : (vis is).push (vint (k : Nat)) = vis (is ++ [k]) := by
  unfold vis
  apply Array.ext'
  simp
theorem vis_size {is : List Nat} : (vis is).size = is.length := by simp [vis]
theorem vis_tail {i : Nat} {is : List Nat} : (vis (i :: is)).extract 1 (vis (i :: is)).size = vis is := by
  refine Array.ext (by simp [vis]) fun j h1 h2 => ?_
  simp [vis]
noncomputable def goodS (t : Tal) (cs : List Int) (ls : List (List Int)) (k : Nat) : Bool := match ls[k]? with | some l => truthS t (strU cs l) | none => false
noncomputable def firstS (t : Tal) (cs : List Int) (ls : List (List Int)) : Nat := ls.findIdx fun l => truthS t (strU cs l)
def mnI (a : Int) (k : Nat) : Int := min a (k : Int)
theorem fold_min : ∀ (is : List Nat) (n : Int), (is.foldl mnI n ≤ n ∧ ∀ k ∈ is, is.foldl mnI n ≤ k) ∧ (is.foldl mnI n = n ∨ ∃ k ∈ is, is.foldl mnI n = k)
  | [], n => by simp
  | i :: is, n => by
    obtain ⟨⟨h1, h2⟩, h3⟩ := fold_min is (mnI n i)
    rw [List.foldl_cons]
    have hm : mnI n i = min n (i : Int) := rfl
    refine ⟨⟨by omega, fun k hk => ?_⟩, ?_⟩
    · rcases List.mem_cons.1 hk with rfl | hk
      · omega
      · exact h2 k hk
    · rcases h3 with h3 | ⟨k, hk, h3⟩
      · by_cases e : n ≤ (i : Int)
        · exact .inl (by omega)
        · exact .inr ⟨i, List.mem_cons_self, by omega⟩
      · exact .inr ⟨k, List.mem_cons_of_mem _ hk, h3⟩
theorem first_min {t : Tal} {cs : List Int} {ls : List (List Int)} {is : List Nat} (h1 : ∀ k ∈ is, goodS t cs ls k = true) (h2 : ∀ k, goodS t cs ls k = true → k ∈ is) : is.foldl mnI (ls.length : Int) = (firstS t cs ls : Nat) := by
  obtain ⟨⟨a1, a2⟩, a3⟩ := fold_min is (ls.length : Int)
  have hlt : ∀ k, goodS t cs ls k = true → k < ls.length ∧ firstS t cs ls ≤ k := fun k hk => by
    unfold goodS at hk
    cases e : ls[k]? with
    | none => rw [e] at hk; cases hk
    | some l =>
      rw [e] at hk
      dsimp only at hk
      obtain ⟨hkl, rfl⟩ := List.getElem?_eq_some_iff.1 e
      refine ⟨hkl, ?_⟩
      rcases Nat.lt_or_ge k (firstS t cs ls) with h | h
      · have := List.not_of_lt_findIdx h
        rw [this] at hk
        cases hk
      · exact h
  have hfl : firstS t cs ls ≤ ls.length := List.findIdx_le_length
  rcases a3 with a3 | ⟨k, hk, a3⟩
  · by_cases e : firstS t cs ls < ls.length
    · have hg : goodS t cs ls (firstS t cs ls) = true := by
        unfold goodS
        rw [List.getElem?_eq_getElem e]
        exact List.findIdx_getElem (w := e)
      have := a2 _ (h2 _ hg)
      omega
    · omega
  · have := hlt k (h1 k hk)
    have e : firstS t cs ls < ls.length := by omega
    have hg : goodS t cs ls (firstS t cs ls) = true := by
      unfold goodS
      rw [List.getElem?_eq_getElem e]
      exact List.findIdx_getElem (w := e)
    have := a2 _ (h2 _ hg)
    omega
def Q92 (ov : Value) (p7 c2 n j : Nat) : RG := (((((RG.mk (fun _ => unk) []).p 1 ov).p 7 (ptr p7 0)).p 8 (.chan (some c2))).p 28 (vint (n : Nat))).p 29 (vint (j : Nat))
theorem q92_cases (ov : Value) (p7 c2 n j t : Nat) : (Q92 ov p7 c2 n j).r t = unk ∨ t = 1 ∨ t = 7 ∨ t = 8 ∨ t = 28 ∨ t = 29 := by
  by_cases h : t = 1 ∨ t = 7 ∨ t = 8 ∨ t = 28 ∨ t = 29
  · exact .inr h
  · refine .inl ?_
    simp only [not_or] at h
    obtain ⟨h1, h2, h3, h4, h5⟩ := h
    simp [Q92, RG.p, beq_eq_false_iff_ne.2 h1, beq_eq_false_iff_ne.2 h2, beq_eq_false_iff_ne.2 h3, beq_eq_false_iff_ne.2 h4, beq_eq_false_iff_ne.2 h5]
theorem q92_forget {ov : Value} {p7 c2 n j : Nat} {f : RG} (e1 : f.r 1 = ov) (e7 : f.r 7 = ptr p7 0) (e8 : f.r 8 = .chan (some c2)) (e28 : f.r 28 = vint (n : Nat)) (e29 : f.r 29 = vint (j : Nat)) : ∀ t, (Q92 ov p7 c2 n j).r t = unk ∨ (Q92 ov p7 c2 n j).r t = f.r t := by
  intro t
  rcases q92_cases ov p7 c2 n j t with h | rfl | rfl | rfl | rfl | rfl
  · exact .inl h
  · exact .inr e1.symm
  · exact .inr e7.symm
  · exact .inr e8.symm
  · exact .inr e28.symm
  · exact .inr e29.symm
section
variable {ch : Nat → Option (Nat × Array Value × Bool)} {W0 : World} {Post : Value → World → Prop} {b : FB} {fs : List Frame} {FC : Frm} {ρ0 : Env} {m : Nat} {k3 : List Item} {hz : List AObj} {t : Tal} {cv nv kv ov : Value} {cs : List Int} {p3 p5 p7 c1 c2 : Nat} {cells : List Value} {ls : List (List Int)}
theorem recv92 (hk : b.kind ≠ .early) (hne : ρ0.blk c1 ≠ ρ0.blk c2) (L : LentS hz t cv nv kv ov cs p3 p5 p7 c1 c2 cells ls) (hm : m ≤ hz.length) (hpm : c1 < m) (hpm2 : c2 < m)
    (hdone : ∀ is : List Nat, (∀ k ∈ is, goodS t cs ls k = true) → (∀ k, goodS t cs ls k = true → k ∈ is) → At (JC prog W0 Post (crew92 ch (ρ0.blk c1) (ρ0.blk c2) t cs ls (vis is) false [])) 50 b fs FC ρ0 m k3 (Q92 ov p7 c2 ls.length ls.length) hz) :
    ∀ (d j : Nat) (pend is : List Nat), d = ls.length - j → pend.length + j = ls.length → pend.Nodup → (∀ k ∈ pend, k < ls.length) → is.length ≤ j → (∀ k ∈ is, goodS t cs ls k = true) → (∀ k, goodS t cs ls k = true → k ∉ pend → k ∈ is) →
      At (JC prog W0 Post (crew92 ch (ρ0.blk c1) (ρ0.blk c2) t cs ls (vis is) false pend)) 50 b fs FC ρ0 m (.code (subC [1, 1, 1, 0, 1, 0, 0] (codeOf f92)) :: .inLoop (subC [1, 1, 1, 0, 1, 0, 0] (codeOf f92)) :: .inBlock 2 :: k3) (Q92 ov p7 c2 ls.length j) hz := by
  intro d
  induction d with
  | zero =>
    intro j pend is hd hpj hnd hlt hil h1 h2
    have hp : pend = [] := List.length_eq_zero_iff.1 (by omega)
    subst hp
    have hj : j = ls.length := by simpa using hpj
    subst hj
    have hJ := JC.closed prog W0 Post (crew92 ch (ρ0.blk c1) (ρ0.blk c2) t cs ls (vis is) false [])
    rw [round92b]
    refine At.seq hJ (At.piece (Q := fun e f' h' => e = .normal ∧ f' = (Q92 ov p7 c2 ls.length ls.length).p 30 (.bool false) ∧ h' = hz) rfl hk (W_sound hJ mixed _ ?_) hm (Nat.le_refl _) ?_)
    · rw [q92_7]
      refine lssI ⟨rfl, ?_, rfl⟩
      simp
    rintro e f' h' ⟨rfl, rfl, rfl⟩
    refine .inl ⟨rfl, At.seq hJ (At.piece (Q := fun e f' h1 => e = .exit 2 ∧ f' = (Q92 ov p7 c2 ls.length ls.length).p 30 (.bool false) ∧ h1 = h') rfl hk (W_sound hJ mixed _ ?_) hm (Nat.le_refl _) ?_)⟩
    · rw [q92_8]
      exact cnd_false.2 ⟨rfl, rfl, rfl⟩
    rintro e f1 h1' ⟨rfl, rfl, rfl⟩
    refine .inr ⟨2, k3, rfl, by simp [exitTo], ?_⟩
    exact At.forget (q92_forget rfl rfl rfl rfl rfl) rfl (hdone is h1 fun k hk => h2 k hk (by simp))
  | succ d ih =>
    intro j pend is hd hpj hnd hlt hil h1 h2
    have hJ := JC.closed prog W0 Post (crew92 ch (ρ0.blk c1) (ρ0.blk c2) t cs ls (vis is) false pend)
    rw [round92b]
    refine At.seq hJ (At.piece (Q := fun e f' h' => e = .normal ∧ f' = (Q92 ov p7 c2 ls.length j).p 30 (.bool true) ∧ h' = hz) rfl hk (W_sound hJ mixed _ ?_) hm (Nat.le_refl _) ?_)
    · rw [q92_7]
      refine lssI ⟨rfl, ?_, rfl⟩
      have : ((j : Int) < (ls.length : Int)) := by omega
      simp [this]
    rintro e f' h' ⟨rfl, rfl, rfl⟩
    refine .inl ⟨rfl, At.seq hJ (At.piece (Q := fun e f' h1 => e = .normal ∧ f' = (Q92 ov p7 c2 ls.length j).p 30 (.bool true) ∧ h1 = h') rfl hk (W_sound hJ mixed _ ?_) hm (Nat.le_refl _) ?_)⟩
    · rw [q92_8]
      exact cnd_true.2 ⟨rfl, rfl, rfl⟩
    rintro e f1 hz ⟨rfl, rfl, rfl⟩
    refine .inl ⟨rfl, At.seq hJ (At.block hJ (At.seq hJ (At.region hJ ?_)))⟩
    rw [show List.range ops92_2.size = [0, 1, 2] from by rw [z92_2]; rfl]
    obtain ⟨o1, o2, o3, o4, o5⟩ := o92_2_0 (J := JC prog W0 Post (crew92 ch (ρ0.blk c1) (ρ0.blk c2) t cs ls (vis is) false pend))
    obtain ⟨x1, x2, x3, x4, x5⟩ := o92_2_1 (J := JC prog W0 Post (crew92 ch (ρ0.blk c1) (ρ0.blk c2) t cs ls (vis is) false pend))
    refine At.op hJ hk o1 o3 (o4 _) ?_
    rw [o5, o2]
    refine ldI L.h7 rfl rfl fun _ => ?_
    have hpne : pend ≠ [] := by rintro rfl; simp at hpj; omega
    refine At.recv hk x1 x3 (x4 _) x5 (dir := .both) (e := 3) (by kernel_rfl) (ie := (prog.info? 3).getD default) (by kernel_rfl) (z := vint 0) (by kernel_rfl) (c := c1) rfl hpm rfl hpne fun k hkp v hv => ?_
    obtain ⟨l, hl, rfl⟩ := hv
    refine ⟨_, rfl, by simp [VOk], ?_⟩
    have hJ2 := JC.closed prog W0 Post (crew92 ch (ρ0.blk c1) (ρ0.blk c2) t cs ls (vis is) false (pend.erase k))
    obtain ⟨y1, y2, y3, y4, y5⟩ := o92_2_2 (J := JC prog W0 Post (crew92 ch (ρ0.blk c1) (ρ0.blk c2) t cs ls (vis is) false (pend.erase k)))
    show At (JC prog W0 Post (crew92 ch (ρ0.blk c1) (ρ0.blk c2) t cs ls (vis is) false (pend.erase k))) 50 b fs FC ρ0 m _ _ hz
    rw [x2]
    refine At.op hJ2 hk y1 y3 (y4 _) ?_
    rw [y5, y2]
    intro _
    have hkp' : k ∈ pend := hkp
    have hel := List.length_erase_of_mem hkp'
    have hpos := List.length_pos_of_mem hkp'
    have hf := L.few
    have hgood : goodS t cs ls k = truthS t (strU cs l) := by
      unfold goodS
      rw [hl]
    refine At.ops_nil hJ2 (At.seq hJ2 (At.piece (Q := fun e f' h' => e = .normal ∧ f'.ds = [] ∧ (f'.r 1 = ov ∧ f'.r 7 = ptr p7 0 ∧ f'.r 8 = .chan (some c2) ∧ f'.r 28 = vint (ls.length : Nat) ∧ f'.r 29 = vint (j : Nat)) ∧ f'.r 11 = vint (sentV t cs l k) ∧ f'.r 34 = .bool (decide (sentV t cs l k ≥ 0)) ∧ h' = hz) rfl hk (W_sound hJ2 mixed _ ?_) hm (Nat.le_refl _) ?_))
    · rw [q92_9]
      exact geqI ⟨rfl, rfl, ⟨rfl, rfl, rfl, rfl, rfl⟩, rfl, rfl, rfl⟩
    rintro e f hz' ⟨rfl, ds, ⟨r1, r7, r8, r28, r29⟩, r11, r34, rfl⟩
    refine .inl ⟨rfl, At.cond hJ2 (t := decide (sentV t cs l k ≥ 0)) r34 ?_⟩
    -- behind the answer
    have next : ∀ (is' : List Nat) (f : RG), is'.length ≤ j + 1 → (∀ k ∈ is', goodS t cs ls k = true) → (∀ k', goodS t cs ls k' = true → k' ∉ pend.erase k → k' ∈ is') → f.ds = [] → f.r 1 = ov → f.r 7 = ptr p7 0 → f.r 8 = .chan (some c2) → f.r 28 = vint (ls.length : Nat) → f.r 29 = vint (j : Nat) →
        At (JC prog W0 Post (crew92 ch (ρ0.blk c1) (ρ0.blk c2) t cs ls (vis is') false (pend.erase k))) 50 b fs FC ρ0 m (.inBlock 3 :: .code (subC [1, 1, 1, 0, 1, 0, 0, 1, 1, 1] (codeOf f92)) :: .inLoop (subC [1, 1, 1, 0, 1, 0, 0] (codeOf f92)) :: .inBlock 2 :: k3) f hz' := by
      intro is' f hil' h1' h2' ds r1 r7 r8 r28 r29
      have hJ3 := JC.closed prog W0 Post (crew92 ch (ρ0.blk c1) (ρ0.blk c2) t cs ls (vis is') false (pend.erase k))
      refine At.inBlock hJ3 (At.piece (Q := fun e f' h' => e = .normal ∧ f'.ds = [] ∧ (f'.r 1 = ov ∧ f'.r 7 = ptr p7 0 ∧ f'.r 8 = .chan (some c2) ∧ f'.r 28 = vint (ls.length : Nat) ∧ f'.r 29 = vint (j + 1 : Nat)) ∧ h' = hz') rfl hk (W_sound hJ3 mixed _ ?_) hm (Nat.le_refl _) ?_)
      · rw [q92_10, r29]
        exact addI (by omega) ⟨rfl, ds, ⟨r1, r7, r8, r28, rfl⟩, rfl⟩
      rintro e f1 h1'' ⟨rfl, ds, ⟨r1, r7, r8, r28, r29⟩, rfl⟩
      refine .inl ⟨rfl, At.inLoop hJ3 (At.forget (q92_forget r1 r7 r8 r28 r29) ds.symm ?_)⟩
      exact ih (j + 1) (pend.erase k) is' (by omega) (by omega) (hnd.erase k) (fun l hl => hlt l (List.mem_of_mem_erase hl)) hil' h1' h2'
    cases hT : truthS t (strU cs l) with
    | true =>
      have e1 : sentV t cs l k = (k : Int) := by unfold sentV; rw [if_pos hT]
      rw [e1] at r11
      rw [decide_eq_true (show sentV t cs l k ≥ 0 by rw [e1]; omega)]
      show At _ _ _ _ _ _ _ (.code (.region 11 ops92_3 false) :: _) _ _
      refine At.region hJ2 ?_
      rw [show List.range ops92_3.size = [0, 1, 2] from by rw [z92_3]; rfl]
      obtain ⟨u1, u2, u3, u4, u5⟩ := o92_3_0 (J := JC prog W0 Post (crew92 ch (ρ0.blk c1) (ρ0.blk c2) t cs ls (vis is) false (pend.erase k)))
      obtain ⟨w1, w2, w3, w4, w5⟩ := o92_3_1 (J := JC prog W0 Post (crew92 ch (ρ0.blk c1) (ρ0.blk c2) t cs ls (vis is) false (pend.erase k)))
      obtain ⟨z1, z2, z3, z4, z5⟩ := o92_3_2 (J := JC prog W0 Post (crew92 ch (ρ0.blk c1) (ρ0.blk c2) t cs ls (vis is) false (pend.erase k)))
      refine At.op hJ2 hk u1 u3 (u4 _) ?_
      rw [u5, u2]
      intro _
      refine At.op hJ2 hk w1 w3 (w4 _) ?_
      rw [w5, w2]
      intro _
      refine At.room hk z1 (z4 _) z5 z2 (c := c2) (by show f.r 8 = _; exact r8) hpm2 (v := vint (k : Nat)) (by show f.r 11 = _; exact r11) (by simp [unk]) (by simp [VOk]) (cap := ls.length) (buf := vis is) (by
        unfold crew92
        dsimp only
        rw [putAt_self]) (fun _ e => hne e.symm) (by rw [vis_size]; omega) ?_
      rw [crew92_put, vis_push]
      have hJ3 := JC.closed prog W0 Post (crew92 ch (ρ0.blk c1) (ρ0.blk c2) t cs ls (vis (is ++ [k])) false (pend.erase k))
      refine At.ops_nil hJ3 (next (is ++ [k]) _ (by simp; omega) (fun k' hk' => ?_) (fun k' hk' hn' => ?_) ds r1 r7 r8 r28 r29)
      · rcases List.mem_append.1 hk' with hk' | hk'
        · exact h1 k' hk'
        · rw [List.mem_singleton.1 hk', hgood]
          exact hT
      · by_cases e : k' = k
        · exact List.mem_append_right _ (List.mem_singleton.2 e)
        · exact List.mem_append_left _ (h2 k' hk' fun y => hn' ((List.mem_erase_of_ne e).2 y))
    | false =>
      have e1 : sentV t cs l k = -1 := by unfold sentV; rw [if_neg (by rw [hT]; decide)]
      rw [decide_eq_false (show ¬ sentV t cs l k ≥ 0 by rw [e1]; omega)]
      show At _ _ _ _ _ _ _ (.code .skip :: _) _ _
      refine At.skip hJ2 (next is f (by omega) h1 (fun k' hk' hn' => ?_) ds r1 r7 r8 r28 r29)
      by_cases e : k' = k
      · rw [e, hgood, hT] at hk'
        cases hk'
      · exact h2 k' hk' fun y => hn' ((List.mem_erase_of_ne e).2 y)
structure Grown (hz H : List AObj) : Prop where
  S : SameX [] hz H
  wr : ∀ i o, hz.length ≤ i → H[i]? = some o → o.wrt = true
theorem drain92 (hk : b.kind ≠ .early) (hm : m ≤ hz.length) (hpm2 : c2 < m)
    (hdone : ∀ f H, Grown hz H → f.ds = [] → f.r 12 = vint (firstS t cs ls : Nat) → At (JC prog W0 Post (crew92 ch (ρ0.blk c1) (ρ0.blk c2) t cs ls #[] true [])) 50 b fs FC ρ0 m k3 f H) :
    ∀ (is : List Nat) (cur : Int) (f : RG) (H : List AObj), (-1000 ≤ cur ∧ cur ≤ 1000) → is.foldl mnI cur = (firstS t cs ls : Nat) → Grown hz H → f.ds = [] → f.r 12 = vint cur → f.r 41 = .chan (some c2) →
      At (JC prog W0 Post (crew92 ch (ρ0.blk c1) (ρ0.blk c2) t cs ls (vis is) true [])) 50 b fs FC ρ0 m (.code (subC [1, 1, 1, 1, 1, 1, 0, 1, 0, 0] (codeOf f92)) :: .inLoop (subC [1, 1, 1, 1, 1, 1, 0, 1, 0, 0] (codeOf f92)) :: .inBlock 4 :: k3) f H := by
  intro is
  induction is with
  | nil =>
    intro cur f H hcur hf G ds r12 r41
    have hmH : m ≤ H.length := Nat.le_trans hm G.S.1
    have hJ := JC.closed prog W0 Post (crew92 ch (ρ0.blk c1) (ρ0.blk c2) t cs ls (vis []) true [])
    rw [round92c]
    refine At.seq hJ (At.region hJ ?_)
    rw [show List.range ops92_5.size = [0, 1] from by rw [z92_5]; rfl]
    obtain ⟨x1, x2, x3, x4, x5⟩ := o92_5_0 (J := JC prog W0 Post (crew92 ch (ρ0.blk c1) (ρ0.blk c2) t cs ls (vis []) true []))
    obtain ⟨y1, y2, y3, y4, y5⟩ := o92_5_1 (J := JC prog W0 Post (crew92 ch (ρ0.blk c1) (ρ0.blk c2) t cs ls (vis []) true []))
    refine At.drained hk x1 x3 (x4 _) x5 (dir := .both) (e := 3) (by kernel_rfl) (ie := (prog.info? 3).getD default) (by kernel_rfl) (z := vint 0) (by kernel_rfl) (c := c2) (by show f.r 41 = _; exact r41) hpm2 rfl (cap := ls.length) (by
      unfold crew92
      dsimp only
      rw [putAt_self]
      rfl) (by simp [VOk]) ?_
    rw [x2]
    refine At.op hJ hk y1 y3 (y4 _) ?_
    rw [y5, y2]
    show aExt (.tuple ⟨[vint 0, .bool false]⟩) 1 _
    refine ext1 fun _ => At.ops_nil hJ (At.seq hJ (At.piece (Q := fun e f' h' => e = .exit 4 ∧ f'.ds = [] ∧ f'.r 12 = vint cur ∧ h' = H) rfl hk (W_sound hJ mixed _ ?_) hmH (Nat.le_refl _) ?_))
    · rw [q92_13]
      exact cnd_false.2 ⟨rfl, ds, r12, rfl⟩
    rintro e f1 h1 ⟨rfl, ds, r12, rfl⟩
    refine .inr ⟨4, k3, rfl, by simp [exitTo], hdone _ _ G ds ?_⟩
    rw [r12]
    exact congrArg vint hf
  | cons i is ih =>
    intro cur f H hcur hf G ds r12 r41
    have hmH : m ≤ H.length := Nat.le_trans hm G.S.1
    have hJ := JC.closed prog W0 Post (crew92 ch (ρ0.blk c1) (ρ0.blk c2) t cs ls (vis (i :: is)) true [])
    have hJ2 := JC.closed prog W0 Post (crew92 ch (ρ0.blk c1) (ρ0.blk c2) t cs ls (vis is) true [])
    rw [round92c]
    refine At.seq hJ (At.region hJ ?_)
    rw [show List.range ops92_5.size = [0, 1] from by rw [z92_5]; rfl]
    obtain ⟨x1, x2, x3, x4, x5⟩ := o92_5_0 (J := JC prog W0 Post (crew92 ch (ρ0.blk c1) (ρ0.blk c2) t cs ls (vis (i :: is)) true []))
    obtain ⟨y1, y2, y3, y4, y5⟩ := o92_5_1 (J := JC prog W0 Post (crew92 ch (ρ0.blk c1) (ρ0.blk c2) t cs ls (vis is) true []))
    have e0 : (vis (i :: is)).getD 0 undef = vint (i : Nat) := rfl
    have e1 : (vis (i :: is)).extract 1 (vis (i :: is)).size = vis is := vis_tail
    refine At.take hk x1 x3 (x4 _) x5 (dir := .both) (e := 3) (by kernel_rfl) (ie := (prog.info? 3).getD default) (by kernel_rfl) (z := vint 0) (by kernel_rfl) (c := c2) (by show f.r 41 = _; exact r41) hpm2 rfl (cap := ls.length) (buf := vis (i :: is)) (cl := true) (by
      unfold crew92
      dsimp only
      rw [putAt_self]) (by rw [vis_size]; simp) (by rw [e0]; simp [VOk]) ?_
    rw [x2, e0, e1, crew92_put]
    refine At.op hJ2 hk y1 y3 (y4 _) ?_
    rw [y5, y2]
    show aExt (.tuple ⟨[vint (i : Nat), .bool true]⟩) 1 _
    refine ext1 fun _ => At.ops_nil hJ2 (At.seq hJ2 (At.piece (Q := fun e f' h' => e = .normal ∧ f'.ds = [] ∧ f'.r 12 = vint cur ∧ f'.r 41 = .chan (some c2) ∧ f'.r 42 = .tuple ⟨[vint (i : Nat), .bool true]⟩ ∧ h' = H) rfl hk (W_sound hJ2 mixed _ ?_) hmH (Nat.le_refl _) ?_))
    · rw [q92_13]
      exact cnd_true.2 ⟨rfl, ds, r12, r41, rfl, rfl⟩
    rintro e f1 h1 ⟨rfl, ds, r12, r41, r42, rfl⟩
    refine .inl ⟨rfl, At.piece (Q := fun e f' h' => e = .normal ∧ f'.ds = [] ∧ f'.r 12 = vint (min cur (i : Int)) ∧ f'.r 41 = .chan (some c2) ∧ Grown hz h') rfl hk (W_sound hJ2 mixed _ ?_) hmH (Nat.le_refl _) ?_⟩
    · rw [q92_14, r42]
      refine ext0 ⟨by decide, fill1 rfl rfl (by decide) (fillI (qNew fun H2 p e2 S2 k2 l2 => ?_))⟩
      rw [r12]
      refine good103 hJ2 (p := p) (b := (i : Int)) k2 ⟨rfl, ds, rfl, r41, G.S.trans S2, fun q o hq ho => ?_⟩
      by_cases hlt : q < h1.length
      · rw [S2.2 q hlt (by simp)] at ho
        exact G.wr q o hq ho
      · have := lt_of_get ho
        have : q = p := by omega
        subst this
        rw [k2] at ho
        cases ho
        rfl
    rintro e f2 h2 ⟨rfl, ds, r12, r41, G2⟩
    exact .inl ⟨rfl, At.inLoop hJ2 (ih (min cur (i : Int)) f2 h2 (by omega) (by rw [← hf]; rfl) G2 ds r12 r41)⟩
end
theorem same_unch {h H g : List AObj} (S : SameX [] h H) : SameX [] (unch h) (unch H ++ g) := by
  refine ⟨by rw [List.length_append, unch_len, unch_len]; have := S.1; omega, fun i hi _ => ?_⟩
  rw [unch_len] at hi
  have h1 := S.2 i hi (by simp)
  have hlt : i < (unch H).length := by rw [unch_len]; have := S.1; omega
  rw [List.getElem?_append_left hlt]
  unfold unch
  rw [List.getElem?_map, List.getElem?_map, h1]
open Classical in
/-- The channels that the heap tells of. -/
noncomputable def chOf (ρ : Env) (h : List AObj) (w : World) (b : Nat) : Option (Nat × Array Value × Bool) :=
  if Chs ρ h b then (match w.heap[b]? with | some (.chan cap _ _ _ _ _) => some (cap, #[], false) | _ => none) else none
theorem chOf_some {ρ : Env} {h : List AObj} {FC : Frm} {w : World} {ft : Foot} (H : HRel ρ h FC w ft) {b i cap : Nat} (hi : h[i]? = some (.chan cap)) (hb : ρ.blk i = b) : chOf ρ h w b = some (cap, #[], false) ∧ w.heap[b]? = some (.chan cap #[] false 0 0 false) ∧ ft.rd b := by
  have ho := H.obj i _ hi
  rw [hb] at ho
  have hr := H.rd i _ hi rfl
  rw [hb] at hr
  cases hw : w.heap[b]? with
  | none => rw [hw] at ho; exact ho.elim
  | some x =>
    rw [hw] at ho
    cases x with
    | chan cap' buf closed s r tm =>
      obtain ⟨rfl, rfl, rfl, rfl, rfl, rfl⟩ := ho
      refine ⟨?_, rfl, hr⟩
      unfold chOf
      rw [if_pos ⟨i, _, hi, hb⟩, hw]
    | _ => exact ho.elim
theorem chOf_none {ρ : Env} {h : List AObj} {w : World} {b : Nat} (hn : ¬ Chs ρ h b) : chOf ρ h w b = none := if_neg hn
section
variable {W0 : World} {Post : Value → World → Prop} {h : List AObj} {K : Value → List AObj → Prop}
theorem good92 {cv nv kv ov : Value} {t : Tal} {cs : List Int} {cells : List Value} {ls : List (List Int)} (ta : TalAt h (.agg ⟨talCells t cv nv⟩) t cv nv) (fine : TalFine t) (hkv : Sli h kv 1 cs.length (cs.map fun n => .int .u64 n)) (ho : Sli h ov 1 ls.length cells) (el : EleS h cells ls)
    (lb : ∀ l ∈ ls, l.length ≤ 1000 ∧ ∀ x ∈ l, 0 ≤ x ∧ x < cs.length) (few : ls.length ≤ 1000)
    (hK : ∀ H, SameX [] (unch h) H → K (vint (firstS t cs ls : Nat)) H) : Good prog (J1 prog W0 Post) 92 [.agg ⟨talCells t cv nv⟩, ov, kv] h K := by
  have hJ1 := J1.closed prog W0 Post
  refine good_of_sem hJ1 at92 body92 (by kernel_rfl) (Nat.le_of_ble_eq_true rfl) fun ok => ?_
  rw [show f92.ntmps = 50 from by kernel_rfl, show f92.results.toList = [.tmp 6] from by kernel_rfl]
  refine trunc_sound hJ1 mixed 2 (codeOf f92) (by kernel_rfl) (front92 ta hkv ho few fun f H p3 p5 p7 c1 c2 M => ?_)
  intro b a k fs L ρ FC w ft hb hk hL A R hn hcont
  have RZ := frz_rel R
  have hp1 := lt_of_get M.hc1
  have hp2 := lt_of_get M.hc2
  have LN : LentS (frz H) t cv nv kv ov cs p3 p5 p7 c1 c2 cells ls :=
    { ok := RZ.ok
      nw := fun x hx => by
        obtain ⟨y, _, rfl⟩ := List.mem_map.1 hx
        exact frz_wrt y
      nc := fun cap hx => by
        obtain ⟨y, _, e⟩ := List.mem_map.1 hx
        cases y <;> cases e
      h3 := frz_at M.h3
      h5 := frz_at M.h5
      h7 := frz_at M.h7
      hc1 := by rw [frz_len]; exact hp1
      hc2 := by rw [frz_len]; exact hp2
      ta := ⟨rfl, frz_sli (M.S.sli ta.ch (by simp)), frz_sli (M.S.sli ta.co (by simp))⟩
      kv := frz_sli (M.S.sli hkv (by simp))
      os := frz_sli (M.S.sli ho (by simp))
      ovk := by
        have := M.S.sli ho (by simp)
        obtain ⟨base, c, rfl, _, hh⟩ := this
        rcases hh with ⟨rfl, _⟩ | ⟨b, o, rfl, h0⟩
        · simp [VOk]
        · have hv : VOk H.length (.slice (some ⟨b, o, none⟩) ls.length c) := by
            have := A.regs 1
            rcases this with e | ⟨e, _⟩
            · rw [M.r1] at e; cases e
            · rw [M.r1] at e; exact e
          rw [frz_len]
          exact hv
      el := fun i l hl => by
        obtain ⟨c, hc, hs⟩ := el i l hl
        exact ⟨c, hc, frz_sli (M.S.sli hs (by simp))⟩
      lb := lb
      few := few }
  obtain ⟨d1, d2, d3⟩ := chOf_some R M.hc1 rfl
  obtain ⟨g1, g2, g3⟩ := chOf_some R M.hc2 rfl
  have hne : ρ.blk c1 ≠ ρ.blk c2 := fun e => M.ne (R.inj c1 c2 _ _ M.hc1 M.hc2 rfl rfl e)
  have hch : ∀ x, putAt (chOf ρ H w) (ρ.blk c2) (some (ls.length, (#[] : Array Value), false)) x = chOf ρ H w x := fun x => by
    by_cases e : x = ρ.blk c2
    · rw [e, putAt_self, g1]
    · rw [putAt_ne _ _ e]
  have e0 : vis [] = (#[] : Array Value) := rfl
  refine J1.crew (T := crew92 (chOf ρ H w) (ρ.blk c1) (ρ.blk c2) t cs ls #[] false []) (f' := lentF ρ H ft) rfl (fun b x hx => ?_) (fun b hb => ⟨hb.1, (hch b).trans (chOf_none hb.2)⟩) (fun b hb => hb.elim) ?_
  · have hx : chOf ρ H w b = some x := (hch b).symm.trans hx
    by_cases hx2 : Chs ρ H b
    · obtain ⟨i, cap, hi, hib⟩ := hx2
      obtain ⟨q1, q2, q3⟩ := chOf_some R hi hib
      have : some x = some (cap, #[], false) := hx.symm.trans q1
      cases this
      exact ⟨q3, rfl, q2⟩
    · have : some x = none := hx.symm.trans (chOf_none hx2)
      cases this
  -- all the workers' time
  have hJ := JC.closed prog W0 Post (crew92 (chOf ρ H w) (ρ.blk c1) (ρ.blk c2) t cs ls #[] false [])
  have hJn := JC.closed prog W0 Post (crew92 (chOf ρ H w) (ρ.blk c1) (ρ.blk c2) t cs ls #[] false (List.range ls.length))
  have hw0 : ∀ b, ¬ (keepF ρ H w ft).wr b := fun b hb => hb
  have hpm : c1 < (frz H).length := LN.hc1
  have hpm2 : c2 < (frz H).length := LN.hc2
  suffices hAt : At (JC prog W0 Post (crew92 (chOf ρ H w) (ρ.blk c1) (ρ.blk c2) t cs ls #[] false [])) 50 b fs (keepF ρ H w ft) ρ (frz H).length (.code (subC [1, 1] (codeOf f92)) :: k) f (frz H) from
    hAt a ρ w _ (by rw [frz_len]; exact A) RZ (Env.upto_refl _ _) (Nat.le_refl _)
  rw [shape92]
  refine At.seq hJ (At.seq hJ (At.piece (Q := fun e f' h' => e = .normal ∧ f'.ds = [] ∧ (f'.r 1 = ov ∧ f'.r 3 = ptr p3 0 ∧ f'.r 5 = ptr p5 0 ∧ f'.r 7 = ptr p7 0 ∧ f'.r 8 = .chan (some c2) ∧ f'.r 18 = ov ∧ f'.r 19 = vint (ls.length : Nat) ∧ f'.r 20 = vint (0 : Nat)) ∧ h' = frz H) rfl hk (W_sound hJ mixed _ ?_) (Nat.le_refl _) (Nat.le_refl _) ?_))
  · rw [q92_1, M.r1]
    exact lenI LN.os ⟨rfl, M.ds, ⟨M.r1, M.r3, M.r5, M.r7, M.r8, rfl, rfl, rfl⟩, rfl⟩
  rintro e f1 h1 ⟨rfl, ds, ⟨r1, r3, r5, r7, r8, r18, r19, r20⟩, rfl⟩
  refine .inl ⟨rfl, At.block hJ (At.loop hJ (At.weak LN.ok (LN.regs r1 r3 r5 r7 r8 r18 r19 r20) ds.symm ds (Nat.le_refl _) ?_))⟩
  refine hire92 hk d1 hne fine LN (Nat.le_refl _) hpm hw0 ?_ ls.length 0 rfl (by omega)
  -- the answers
  rw [shape92b]
  refine At.seq hJn (At.seq hJn (At.piece (Q := fun e f' h' => e = .normal ∧ f'.ds = [] ∧ (f'.r 1 = ov ∧ f'.r 7 = ptr p7 0 ∧ f'.r 8 = .chan (some c2) ∧ f'.r 28 = vint (ls.length : Nat) ∧ f'.r 29 = vint (0 : Nat)) ∧ h' = frz H) rfl hk (W_sound hJn mixed _ ?_) (Nat.le_refl _) (Nat.le_refl _) ?_))
  · rw [q92_6]
    show aLenS ov _
    exact lenI LN.os ⟨rfl, rfl, ⟨rfl, rfl, rfl, rfl, rfl⟩, rfl⟩
  rintro e f2 h2 ⟨rfl, ds2, ⟨s1, s7, s8, s28, s29⟩, rfl⟩
  refine .inl ⟨rfl, At.block hJn (At.loop hJn (At.forget (q92_forget s1 s7 s8 s28 s29) ds2.symm ?_))⟩
  refine recv92 hk hne LN (Nat.le_refl _) hpm hpm2 (fun is hg1 hg2 => ?_) ls.length 0 (List.range ls.length) [] rfl (by simp) List.nodup_range (fun k hk => List.mem_range.1 hk) (by simp) (by simp) (fun k hk hn => absurd (List.mem_range.2 ?_) hn)
  rotate_left
  · unfold goodS at hk
    cases e : ls[k]? with
    | none => rw [e] at hk; cases hk
    | some l => exact (List.getElem?_eq_some_iff.1 e).1
  -- its own channel is closed
  have hJc := JC.closed prog W0 Post (crew92 (chOf ρ H w) (ρ.blk c1) (ρ.blk c2) t cs ls (vis is) false [])
  have hJd := JC.closed prog W0 Post (crew92 (chOf ρ H w) (ρ.blk c1) (ρ.blk c2) t cs ls (vis is) true [])
  rw [shape92c]
  refine At.seq hJc (At.region hJc ?_)
  rw [show List.range ops92_4.size = [0, 1] from by rw [z92_4]; rfl]
  obtain ⟨u1, u2, u3, u4, u5⟩ := o92_4_0 (J := JC prog W0 Post (crew92 (chOf ρ H w) (ρ.blk c1) (ρ.blk c2) t cs ls (vis is) false []))
  obtain ⟨w1, w2, w3, w4, w5⟩ := o92_4_1 (J := JC prog W0 Post (crew92 (chOf ρ H w) (ρ.blk c1) (ρ.blk c2) t cs ls (vis is) false []))
  refine At.op hJc hk u1 u3 (u4 _) ?_
  rw [u5, u2]
  intro _
  refine At.shut hk w1 (w4 _) w5 w2 (c := c2) rfl hpm2 rfl (cap := ls.length) (buf := vis is) (by
    unfold crew92
    dsimp only
    rw [putAt_self]) ?_
  rw [crew92_put]
  refine At.ops_nil hJd (At.seq hJd (At.piece (Q := fun e f' h' => e = .normal ∧ f'.ds = [] ∧ f'.r 8 = .chan (some c2) ∧ f'.r 12 = vint (ls.length : Nat) ∧ h' = frz H) rfl hk (W_sound hJd mixed _ ?_) (Nat.le_refl _) (Nat.le_refl _) ?_))
  · rw [q92_11]
    show aLenS ov _
    exact lenI LN.os ⟨rfl, rfl, rfl, rfl, rfl⟩
  rintro e f3 h3 ⟨rfl, ds3, t8, t12, rfl⟩
  refine .inl ⟨rfl, At.seq hJd (At.seq hJd (At.piece (Q := fun e f' h' => e = .normal ∧ f'.ds = [] ∧ f'.r 41 = .chan (some c2) ∧ f'.r 12 = vint (ls.length : Nat) ∧ h' = frz H) rfl hk (W_sound hJd mixed _ ?_) (Nat.le_refl _) (Nat.le_refl _) ?_))⟩
  · rw [q92_12]
    exact ⟨rfl, ds3, t8, t12, rfl⟩
  rintro e f4 h4 ⟨rfl, ds4, t41, t12, rfl⟩
  refine .inl ⟨rfl, At.block hJd (At.loop hJd ?_)⟩
  refine drain92 (t := t) (cs := cs) (ls := ls) hk (Nat.le_refl _) hpm2 (fun f5 H5 G5 ds5 r12 => ?_) is (ls.length : Int) f4 (frz H) (by omega) (first_min hg1 hg2) ⟨SameX.refl, fun i o hi ho => absurd (lt_of_get ho) (by omega)⟩ ds4 t12 t41
  -- behind the workers' time
  intro a' ρ' w' ft' A' R' hu' hm'
  obtain ⟨g, rfl⟩ := G5.S.app0 (by simp)
  have som : ∀ b, Chs ρ H b → (putAt (chOf ρ H w) (ρ.blk c2) (some (ls.length, (#[] : Array Value), true)) b).isSome = true := fun b ⟨i, cap, hi, hib⟩ => by
    by_cases e : b = ρ.blk c2
    · rw [e, putAt_self]
      rfl
    · rw [putAt_ne _ _ e, (chOf_some R hi hib).1]
      rfl
  refine JC.last (f' := thawF ρ H ft ft') rfl (fun b hb => hb.imp id (som b)) (fun b hb => ?_) fun w₂ hrel hch2 => ?_
  · rcases hb with hb | hb
    · by_cases hc : Chs ρ H b
      · exact .inr hc
      · have hr := R.sub b hb
        have hlt := R.lt b hr
        exact .inl (R'.kept b w.heap[b] (by rw [keep_ob R hr hc, Array.getElem?_eq_getElem hlt])).2.1
    · exact .inl (R'.sub b hb)
  have hu : Env.upto H.length ρ ρ' := by
    rw [← frz_len (h := H)]
    exact hu'
  obtain ⟨RT, _⟩ := thaw_rel R (R'.rely hrel) hu (fun o ho _ => by
    obtain ⟨i, hi⟩ := List.mem_iff_getElem?.1 ho
    exact G5.wr ((frz H).length + i) o (by omega) (by rw [List.getElem?_append_right (by omega)]; simpa using hi)) fun b hb => hch2 b (som b hb)
  have le : (frz H ++ g).length = (unch H ++ g).length := by simp [frz_len, unch_len]
  have S := same_unch (g := g) M.S
  have S1 : h.length ≤ (unch H ++ g).length := by have := S.1; rwa [unch_len] at this
  have hc : contX pl92t prog (J1 prog W0 Post) 50 h.length 92 ct92t [1, 1, 1, 1, 1, 1, 1] (codeOf f92) [] (RetQ prog [.tmp 6] h.length K) = RetQ prog [.tmp 6] h.length K := by kernel_rfl
  have tl : Sem (J1 prog W0 Post) 50 h.length 92 (subC [1, 1, 1, 1, 1, 1, 1] (codeOf f92)) f5 (unch H ++ g) (RetQ prog [.tmp 6] h.length K) := by
    rw [← hc]
    refine W_sound hJ1 mixed _ ?_
    rw [s92t_1, ds5, r12]
    exact retL_same (by simp [unk]) (hK _ S)
  exact tl b a' k fs L ρ' FC w₂ _ hb hk hL (by rw [← le]; exact A') RT S1 fun e f2 h2' ρ2 w2 ft2 a2 q q1 q2 q3 q4 => hcont e f2 h2' ρ2 w2 ft2 a2 q q1 q2 (Env.upto_trans (Env.upto_le hu hn) q3) q4
end
structure Sm (h H : List AObj) : Prop where
  len : h.length ≤ H.length
  get : ∀ (i : Nat) (x : AObj), h[i]? = some x → H[i]? = some x ∨ (∃ cap, x = .chan cap) ∧ H[i]? = some .dead
theorem Sm.refl {h : List AObj} : Sm h h := ⟨Nat.le_refl _, fun _ _ h => .inl h⟩
theorem Sm.of {h H : List AObj} (S : SameX [] h H) : Sm h H := ⟨S.1, fun i x hx => .inl (S.get hx (by simp))⟩
theorem Sm.unch {h H : List AObj} (S : SameX [] (unch h) H) : Sm h H := ⟨by have := S.1; rwa [unch_len] at this, fun i x hx => by
  have h1 : (Go.Proofs.Ytdgpacdknpahnaa.unch h)[i]? = some (unchO x) := by
    unfold Go.Proofs.Ytdgpacdknpahnaa.unch
    rw [List.getElem?_map, hx]
    rfl
  have h2 := S.get h1 (by simp)
  cases x with
  | chan cap => exact .inr ⟨⟨cap, rfl⟩, h2⟩
  | _ => exact .inl h2⟩
theorem Sm.trans {h H G : List AObj} (a : Sm h H) (b : Sm H G) : Sm h G := ⟨Nat.le_trans a.1 b.1, fun i x hx => by
  rcases a.2 i x hx with h1 | ⟨h1, h2⟩
  · exact b.2 i x h1
  · rcases b.2 i _ h2 with h3 | ⟨⟨cap, h3⟩, _⟩
    · exact .inr ⟨h1, h3⟩
    · cases h3⟩
theorem Sm.at {h H : List AObj} (a : Sm h H) {i : Nat} {c : List Value} {wr : Bool} {sz : Nat} (hx : h[i]? = some (.cells c wr sz)) : H[i]? = some (.cells c wr sz) := by
  rcases a.2 i _ hx with h1 | ⟨⟨cap, h1⟩, _⟩
  · exact h1
  · cases h1
theorem Sm.sli {h H : List AObj} (a : Sm h H) {v : Value} {s n : Nat} {cs : List Value} (hs : Sli h v s n cs) : Sli H v s n cs := by
  obtain ⟨base, c, rfl, hk, hh⟩ := hs
  refine ⟨base, c, rfl, hk, hh.imp id ?_⟩
  rintro ⟨b, o, e, h0⟩
  exact ⟨b, o, e, h0.imp id fun ⟨cs, wr, sz, hb, ht⟩ => ⟨cs, wr, sz, a.at hb, ht⟩⟩
theorem Sm.tal {h H : List AObj} (a : Sm h H) {v cv nv : Value} {t : Tal} (ht : TalAt h v t cv nv) : TalAt H v t cv nv := ⟨ht.val, a.sli ht.ch, a.sli ht.co⟩
theorem Sm.own {h H : List AObj} (a : Sm h H) {s len : Nat} {cs : List Value} {v : Value} {o : Option Nat} (ho : OwnX h s cs len v o) : OwnX H s cs len v o := by
  obtain ⟨h1, h2, h3 | ⟨i, c, sz, rfl, h4, h5, h6⟩⟩ := ho
  · exact ⟨h1, h2, .inl h3⟩
  · exact ⟨h1, h2, .inr ⟨i, c, sz, rfl, h4, a.at h5, h6⟩⟩
theorem run_all : ∀ n ∈ List.range 8, ∀ many ∈ List.range (n + 1), (pickS (stM n many) (puM n many) n []).1 = picksR n many 0 ∧ pickOk bdM (stM n many) (puM n many) n [] = true := of_decide_eq_true (by kernel_rfl)
theorem setM_some {t : Tal} {m : Int} : ∀ k, setM t m k ≠ 0 → ∃ j, j < k ∧ ((t.counts[j]?).getD ⟨0, 0, 0, 0⟩).man = m
  | 0, h => absurd rfl h
  | k + 1, h => by
    unfold setM at h
    by_cases e : ((t.counts[k]?).getD ⟨0, 0, 0, 0⟩).man = m
    · exact ⟨k, by omega, e⟩
    · rw [if_neg e] at h
      obtain ⟨j, h1, h2⟩ := setM_some k h
      exact ⟨j, by omega, h2⟩
theorem menTo_nodup (t : Tal) (n : Nat) : (menTo t n).Nodup := by
  unfold menTo
  refine List.Pairwise.filter _ ?_
  rw [List.pairwise_map]
  exact List.Pairwise.imp (fun {a b} (hab : a < b) => by omega) List.pairwise_lt_range
theorem menR_few {t : Tal} : (menR t).length ≤ t.counts.length := by
  have : (menR t).length ≤ (t.counts.map (·.man)).length := by
    refine List.Nodup.length_le_of_subset (menTo_nodup t 9) fun m hm => ?_
    unfold menTo at hm
    have h := of_decide_eq_true (List.mem_filter.1 hm).2
    obtain ⟨j, h1, h2⟩ := setM_some (t := t) (m := m) t.counts.length (by unfold setA at h; omega)
    rw [List.getElem?_eq_getElem h1] at h2
    exact List.mem_map.2 ⟨_, List.getElem_mem h1, h2⟩
  simpa using this
noncomputable def menO (t : Tal) : Option (List Int) := firstN (fun many => (picksR (menR t).length many 0).find? fun l => truthS t (strU (setsR t) l)) ((menR t).length + 1)
noncomputable def menL (t : Tal) : List Int := if wrongE t = 0 then ((menO t).getD []).map fun k => (menR t).getD k.toNat 0 else []
theorem first_find {t : Tal} {cs : List Int} {ls : List (List Int)} : ls.find? (fun l => truthS t (strU cs l)) = ls[firstS t cs ls]? := List.find?_eq_getElem?_findIdx
section
variable {W0 : World} {Post : Value → World → Prop} {h H : List AObj} {K : Value → List AObj → Prop}
theorem good59 {v cv nv : Value} {t : Tal} (ht : TalAt H v t cv nv) (hK : ∀ H' w, Sm H H' → Sli H' w 1 (menL t).length ((menL t).map vint) → K (.tuple ⟨[w, vint (wrongE t)]⟩) H') : Good prog (J1 prog W0 Post) 59 [v] H K := by
  have hJ := J1.closed prog W0 Post
  refine g59 hJ fun ok => ?_
  rw [e59, ht.val]
  refine qBox (tal_one ht) fun H1 p1 e1 S1 c1 l1 => ?_
  have t1 : TalAt H1 (.agg ⟨talCells t cv nv⟩) t cv nv := ⟨rfl, S1.sli ht.ch (by simp), S1.sli ht.co (by simp)⟩
  refine load_part (c := talCells t cv nv) c1 (by rw [cs_val]; omega) rfl (talAt_kc t1) ?_
  refine good71 hJ t1 fun H2 bw bm S2 hbw hbm hne w hm => ext0 (ext1 ?_)
  have T2 : SameX [] H H2 := S1.trans S2
  have nil : ∀ {H' : List AObj} {e : Int}, SameX [] H H' → wrongE t = e → e ≠ 0 → retL H.length K [] [.slice none 0 0, vint e] H' := fun {H' e} S he h0 => by
    subst he
    refine retL_same (by simp [unk]) (hK H' _ (Sm.of S) ?_)
    unfold menL
    rw [if_neg h0]
    exact ⟨none, 0, rfl, ⟨rfl, rfl⟩, .inl ⟨rfl, rfl⟩⟩
  refine neqI (cndI (fun h0 => nil T2 (by unfold wrongE; rw [if_pos h0]) h0) fun h0 => ?_)
  have h0 : talErr t = 0 := Classical.not_not.1 h0
  have fine := talErr_fine h0
  have hfew := fine.few
  refine good74 (u' := 127) hJ w hbw hbm hne fine hm metOk_nil fun H3 es3 S3 w3 hm3 met3 => notI ?_
  have T3 : SameX [] H1 H3 := S2.thru S3 (by simp; omega)
  have c3 := T3.get c1 (by simp)
  have t3 := talAt_same t1 T3 (by simp)
  cases hT : decide (TruthIs t (limN 127 t.counts t.counts.length)) with
  | false =>
    refine cnd_true.2 (nil (S1.trans T3) ?_ (by decide))
    have : truthS t 127 = false := hT
    unfold wrongE
    rw [if_neg (not_not_intro h0), this]
    rfl
  | true =>
  have eE : wrongE t = 0 := by
    have : truthS t 127 = true := hT
    unfold wrongE
    rw [if_neg (not_not_intro h0), this]
    rfl
  refine cnd_false.2 (load_part (c := talCells t cv nv) c3 (by rw [cs_val]; omega) rfl (talAt_kc t3) ?_)
  refine good90 hJ t3 (by omega) fun H4 wv kv ow S4 Ow how Ks => ext0 (ext1 ?_)
  have hwf := menR_few (t := t)
  refine qAl fun H5 pw e5 S5 c5 l5 => qSt c5 (by simp) (ownX_val Ow).1 (ownX_val Ow).2.1 fun H6 S6 c6 l6 => ?_
  have c6 : H6[pw]? = some (.cells [wv] true 0) := c6
  have T46 : SameX [] H4 H6 := S5.thru S6 (by simp; omega)
  have Ow6 := ownX_keep Ow T46 (by simp)
  have Ks6 := T46.sli Ks (by simp)
  have c16 := T46.get (S4.get c3 (by simp)) (by simp)
  have t6 := talAt_same (talAt_same t3 S4 (by simp)) T46 (by simp)
  have TT : SameX [] H H6 := ((S1.trans T3).trans S4).trans T46
  have lk : (setsR t).length = (menR t).length := by unfold setsR; rw [List.length_map]
  have kwv := (ownX_val Ow).2.2
  refine ldI c6 rfl kwv (lenI (ownX_sli Ow6) (addI (by omega) ?_))
  generalize hn : (menR t).length = n at *
  have ok6 : p1 < H6.length := lt_of_get c16
  refine l59_1 hJ (fun m : Nat => n + 1 - m) (fun m F H' => Sm H6 H' ∧ m ≤ n + 1 ∧ (∀ i, i < m → (picksR n i 0).find? (fun l => truthS t (strU (setsR t) l)) = none) ∧ F.ds = [] ∧ F.r 1 = ptr p1 0 ∧ F.r 6 = ptr pw 0 ∧ F.r 7 = kv ∧ F.r 32 = vint ((n : Int) + 1) ∧ F.r 33 = vint (m : Nat)) ?_ (s := 0)
    (.inl ⟨Sm.refl, by omega, fun i hi => absurd hi (Nat.not_lt_zero _), rfl, rfl, rfl, rfl, rfl, rfl⟩)
  rintro m F H' ⟨M, hm', hno, ds, r1, r6, r7, r32, r33⟩ okc hnc
  have cw := M.at c6
  have ct := M.at c16
  have tt := M.tal t6
  have Kk := M.sli Ks6
  have Ok := M.own Ow6
  rw [s59_1, r1, r6, r7, r32, r33, ds]
  refine lssI (cndI (fun hlt => ?_) fun hge => ?_)
  · refine qAl fun Ha pm ea Sa ca la => qSt ca (by simp) rfl rfl fun Hb Sb cb lb => ?_
    have cb : Hb[pm]? = some (.cells [vint (m : Nat)] true 0) := cb
    have Tb : SameX [] H' Hb := Sa.thru Sb (by simp; omega)
    refine qAl fun Hc pl ec Sc cc lc => ?_
    have Tc : SameX [] H' Hc := Tb.trans Sc
    have hTb := Tb.1
    have lwp := lt_of_get cw
    have lpm := lt_of_get cb
    refine ldI (Tc.get cw (by simp)) rfl kwv (lenI (ownX_sli (ownX_keep Ok Tc (by simp))) ⟨rfl, ?_⟩)
    obtain ⟨ra, rb⟩ := run_all n (List.mem_range.2 (by omega)) m (List.mem_range.2 (by omega))
    refine good75S (oo := none) (a := ([] : List (List Int))) hJ (pass91 (lo := Hc.length) (n := n) (many := m) (wv := wv) hJ (fun KV hk => lenI (ownX_sli Ow6) hk) kwv (by omega) (by omega) (by omega) (by omega) (by omega) (by omega) (by omega)) (by omega) (by simp; omega) ⟨Tc.get cw (by simp), Sc.get cb (by simp), ⟨_, cc, OwnL.nil⟩, Nat.le_refl _⟩ rb fun Hd _ o' Md Id => ?_
    rw [ra] at Id
    obtain ⟨lv, cl, LL⟩ := Id.hl
    obtain ⟨hlo, cells, Oc, he⟩ := id LL
    have klv := ownX_val Oc
    -- what stays through pick
    have stay : ∀ {p : Nat} {x : AObj}, H'[p]? = some x → Hd[p]? = some x := fun {p x} hx => by
      have := lt_of_get hx
      exact Md.get (Tc.get hx (by simp)) (by simp; omega) (by simp)
    have Smd : Sm H' Hd := ⟨Nat.le_trans Tc.1 Md.1.1, fun i x hx => .inl (stay hx)⟩
    refine load_part (c := talCells t cv nv) (Smd.at ct) (by rw [cs_val]; omega) rfl (talAt_kc tt) (ldI cl rfl klv.2.2 ?_)
    have hpl : (picksR n m 0).length ≤ 1000 := by
      have hb := List.all_eq_true.1 (show (List.range 8).all (fun n => (List.range (n + 1)).all fun m => decide ((picksR n m 0).length ≤ 1000)) = true from by kernel_rfl) n (List.mem_range.2 (by omega))
      exact of_decide_eq_true (List.all_eq_true.1 hb m (List.mem_range.2 (by omega)))
    refine good92 (cs := setsR t) (ls := picksR n m 0) (Smd.tal tt) fine (Smd.sli Kk) (ownX_sli Oc) (fun i l hl => ?_) (fun l hl => ?_) hpl fun He Se => ?_
    · obtain ⟨lv2, b2, x1, x2, _⟩ := he i l hl
      exact ⟨lv2, x1, ownX_sli x2⟩
    · obtain ⟨y1, y2⟩ := picksR_mem hl
      exact ⟨by omega, fun x hx => by have := y2 x hx; rw [lk]; omega⟩
    have Me := Sm.unch Se
    have cle := Me.at cl
    have Oce := Me.own Oc
    refine ldI cle rfl klv.2.2 (lenI (ownX_sli Oce) (lssI (cndI (fun hlt2 => ?_) fun hge2 => ?_)))
    · -- found
      have hfl : firstS t (setsR t) (picksR n m 0) < (picksR n m 0).length := by omega
      obtain ⟨l, hl⟩ : ∃ l, (picksR n m 0)[firstS t (setsR t) (picksR n m 0)]? = some l := ⟨_, List.getElem?_eq_getElem hfl⟩
      obtain ⟨lv2, b2, x1, x2, _⟩ := he _ l hl
      have x2e := Me.own x2
      have hlm := picksR_mem (List.mem_of_getElem? hl)
      have hfind : (picksR n m 0).find? (fun l => truthS t (strU (setsR t) l)) = some l := by rw [first_find, hl]
      have hO : menO t = some l := by
        unfold menO
        rw [hn]
        exact firstN_some (by omega) hno hfind
      have hL : menL t = l.map fun k => (menR t).getD k.toNat 0 := by
        unfold menL
        rw [if_pos eE, hO]
        rfl
      refine ldI cle rfl klv.2.2 (idx_load (ownX_sli Oce) ⟨by omega, by omega⟩ (x := lv2) (by rw [Int.toNat_natCast]; exact x1) fun q => lenI (ownX_sli x2e) ?_)
      have cwe := (Smd.trans Me).at cw
      have Owe := (Smd.trans Me).own Ok
      refine l59_2 hJ (fun j : Nat => l.length - j) (fun j F H2 => SameX [] He H2 ∧ j ≤ l.length ∧ (∃ oo, OwnX H2 1 (((l.take j).map fun k => (menR t).getD k.toNat 0).map vint) j (F.r 11) oo ∧ ∀ q, oo = some q → He.length ≤ q) ∧ F.ds = [] ∧ F.r 6 = ptr pw 0 ∧ F.r 51 = lv2 ∧ F.r 52 = vint (l.length : Nat) ∧ F.r 53 = vint (j : Nat)) ?_ (s := 0)
        (.inl ⟨SameX.refl, by omega, ⟨none, ownX_nil, by simp⟩, ds, r6, rfl, rfl, rfl⟩)
      clear okc hnc
      rintro j F2 H2 ⟨S2', hj, ⟨oo, Oo, hoo⟩, ds2, q6, q51, q52, q53⟩ okc hnc
      generalize hov : F2.r 11 = ov at Oo
      rw [s59_2, q6, q51, q52, q53, hov, ds2]
      refine lssI (cndI (fun hlt3 => ?_) fun hge3 => ?_)
      · have hjl : j < l.length := by omega
        have hx := List.getElem?_eq_getElem hjl
        have hb := hlm.2 _ (List.getElem_mem hjl)
        refine idx_load (ownX_sli (ownX_keep x2e S2' (by simp))) ⟨by omega, by omega⟩ (x := vint l[j]) (by rw [Int.toNat_natCast, List.getElem?_map, hx]; rfl) fun q => ?_
        refine ldI (S2'.get cwe (by simp)) rfl kwv (idx_load (ownX_sli (ownX_keep Owe S2' (by simp))) ⟨by omega, by omega⟩ (x := vint ((menR t).getD l[j].toNat 0)) (by
          rw [List.getElem?_map, List.getD_eq_getElem?_getD, List.getElem?_eq_getElem (show l[j].toNat < (menR t).length by omega)]
          rfl) fun q2 => ⟨by decide, fill1 rfl rfl (by decide) (fillI (qNew fun H7 p7 e7 S7 c7 l7 => ⟨by decide, ?_⟩))⟩)
        refine ownX_more (ownX_keep Oo S7 (by simp)) (by omega) (by omega) (ownX_sli (ownX_new (n := 1) (l := [vint ((menR t).getD l[j].toNat 0)]) c7 rfl rfl)) fun v8 H8 p8 e8 O8 S8 => addI (by omega) ⟨j + 1, by dsimp only; omega, .inl ⟨(S2'.trans S7).thru S8 (fun y hy => ?_), by omega, ⟨some p8, ?_, fun y hy => ?_⟩, ds2, q6, q51, q52, by show vint _ = vint _; congr 1⟩⟩
        · rw [Option.mem_toList] at hy
          exact .inr (hoo y hy)
        · rw [List.take_add_one, hx, List.map_append, List.map_append]
          exact O8
        · cases hy
          have := S2'.1
          have := S7.1
          omega
      · have hje : j = l.length := by omega
        subst hje
        refine retL_same (nu2 (own_nunk Oo) (by simp [unk])) ?_
        have := hK H2 ov ((((Sm.of TT).trans M).trans (Smd.trans Me)).trans (Sm.of S2')) (by
          rw [hL, List.length_map]
          have := ownX_sli Oo
          rw [List.take_length] at this
          exact this)
        rw [eE] at this
        exact this
    · have hnone : (picksR n m 0).find? (fun l => truthS t (strU (setsR t) l)) = none := by
        rw [first_find]
        exact List.getElem?_eq_none (by omega)
      refine addI (by omega) ⟨m + 1, by dsimp only; omega, .inl ⟨M.trans (Smd.trans Me), by omega, fun i hi => ?_, ds, r1, r6, r7, r32, by show vint _ = vint _; congr 1⟩⟩
      by_cases e : i = m
      · rw [e]
        exact hnone
      · exact hno i (by omega)
  · have hO : menO t = none := by
      unfold menO
      rw [hn]
      exact firstN_none fun i hi => hno i (by omega)
    have hL : menL t = [] := by
      unfold menL
      rw [if_pos eE, hO]
      rfl
    refine retL_same (by simp [unk]) ?_
    have := hK H' (.slice none 0 0) ((Sm.of TT).trans M) (by
      rw [hL]
      exact ⟨none, 0, rfl, ⟨rfl, rfl⟩, .inl ⟨rfl, rfl⟩⟩)
    rw [eE] at this
    exact this
end
end Go.Proofs.Ytdgpacdknpahnaa
