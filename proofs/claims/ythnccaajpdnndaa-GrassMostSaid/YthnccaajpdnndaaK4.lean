/- Parts of the proof, 4. No conditions. -/
import Derived.Test.YthnccaajpdnndaaK3
import Derived.Conc.Holds
import Derived.Conc.Beside
import Derived.Conc.MarkLaws
import Derived.Conc.AtomicLaws2
import Derived.Conc.CrowdComm
import Derived.Conc.TokenTrace
import Derived.Conc.CrowdBase
import Derived.Conc.CrowdSit
import Derived.Conc.CrowdStepW
import Derived.Test.YthnccaajpdnndaaProg
import Derived.Test.YthnccaajpdnndaaK2
import Derived.Conc.WgGenN2
import Derived.Conc.Own2
set_option linter.unusedSimpArgs false
set_option linter.unusedVariables false
namespace Go.Proofs.Ythnccaajpdnndaa
open Go.Conc
open Go.ConcN (sumTo upd sumTo_upd upd_ne upd_same)
def Ends (P : Program) (Post : Value → World → Prop) (m : Machine) (t : Trace) : Prop :=
  ∃ N last o w' t', runNT P (N + 1) m t = (.ended o w', t') ∧ runN P N m = .next last ∧ step P last = .ended o w' ∧ Go.Conc.Good P Post last o w' t'
structure Base (W0 w : World) : Prop where
  tape : w.tape = W0.tape
  os : w.os = W0.os
  output : w.output = W0.output
  size : W0.heap.size ≤ w.heap.size
def J1 (P : Program) (W0 : World) (Post : Value → World → Prop) (g : Goroutine) (w : World) (ft : Foot) : Prop :=
  ∀ (gs : Array Goroutine) (w₁ : World) (sl : Option (Nat × Nat)) (t : Trace) (q : Nat → Nat), (∀ b, ft.rd b → b < w₁.heap.size) → (∀ b, ft.wr b → ft.rd b) → RelyW ft w w₁ → Base W0 w₁ → gs[0]? = some g → Leavers P t gs q → Past (fun _ => False) w₁.heap.size t →
    Ends P Post (crowd gs w₁ sl) t
section
variable {P : Program} {W0 : World} {Post : Value → World → Prop} {g : Goroutine} {w w₁ : World} {ft : Foot}
theorem Ends.next {m m' : Machine} {t : Trace} {ops : Array MemOp} (hs : stepT P m = (.next m', ops)) (h : Ends P Post m' (t ++ ops)) : Ends P Post m t := by
  obtain ⟨n, last, o, w, t', h1, h2, h3, h4⟩ := h
  exact ⟨n + 1, last, o, w, t', by rw [runNT_succ_next hs]; exact h1, by rw [runN_succ_next hs]; exact h2, h3, h4⟩
theorem evL_of {e : Event} {B : Nat} (he : EvOk ft e) (hb : ∀ b, ft.rd b → b < B) : EvL (fun _ => False) B e := by
  obtain ⟨loc, wr, sync⟩ := e
  unfold EvOk at he
  refine ⟨fun x _ hs => hs.elim, ?_, ?_, ?_⟩
  · intro hl
    simp only at hl
    subst hl
    exact he
  · intro hl
    simp only at hl
    subst hl
    exact he
  · cases loc with
    | cell a => exact hb _ he.2.1
    | obj r =>
      have hs : sync = false := he.1
      subst hs
      have := hb _ he.2.1
      cases wr <;> exact this
    | mark m =>
      cases m <;> first | exact he.elim | trivial
    | output => trivial
    | goroutines => trivial
theorem mem_g {i : Nat} {fn : FuncId} {pos : String} {es : Array Event} {op : MemOp} (h : op ∈ MemOp.ofEvents i fn pos es) : op.g = i := by
  rw [ofEvents_eq] at h
  obtain ⟨e, he, rfl⟩ := Array.mem_map.1 h
  rfl
theorem relyW_at (ft : Foot) (w : World) (d : Nat) : RelyW ft w (w.at d) := ⟨fun _ _ => rfl, Nat.le_refl _, rfl, rfl, rfl⟩
theorem J1.both (hrun : g.status = .running)
    (h : ∀ w₁, RelyW ft w w₁ → Base W0 w₁ → (∃ g' w' es, stepG P true g w₁ = .go g' w' es ∧ g'.status = .running ∧ GuarW ft w₁ w' es ∧ J1 P W0 Post g' w' (ft.ext w₁.heap.size w'.heap.size)) ∨
      ∃ v es, stepG P true g w₁ = .ended (.done v) w₁ es ∧ (∀ e ∈ es, EvOk ft e) ∧ Post v w₁) : J1 P W0 Post g w ft := by
  intro gs w₁ sl t q hbd hsub hrel hbase h0 hL hP
  generalize hM : sumTo gs.size q = M
  induction M using Nat.strongRecOn generalizing gs w₁ sl t q with
  | ind M ih =>
    have haw : ∀ g ∈ gs, awake g := by
      intro x hx
      obtain ⟨i, hi, rfl⟩ := Array.mem_iff_getElem.1 hx
      rcases Nat.eq_zero_or_pos i with rfl | hpos
      · have : gs[0] = g := by simpa [Array.getElem?_eq_getElem hi] using h0
        rw [this]; exact awake_of (.inl hrun)
      · exact awake_of ((hL.old i _ hpos (Array.getElem?_eq_getElem hi)).status.elim .inl fun x => .inr (.inr x))
    obtain ⟨i, x, d, sl', hi, hg, hst⟩ := crowd_pick (P := P) (w := w₁) (sl := sl) haw ⟨0, g, h0, hrun⟩
    rcases Nat.eq_zero_or_pos i with rfl | hpos
    · obtain rfl : x = g := by rw [h0] at hi; exact (Option.some.inj hi).symm
      rcases h (w₁.at d) (hrel.trans (relyW_at ft w₁ d)) ⟨hbase.tape, hbase.os, hbase.output, hbase.size⟩ with ⟨g', w', es, hgo, hrun', hgu, hJ⟩ | ⟨v, es, hend, hes, hpost⟩
      · have hrunT := runT_crowd_go (P := P) (sl := sl') (i := 0) hi (show stepG P (0 == 0) x (w₁.at d) = _ from hgo)
        have hsz : ((gs.map (woken P x g' w')).setIfInBounds 0 g').size = gs.size := by simp
        have hlt : 0 < gs.size := (Array.getElem?_eq_some_iff.1 h0).1
        have hw' : w₁.heap.size ≤ w'.heap.size := hgu.size
        refine Ends.next (hst.trans hrunT) ?_
        refine hJ _ w' sl' _ q (fun b hb => ?_) (fun b hb => ?_) (RelyW.refl _ _) ⟨hgu.tape.trans hbase.tape, hgu.os.trans hbase.os, hgu.output.trans hbase.output, Nat.le_trans hbase.size hgu.size⟩ (by simp [hlt]) ⟨fun j y hj hy => ?_, fun j hj => ?_⟩ ?_
        · rcases hb with hb | hb
          · exact Nat.lt_of_lt_of_le (hbd b hb) hw'
          · exact hb.2
        · rcases hb with hb | hb
          · exact .inl (hsub b hb)
          · exact .inr hb
        · have hne : 0 ≠ j := by omega
          rw [Array.getElem?_setIfInBounds_ne hne, Array.getElem?_map] at hy
          obtain ⟨z, hz, rfl⟩ := Option.map_eq_some_iff.1 hy
          have hq := hL.old j z hj hz
          rw [woken_quitsD hq, Deaf_other t (by omega) _ (fun op hop => mem_g hop)]
          exact hq
        · rw [Deaf_other t (g' := 0) (by simp at hj; omega) _ (fun op hop => mem_g hop)]
          exact hL.above j (by simpa using hj)
        · exact (hP.mono hw').own fun e he => evL_of (hgu.evs e he) fun b hb => Nat.lt_of_lt_of_le (hbd b hb) hw'
      · have hrunT := runT_many_ended (P := P) (sl := sl') (i := 0) hi (show stepG P (0 == 0) x (w₁.at d) = _ from hend)
        have hP' := hP.own (fn := x.frame.fn) (pos := x.frame.place) fun e he => evL_of (hes e he) hbd
        refine ⟨0, crowd gs w₁ sl, .done v, w₁.at d, _, by simp only [runNT, hst.trans hrunT], rfl, by simp [step, hst.trans hrunT], v, rfl, hpost, hP'.clean, hP'.over, ⟨fun y hy => ?_, rfl⟩, fun j y hy hj => ?_⟩
        · obtain ⟨j, hj⟩ := List.mem_iff_getElem?.1 hy
          rw [List.getElem?_drop] at hj
          exact ⟨_, (hL.old (1 + j) y (by omega) (by simpa [crowd] using hj)).leaves⟩
        · have hq := hL.old j y (by omega) hy
          refine ⟨q j, ?_⟩
          have e : (t ++ MemOp.ofEvents 0 x.frame.fn x.frame.place es).deaf j (t ++ MemOp.ofEvents 0 x.frame.fn x.frame.place es).size = Deaf t j :=
            Deaf_other t (g := j) (g' := 0) (by omega) _ (fun op hop => mem_g hop)
          rw [e]
          exact hq.hears _
    · have hq := hL.old i x hpos hi
      have hi0 : (i == 0) = false := by simp; omega
      have hlt : i < gs.size := (Array.getElem?_eq_some_iff.1 hi).1
      cases hqi : q i with
      | zero => rw [hqi] at hq; rw [hq.1] at hg; cases hg
      | succ k =>
        rw [hqi] at hq
        rcases hq with ⟨hf, _⟩ | ⟨_, g', es, hm, hstp, hq'⟩
        · rw [hf] at hg; cases hg
        have hrunT := runT_crowd_go (P := P) (sl := sl') (i := i) hi (by rw [hi0]; exact hstp (w₁.at d))
        have hsz : ((gs.map (woken P x g' (w₁.at d))).setIfInBounds i g').size = gs.size := by simp
        have hsum : sumTo gs.size (upd q i k) + (k + 1) = sumTo gs.size q + k := by
          have := sumTo_upd q k id hlt
          simpa [hqi] using this
        refine Ends.next (hst.trans hrunT) (ih (sumTo gs.size (upd q i k)) (by omega) _ (w₁.at d) sl' _ (upd q i k) hbd (hrel.trans (relyW_at ft w₁ d)) ⟨hbase.tape, hbase.os, hbase.output, hbase.size⟩ ?_ ⟨fun j y hj hy => ?_, fun j hj => ?_⟩ (hP.mute (by omega) hm) (by rw [hsz]))
        · have hne : i ≠ 0 := by omega
          rw [Array.getElem?_setIfInBounds_ne hne, Array.getElem?_map, h0]
          simp [woken_run hrun]
        · by_cases hji : i = j
          · subst hji
            rw [Array.getElem?_setIfInBounds_self_of_lt (by simpa using hlt)] at hy
            obtain rfl := Option.some.inj hy
            rw [upd_same, Deaf_own]
            exact hq'
          · rw [Array.getElem?_setIfInBounds_ne hji, Array.getElem?_map] at hy
            obtain ⟨z, hz, rfl⟩ := Option.map_eq_some_iff.1 hy
            have hqj := hL.old j z hj hz
            rw [woken_quitsD hqj, upd_ne q k (Ne.symm hji), Deaf_other t hji _ (fun op hop => mem_g hop)]
            exact hqj
        · rw [Deaf_other t (g' := i) (by simp at hj; omega) _ (fun op hop => mem_g hop)]
          exact hL.above j (by simpa using hj)
theorem J1.closed (P : Program) (W0 : World) (Post : Value → World → Prop) : Closed P true (J1 P W0 Post) where
  rely := fun h hr gs w₂ sl t q hbd hsub hrel hbase h0 hL hP => h gs w₂ sl t q hbd hsub (hr.trans hrel) hbase h0 hL hP
  step := fun hrun h => J1.both hrun fun w₁ h₁ _ => by
    obtain ⟨g', w', es, a, b, c, d⟩ := h w₁ h₁
    exact .inl ⟨g', w', es, a, b, c, d⟩
end
end Go.Proofs.Ythnccaajpdnndaa
namespace Go.Proofs.Ythnccaajpdnndaa
open Go.Conc
def RunsX {α : Type} (P : Program) (s : Go.Sem α) (w : World) (v : α) (w' : World) (es : List Event) : Prop := ∀ acc : Array Event, s.runT P w acc = (.ok v w', acc ++ es.toArray)
section
variable {α β : Type} {P : Program} {w w1 w2 : World}
theorem RunsX.pure {a : α} : RunsX P (Pure.pure a) w a w [] := fun acc => by
  show (Result.ok a w, acc) = _
  simp
theorem RunsX.bind {s : Go.Sem α} {f : α → Go.Sem β} {v : α} {u : β} {e1 e2 : List Event} (h : RunsX P s w v w1 e1) (h2 : RunsX P (f v) w1 u w2 e2) : RunsX P (s >>= f) w u w2 (e1 ++ e2) := by
  intro acc
  show (s.bind f).runT P w acc = _
  rw [Sem.runT_bind', h acc]
  show (f v).runT P w1 (acc ++ e1.toArray) = _
  rw [h2]
  simp
theorem RunsX.program : RunsX P Go.program w P w [] := fun acc => by
  show (Result.ok P w, acc) = _
  simp
theorem RunsX.mark {m : Mark} : RunsX P (Go.mark m) w () w [⟨.mark m, false, true⟩] := fun acc => by
  show (Result.ok () w, acc.push _) = _
  simp
structure IsExt (P : Program) (g : FuncId) (fn : Func) (e : Array Value → Go.Sem Value) : Prop where
  here : P.funcs[g]? = some fn
  name : (fn.name == "runtime.NumGoroutine") = false
  body : fn.body.isNone = true
  next : Extern.findNext fn = none
  find : Extern.find fn = some e
variable {main : Bool} {J : JT} {g : FuncId} {cargs : List Value} {b : FB} {a : Act} {ops : Array Oper} {i : Nat} {rest : List Nat} {o : Oper} {k : List Item} {cs : List Frame} {w' : World} {fn : Func}
theorem IsExt.not {e : Array Value → Go.Sem Value} (E : IsExt P g fn e) : g < P.funcs.size ∧ callable P g = false := by
  refine ⟨(Array.getElem?_eq_some_iff.1 E.here).1, ?_⟩
  have hb : fn.body.isSome = false := by
    have := E.body
    cases h : fn.body with
    | none => rfl
    | some c => rw [h] at this; cases this
  unfold callable
  rw [E.here]
  simp [hb]
theorem HRel.tell {ρ : Env} {h : List AObj} {FC : Frm} {ft : Foot} (H : HRel ρ h FC w ft) {p x y : Nat} (hp : h[p]? = some (.group x)) (hone : ∀ (q z : Nat), h[q]? = some (.group z) → q = p) : HRel ρ (h.set p (.group y)) FC w { ft with tag := y + 32 * ρ.blk p } := by
  have get : ∀ {i : Nat} {o : AObj}, (h.set p (.group y))[i]? = some o → o.live = true → h[i]? = some o := by
    intro i o hi hl
    rcases set_get hi with ⟨rfl, rfl, _⟩ | ⟨_, hi⟩
    · cases hl
    · exact hi
  have wl : ∀ {o : AObj}, o.wrt = true → o.live = true := fun {o} hw => by cases o <;> first | rfl | cases hw
  refine ⟨fun i o hi => ?_, fun i j o o' hi hj l1 l2 e => H.inj i j o o' (get hi l1) (get hj l2) l1 l2 e, fun i o hi hl => H.rd i o (get hi hl) hl, fun i o hi hw => H.wr i o (get hi (wl hw)) hw, H.lt, H.sub, fun b o hb => ?_, H.keptW, fun i z hi => ?_⟩
  · rw [List.length_set]
    rcases set_get hi with ⟨rfl, rfl, _⟩ | ⟨_, hi⟩
    · trivial
    · exact H.obj i o hi
  · obtain ⟨a1, a2, a3⟩ := H.kept b o hb
    exact ⟨a1, a2, fun a oa ha hw => a3 a oa (get ha (wl hw)) hw⟩
  · rcases set_get hi with ⟨rfl, e, _⟩ | ⟨hne, hi⟩
    · cases e
      rfl
    · exact absurd (hone i z hi) hne
end
def putAt {X : Type} (f : Nat → X) (i : Nat) (x : X) : Nat → X := fun j => if j = i then x else f j
theorem putAt_self {X : Type} (f : Nat → X) (i : Nat) (x : X) : putAt f i x i = x := by simp [putAt]
theorem putAt_ne {X : Type} (f : Nat → X) {i j : Nat} (x : X) (h : j ≠ i) : putAt f i x j = f j := by simp [putAt, h]
def Less {X : Type} (r : X → X → Prop) (n : Nat) (f' f : Nat → X) : Prop := ∃ i, i < n ∧ r (f' i) (f i) ∧ ∀ j, j ≠ i → f' j = f j
theorem less_acc {X : Type} (r : X → X → Prop) : ∀ (n : Nat) (f : Nat → X), (∀ i, i < n → Acc r (f i)) → Acc (Less r n) f
  | 0, f, _ => ⟨f, fun _ h => by obtain ⟨i, hi, _⟩ := h; omega⟩
  | n + 1, f, h => by
    have key : ∀ a, Acc r a → ∀ g : Nat → X, Acc (Less r n) g → Acc (Less r (n + 1)) (putAt g n a) := by
      intro a ha
      induction ha with
      | intro a _ iha =>
        intro g hg
        induction hg with
        | intro g hgs ihg =>
          refine ⟨_, fun y hy => ?_⟩
          obtain ⟨i, hi, hr, ho⟩ := hy
          by_cases hin : i = n
          · subst hin
            rw [putAt_self] at hr
            have : y = putAt g i (y i) := by
              funext j
              by_cases hj : j = i
              · subst hj; rw [putAt_self]
              · rw [putAt_ne _ _ hj, ho j hj, putAt_ne _ _ hj]
            rw [this]
            exact iha (y i) hr g ⟨g, hgs⟩
          · rw [putAt_ne _ _ hin] at hr
            have : y = putAt (putAt g i (y i)) n a := by
              funext j
              by_cases hj : j = n
              · subst hj
                rw [putAt_self, ho j (fun e => hin e.symm), putAt_self]
              · rw [putAt_ne _ _ hj]
                by_cases hji : j = i
                · subst hji; rw [putAt_self]
                · rw [putAt_ne _ _ hji, ho j hji, putAt_ne _ _ hj]
            rw [this]
            refine ihg _ ⟨i, by omega, by rw [putAt_self]; exact hr, fun j hj => putAt_ne _ _ hj⟩
    have e : f = putAt f n (f n) := by
      funext j
      by_cases hj : j = n
      · subst hj; rw [putAt_self]
      · rw [putAt_ne _ _ hj]
    rw [e]
    exact key (f n) (h n (by omega)) f (less_acc r n f fun i hi => h i (by omega))
inductive Toward (P : Program) (Stop : JT) : Goroutine → World → Foot → Prop where
  | stop {g : Goroutine} {w : World} {ft : Foot} : g.status = .running → (∀ w₁, RelyW ft w w₁ → Stop g w₁ ft) → Toward P Stop g w ft
  | step {g : Goroutine} {w : World} {ft : Foot} : g.status = .running → (∀ w₁, RelyW ft w w₁ → ∃ g' w' es, stepG P false g w₁ = .go g' w' es ∧ g'.status = .running ∧ GuarW ft w₁ w' es) →
      (∀ w₁ g' w' es, RelyW ft w w₁ → stepG P false g w₁ = .go g' w' es → Toward P Stop g' w' (ft.ext w₁.heap.size w'.heap.size)) → Toward P Stop g w ft
theorem Toward.running {P : Program} {Stop : JT} {g : Goroutine} {w : World} {ft : Foot} (h : Toward P Stop g w ft) : g.status = .running := by
  cases h with
  | stop h _ => exact h
  | step h _ _ => exact h
theorem Toward.rely {P : Program} {Stop : JT} {g : Goroutine} {w w₁ : World} {ft : Foot} (h : Toward P Stop g w ft) (hr : RelyW ft w w₁) : Toward P Stop g w₁ ft := by
  cases h with
  | stop h1 h2 => exact .stop h1 fun w₂ h₂ => h2 w₂ (hr.trans h₂)
  | step h1 h2 h3 => exact .step h1 (fun w₂ h₂ => h2 w₂ (hr.trans h₂)) fun w₂ g' w' es h₂ hs => h3 w₂ g' w' es (hr.trans h₂) hs
theorem Toward.closed (P : Program) (Stop : JT) : Closed P false (Toward P Stop) where
  rely := fun h hr => h.rely hr
  step := fun hrun h => .step hrun (fun w₁ h₁ => by
    obtain ⟨g', w', es, a, b, c, _⟩ := h w₁ h₁
    exact ⟨g', w', es, a, b, c⟩) fun w₁ g' w' es h₁ hs => by
    obtain ⟨g2, w2, es2, a, b, c, d⟩ := h w₁ h₁
    rw [hs] at a
    cases a
    exact d
inductive WS where
  | quit (n : Nat)
  | way (w : World) (ft : Foot)
  | park
inductive WLt (P : Program) : Goroutine × WS → Goroutine × WS → Prop where
  | step {g g' : Goroutine} {w w₁ w' : World} {ft : Foot} {es : Array Event} : RelyW ft w w₁ → stepG P false g w₁ = .go g' w' es → WLt P (g', .way w' (ft.ext w₁.heap.size w'.heap.size)) (g, .way w ft)
  | quit {g g' : Goroutine} {w : World} {ft : Foot} {n : Nat} : WLt P (g', .quit n) (g, .way w ft)
  | park {g g' : Goroutine} {w : World} {ft : Foot} : WLt P (g', .park) (g, .way w ft)
  | out {g g' : Goroutine} {n : Nat} : WLt P (g', .quit n) (g, .park)
  | less {g g' : Goroutine} {n m : Nat} : n < m → WLt P (g', .quit n) (g, .quit m)
theorem acc_quit (P : Program) : ∀ (n : Nat) (g : Goroutine), Acc (WLt P) (g, .quit n) := by
  intro n
  induction n using Nat.strongRecOn with
  | ind n ih =>
    intro g
    refine ⟨_, fun y hy => ?_⟩
    cases hy with
    | less h => exact ih _ h _
theorem acc_park (P : Program) (g : Goroutine) : Acc (WLt P) (g, .park) :=
  ⟨_, fun y hy => by cases hy with | out => exact acc_quit P _ _⟩
def Halts (P : Program) (Stop : JT) : Prop := ∀ g w ft g' w' es, Stop g w ft → stepG P false g w ≠ .go g' w' es
theorem acc_way {P : Program} {Stop : JT} (hS : Halts P Stop) {g : Goroutine} {w : World} {ft : Foot} (h : Toward P Stop g w ft) : Acc (WLt P) (g, .way w ft) := by
  induction h with
  | stop h1 h2 =>
    refine ⟨_, fun y hy => ?_⟩
    cases hy with
    | step hr hs => exact absurd hs (hS _ _ _ _ _ _ (h2 _ hr))
    | quit => exact acc_quit P _ _
    | park => exact acc_park P _
  | step h1 h2 _ ih =>
    refine ⟨_, fun y hy => ?_⟩
    cases hy with
    | step hr hs => exact ih _ _ _ _ hr hs
    | quit => exact acc_quit P _ _
    | park => exact acc_park P _
def locBlk : Loc → Option Nat
  | .cell a => some a.block
  | .obj r => some r
  | _ => none
def KnowsOk (t : Trace) (x : Nat) (ft : Foot) : Prop :=
  ∀ i a, touchAt t i = some a → a.loc.isMemory = true → Knows t x i ∨ ∀ b, locBlk a.loc = some b → ¬ ft.wr b ∧ (a.write = true → ¬ ft.rd b)
theorem evOk_touch {ft : Foot} {e : Event} {a : Touch} (he : EvOk ft e) (ha : (MemAct.ofEvent e).touch? = some a) : ∃ b, locBlk a.loc = some b ∧ ft.rd b ∧ (a.write = true → ft.wr b) := by
  obtain ⟨loc, wr, sync⟩ := e
  unfold EvOk at he
  cases loc with
  | cell x =>
    simp only at he
    simp only [MemAct.ofEvent, MemAct.touch?, Option.some.injEq] at ha
    subst ha
    exact ⟨_, rfl, he.2.1, he.2.2⟩
  | obj r =>
    obtain ⟨rfl, h1, h2⟩ := he
    cases wr <;> (simp only [MemAct.ofEvent, MemAct.touch?, Option.some.injEq] at ha; subst ha; exact ⟨_, rfl, h1, h2⟩)
  | mark m => cases m <;> first | exact he.elim | (simp [MemAct.ofEvent, MemAct.touch?] at ha)
  | output => exact he.elim
  | goroutines => exact he.elim
theorem touch_low {x : MemAct} {a : Touch} {n b : Nat} (hl : x.low n) (ha : x.touch? = some a) (hb : locBlk a.loc = some b) : b < n := by
  cases x with
  | access e =>
    obtain ⟨loc, wr, sy⟩ := e
    simp only [MemAct.touch?, Option.some.injEq] at ha
    subst ha
    cases loc with
    | cell x => injection hb with hb; subst hb; exact hl
    | obj x => injection hb with hb; subst hb; exact hl
    | _ => cases hb
  | mark mk =>
    cases mk with
    | read x => injection ha with ha; subst ha; injection hb with hb; subst hb; exact hl
    | write x => injection ha with ha; subst ha; injection hb with hb; subst hb; exact hl
    | _ => cases ha
  | _ => cases ha
theorem touch_app {t u : Trace} {i : Nat} {a : Touch} (h : touchAt (t ++ u) i = some a) : (i < t.size ∧ touchAt t i = some a) ∨ ∃ op ∈ u, (t ++ u)[i]? = some op ∧ op.act.touch? = some a := by
  obtain ⟨x, hx, hxa⟩ := touch_of h
  rcases getElem?_append_cases hx with ⟨hi, hx'⟩ | ⟨_, hxu⟩
  · exact .inl ⟨hi, by rw [touchAt_of hx']; exact hxa⟩
  · exact .inr ⟨x, hxu, hx, hxa⟩
theorem conf_blk {said : Bool} {a b : Touch} (h : a.conflicts said b) : locBlk a.loc = locBlk b.loc ∧ a.loc.isMemory = true ∧ (a.write = true ∨ b.write = true) := ⟨by rw [h.1], h.2.1, h.2.2.1⟩
section
variable {t u : Trace} {x y : Nat} {ft fy : Foot} {fn : FuncId} {pos : String} {es : Array Event}
theorem KnowsOk.noRace {said : Bool} (hc : ¬ Race said t) (hk : KnowsOk t x ft) (he : ∀ e ∈ es, EvOk ft e) : ¬ Race said (t ++ MemOp.ofEvents x fn pos es) := by
  refine noRace_append hc (fun op hop => mem_g hop) fun i a ha op hop b hb hcf => ?_
  obtain ⟨e, hee, rfl⟩ := Go.Conc.mem_ofEvents hop
  obtain ⟨bl, h1, h2, h3⟩ := evOk_touch (he e hee) hb
  obtain ⟨c1, c2, c3⟩ := conf_blk hcf
  rcases hk i a ha c2 with h | h
  · exact h
  · obtain ⟨n1, n2⟩ := h bl (by rw [c1]; exact h1)
    rcases c3 with c | c
    · exact absurd h2 (n2 c)
    · exact absurd (h3 c) n1
theorem KnowsOk.mute (hk : KnowsOk t y fy) (hu : ∀ op ∈ u, op.act.touch? = none) : KnowsOk (t ++ u) y fy := by
  intro i a ha hm
  rcases touch_app ha with ⟨hi, h⟩ | ⟨op, hop, _, h⟩
  · exact (hk i a h hm).imp (·.app u) id
  · rw [hu op hop] at h; cases h
theorem KnowsOk.other (hk : KnowsOk t y fy) (he : ∀ e ∈ es, EvOk ft e) (d1 : ∀ b, ft.wr b → ¬ fy.rd b) (d2 : ∀ b, fy.wr b → ¬ ft.rd b) : KnowsOk (t ++ MemOp.ofEvents x fn pos es) y fy := by
  intro i a ha hm
  rcases touch_app ha with ⟨hi, h⟩ | ⟨op, hop, _, h⟩
  · exact (hk i a h hm).imp (·.app _) id
  · obtain ⟨e, hee, rfl⟩ := Go.Conc.mem_ofEvents hop
    obtain ⟨bl, h1, h2, h3⟩ := evOk_touch (he e hee) h
    refine .inr fun b hb => ?_
    rw [h1] at hb
    cases hb
    exact ⟨fun hw => d2 _ hw h2, fun hw => d1 _ (h3 hw)⟩
theorem KnowsOk.own {n m : Nat} (hk : KnowsOk t x ft) (_he : ∀ e ∈ es, EvOk ft e) (hs : ∀ op ∈ t, op.act.low n) : KnowsOk (t ++ MemOp.ofEvents x fn pos es) x (ft.ext n m) := by
  intro i a ha hm
  rcases touch_app ha with ⟨hi, h⟩ | ⟨op, hop, hg, h⟩
  · rcases hk i a h hm with hh | hh
    · exact .inl (hh.app _)
    · refine .inr fun b hb => ?_
      obtain ⟨n1, n2⟩ := hh b hb
      have hlow : b < n := by
        obtain ⟨z, hz, hza⟩ := touch_of h
        exact touch_low (hs z (Array.mem_of_getElem? hz)) hza hb
      exact ⟨fun hw => hw.elim n1 (fun e => by omega), fun hw hr => hr.elim (n2 hw) fun e => by omega⟩
  · have := knows_own hg
    rw [mem_g hop] at this
    exact .inl this
theorem KnowsOk.less {f' : Foot} (hk : KnowsOk t x ft) (h1 : ∀ b, f'.rd b → ft.rd b) (h2 : ∀ b, f'.wr b → ft.wr b) : KnowsOk t x f' := fun i a ha hm =>
  (hk i a ha hm).imp id fun hh b hb => ⟨fun hw => (hh b hb).1 (h2 b hw), fun hw hr => (hh b hb).2 hw (h1 b hr)⟩
theorem low_events {n : Nat} (he : ∀ e ∈ es, EvOk ft e) (hb : ∀ b, ft.rd b → b < n) : ∀ op ∈ MemOp.ofEvents x fn pos es, op.act.low n := fun op hop => by
  obtain ⟨e, hee, rfl⟩ := Go.Conc.mem_ofEvents hop
  exact (evL_of (he e hee) hb).2.2.2
end
structure Crew where
  ch : Nat → Option (Nat × Array Value × Bool)
  c : Nat
  pend : List Nat
  phi : Nat → Value → Prop
def AtSend (P : Program) (c : Nat) (Φ : Value → Prop) : JT := fun g w _ =>
  ∃ g₂ v z, stepG P false g w = .comm g₂ #[scase c v z] true .send w #[] ∧ Φ v ∧ ∃ n, QuitsD P n 0 (Conc.served g₂ undef)
theorem atSend_halts (P : Program) (c : Nat) (Φ : Value → Prop) : Halts P (AtSend P c Φ) := fun g w ft g' w' es h e => by
  obtain ⟨g₂, v, z, h, _⟩ := h
  rw [h] at e
  cases e
structure WayOk (P : Program) (T : Crew) (t : Trace) (i k : Nat) (ft : Foot) (w : World) (g : Goroutine) (wi : World) (fi : Foot) : Prop where
  way : Toward P (AtSend P T.c (T.phi k)) g wi fi
  rely : RelyW fi wi w
  lt : ∀ b, fi.rd b → b < w.heap.size
  sub : ∀ b, fi.wr b → fi.rd b
  ch : ∀ b x, T.ch b = some x → ¬ fi.rd b
  d1 : ∀ b, fi.wr b → ¬ ft.rd b
  d2 : ∀ b, ft.wr b → ¬ fi.rd b
  know : KnowsOk t i fi
def ParkOk (P : Program) (T : Crew) (k : Nat) (g : Goroutine) : Prop := ∃ g₂ v z, g = parked g₂ #[scase T.c v z] .send ∧ T.phi k v ∧ ∃ n, QuitsD P n 0 (Conc.served g₂ undef)
structure Inv (P : Program) (W0 : World) (T : Crew) (ft : Foot) (gs : Array Goroutine) (w : World) (t : Trace) (st : Nat → WS) (ix : Nat → Nat) : Prop where
  base : Base W0 w
  lt : ∀ b, ft.rd b → b < w.heap.size
  sub : ∀ b, ft.wr b → ft.rd b
  chan : ∀ b x, T.ch b = some x → ∃ s r tm, w.heap[b]? = some (.chan x.1 x.2.1 x.2.2 s r tm)
  cnt : ∀ b x s r tm, T.ch b = some x → w.heap[b]? = some (.chan x.1 x.2.1 x.2.2 s r tm) → s = r + x.2.1.size
  chft : ∀ b x, T.ch b = some x → ¬ ft.rd b
  own : T.pend ≠ [] → T.ch T.c = some (0, #[], false)
  nd : T.pend.Nodup
  ixr : ∀ k ∈ T.pend, 0 < ix k ∧ ix k < gs.size
  inj : ∀ k ∈ T.pend, ∀ l ∈ T.pend, ix k = ix l → k = l
  pnd : ∀ k ∈ T.pend, ∃ g, gs[ix k]? = some g ∧ Deaf t (ix k) = 0 ∧ ((∃ wi fi, st (ix k) = .way wi fi ∧ WayOk P T t (ix k) k ft w g wi fi) ∨ (st (ix k) = .park ∧ ParkOk P T k g))
  old : ∀ i g, 0 < i → gs[i]? = some g → (∀ k ∈ T.pend, ix k ≠ i) → ∃ n, st i = .quit n ∧ QuitsD P n (Deaf t i) g
  disj : ∀ k ∈ T.pend, ∀ l ∈ T.pend, k ≠ l → ∀ wk fk wl fl, st (ix k) = .way wk fk → st (ix l) = .way wl fl → ∀ b, fk.wr b → ¬ fl.rd b
  above : ∀ j, gs.size ≤ j → Deaf t j = 0
  hears : Deaf t 0 = 0
  clean : ∀ said, ¬ Race said t
  known : KnowsOk t 0 ft
  done : ∀ i a, touchAt t i = some a → a.loc.isMemory = true → Knows t 0 i ∨ ∃ k ∈ T.pend, t.g? i = some (ix k)
  seen : ∀ op ∈ t, op.act.low w.heap.size
def MainOk (T : Crew) (g : Goroutine) : Prop := g.status = .running ∨ ∃ g₂ z sh, g = parked g₂ #[rcase T.c z] sh ∧ T.ch T.c = some (0, #[], false)
def JC (P : Program) (W0 : World) (Post : Value → World → Prop) (T : Crew) (g : Goroutine) (w : World) (ft : Foot) : Prop :=
  ∀ (gs : Array Goroutine) (w₁ : World) (sl : Option (Nat × Nat)) (t : Trace) (st : Nat → WS) (ix : Nat → Nat), RelyW ft w w₁ → gs[0]? = some g → Inv P W0 T ft gs w₁ t st ix → Ends P Post (crowd gs w₁ sl) t
section
variable {P : Program} {W0 : World} {Post : Value → World → Prop} {T : Crew} {g : Goroutine} {w w₁ w' : World} {ft : Foot} {gs : Array Goroutine} {t : Trace} {st : Nat → WS} {ix : Nat → Nat} {i : Nat} {sl : Option (Nat × Nat)}
theorem Inv.at (I : Inv P W0 T ft gs w t st ix) (d : Nat) : Inv P W0 T ft gs (w.at d) t st ix where
  base := ⟨I.base.tape, I.base.os, I.base.output, I.base.size⟩
  lt := I.lt
  sub := I.sub
  chan := I.chan
  cnt := I.cnt
  chft := I.chft
  own := I.own
  nd := I.nd
  ixr := I.ixr
  inj := I.inj
  pnd := fun k hk => by
    obtain ⟨g, h1, h2, h3⟩ := I.pnd k hk
    refine ⟨g, h1, h2, h3.imp (fun ⟨wi, fi, e, W⟩ => ⟨wi, fi, e, ?_⟩) id⟩
    exact ⟨W.way, W.rely.trans (relyW_at fi w d), W.lt, W.sub, W.ch, W.d1, W.d2, W.know⟩
  old := I.old
  disj := I.disj
  above := I.above
  hears := I.hears
  clean := I.clean
  known := I.known
  done := I.done
  seen := I.seen
theorem moved_get {f : Goroutine → Goroutine} {g' : Goroutine} {j : Nat} {y : Goroutine} (hne : i ≠ j) (h : ((gs.map f).setIfInBounds i g')[j]? = some y) : ∃ z, gs[j]? = some z ∧ y = f z := by
  rw [Array.getElem?_setIfInBounds_ne hne, Array.getElem?_map] at h
  obtain ⟨z, hz, e⟩ := Option.map_eq_some_iff.1 h
  exact ⟨z, hz, e.symm⟩
theorem moved_put {f : Goroutine → Goroutine} {g' : Goroutine} {j : Nat} {z : Goroutine} (hne : i ≠ j) (h : gs[j]? = some z) (e : f z = z) : ((gs.map f).setIfInBounds i g')[j]? = some z := by
  rw [Array.getElem?_setIfInBounds_ne hne, Array.getElem?_map, h]
  simp [e]
theorem moved_own {f : Goroutine → Goroutine} {g g' : Goroutine} (h : gs[i]? = some g) : ((gs.map f).setIfInBounds i g')[i]? = some g' := by
  have hlt := (Array.getElem?_eq_some_iff.1 h).1
  rw [Array.getElem?_setIfInBounds_self_of_lt (by simpa using hlt)]
theorem main_still {x g' : Goroutine} (hm : MainOk T g) (hc : T.ch T.c = some (0, #[], false) → ∃ s r tm, w'.heap[T.c]? = some (.chan 0 #[] false s r tm)) : woken P x g' w' g = g := by
  rcases hm with h | ⟨g₂, z, sh, rfl, h⟩
  · exact woken_run h
  · obtain ⟨s, r, tm, h⟩ := hc h
    exact woken_recv_open _ _ h
theorem pend_still {x g' y : Goroutine} {k : Nat} (_hc : T.ch T.c = some (0, #[], false)) (hch : ∃ s r tm, w'.heap[T.c]? = some (.chan 0 #[] false s r tm)) (h : (∃ wi fi, WayOk P T t i k ft w y wi fi) ∨ ParkOk P T k y) : woken P x g' w' y = y := by
  rcases h with ⟨wi, fi, W⟩ | ⟨g₂, v, z, rfl, _⟩
  · exact woken_run W.way.running
  · obtain ⟨s, r, tm, h⟩ := hch
    exact woken_send_open _ _ h
theorem deaf_evs {fi : Foot} {fn : FuncId} {pos : String} {es : Array Event} {n : Nat} (he : ∀ e ∈ es, EvOk fi e) (hb : ∀ b, fi.rd b → b < n) (j : Nat) : Deaf (t ++ MemOp.ofEvents i fn pos es) j = Deaf t j := by
  by_cases h : i = j
  · subst h
    rw [Deaf_own]
    exact deafBehind_still (fun e hm => ⟨(evL_of (he e hm) hb).2.1, (evL_of (he e hm) hb).2.2.1⟩) _
  · rw [Deaf_other t h _ (fun op hop => mem_g hop)]
theorem g_app {u : Trace} {j : Nat} {y : Nat} (h : t.g? j = some y) : (t ++ u).g? j = some y := by
  unfold Trace.g? at h ⊢
  obtain ⟨z, hz, e⟩ := Option.map_eq_some_iff.1 h
  rw [getElem?_append_old (lt_size_of_getElem? hz), hz]
  simp [e]
theorem done_mute {u : Trace} (hd : ∀ i a, touchAt t i = some a → a.loc.isMemory = true → Knows t 0 i ∨ ∃ k ∈ T.pend, t.g? i = some (ix k)) (hu : ∀ op ∈ u, op.act.touch? = none) :
    ∀ i a, touchAt (t ++ u) i = some a → a.loc.isMemory = true → Knows (t ++ u) 0 i ∨ ∃ k ∈ T.pend, (t ++ u).g? i = some (ix k) := by
  intro i a ha hm
  rcases touch_app ha with ⟨_, h⟩ | ⟨op, hop, _, h⟩
  · exact (hd i a h hm).imp (·.app u) fun ⟨k, hk, e⟩ => ⟨k, hk, g_app e⟩
  · rw [hu op hop] at h; cases h
theorem Inv.quit (I : Inv P W0 T ft gs w t st ix) {x g' : Goroutine} {es : Array Event} {m : Nat} (hpos : 0 < i) (hi : gs[i]? = some x) (hn : ∀ k ∈ T.pend, ix k ≠ i) (hm : ∀ e ∈ es, Event.mute e = true)
    (hq : QuitsD P m (deafBehind (Deaf t i) es) g') : Inv P W0 T ft ((gs.map (woken P x g' w)).setIfInBounds i g') w (t ++ MemOp.ofEvents i x.frame.fn x.frame.place es) (putAt st i (.quit m)) ix := by
  have htn : ∀ op ∈ MemOp.ofEvents i x.frame.fn x.frame.place es, op.act.touch? = none := fun op hop => by
    obtain ⟨e, he, rfl⟩ := Go.Conc.mem_ofEvents hop
    exact touch_mute (hm e he)
  have hdo : ∀ j, i ≠ j → Deaf (t ++ MemOp.ofEvents i x.frame.fn x.frame.place es) j = Deaf t j := fun j hj => Deaf_other t hj _ (fun op hop => mem_g hop)
  have hlt : i < gs.size := (Array.getElem?_eq_some_iff.1 hi).1
  refine { base := I.base, lt := I.lt, sub := I.sub, chan := I.chan, cnt := I.cnt, chft := I.chft, own := I.own, nd := I.nd, ixr := fun k hk => ?_, inj := I.inj, pnd := fun k hk => ?_, old := fun j y hj hy hnj => ?_, disj := fun k hk l hl hkl wk fk wl fl e1 e2 => ?_, above := fun j hj => ?_, hears := ?_, clean := fun said => ?_, known := I.known.mute htn, done := done_mute I.done htn, seen := ?_ }
  · simpa using I.ixr k hk
  · obtain ⟨y, h1, h2, h3⟩ := I.pnd k hk
    have hne : i ≠ ix k := fun e => hn k hk e.symm
    have hown := I.own (List.ne_nil_of_mem hk)
    have hst : woken P x g' w y = y := pend_still (t := t) (i := ix k) (ft := ft) (w := w) hown (I.chan _ _ hown) (h3.imp (fun ⟨a, b, _, c⟩ => ⟨a, b, c⟩) fun h => h.2)
    refine ⟨y, moved_put hne h1 hst, by rw [hdo _ hne]; exact h2, ?_⟩
    rw [putAt_ne _ _ (Ne.symm hne)]
    refine h3.imp (fun ⟨wi, fi, e, W⟩ => ⟨wi, fi, e, W.way, W.rely, W.lt, W.sub, W.ch, W.d1, W.d2, W.know.mute htn⟩) id
  · by_cases hji : i = j
    · subst hji
      rw [moved_own hi] at hy
      cases hy
      exact ⟨m, putAt_self _ _ _, by rw [Deaf_own]; exact hq⟩
    · obtain ⟨z, hz, rfl⟩ := moved_get hji hy
      obtain ⟨n, e, hqz⟩ := I.old j z hj hz hnj
      refine ⟨n, by rw [putAt_ne _ _ (Ne.symm hji)]; exact e, ?_⟩
      rw [woken_quitsD hqz, hdo _ hji]
      exact hqz
  · rw [putAt_ne _ _ (hn k hk)] at e1
    rw [putAt_ne _ _ (hn l hl)] at e2
    exact I.disj k hk l hl hkl wk fk wl fl e1 e2
  · have : i ≠ j := by simp at hj; omega
    rw [hdo _ this]
    exact I.above j (by simpa using hj)
  · rw [hdo _ (by omega)]
    exact I.hears
  · exact noRace_append (I.clean said) (fun op hop => mem_g hop) fun _ _ _ op hop b hb _ => by rw [htn op hop] at hb; cases hb
  · exact seen_app I.seen fun op hop => by
      obtain ⟨e, he, rfl⟩ := Go.Conc.mem_ofEvents hop
      exact low_mute (hm e he) _
theorem Inv.walk (I : Inv P W0 T ft gs w t st ix) {k : Nat} (hk : k ∈ T.pend) {x g' : Goroutine} {es : Array Event} {wi : World} {fi : Foot} (hi : gs[ix k]? = some x) (hst : st (ix k) = .way wi fi) (W : WayOk P T t (ix k) k ft w x wi fi)
    (hgu : GuarW fi w w' es) (hto : Toward P (AtSend P T.c (T.phi k)) g' w' (fi.ext w.heap.size w'.heap.size)) :
    Inv P W0 T ft ((gs.map (woken P x g' w')).setIfInBounds (ix k) g') w' (t ++ MemOp.ofEvents (ix k) x.frame.fn x.frame.place es) (putAt st (ix k) (.way w' (fi.ext w.heap.size w'.heap.size))) ix := by
  have hsz := hgu.size
  have hdf := fun j => deaf_evs (t := t) (i := ix k) (fn := x.frame.fn) (pos := x.frame.place) hgu.evs W.lt j
  have hch : ∀ b y, T.ch b = some y → ∃ s r tm, w'.heap[b]? = some (.chan y.1 y.2.1 y.2.2 s r tm) := fun b y hb => by
    obtain ⟨s, r, tm, e⟩ := I.chan b y hb
    have hlt : b < w.heap.size := (Array.getElem?_eq_some_iff.1 e).1
    exact ⟨s, r, tm, by rw [hgu.heap b hlt fun hw => W.ch b y hb (W.sub b hw)]; exact e⟩
  have hcnt : ∀ b y s r tm, T.ch b = some y → w'.heap[b]? = some (.chan y.1 y.2.1 y.2.2 s r tm) → s = r + y.2.1.size := fun b y s r tm hb hw' => by
    obtain ⟨s', r', tm', e⟩ := I.chan b y hb
    have hlt : b < w.heap.size := (Array.getElem?_eq_some_iff.1 e).1
    rw [hgu.heap b hlt fun hw => W.ch b y hb (W.sub b hw)] at hw'
    exact I.cnt b y s r tm hb hw'
  have hown := I.own (List.ne_nil_of_mem hk)
  have other : ∀ {fy : Foot}, (∀ b, fi.wr b → ¬ fy.rd b) → (∀ b, fy.rd b → b < w.heap.size) → ∀ b, fy.rd b → w'.heap[b]? = w.heap[b]? := fun hd hl b hb => hgu.heap b (hl b hb) fun hw => hd b hw hb
  refine { base := ⟨hgu.tape.trans I.base.tape, hgu.os.trans I.base.os, hgu.output.trans I.base.output, Nat.le_trans I.base.size hsz⟩, lt := fun b hb => Nat.lt_of_lt_of_le (I.lt b hb) hsz, sub := I.sub, chan := hch, cnt := hcnt, chft := I.chft, own := I.own, nd := I.nd, ixr := fun l hl => ?_, inj := I.inj, pnd := fun l hl => ?_, old := fun j y hj hy hnj => ?_, disj := fun a ha b hb hab wa fa wb fb e1 e2 => ?_, above := fun j hj => ?_, hears := ?_, clean := fun said => W.know.noRace (I.clean said) hgu.evs, known := I.known.other hgu.evs W.d1 W.d2, done := fun j a ha hm => ?_, seen := ?_ }
  · simpa using I.ixr l hl
  · by_cases hlk : l = k
    · subst hlk
      refine ⟨g', moved_own hi, by rw [hdf]; obtain ⟨_, _, h2, _⟩ := I.pnd l hk; exact h2, .inl ⟨w', _, putAt_self _ _ _, ?_⟩⟩
      refine ⟨hto, RelyW.refl _ _, fun b hb => ?_, fun b hb => ?_, fun b y hb hr => ?_, fun b hb hr => ?_, fun b hb hr => ?_, W.know.own hgu.evs I.seen⟩
      · rcases hb with hb | hb
        · exact Nat.lt_of_lt_of_le (W.lt b hb) hsz
        · exact hb.2
      · rcases hb with hb | hb
        · exact .inl (W.sub b hb)
        · exact .inr hb
      · rcases hr with hr | hr
        · exact W.ch b y hb hr
        · obtain ⟨s, r, tm, e⟩ := I.chan b y hb
          have hlt : b < w.heap.size := (Array.getElem?_eq_some_iff.1 e).1
          omega
      · rcases hb with hb | hb
        · exact W.d1 b hb hr
        · have := I.lt b hr
          omega
      · rcases hr with hr | hr
        · exact W.d2 b hb hr
        · have := I.lt b (I.sub b hb)
          omega
    · obtain ⟨y, h1, h2, h3⟩ := I.pnd l hl
      have hne : ix k ≠ ix l := fun e => hlk (I.inj k hk l hl e).symm
      have hst' : woken P x g' w' y = y := pend_still (t := t) (i := ix l) (ft := ft) (w := w) hown (hch _ _ hown) (h3.imp (fun ⟨a, b, _, c⟩ => ⟨a, b, c⟩) fun h => h.2)
      refine ⟨y, moved_put hne h1 hst', by rw [hdf]; exact h2, ?_⟩
      rw [putAt_ne _ _ (Ne.symm hne)]
      refine h3.imp (fun ⟨wl, fl, e, V⟩ => ⟨wl, fl, e, ?_⟩) id
      have hd := I.disj k hk l hl (fun e => hlk e.symm) wi fi wl fl hst e
      have hd' := I.disj l hl k hk hlk wl fl wi fi e hst
      exact ⟨V.way, V.rely.trans ⟨fun b hb => other hd V.lt b hb, hsz, hgu.tape, hgu.os, hgu.output⟩, fun b hb => Nat.lt_of_lt_of_le (V.lt b hb) hsz, V.sub, V.ch, V.d1, V.d2, V.know.other hgu.evs hd hd'⟩
  · by_cases hji : ix k = j
    · exact absurd hji (hnj k hk)
    · obtain ⟨z, hz, rfl⟩ := moved_get hji hy
      obtain ⟨n, e, hqz⟩ := I.old j z hj hz hnj
      refine ⟨n, by rw [putAt_ne _ _ (Ne.symm hji)]; exact e, ?_⟩
      rw [woken_quitsD hqz, hdf]
      exact hqz
  · have low : ∀ l, l ∈ T.pend → ∀ wl fl, st (ix l) = .way wl fl → ∀ b, fl.rd b → b < w.heap.size := fun l hl wl fl e => by
      obtain ⟨y, _, _, h3⟩ := I.pnd l hl
      rcases h3 with ⟨_, _, e', V⟩ | ⟨e', _⟩
      · rw [e] at e'
        cases e'
        exact V.lt
      · rw [e] at e'
        cases e'
    have sub : ∀ l, l ∈ T.pend → ∀ wl fl, st (ix l) = .way wl fl → ∀ b, fl.wr b → fl.rd b := fun l hl wl fl e => by
      obtain ⟨y, _, _, h3⟩ := I.pnd l hl
      rcases h3 with ⟨_, _, e', V⟩ | ⟨e', _⟩
      · rw [e] at e'
        cases e'
        exact V.sub
      · rw [e] at e'
        cases e'
    by_cases hak : a = k
    · subst hak
      rw [putAt_self] at e1
      cases e1
      have hne : ix b ≠ ix a := fun e => hab (I.inj b hb a ha e).symm
      rw [putAt_ne _ _ hne] at e2
      intro y hy hr
      rcases hy with hy | hy
      · exact I.disj a ha b hb hab wi fi wb fb hst e2 y hy hr
      · have := low b hb wb fb e2 y hr
        omega
    · have hne : ix a ≠ ix k := fun e => hak (I.inj a ha k hk e)
      rw [putAt_ne _ _ hne] at e1
      by_cases hbk : b = k
      · subst hbk
        rw [putAt_self] at e2
        cases e2
        intro y hy hr
        rcases hr with hr | hr
        · exact I.disj a ha b hb hab wa fa wi fi e1 hst y hy hr
        · have := low a ha wa fa e1 y (sub a ha wa fa e1 y hy)
          omega
      · have hne' : ix b ≠ ix k := fun e => hbk (I.inj b hb k hk e)
        rw [putAt_ne _ _ hne'] at e2
        exact I.disj a ha b hb hab wa fa wb fb e1 e2
  · rw [hdf]
    exact I.above j (by simpa using hj)
  · rw [hdf]
    exact I.hears
  · rcases touch_app ha with ⟨_, h⟩ | ⟨op, hop, hg, h⟩
    · exact (I.done j a h hm).imp (·.app _) fun ⟨l, hl, e⟩ => ⟨l, hl, g_app e⟩
    · refine .inr ⟨k, hk, ?_⟩
      unfold Trace.g?
      rw [hg]
      simp [mem_g hop]
  · exact seen_app (fun op hop => MemAct.low_mono hsz (I.seen op hop)) fun op hop => MemAct.low_mono hsz (low_events hgu.evs W.lt op hop)
end
def Crew.less (T : Crew) (k : Nat) : Crew := { T with pend := T.pend.erase k }
def meas (gs : Array Goroutine) (st : Nat → WS) : Nat → Goroutine × WS := fun i => if i = 0 then (default, .quit 0) else (gs.getD i default, st i)
section
variable {P : Program} {W0 : World} {Post : Value → World → Prop} {T : Crew} {g g0 : Goroutine} {w w₁ w' : World} {ft : Foot} {gs gs' : Array Goroutine} {t : Trace} {st st' : Nat → WS} {ix : Nat → Nat} {i k : Nat} {sl : Option (Nat × Nat)}
theorem meas_acc (I : Inv P W0 T ft gs w t st ix) : Acc (Less (WLt P) gs.size) (meas gs st) := by
  refine less_acc _ _ _ fun j hj => ?_
  by_cases h0 : j = 0
  · have e : meas gs st j = (default, .quit 0) := if_pos h0
    rw [e]
    exact acc_quit P _ _
  · have e : meas gs st j = (gs.getD j default, st j) := if_neg h0
    rw [e]
    clear e
    have hg : gs[j]? = some gs[j] := Array.getElem?_eq_getElem hj
    have hd : gs.getD j default = gs[j] := by rw [Array.getD_eq_getD_getElem?, hg]; rfl
    rw [hd]
    by_cases hp : ∃ k ∈ T.pend, ix k = j
    · obtain ⟨k, hk, rfl⟩ := hp
      obtain ⟨y, h1, _, h3⟩ := I.pnd k hk
      rw [hg] at h1
      cases h1
      rcases h3 with ⟨wi, fi, e, W⟩ | ⟨e, _⟩
      · rw [e]
        exact acc_way (atSend_halts P _ _) W.way
      · rw [e]
        exact acc_park P _
    · obtain ⟨n, e, _⟩ := I.old j gs[j] (by omega) hg fun k hk e => hp ⟨k, hk, e⟩
      rw [e]
      exact acc_quit P _ _
theorem meas_less (hi : i < gs.size) (h0 : 0 < i) (_hs : gs'.size = gs.size) {x y : Goroutine} {a b : WS} (hx : gs[i]? = some x) (hy : gs'[i]? = some y) (ha : st i = a) (hb : st' i = b) (hr : WLt P (y, b) (x, a))
    (ho : ∀ j, 0 < j → j ≠ i → gs'[j]? = gs[j]? ∧ st' j = st j) : Less (WLt P) gs.size (meas gs' st') (meas gs st) := by
  refine ⟨i, hi, ?_, fun j hj => ?_⟩
  · have h0' : ¬ i = 0 := by omega
    unfold meas
    rw [if_neg h0', if_neg h0', Array.getD_eq_getD_getElem?, Array.getD_eq_getD_getElem?, hx, hy, ha, hb]
    exact hr
  · by_cases hj0 : j = 0
    · have e1 : meas gs' st' j = (default, .quit 0) := if_pos hj0
      have e2 : meas gs st j = (default, .quit 0) := if_pos hj0
      rw [e1, e2]
    · obtain ⟨e1, e2⟩ := ho j (by omega) hj
      have x1 : meas gs' st' j = (gs'.getD j default, st' j) := if_neg hj0
      have x2 : meas gs st j = (gs.getD j default, st j) := if_neg hj0
      rw [x1, x2, Array.getD_eq_getD_getElem?, Array.getD_eq_getD_getElem?, e1, e2]
theorem Inv.still (I : Inv P W0 T ft gs w t st ix) {x g' : Goroutine} (hc : ∀ b y, T.ch b = some y → ∃ s r tm, w'.heap[b]? = some (.chan y.1 y.2.1 y.2.2 s r tm)) : ∀ (j : Nat) (y : Goroutine), 0 < j → gs[j]? = some y → woken P x g' w' y = y := by
  intro j y hj hy
  by_cases hp : ∃ k ∈ T.pend, ix k = j
  · obtain ⟨k, hk, rfl⟩ := hp
    obtain ⟨z, h1, _, h3⟩ := I.pnd k hk
    rw [hy] at h1
    cases h1
    have hown := I.own (List.ne_nil_of_mem hk)
    exact pend_still (t := t) (i := ix k) (ft := ft) (w := w) hown (hc _ _ hown) (h3.imp (fun ⟨a, b, _, c⟩ => ⟨a, b, c⟩) fun h => h.2)
  · obtain ⟨n, _, hq⟩ := I.old j y hj hy fun k hk e => hp ⟨k, hk, e⟩
    exact woken_quitsD hq
theorem moved_same (I : Inv P W0 T ft gs w t st ix) {x g' : Goroutine} (hc : ∀ b y, T.ch b = some y → ∃ s r tm, w'.heap[b]? = some (.chan y.1 y.2.1 y.2.2 s r tm)) {j : Nat} (h0 : 0 < j) (hj : j ≠ i) : ((gs.map (woken P x g' w')).setIfInBounds i g')[j]? = gs[j]? := by
  rw [Array.getElem?_setIfInBounds_ne (Ne.symm hj), Array.getElem?_map]
  cases e : gs[j]? with
  | none => rfl
  | some y => rw [Option.map_some, I.still hc j y h0 e]
theorem park_put {a : WS} (h : a ≠ .park) : ∀ j, putAt st i a j = .park → st j = .park := fun j e => by
  by_cases hj : j = i
  · subst hj
    rw [putAt_self] at e
    exact absurd e h
  · rwa [putAt_ne _ _ hj] at e
theorem Inv.other (I : Inv P W0 T ft gs w t st ix) (hm : MainOk T g0) (h0 : gs[0]? = some g0) (hpos : 0 < i) {x : Goroutine} (hi : gs[i]? = some x) (hrun : x.status = .running) :
    (∃ gs' w' ops st', runT P (crowd gs w sl) i = (.next (crowd gs' w' sl), ops) ∧ gs'.size = gs.size ∧ gs'[0]? = some g0 ∧ RelyW ft w w' ∧ Inv P W0 T ft gs' w' (t ++ ops) st' ix ∧ Less (WLt P) gs.size (meas gs' st') (meas gs st) ∧ ∀ j, st' j = .park → st j = .park) ∨
    (∃ k wi fi, k ∈ T.pend ∧ ix k = i ∧ st i = .way wi fi ∧ AtSend P T.c (T.phi k) x w fi) := by
  have hi0 : (i == 0) = false := by simp; omega
  have hlt : i < gs.size := (Array.getElem?_eq_some_iff.1 hi).1
  by_cases hp : ∃ k ∈ T.pend, ix k = i
  · obtain ⟨k, hk, rfl⟩ := hp
    obtain ⟨y, h1, _, h3⟩ := I.pnd k hk
    rw [hi] at h1
    cases h1
    rcases h3 with ⟨wi, fi, e, W⟩ | ⟨_, g₂, v, z, rfl, _⟩
    · cases hw : W.way with
      | stop _ hs => exact .inr ⟨k, wi, fi, hk, rfl, e, hs w W.rely⟩
      | step _ h2 h3 =>
        obtain ⟨g', w', es, hgo, hr', hgu⟩ := h2 w W.rely
        have hto := h3 w g' w' es W.rely hgo
        have hI := I.walk hk hi e W hgu hto
        have hch := hI.chan
        have hrel : RelyW ft w w' := ⟨fun b hb => hgu.heap b (I.lt b hb) fun hwr => W.d1 b hwr hb, hgu.size, hgu.tape, hgu.os, hgu.output⟩
        refine .inl ⟨_, w', _, _, runT_crowd_go (P := P) (sl := sl) hi (by rw [hi0]; exact hgo), by simp, ?_, hrel, hI, ?_, park_put (by simp)⟩
        · exact moved_put (by omega) h0 (main_still hm fun h => hch _ _ h)
        · exact meas_less hlt hpos (by simp) hi (moved_own hi) e (putAt_self _ _ _) (.step W.rely hgo) fun j hj hji => ⟨moved_same I hch hj hji, putAt_ne _ _ hji⟩
    · cases hrun
  · have hn : ∀ k ∈ T.pend, ix k ≠ i := fun k hk e => hp ⟨k, hk, e⟩
    obtain ⟨n, e, hq⟩ := I.old i x hpos hi hn
    cases n with
    | zero => rw [hq.1] at hrun; cases hrun
    | succ m =>
      rcases hq with ⟨hf, _⟩ | ⟨_, g', es, hmu, hst, hq'⟩
      · rw [hf] at hrun; cases hrun
      have hI := I.quit hpos hi hn hmu hq'
      refine .inl ⟨_, w, _, _, runT_crowd_go (P := P) (sl := sl) hi (by rw [hi0]; exact hst w), by simp, ?_, RelyW.refl _ _, hI, ?_, park_put (by simp)⟩
      · exact moved_put (by omega) h0 (main_still hm fun h => I.chan _ _ h)
      · exact meas_less hlt hpos (by simp) hi (moved_own hi) e (putAt_self _ _ _) (.less (Nat.lt_succ_self m)) fun j hj hji => ⟨moved_same I I.chan hj hji, putAt_ne _ _ hji⟩
theorem Inv.awake (I : Inv P W0 T ft gs w t st ix) (h0 : gs[0]? = some g0) (hm : MainOk T g0) : ∀ g ∈ gs, awake g := by
  intro y hy
  obtain ⟨j, hj, rfl⟩ := Array.mem_iff_getElem.1 hy
  have hg : gs[j]? = some gs[j] := Array.getElem?_eq_getElem hj
  rcases Nat.eq_zero_or_pos j with rfl | hpos
  · have : gs[0] = g0 := by rw [hg] at h0; exact Option.some.inj h0
    rw [this]
    rcases hm with h | ⟨g₂, z, sh, rfl, _⟩
    · exact awake_of (.inl h)
    · exact awake_of (.inr (.inl rfl))
  · by_cases hp : ∃ k ∈ T.pend, ix k = j
    · obtain ⟨k, hk, rfl⟩ := hp
      obtain ⟨z, h1, _, h3⟩ := I.pnd k hk
      rw [hg] at h1
      cases h1
      rcases h3 with ⟨_, _, _, W⟩ | ⟨_, g₂, v, z, e, _⟩
      · exact awake_of (.inl W.way.running)
      · rw [e]
        exact awake_of (.inr (.inl rfl))
    · obtain ⟨n, _, hq⟩ := I.old j _ hpos hg fun k hk e => hp ⟨k, hk, e⟩
      exact awake_of (hq.status.elim .inl fun x => .inr (.inr x))
theorem Inv.noRecv (I : Inv P W0 T ft gs w t st ix) {j : Nat} {y : Goroutine} (hj : 0 < j) (hy : gs[j]? = some y) (c : Nat) : offersAt y c false = [] := by
  by_cases hp : ∃ k ∈ T.pend, ix k = j
  · obtain ⟨k, hk, rfl⟩ := hp
    obtain ⟨z, h1, _, h3⟩ := I.pnd k hk
    rw [hy] at h1
    cases h1
    rcases h3 with ⟨_, _, _, W⟩ | ⟨_, g₂, v, z, rfl, _⟩
    · exact offersAt_of_not_blocked (by rw [W.way.running]; simp) _ _
    · exact offersAt_parked_send' _ _ _ _ _ _
  · obtain ⟨n, _, hq⟩ := I.old j _ hj hy fun k hk e => hp ⟨k, hk, e⟩
    exact offersAt_of_not_blocked (by rcases hq.status with h | h <;> rw [h] <;> simp) _ _
theorem Inv.parks (I : Inv P W0 T ft gs w t st ix) (hk : k ∈ T.pend) {g₂ : Goroutine} {v z : Value} (hv : T.phi k v) (hq : ∃ n, QuitsD P n 0 (Conc.served g₂ undef)) :
    Inv P W0 T ft (gs.setIfInBounds (ix k) (parked g₂ #[scase T.c v z] .send)) w t (putAt st (ix k) .park) ix := by
  have hlt := I.ixr k hk
  refine { base := I.base, lt := I.lt, sub := I.sub, chan := I.chan, cnt := I.cnt, chft := I.chft, own := I.own, nd := I.nd, ixr := fun l hl => by simpa using I.ixr l hl, inj := I.inj, pnd := fun l hl => ?_, old := fun j y hj hy hnj => ?_, disj := fun a ha b hb hab wa fa wb fb e1 e2 => ?_, above := fun j hj => I.above j (by simpa using hj), hears := I.hears, clean := I.clean, known := I.known, done := I.done, seen := I.seen }
  · by_cases hlk : l = k
    · subst hlk
      obtain ⟨_, _, h2, _⟩ := I.pnd l hl
      exact ⟨_, Array.getElem?_setIfInBounds_self_of_lt hlt.2, h2, .inr ⟨putAt_self _ _ _, g₂, v, z, rfl, hv, hq⟩⟩
    · have hne : ix k ≠ ix l := fun e => hlk (I.inj k hk l hl e).symm
      obtain ⟨y, h1, h2, h3⟩ := I.pnd l hl
      exact ⟨y, by rw [Array.getElem?_setIfInBounds_ne hne]; exact h1, h2, by rw [putAt_ne _ _ (Ne.symm hne)]; exact h3⟩
  · have hne : ix k ≠ j := hnj k hk
    rw [Array.getElem?_setIfInBounds_ne hne] at hy
    rw [putAt_ne _ _ (Ne.symm hne)]
    exact I.old j y hj hy hnj
  · by_cases hak : ix a = ix k
    · rw [hak, putAt_self] at e1; cases e1
    · by_cases hbk : ix b = ix k
      · rw [hbk, putAt_self] at e2; cases e2
      · rw [putAt_ne _ _ hak] at e1
        rw [putAt_ne _ _ hbk] at e2
        exact I.disj a ha b hb hab wa fa wb fb e1 e2
end
section
variable {P : Program} {W0 : World} {Post : Value → World → Prop} {T : Crew} {g g0 : Goroutine} {w w₁ w' : World} {ft : Foot} {gs gs' : Array Goroutine} {t : Trace} {st st' : Nat → WS} {ix : Nat → Nat} {i k : Nat} {sl : Option (Nat × Nat)}
theorem evs_nil (t : Trace) (i : Nat) (fn : FuncId) (pos : String) : t ++ MemOp.ofEvents i fn pos #[] = t := by
  rw [ofEvents_eq]
  simp
theorem JC.main (hrun : g.status = .running) (h : ∀ gs w₁ sl t st ix, RelyW ft w w₁ → gs[0]? = some g → Inv P W0 T ft gs w₁ t st ix → ∃ m' ops, runT P (crowd gs w₁ sl) 0 = (.next m', ops) ∧ Ends P Post m' (t ++ ops)) : JC P W0 Post T g w ft := by
  intro gs w₁ sl t st ix hrel h0 I
  have hacc := meas_acc I
  generalize hM : meas gs st = M at hacc
  generalize hn : gs.size = n at hacc
  induction hacc generalizing gs w₁ sl t st with
  | intro M _ ih =>
    obtain ⟨i, x, d, sl', hi, hx, hst⟩ := crowd_pick (P := P) (w := w₁) (sl := sl) (I.awake h0 (.inl hrun)) ⟨0, g, h0, hrun⟩
    rcases Nat.eq_zero_or_pos i with rfl | hpos
    · obtain rfl : x = g := by rw [h0] at hi; exact (Option.some.inj hi).symm
      obtain ⟨m', ops, hr, he⟩ := h gs (w₁.at d) sl' t st ix (hrel.trans (relyW_at ft w₁ d)) h0 (I.at d)
      exact Ends.next (hst.trans hr) he
    · have hi0 : (i == 0) = false := by simp; omega
      rcases (I.at d).other (sl := sl') (.inl hrun) h0 hpos hi hx with ⟨gs', w', ops, st', hr, hs, h0', hrel', I', hl, _⟩ | ⟨k, wi, fi, hk, rfl, e, g₂, v, z, hgo, hv, hq⟩
      · subst hM hn
        exact Ends.next (hst.trans hr) (ih _ hl gs' w' sl' _ st' ((hrel.trans (relyW_at ft w₁ d)).trans hrel') h0' I' rfl hs)
      · subst hM hn
        have hown := I.own (List.ne_nil_of_mem hk)
        obtain ⟨s, r, tm, hc⟩ := I.chan _ _ hown
        have hr := crowd_waits (P := P) (sl := sl') (gs := gs) (w := w₁.at d) hi (show stepG P (ix k == 0) x (w₁.at d) = _ from by rw [hi0]; exact hgo) fun cc hcc => by
          obtain rfl : cc = scase T.c v z := by simpa using hcc
          refine ways_send_none (w₁ := w₁.at d) hc (Nat.zero_le _) (partners_nil fun j y hy => ?_)
          rcases getElem?_stand _ _ _ _ hy with ⟨_, rfl⟩ | ⟨_, hy⟩
          · rfl
          · rcases Nat.eq_zero_or_pos j with rfl | hj
            · rw [h0] at hy
              cases hy
              exact offersAt_of_not_blocked (by rw [hrun]; simp) _ _
            · exact I.noRecv hj hy _
        refine Ends.next (hst.trans hr) ?_
        rw [evs_nil]
        have hlt := I.ixr k hk
        refine ih _ ?_ (gs.setIfInBounds (ix k) (parked g₂ #[scase T.c v z] .send)) (w₁.at d) sl' t (putAt st (ix k) .park) (hrel.trans (relyW_at ft w₁ d)) (by rw [Array.getElem?_setIfInBounds_ne (by omega)]; exact h0) ((I.at d).parks hk hv hq) rfl (by simp)
        exact meas_less hlt.2 hpos (by simp) hi (Array.getElem?_setIfInBounds_self_of_lt hlt.2) e (putAt_self _ _ _) .park fun j hj hji => ⟨Array.getElem?_setIfInBounds_ne (Ne.symm hji), putAt_ne _ _ hji⟩
theorem Inv.main (I : Inv P W0 T ft gs w t st ix) (_h0 : gs[0]? = some g) {g' : Goroutine} {es : Array Event} (hgu : GuarW ft w w' es) :
    Inv P W0 T (ft.ext w.heap.size w'.heap.size) ((gs.map (woken P g g' w')).setIfInBounds 0 g') w' (t ++ MemOp.ofEvents 0 g.frame.fn g.frame.place es) st ix := by
  have hsz := hgu.size
  have hdf := fun j => deaf_evs (t := t) (i := 0) (fn := g.frame.fn) (pos := g.frame.place) hgu.evs I.lt j
  have heap : ∀ b y, T.ch b = some y → w'.heap[b]? = w.heap[b]? := fun b y hb => by
    obtain ⟨s, r, tm, e⟩ := I.chan b y hb
    exact hgu.heap b (Array.getElem?_eq_some_iff.1 e).1 fun hw => I.chft b y hb (I.sub b hw)
  have hch : ∀ b y, T.ch b = some y → ∃ s r tm, w'.heap[b]? = some (.chan y.1 y.2.1 y.2.2 s r tm) := fun b y hb => by
    rw [heap b y hb]
    exact I.chan b y hb
  refine { base := ⟨hgu.tape.trans I.base.tape, hgu.os.trans I.base.os, hgu.output.trans I.base.output, Nat.le_trans I.base.size hsz⟩, lt := fun b hb => ?_, sub := fun b hb => ?_, chan := hch, cnt := fun b y s r tm hb hw => I.cnt b y s r tm hb (by rw [← heap b y hb]; exact hw), chft := fun b y hb hr => ?_, own := I.own, nd := I.nd, ixr := fun l hl => by simpa using I.ixr l hl, inj := I.inj, pnd := fun l hl => ?_, old := fun j y hj hy hnj => ?_, disj := I.disj, above := fun j hj => ?_, hears := by rw [hdf]; exact I.hears, clean := fun said => I.known.noRace (I.clean said) hgu.evs, known := I.known.own hgu.evs I.seen, done := fun j a ha hm => ?_, seen := ?_ }
  · rcases hb with hb | hb
    · exact Nat.lt_of_lt_of_le (I.lt b hb) hsz
    · exact hb.2
  · rcases hb with hb | hb
    · exact .inl (I.sub b hb)
    · exact .inr hb
  · rcases hr with hr | hr
    · exact I.chft b y hb hr
    · obtain ⟨s, r, tm, e⟩ := I.chan b y hb
      have hlt : b < w.heap.size := (Array.getElem?_eq_some_iff.1 e).1
      omega
  · obtain ⟨y, h1, h2, h3⟩ := I.pnd l hl
    have hpos := (I.ixr l hl).1
    refine ⟨y, moved_put (by omega) h1 (I.still hch _ _ hpos h1), by rw [hdf]; exact h2, h3.imp (fun ⟨wl, fl, e, V⟩ => ⟨wl, fl, e, ?_⟩) id⟩
    have heq : ∀ b, fl.rd b → w'.heap[b]? = w.heap[b]? := fun b hb => hgu.heap b (V.lt b hb) fun hw => V.d2 b hw hb
    refine ⟨V.way, V.rely.trans ⟨heq, hsz, hgu.tape, hgu.os, hgu.output⟩, fun b hb => Nat.lt_of_lt_of_le (V.lt b hb) hsz, V.sub, V.ch, fun b hb hr => ?_, fun b hb hr => ?_, V.know.other hgu.evs V.d2 V.d1⟩
    · rcases hr with hr | hr
      · exact V.d1 b hb hr
      · have := V.lt b (V.sub b hb)
        omega
    · rcases hb with hb | hb
      · exact V.d2 b hb hr
      · have := V.lt b hr
        omega
  · obtain ⟨z, hz, rfl⟩ := moved_get (by omega) hy
    obtain ⟨n, e, hqz⟩ := I.old j z hj hz hnj
    refine ⟨n, e, ?_⟩
    rw [woken_quitsD hqz, hdf]
    exact hqz
  · rw [hdf]
    exact I.above j (by simpa using hj)
  · rcases touch_app ha with ⟨_, h⟩ | ⟨op, hop, hg, h⟩
    · exact (I.done j a h hm).imp (·.app _) fun ⟨l, hl, e⟩ => ⟨l, hl, g_app e⟩
    · have := knows_own hg
      rw [mem_g hop] at this
      exact .inl this
  · exact seen_app (fun op hop => MemAct.low_mono hsz (I.seen op hop)) fun op hop => MemAct.low_mono hsz (low_events hgu.evs I.lt op hop)
theorem JC.closed (P : Program) (W0 : World) (Post : Value → World → Prop) (T : Crew) : Closed P true (JC P W0 Post T) where
  rely := fun h hr gs w₂ sl t st ix hrel h0 I => h gs w₂ sl t st ix (hr.trans hrel) h0 I
  step := fun hrun h => JC.main hrun fun gs w₁ sl t st ix hrel h0 I => by
    obtain ⟨g', w', es, hgo, hr', hgu, hJ⟩ := h w₁ hrel
    refine ⟨_, _, runT_crowd_go (P := P) (sl := sl) (i := 0) h0 (show stepG P (0 == 0) _ w₁ = _ from hgo), ?_⟩
    exact hJ _ w' sl _ st ix (RelyW.refl _ _) (moved_own h0) (I.main h0 hgu)
theorem JC.last {f' : Foot} (hp : T.pend = []) (hrd : ∀ b, f'.rd b → ft.rd b ∨ (T.ch b).isSome = true) (hsub : ∀ b, f'.wr b → f'.rd b)
    (h : ∀ w₂, RelyW ft w w₂ → (∀ b, (T.ch b).isSome = true → b < w₂.heap.size) → J1 P W0 Post g w₂ f') : JC P W0 Post T g w ft := by
  intro gs w₁ sl t st ix hrel h0 I
  have hchl : ∀ b, (T.ch b).isSome = true → b < w₁.heap.size := fun b hb => by
    obtain ⟨x, hx⟩ := Option.isSome_iff_exists.1 hb
    obtain ⟨s, r, tm, e⟩ := I.chan b x hx
    exact (Array.getElem?_eq_some_iff.1 e).1
  refine h w₁ hrel hchl gs w₁ sl t (fun i => match st i with | .quit n => n | _ => 0) (fun b hb => (hrd b hb).elim (I.lt b) (hchl b)) hsub (RelyW.refl _ _) I.base h0 ⟨fun j y hj hy => ?_, I.above⟩ ?_
  · obtain ⟨n, e, hq⟩ := I.old j y hj hy (by rw [hp]; simp)
    rw [e]
    exact hq
  · have kn : ∀ i a, touchAt t i = some a → a.loc.isMemory = true → Knows t 0 i := fun i a ha hm => by
      rcases I.done i a ha hm with h | ⟨k, hk, _⟩
      · exact h
      · rw [hp] at hk
        cases hk
    refine ⟨I.clean, fun i a ha hm => .inl (kn i a ha hm), fun i x hx hne hc => ?_, I.hears, I.seen⟩
    obtain ⟨a, ha, hm, _⟩ := hc
    obtain ⟨q, z, h1, h2, h3⟩ := kn i a ha hm
    rcases h3 with rfl | h3
    · unfold Trace.g? at hx
      rw [h1] at hx
      simp at hx
      omega
    · exact ⟨q, by unfold Trace.g?; rw [h1]; simp [h2], h3⟩
end
end Go.Proofs.Ythnccaajpdnndaa
namespace Go.Proofs.Ythnccaajpdnndaa
open Go.Conc
open Go.ConcN (sumTo upd sumTo_upd upd_ne upd_same)
open Go.ConcR (Bk)
def InBlk (S : Nat → Prop) : Loc → Prop := fun l => ∃ b, locBlk l = some b ∧ S b
structure PastS (S : Nat → Prop) (ft : Foot) (B : Nat) (t : Trace) : Prop where
  past : Past (InBlk S) B t
  shun : ∀ b, S b → ¬ ft.rd b ∧ b < B
  norel : ∀ a : Addr, ft.rd a.block → NoRelease a t
theorem evS_of {S : Nat → Prop} {ft : Foot} {e : Event} {B : Nat} (he : EvOk ft e) (hs : ∀ b, S b → ¬ ft.rd b) (hb : ∀ b, ft.rd b → b < B) : EvL (InBlk S) B e := by
  obtain ⟨_, h2, h3, h4⟩ := evL_of he hb
  refine ⟨fun x hx hsx => ?_, h2, h3, h4⟩
  obtain ⟨b, e1, e2, _⟩ := evOk_touch he hx
  obtain ⟨b', e1', hb'⟩ := hsx
  rw [e1] at e1'
  cases e1'
  exact absurd e2 (hs b hb')
theorem ok_norel {ft : Foot} {es : Array Event} (he : ∀ e ∈ es, EvOk ft e) {g : Nat} {fn : FuncId} {pos : String} (a : Addr) : ∀ op ∈ MemOp.ofEvents g fn pos es, op.act ≠ .mark (.release a) := by
  intro op hop e
  obtain ⟨x, hx, rfl⟩ := Go.Conc.mem_ofEvents hop
  have := he x hx
  obtain ⟨loc, wr, sy⟩ := x
  cases loc with
  | cell y => cases e
  | obj y =>
    obtain ⟨rfl, _⟩ := this
    cases wr <;> cases e
  | mark m => cases m <;> first | exact this.elim | cases e
  | output => exact this.elim
  | goroutines => exact this.elim
theorem bk_norel {Wg : Nat} {es : Array Event} (he : ∀ e ∈ es, Bk Wg e) {g : Nat} {fn : FuncId} {pos : String} (a : Addr) : ∀ op ∈ MemOp.ofEvents g fn pos es, op.act ≠ .mark (.release a) := by
  intro op hop e
  obtain ⟨x, hx, rfl⟩ := Go.Conc.mem_ofEvents hop
  rcases he x hx with h1 | h1 | ⟨y, wr, rfl, _⟩
  · simp only [Go.ConcR.ofEvent_loc_mark h1] at e
    cases e
  · simp only [Go.ConcR.ofEvent_loc_mark h1] at e
    cases e
  · cases e
theorem mute_norel {es : Array Event} (he : ∀ e ∈ es, Event.mute e = true) {g : Nat} {fn : FuncId} {pos : String} (a : Addr) : ∀ op ∈ MemOp.ofEvents g fn pos es, op.act ≠ .mark (.release a) :=
  bk_norel (Wg := 0) (fun e h => Go.ConcR.bk_of_mute (he e h)) a
theorem norel_fresh {t : Trace} {B : Nat} (hs : ∀ op ∈ t, op.act.low B) {a : Addr} (ha : B ≤ a.block) : NoRelease a t := by
  intro i e
  obtain ⟨op, ho, hoa⟩ := Option.map_eq_some_iff.1 e
  have := hs op (Array.mem_of_getElem? ho)
  rw [hoa] at this
  have : a.block < B := this
  omega
section
variable {S : Nat → Prop} {ft : Foot} {B B' : Nat} {t : Trace}
theorem PastS.own (h : PastS S ft B t) {fn : FuncId} {pos : String} {es : Array Event} (hes : ∀ e ∈ es, EvOk ft e) (hb : ∀ b, ft.rd b → b < B) (hB : B ≤ B') : PastS S (ft.ext B B') B' (t ++ MemOp.ofEvents 0 fn pos es) where
  past := (h.past.mono hB).own fun e he => evS_of (hes e he) (fun b hb => (h.shun b hb).1) fun b hr => Nat.lt_of_lt_of_le (hb b hr) hB
  shun := fun b hS => ⟨fun hr => hr.elim (h.shun b hS).1 fun e => by have := (h.shun b hS).2; omega, Nat.lt_of_lt_of_le (h.shun b hS).2 hB⟩
  norel := fun a ha => by
    refine NoRelease.app ?_ (ok_norel hes a)
    rcases ha with ha | ha
    · exact h.norel a ha
    · exact norel_fresh h.past.seen ha.1
theorem PastS.mute (h : PastS S ft B t) {g : Nat} (hg : g ≠ 0) {fn : FuncId} {pos : String} {es : Array Event} (hm : ∀ e ∈ es, Event.mute e = true) : PastS S ft B (t ++ MemOp.ofEvents g fn pos es) :=
  ⟨h.past.mute hg hm, h.shun, fun a ha => (h.norel a ha).app (mute_norel hm a)⟩
end
def J2 (P : Program) (W0 : World) (Post : Value → World → Prop) (g : Goroutine) (w : World) (ft : Foot) : Prop :=
  ∀ (gs : Array Goroutine) (w₁ : World) (sl : Option (Nat × Nat)) (t : Trace) (q : Nat → Nat) (S : Nat → Prop), (∀ b, ft.rd b → b < w₁.heap.size) → (∀ b, ft.wr b → ft.rd b) → RelyW ft w w₁ → Base W0 w₁ → gs[0]? = some g → Leavers P t gs q → PastS S ft w₁.heap.size t →
    Ends P Post (crowd gs w₁ sl) t
section
variable {P : Program} {W0 : World} {Post : Value → World → Prop} {g : Goroutine} {w w₁ : World} {ft : Foot}
theorem J2.both (hrun : g.status = .running)
    (h : ∀ w₁, RelyW ft w w₁ → Base W0 w₁ → (∃ g' w' es, stepG P true g w₁ = .go g' w' es ∧ g'.status = .running ∧ GuarW ft w₁ w' es ∧ J2 P W0 Post g' w' (ft.ext w₁.heap.size w'.heap.size)) ∨
      ∃ v es, stepG P true g w₁ = .ended (.done v) w₁ es ∧ (∀ e ∈ es, EvOk ft e) ∧ Post v w₁) : J2 P W0 Post g w ft := by
  intro gs w₁ sl t q S hbd hsub hrel hbase h0 hL hP
  generalize hM : sumTo gs.size q = M
  induction M using Nat.strongRecOn generalizing gs w₁ sl t q with
  | ind M ih =>
    have haw : ∀ g ∈ gs, awake g := by
      intro x hx
      obtain ⟨i, hi, rfl⟩ := Array.mem_iff_getElem.1 hx
      rcases Nat.eq_zero_or_pos i with rfl | hpos
      · have : gs[0] = g := by simpa [Array.getElem?_eq_getElem hi] using h0
        rw [this]; exact awake_of (.inl hrun)
      · exact awake_of ((hL.old i _ hpos (Array.getElem?_eq_getElem hi)).status.elim .inl fun x => .inr (.inr x))
    obtain ⟨i, x, d, sl', hi, hg, hst⟩ := crowd_pick (P := P) (w := w₁) (sl := sl) haw ⟨0, g, h0, hrun⟩
    rcases Nat.eq_zero_or_pos i with rfl | hpos
    · obtain rfl : x = g := by rw [h0] at hi; exact (Option.some.inj hi).symm
      rcases h (w₁.at d) (hrel.trans (relyW_at ft w₁ d)) ⟨hbase.tape, hbase.os, hbase.output, hbase.size⟩ with ⟨g', w', es, hgo, hrun', hgu, hJ⟩ | ⟨v, es, hend, hes, hpost⟩
      · have hrunT := runT_crowd_go (P := P) (sl := sl') (i := 0) hi (show stepG P (0 == 0) x (w₁.at d) = _ from hgo)
        have hsz : ((gs.map (woken P x g' w')).setIfInBounds 0 g').size = gs.size := by simp
        have hlt : 0 < gs.size := (Array.getElem?_eq_some_iff.1 h0).1
        have hw' : w₁.heap.size ≤ w'.heap.size := hgu.size
        refine Ends.next (hst.trans hrunT) ?_
        refine hJ _ w' sl' _ q S (fun b hb => ?_) (fun b hb => ?_) (RelyW.refl _ _) ⟨hgu.tape.trans hbase.tape, hgu.os.trans hbase.os, hgu.output.trans hbase.output, Nat.le_trans hbase.size hgu.size⟩ (by simp [hlt]) ⟨fun j y hj hy => ?_, fun j hj => ?_⟩ ?_
        · rcases hb with hb | hb
          · exact Nat.lt_of_lt_of_le (hbd b hb) hw'
          · exact hb.2
        · rcases hb with hb | hb
          · exact .inl (hsub b hb)
          · exact .inr hb
        · have hne : 0 ≠ j := by omega
          rw [Array.getElem?_setIfInBounds_ne hne, Array.getElem?_map] at hy
          obtain ⟨z, hz, rfl⟩ := Option.map_eq_some_iff.1 hy
          have hq := hL.old j z hj hz
          rw [woken_quitsD hq, Deaf_other t (by omega) _ (fun op hop => mem_g hop)]
          exact hq
        · rw [Deaf_other t (g' := 0) (by simp at hj; omega) _ (fun op hop => mem_g hop)]
          exact hL.above j (by simpa using hj)
        · exact hP.own hgu.evs hbd hw'
      · have hrunT := runT_many_ended (P := P) (sl := sl') (i := 0) hi (show stepG P (0 == 0) x (w₁.at d) = _ from hend)
        have hP' := (hP.own (fn := x.frame.fn) (pos := x.frame.place) hes hbd (Nat.le_refl _)).past
        refine ⟨0, crowd gs w₁ sl, .done v, w₁.at d, _, by simp only [runNT, hst.trans hrunT], rfl, by simp [step, hst.trans hrunT], v, rfl, hpost, hP'.clean, hP'.over, ⟨fun y hy => ?_, rfl⟩, fun j y hy hj => ?_⟩
        · obtain ⟨j, hj⟩ := List.mem_iff_getElem?.1 hy
          rw [List.getElem?_drop] at hj
          exact ⟨_, (hL.old (1 + j) y (by omega) (by simpa [crowd] using hj)).leaves⟩
        · have hq := hL.old j y (by omega) hy
          refine ⟨q j, ?_⟩
          have e : (t ++ MemOp.ofEvents 0 x.frame.fn x.frame.place es).deaf j (t ++ MemOp.ofEvents 0 x.frame.fn x.frame.place es).size = Deaf t j :=
            Deaf_other t (g := j) (g' := 0) (by omega) _ (fun op hop => mem_g hop)
          rw [e]
          exact hq.hears _
    · have hq := hL.old i x hpos hi
      have hi0 : (i == 0) = false := by simp; omega
      have hlt : i < gs.size := (Array.getElem?_eq_some_iff.1 hi).1
      cases hqi : q i with
      | zero => rw [hqi] at hq; rw [hq.1] at hg; cases hg
      | succ k =>
        rw [hqi] at hq
        rcases hq with ⟨hf, _⟩ | ⟨_, g', es, hm, hstp, hq'⟩
        · rw [hf] at hg; cases hg
        have hrunT := runT_crowd_go (P := P) (sl := sl') (i := i) hi (by rw [hi0]; exact hstp (w₁.at d))
        have hsz : ((gs.map (woken P x g' (w₁.at d))).setIfInBounds i g').size = gs.size := by simp
        have hsum : sumTo gs.size (upd q i k) + (k + 1) = sumTo gs.size q + k := by
          have := sumTo_upd q k id hlt
          simpa [hqi] using this
        refine Ends.next (hst.trans hrunT) (ih (sumTo gs.size (upd q i k)) (by omega) _ (w₁.at d) sl' _ (upd q i k) hbd (hrel.trans (relyW_at ft w₁ d)) ⟨hbase.tape, hbase.os, hbase.output, hbase.size⟩ ?_ ⟨fun j y hj hy => ?_, fun j hj => ?_⟩ (hP.mute (by omega) hm) (by rw [hsz]))
        · have hne : i ≠ 0 := by omega
          rw [Array.getElem?_setIfInBounds_ne hne, Array.getElem?_map, h0]
          simp [woken_run hrun]
        · by_cases hji : i = j
          · subst hji
            rw [Array.getElem?_setIfInBounds_self_of_lt (by simpa using hlt)] at hy
            obtain rfl := Option.some.inj hy
            rw [upd_same, Deaf_own]
            exact hq'
          · rw [Array.getElem?_setIfInBounds_ne hji, Array.getElem?_map] at hy
            obtain ⟨z, hz, rfl⟩ := Option.map_eq_some_iff.1 hy
            have hqj := hL.old j z hj hz
            rw [woken_quitsD hqj, upd_ne q k (Ne.symm hji), Deaf_other t hji _ (fun op hop => mem_g hop)]
            exact hqj
        · rw [Deaf_other t (g' := i) (by simp at hj; omega) _ (fun op hop => mem_g hop)]
          exact hL.above j (by simpa using hj)
theorem J2.closed (P : Program) (W0 : World) (Post : Value → World → Prop) : Closed P true (J2 P W0 Post) where
  rely := fun h hr gs w₂ sl t q S hbd hsub hrel hbase h0 hL hP => h gs w₂ sl t q S hbd hsub (hr.trans hrel) hbase h0 hL hP
  step := fun hrun h => J2.both hrun fun w₁ h₁ _ => by
    obtain ⟨g', w', es, a, b, c, d⟩ := h w₁ h₁
    exact .inl ⟨g', w', es, a, b, c, d⟩
theorem run_of_J2 {g : Goroutine} {w : World} {ft : Foot} (h : J2 P W0 Post g w ft) (hb : ∀ b, ft.rd b → b < w.heap.size) (hs : ∀ b, ft.wr b → ft.rd b) (hw : W0 = w) : Ends P Post (solo g w) #[] := by
  rw [solo_eq_crowd]
  have hp := past_nil
  refine h #[g] w none #[] (fun _ => 0) (fun _ => False) hb hs (RelyW.refl _ _) (by subst hw; exact ⟨rfl, rfl, rfl, Nat.le_refl _⟩) rfl (leavers_one P g) ⟨⟨hp.clean, fun i a ha hm => ?_, hp.over, hp.hears, fun op hop => by simp at hop⟩, fun b hb => hb.elim, fun a _ i e => by simp [Trace.act?] at e⟩
  exact absurd ha (by simp [touchAt, Trace.act?])
end
end Go.Proofs.Ythnccaajpdnndaa
namespace Go.Proofs.Ythnccaajpdnndaa
open Go.Conc
structure Grp where
  ty : TypeId
  wg : Nat
  F : Nat
  phi : World → Foot → Prop
  keep : ∀ (w w' : World) (fi : Foot), (∀ b, fi.rd b → w'.heap[b]? = w.heap[b]?) → phi w fi → phi w' fi
def noPl : Nat → Loc → Prop := fun _ _ => False
abbrev Grp.sit (P : Program) (G : Grp) (v : Value) (s m d : Nat) (g : Goroutine) (w : World) : Prop := @ConcN.WSit ⟨0⟩ P G.ty G.wg G.F 0 noPl noPl 0 1 v s m d g w
def Grp.has (G : Grp) (v : Value) (w : World) : Prop := w.cell? ⟨G.F, 0, none⟩ = some v
def Grp.at_ (G : Grp) (w : World) (st sm : Int) : Prop := ConcR.WgAt G.ty G.wg w st sm
def AtR (P : Program) (G : Grp) (v : Value) (g : Goroutine) (w : World) : Prop := g.status = .running ∧ ∃ g', stepG P false g w = .go g' w #[Go.ConcR.mk (.releaseMerge (ConcR.stA G.wg))] ∧ ∃ m, G.sit P v 6 m 0 g' w
abbrev Grp.rw (G : Grp) : World → World → Prop := @ConcN.RW ⟨0⟩ G.ty G.wg G.F 0 0 0
def Grp.sitx (P : Program) (G : Grp) (v : Value) (s m d : Nat) (g : Goroutine) (w : World) : Prop := (s = 7 ∧ d = 0 ∧ Goes P false G.rw ConcR.DC0 (AtR P G v) m g w) ∨ (s ≤ 6 ∧ G.sit P v s m d g w)
theorem Grp.sitx.rely {P : Program} {G : Grp} {v : Value} {s m d : Nat} {g : Goroutine} {w w₁ : World} (h : G.sitx P v s m d g w) (hr : G.rw w w₁) : G.sitx P v s m d g w₁ :=
  by
  have tr : ∀ a b c, G.rw a b → G.rw b c → G.rw a c := fun a b c h1 h2 => @ConcN.RW.trans ⟨0⟩ _ _ _ _ _ _ _ _ _ h1 h2
  exact h.imp (fun ⟨a, b, c⟩ => ⟨a, b, Goes.rely tr c hr⟩) fun ⟨a, c⟩ => ⟨a, @ConcN.WSit.rely ⟨0⟩ _ _ _ _ _ _ _ _ _ _ _ _ _ _ _ _ c hr⟩
theorem Grp.sitx.status {P : Program} {G : Grp} {v : Value} {s m d : Nat} {g : Goroutine} {w : World} (h : G.sitx P v s m d g w) : g.status = .running ∨ g.status = .finished := by
  letI pl : ConcR.Payload := ⟨0⟩
  rcases h with ⟨_, _, h⟩ | ⟨_, h⟩
  · exact .inl (Goes.running (fun _ _ x => x.1) w (ConcN.RW.refl w) h)
  · exact ConcN.WSit.status h
theorem Grp.sitx.woken {P : Program} {G : Grp} {v : Value} {s m d : Nat} {g : Goroutine} {w : World} (h : G.sitx P v s m d g w) (a a' : Goroutine) (w' : World) : woken P a a' w' g = g := by
  unfold Go.Conc.woken
  split
  · exact again_running _ h.status
  · rfl
def AtDone (P : Program) (G : Grp) : JT := fun g w fi => g.status = .running ∧ fi.rd G.F ∧ G.phi w fi ∧ ∃ v, G.has v w ∧ ∀ w₁, (∃ st sm, G.at_ w₁ st sm) → G.has v w₁ → ∃ m, Goes P false G.rw ConcR.DC0 (AtR P G v) m g w₁
inductive WkS where
  | none
  | way (w : World) (fi : Foot) (stop : Bool)
  | sit (s m : Nat) (v : Value) (fi : Foot)
  | gone (q : Nat) (fi : Foot)
def WkS.stage : WkS → Nat
  | .none => 9
  | .way .. => 8
  | .sit s _ _ _ => s
  | .gone .. => 1
inductive Phase : Nat → Nat → Int → Int → Prop
  | opened {x : Nat} : x = 1 ∨ x = 2 → Phase x 9 0 0
  | added {x : Nat} : x = 3 ∨ x = 4 → Phase x 9 4294967296 0
  | run {x s : Nat} : 5 ≤ x → x ≤ 7 → 5 ≤ s → s ≤ 8 → Phase x s 4294967296 0
  | out {x : Nat} : 5 ≤ x → x ≤ 13 → x ≠ 9 → Phase x 1 0 0
  | reg {s : Nat} : 5 ≤ s → s ≤ 8 → Phase 9 s 4294967297 0
  | low {s : Nat} : s = 4 ∨ s = 3 → Phase 9 s 1 0
  | last : Phase 9 2 0 0
  | freed : Phase 9 1 0 1
def deafX (x : Nat) : Nat := if x = 2 ∨ x = 3 ∨ (6 ≤ x ∧ x ≤ 10) ∨ x = 13 then 1 else 0
def TW (P : Program) (Stop : JT) (stop : Bool) (g : Goroutine) (w : World) (ft : Foot) : Prop :=
  g.status = .running ∧ match stop with
    | true => ∀ w₁, RelyW ft w w₁ → Stop g w₁ ft
    | false => ¬ (∀ w₁, RelyW ft w w₁ → Stop g w₁ ft) ∧ (∀ w₁, RelyW ft w w₁ → ∃ g' w' es, stepG P false g w₁ = .go g' w' es ∧ g'.status = .running ∧ GuarW ft w₁ w' es) ∧
        ∀ w₁ g' w' es, RelyW ft w w₁ → stepG P false g w₁ = .go g' w' es → Toward P Stop g' w' (ft.ext w₁.heap.size w'.heap.size)
theorem toward_tw {P : Program} {Stop : JT} {g : Goroutine} {w : World} {ft : Foot} (h : Toward P Stop g w ft) : ∃ b, TW P Stop b g w ft := by
  by_cases hs : ∀ w₁, RelyW ft w w₁ → Stop g w₁ ft
  · exact ⟨true, h.running, hs⟩
  · cases h with
    | stop h1 h2 => exact absurd h2 hs
    | step h1 h2 h3 => exact ⟨false, h1, hs, h2, h3⟩
structure OwnF (G : Grp) (ft fi : Foot) (w : World) (t : Trace) (S : Nat → Prop) : Prop where
  lt : ∀ b, fi.rd b → b < w.heap.size
  sub : ∀ b, fi.wr b → fi.rd b
  grp : ¬ fi.rd G.wg
  d1 : ∀ b, fi.wr b → ¬ ft.rd b
  d2 : ∀ b, ft.wr b → ¬ fi.rd b
  sh : ∀ b, S b → ¬ fi.rd b
  nr : ∀ a : Addr, fi.rd a.block → NoRelease a t
def WkOk (P : Program) (G : Grp) (ft : Foot) (gs : Array Goroutine) (w : World) (t : Trace) (i r : Nat) (S : Nat → Prop) : WkS → Prop
  | .none => True
  | .way wi fi b => ∃ g, gs[i]? = some g ∧ Deaf t i = 0 ∧ TW P (AtDone P G) b g wi fi ∧ RelyW fi wi w ∧ OwnF G ft fi w t S ∧ KnowsOk t i fi
  | .sit s m v fi => 2 ≤ s ∧ s ≤ 7 ∧ ∃ g, gs[i]? = some g ∧ G.sitx P v s m (Deaf t i) g w ∧ OwnF G ft fi w t S ∧ fi.rd G.F ∧ G.phi w fi ∧ (s ≤ 6 → ConcN.RelBy (ConcR.stA G.wg) t i r)
  | .gone q fi => ∃ g, gs[i]? = some g ∧ QuitsD P q (Deaf t i) g ∧ OwnF G ft fi w t S ∧ G.phi w fi ∧ ConcN.RelBy (ConcR.stA G.wg) t i r
def Acqd (G : Grp) (t : Trace) (r : Nat) : Prop := ∃ k, t.act? k = some (.mark (.acquire (ConcR.stA G.wg))) ∧ t.g? k = some 0 ∧ t.heard k ∧ r < k
theorem Acqd.app {G : Grp} {t : Trace} {r : Nat} (h : Acqd G t r) (u : Trace) : Acqd G (t ++ u) r := by
  obtain ⟨k, h1, h2, h3, h4⟩ := h
  have hk := lt_of_act? h1
  exact ⟨k, by rw [act?_old hk]; exact h1, by rw [g?_old hk]; exact h2, (heard_old hk).2 h3, h4⟩
structure GInv (P : Program) (W0 : World) (G : Grp) (ft : Foot) (gs : Array Goroutine) (w : World) (t : Trace) (i r : Nat) (q : Nat → Nat) (ws : WkS) (S : Nat → Prop) : Prop where
  base : Base W0 w
  lt : ∀ b, ft.rd b → b < w.heap.size
  sub : ∀ b, ft.wr b → ft.rd b
  nwg : ¬ ft.rd G.wg
  tagw : ft.tag / 32 = G.wg
  grp : ∃ st sm, G.at_ w st sm ∧ Phase (ft.tag % 32) ws.stage st sm
  hears : Deaf t 0 = deafX (ft.tag % 32)
  ipos : 0 < i
  wk : WkOk P G ft gs w t i r S ws
  old : ∀ j g, 0 < j → gs[j]? = some g → (ws = .none ∨ j ≠ i) → QuitsD P (q j) (Deaf t j) g
  above : ∀ j, gs.size ≤ j → Deaf t j = 0
  clean : ∀ said, ¬ Race said t
  known : KnowsOk t 0 ft
  done : ∀ j a, touchAt t j = some a → a.loc.isMemory = true → Knows t 0 j ∨ (ws ≠ .none ∧ t.g? j = some i) ∨ (InBlk S a.loc ∧ a.kind = .atomic)
  over : ∀ j x, t.g? j = some x → x ≠ 0 → t.counts j → (∃ k, t.g? k = some 0 ∧ HappensBefore t j k) ∨ (ws ≠ .none ∧ x = i)
  quiet : ∀ j a, touchAt t j = some a → locBlk a.loc = some G.wg → a.kind ≠ .atomic → Knows t 0 j ∧ (a.kind = .plain → ws ≠ .none → Knows t i j)
  late : ∀ j a, r < j → t.g? j = some i → touchAt t j = some a → ws.stage ≤ 6 → locBlk a.loc = some G.wg ∧ a.kind = .atomic
  seen : ∀ op ∈ t, op.act.low w.heap.size
  shun : ∀ b, S b → ¬ ft.rd b ∧ b < w.heap.size ∧ b ≠ G.wg
  norel : ∀ a : Addr, (ft.rd a.block ∨ a.block = G.wg) → NoRelease a t
  acq : ft.tag % 32 = 12 → Acqd G t r
def JG (P : Program) (W0 : World) (Post : Value → World → Prop) (G : Grp) (g : Goroutine) (w : World) (ft : Foot) : Prop :=
  ∀ (gs : Array Goroutine) (w₁ : World) (sl : Option (Nat × Nat)) (t : Trace) (i r : Nat) (q : Nat → Nat) (ws : WkS) (S : Nat → Prop), RelyW ft w w₁ → gs[0]? = some g → GInv P W0 G ft gs w₁ t i r q ws S → Ends P Post (crowd gs w₁ sl) t
theorem over_app {t u : Trace} {Q : Nat → Prop} (h : ∀ j x, t.g? j = some x → x ≠ 0 → t.counts j → (∃ k, t.g? k = some 0 ∧ HappensBefore t j k) ∨ Q x)
    (hu : ∀ op ∈ u, op.act.touch? = none ∨ op.g = 0 ∨ Q op.g) : ∀ j x, (t ++ u).g? j = some x → x ≠ 0 → (t ++ u).counts j → (∃ k, (t ++ u).g? k = some 0 ∧ HappensBefore (t ++ u) j k) ∨ Q x := by
  intro j x hg hne hc
  obtain ⟨y, hy, hk⟩ := hc
  obtain ⟨op, hop, hox⟩ := touch_of hy
  rcases getElem?_append_cases hop with ⟨hi, hop'⟩ | ⟨_, hopu⟩
  · refine (h j x (by simpa [Trace.g?, getElem?_append_old hi] using hg) hne ((counts_old hi).1 ⟨y, hy, hk⟩)).imp (fun ⟨k, h1, h2⟩ => ⟨k, ?_, hb_app u h2⟩) id
    have hkl : k < t.size := by
      unfold Trace.g? at h1
      obtain ⟨z, hz, _⟩ := Option.map_eq_some_iff.1 h1
      exact lt_size_of_getElem? hz
    simpa [Trace.g?, getElem?_append_old hkl] using h1
  · have e : op.g = x := by simpa [Trace.g?, hop] using hg
    rcases hu op hopu with h0 | h0 | h0
    · rw [h0] at hox; cases hox
    · omega
    · exact .inr (e ▸ h0)
end Go.Proofs.Ythnccaajpdnndaa
namespace Go.Proofs.Ythnccaajpdnndaa
open Go.Conc
open Go.ConcR (Bk)
section
variable {P : Program} {W0 : World} {Post : Value → World → Prop} {G : Grp} {g : Goroutine} {w w₁ w' : World} {ft : Foot} {gs : Array Goroutine} {t : Trace} {i r : Nat} {q : Nat → Nat} {ws : WkS} {S : Nat → Prop}
theorem at_of_block {st sm : Int} (h : G.at_ w st sm) (e : w'.heap[G.wg]? = w.heap[G.wg]?) : G.at_ w' st sm := by
  unfold Grp.at_ ConcR.WgAt at *
  rw [e]
  exact h
theorem at_lt {st sm : Int} (h : G.at_ w st sm) : G.wg < w.heap.size := by
  unfold Grp.at_ ConcR.WgAt at h
  exact (Array.getElem?_eq_some_iff.1 h).1
theorem OwnF.app {fi : Foot} {u : Trace} (O : OwnF G ft fi w t S) (hs : w.heap.size ≤ w'.heap.size) (hu : ∀ a : Addr, ∀ op ∈ u, op.act ≠ .mark (.release a)) : OwnF G ft fi w' (t ++ u) S :=
  ⟨fun b hb => Nat.lt_of_lt_of_le (O.lt b hb) hs, O.sub, O.grp, O.d1, O.d2, O.sh, fun a ha => (O.nr a ha).app (hu a)⟩
theorem GInv.walk {wi : World} {fi : Foot} {b b' : Bool} (I : GInv P W0 G ft gs w t i r q (.way wi fi b) S) {x g' : Goroutine} {es : Array Event} (hx : gs[i]? = some x) (hgu : GuarW fi w w' es)
    (hto : TW P (AtDone P G) b' g' w' (fi.ext w.heap.size w'.heap.size)) :
    GInv P W0 G ft ((gs.map (woken P x g' w')).setIfInBounds i g') w' (t ++ MemOp.ofEvents i x.frame.fn x.frame.place es) i r q (.way w' (fi.ext w.heap.size w'.heap.size) b') S := by
  obtain ⟨y, h1, h2, _, _, O, hkn⟩ := I.wk
  rw [hx] at h1
  cases h1
  have hsz := hgu.size
  have hdf := fun j => deaf_evs (t := t) (i := i) (fn := x.frame.fn) (pos := x.frame.place) hgu.evs O.lt j
  obtain ⟨st, sm, hat, hph⟩ := I.grp
  have hwl := at_lt hat
  have nw : ∀ {op : MemOp} {a : Touch}, op ∈ MemOp.ofEvents i x.frame.fn x.frame.place es → op.act.touch? = some a → locBlk a.loc ≠ some G.wg := fun hop ha e => by
    obtain ⟨ev, he, rfl⟩ := Go.Conc.mem_ofEvents hop
    obtain ⟨bl, e1, e2, _⟩ := evOk_touch (hgu.evs ev he) ha
    rw [e1] at e
    cases e
    exact O.grp e2
  refine { base := ⟨hgu.tape.trans I.base.tape, hgu.os.trans I.base.os, hgu.output.trans I.base.output, Nat.le_trans I.base.size hsz⟩, lt := fun b hb => Nat.lt_of_lt_of_le (I.lt b hb) hsz, sub := I.sub, nwg := I.nwg, tagw := I.tagw, grp := ⟨st, sm, at_of_block hat (hgu.heap _ hwl fun hw => O.grp (O.sub _ hw)), hph⟩, hears := by rw [hdf]; exact I.hears, ipos := I.ipos, wk := ⟨g', moved_own hx, by rw [hdf]; exact h2, hto, RelyW.refl _ _, ⟨fun b hb => ?_, fun b hb => ?_, fun hb => ?_, fun b hb hr => ?_, fun b hb hr => ?_, fun b hS hb => ?_, fun a ha => ?_⟩, hkn.own hgu.evs I.seen⟩, old := fun j y hj hy hn => ?_, above := fun j hj => ?_, clean := fun said => hkn.noRace (I.clean said) hgu.evs, known := I.known.other hgu.evs O.d1 O.d2, done := fun j a ha hm => ?_, over := over_app (Q := fun x => WkS.way w' (fi.ext w.heap.size w'.heap.size) b' ≠ .none ∧ x = i) (fun j x h1 h2 h3 => (I.over j x h1 h2 h3).imp id fun h => ⟨by simp, h.2⟩) fun op hop => .inr (.inr ⟨by simp, mem_g hop⟩), quiet := fun j a ha hb hk => ?_, late := fun _ _ _ _ _ hs => ?_, seen := ?_, shun := fun b hS => ⟨(I.shun b hS).1, Nat.lt_of_lt_of_le (I.shun b hS).2.1 hsz, (I.shun b hS).2.2⟩, norel := fun a ha => (I.norel a ha).app (ok_norel hgu.evs a), acq := fun h => (I.acq h).app _ }
  · rcases hb with hb | hb
    · exact Nat.lt_of_lt_of_le (O.lt b hb) hsz
    · exact hb.2
  · rcases hb with hb | hb
    · exact .inl (O.sub b hb)
    · exact .inr hb
  · rcases hb with hb | hb
    · exact O.grp hb
    · omega
  · rcases hb with hb | hb
    · exact O.d1 b hb hr
    · have := I.lt b hr
      omega
  · rcases hr with hr | hr
    · exact O.d2 b hb hr
    · have := I.lt b (I.sub b hb)
      omega
  · rcases hb with hb | hb
    · exact O.sh b hS hb
    · have := (I.shun b hS).2.1
      omega
  · refine NoRelease.app ?_ (ok_norel hgu.evs a)
    rcases ha with ha | ha
    · exact O.nr a ha
    · exact norel_fresh I.seen ha.1
  · have hji : i ≠ j := by
      rcases hn with e | e
      · cases e
      · exact fun h => e h.symm
    obtain ⟨z, hz, rfl⟩ := moved_get hji hy
    have hqz := I.old j z hj hz (.inr fun h => hji h.symm)
    rw [woken_quitsD hqz, hdf]
    exact hqz
  · rw [hdf]
    exact I.above j (by simpa using hj)
  · rcases touch_app ha with ⟨_, h⟩ | ⟨op, hop, hg, h⟩
    · exact (I.done j a h hm).imp (·.app _) fun h => h.imp (fun h => ⟨by simp, g_app h.2⟩) id
    · refine .inr (.inl ⟨by simp, ?_⟩)
      unfold Trace.g?
      rw [hg]
      simp [mem_g hop]
  · rcases touch_app ha with ⟨_, h⟩ | ⟨op, hop, hg, h⟩
    · obtain ⟨a1, a2⟩ := I.quiet j a h hb hk
      exact ⟨a1.app _, fun hp _ => (a2 hp (by simp)).app _⟩
    · exact absurd hb (nw hop h)
  · have : (8 : Nat) ≤ 6 := hs
    omega
  · exact seen_app (fun op hop => MemAct.low_mono hsz (I.seen op hop)) fun op hop => MemAct.low_mono hsz (low_events hgu.evs O.lt op hop)
theorem WkOk.mute {u : Trace} {j0 : Nat} {gs' : Array Goroutine} (h : WkOk P G ft gs w t i r S ws) (hm : ∀ op ∈ u, op.act.touch? = none) (hnr : ∀ a : Addr, ∀ op ∈ u, op.act ≠ .mark (.release a)) (hu : ∀ op ∈ u, op.g = j0) (hne : ws = .none ∨ j0 ≠ i) (hd : j0 ≠ i → Deaf (t ++ u) i = Deaf t i)
    (hg : ∀ y, gs[i]? = some y → (y.status = .running ∨ (∃ v s m, G.sitx P v s m (Deaf t i) y w) ∨ ∃ n, QuitsD P n (Deaf t i) y) → ws ≠ .none → gs'[i]? = some y) : WkOk P G ft gs' w (t ++ u) i r S ws := by
  cases ws with
  | none => trivial
  | way wi fi b =>
    have hne := hne.resolve_left (by simp)
    obtain ⟨y, h1, h2, h3, h4, h5, h6⟩ := h
    exact ⟨y, hg y h1 (.inl h3.1) (by simp), by rw [hd hne]; exact h2, h3, h4, h5.app (Nat.le_refl _) hnr, h6.mute hm⟩
  | sit s m v fi =>
    have hne := hne.resolve_left (by simp)
    obtain ⟨h0, h0', y, h1, h2, h3, h4, h5, h6⟩ := h
    exact ⟨h0, h0', y, hg y h1 (.inr (.inl ⟨v, s, m, h2⟩)) (by simp), by rw [hd hne]; exact h2, h3.app (Nat.le_refl _) hnr, h4, h5, fun e => (h6 e).appOther hu hne⟩
  | gone n fi =>
    have hne := hne.resolve_left (by simp)
    obtain ⟨y, h1, h2, h3, h4, h5⟩ := h
    exact ⟨y, hg y h1 (.inr (.inr ⟨n, h2⟩)) (by simp), by rw [hd hne]; exact h2, h3.app (Nat.le_refl _) hnr, h4, h5.appOther hu hne⟩
theorem GInv.quit (I : GInv P W0 G ft gs w t i r q ws S) {j0 m : Nat} {x g' : Goroutine} {es : Array Event} (hpos : 0 < j0) (hx : gs[j0]? = some x) (hn : ws = .none ∨ j0 ≠ i) (hm : ∀ e ∈ es, Event.mute e = true)
    (hq : QuitsD P m (deafBehind (Deaf t j0) es) g') : GInv P W0 G ft ((gs.map (woken P x g' w)).setIfInBounds j0 g') w (t ++ MemOp.ofEvents j0 x.frame.fn x.frame.place es) i r (putAt q j0 m) ws S := by
  have htn : ∀ op ∈ MemOp.ofEvents j0 x.frame.fn x.frame.place es, op.act.touch? = none := fun op hop => by
    obtain ⟨e, he, rfl⟩ := Go.Conc.mem_ofEvents hop
    exact touch_mute (hm e he)
  have hdo : ∀ j, j0 ≠ j → Deaf (t ++ MemOp.ofEvents j0 x.frame.fn x.frame.place es) j = Deaf t j := fun j hj => Deaf_other t hj _ (fun op hop => mem_g hop)
  have hlt : j0 < gs.size := (Array.getElem?_eq_some_iff.1 hx).1
  refine { base := I.base, lt := I.lt, sub := I.sub, nwg := I.nwg, tagw := I.tagw, grp := I.grp, hears := by rw [hdo _ (by omega)]; exact I.hears, ipos := I.ipos, wk := I.wk.mute htn (mute_norel hm) (fun op hop => mem_g hop) hn (fun h => hdo _ h) fun y hy hs hne => moved_put (hn.resolve_left hne) hy ?_, old := fun j y hj hy hnj => ?_, above := fun j hj => ?_, clean := fun said => noRace_append (I.clean said) (fun op hop => mem_g hop) fun _ _ _ op hop b hb _ => (by rw [htn op hop] at hb; cases hb), known := I.known.mute htn, done := fun j a ha hmem => ?_, over := over_app I.over fun op hop => .inl (htn op hop), quiet := fun j a ha hb hk => ?_, late := fun j a hj hg ha hs => ?_, seen := ?_, shun := I.shun, norel := fun a ha => (I.norel a ha).app (mute_norel hm a), acq := fun h => (I.acq h).app _ }
  · rcases hs with h | ⟨v, s, n, h⟩ | ⟨n, h⟩
    · exact woken_run h
    · exact h.woken _ _ _
    · exact woken_quitsD h
  · by_cases hji : j0 = j
    · subst hji
      rw [moved_own hx] at hy
      cases hy
      rw [putAt_self, Deaf_own]
      exact hq
    · obtain ⟨z, hz, rfl⟩ := moved_get hji hy
      have hqz := I.old j z hj hz hnj
      rw [woken_quitsD hqz, hdo _ hji, putAt_ne _ _ (fun e => hji e.symm)]
      exact hqz
  · have : j0 ≠ j := by simp at hj; omega
    rw [hdo _ this]
    exact I.above j (by simpa using hj)
  · rcases touch_app ha with ⟨_, h⟩ | ⟨op, hop, _, h⟩
    · exact (I.done j a h hmem).imp (·.app _) fun h => h.imp (fun h => ⟨h.1, g_app h.2⟩) id
    · rw [htn op hop] at h; cases h
  · rcases touch_app ha with ⟨_, h⟩ | ⟨op, hop, _, h⟩
    · obtain ⟨a1, a2⟩ := I.quiet j a h hb hk
      exact ⟨a1.app _, fun hp hw => (a2 hp hw).app _⟩
    · rw [htn op hop] at h; cases h
  · rcases touch_app ha with ⟨hlt', h⟩ | ⟨op, hop, _, h⟩
    · refine I.late j a hj ?_ h hs
      unfold Trace.g? at hg ⊢
      rw [getElem?_append_old hlt'] at hg
      exact hg
    · rw [htn op hop] at h; cases h
  · exact seen_app I.seen fun op hop => by
      obtain ⟨e, he, rfl⟩ := Go.Conc.mem_ofEvents hop
      exact low_mute (hm e he) _
def Bk2 (wg : Nat) (e : Event) : Prop := Bk wg e ∨ e = Go.ConcR.mk (.releaseMerge (ConcR.stA wg))
theorem bk2_norel {wg : Nat} {es : Array Event} (he : ∀ e ∈ es, Bk2 wg e) {g : Nat} {fn : FuncId} {pos : String} (a : Addr) : ∀ op ∈ MemOp.ofEvents g fn pos es, op.act ≠ .mark (.release a) := by
  intro op hop e
  obtain ⟨x, hx, rfl⟩ := Go.Conc.mem_ofEvents hop
  rcases he x hx with (h1 | h1 | ⟨y, wr, rfl, _⟩) | rfl
  · simp only [Go.ConcR.ofEvent_loc_mark h1] at e
    cases e
  · simp only [Go.ConcR.ofEvent_loc_mark h1] at e
    cases e
  · cases e
  · cases e
theorem bk2_touch {wg : Nat} {es : Array Event} (he : ∀ e ∈ es, Bk2 wg e) {g : Nat} {fn : FuncId} {pos : String} {op : MemOp} (hop : op ∈ MemOp.ofEvents g fn pos es) {b : Touch} (hb : op.act.touch? = some b) : locBlk b.loc = some wg ∧ b.kind = .atomic := by
  obtain ⟨x, hx, rfl⟩ := Go.Conc.mem_ofEvents hop
  rcases he x hx with (h1 | h1 | ⟨y, wr, rfl, hy⟩) | rfl
  · simp only [Go.ConcR.ofEvent_loc_mark h1] at hb
    cases hb
  · simp only [Go.ConcR.ofEvent_loc_mark h1] at hb
    cases hb
  · simp only [Go.ConcR.ofEvent_cell, MemAct.touch?, Option.some.injEq] at hb
    subst hb
    exact ⟨by show some y.block = _; rw [hy], rfl⟩
  · cases hb
theorem bk2_low {wg n : Nat} {es : Array Event} (he : ∀ e ∈ es, Bk2 wg e) (hn : wg < n) {g : Nat} {fn : FuncId} {pos : String} : ∀ op ∈ MemOp.ofEvents g fn pos es, op.act.low n := by
  intro op hop
  obtain ⟨x, hx, rfl⟩ := Go.Conc.mem_ofEvents hop
  rcases he x hx with (h1 | h1 | ⟨y, wr, rfl, hy⟩) | rfl
  · simp only [Go.ConcR.ofEvent_loc_mark h1]
    trivial
  · simp only [Go.ConcR.ofEvent_loc_mark h1]
    trivial
  · simp only [Go.ConcR.ofEvent_cell]
    show y.block < n
    rw [hy]
    exact hn
  · exact hn
theorem conf_plain {said : Bool} {a b : Touch} (h : a.conflicts said b) (hb : b.kind = .atomic) : a.kind = .plain := by
  obtain ⟨_, _, _, h | h | ⟨_, _, h⟩⟩ := h
  · exact h
  · rw [hb] at h; cases h
  · rw [hb] at h; cases h
theorem GInv.turn (I : GInv P W0 G ft gs w t i r q ws S) (hne : ws ≠ .none) {x g' : Goroutine} {es : Array Event} {r' : Nat} {ws' : WkS} (hne' : ws' ≠ .none) {st' sm' : Int} (hx : gs[i]? = some x)
    (hs : w'.heap.size = w.heap.size) (htape : w'.tape = w.tape) (hos : w'.os = w.os) (hout : w'.output = w.output) (hbk : ∀ e ∈ es, Bk2 G.wg e) (hr : (r' = r ∧ (ws'.stage ≤ 6 → ws.stage ≤ 6)) ∨ r' = t.size) (h12 : ft.tag % 32 = 12 → r' = r)
    (hat : G.at_ w' st' sm') (hph : Phase (ft.tag % 32) ws'.stage st' sm')
    (hwk : WkOk P G ft ((gs.map (woken P x g' w')).setIfInBounds i g') w' (t ++ MemOp.ofEvents i x.frame.fn x.frame.place es) i r' S ws') :
    GInv P W0 G ft ((gs.map (woken P x g' w')).setIfInBounds i g') w' (t ++ MemOp.ofEvents i x.frame.fn x.frame.place es) i r' q ws' S := by
  have hdo : ∀ j, i ≠ j → Deaf (t ++ MemOp.ofEvents i x.frame.fn x.frame.place es) j = Deaf t j := fun j hj => Deaf_other t hj _ (fun op hop => mem_g hop)
  have hlt : i < gs.size := (Array.getElem?_eq_some_iff.1 hx).1
  have hpos := I.ipos
  obtain ⟨_, _, hat0, _⟩ := I.grp
  have hwl := at_lt hat0
  refine { base := ⟨htape.trans I.base.tape, hos.trans I.base.os, hout.trans I.base.output, by rw [hs]; exact I.base.size⟩, lt := by rw [hs]; exact I.lt, sub := I.sub, nwg := I.nwg, tagw := I.tagw, grp := ⟨st', sm', hat, hph⟩, hears := by rw [hdo _ (by omega)]; exact I.hears, ipos := hpos, wk := hwk, old := fun j y hj hy hn => ?_, above := fun j hj => ?_, clean := fun said => noRace_append (I.clean said) (fun op hop => mem_g hop) fun k a ha op hop b hb hc => ?_, known := fun j a ha hm => ?_, done := fun j a ha hm => ?_, over := over_app (Q := fun x => ws' ≠ .none ∧ x = i) (fun j x h1 h2 h3 => (I.over j x h1 h2 h3).imp id fun h => ⟨hne', h.2⟩) fun op hop => .inr (.inr ⟨hne', mem_g hop⟩), quiet := fun j a ha hb hk => ?_, late := fun j a hj hg ha hst => ?_, seen := ?_, shun := by rw [hs]; exact I.shun, norel := fun a ha => (I.norel a ha).app (bk2_norel hbk a), acq := fun h => by rw [h12 h]; exact (I.acq h).app _ }
  · have hji : i ≠ j := (hn.resolve_left hne').symm
    obtain ⟨z, hz, rfl⟩ := moved_get hji hy
    have hqz := I.old j z hj hz (.inr fun h => hji h.symm)
    rw [woken_quitsD hqz, hdo _ hji]
    exact hqz
  · have : i ≠ j := by simp at hj; omega
    rw [hdo _ this]
    exact I.above j (by simpa using hj)
  · obtain ⟨h1, h2⟩ := bk2_touch hbk hop hb
    have hp := conf_plain hc h2
    exact (I.quiet k a ha (by rw [hc.1]; exact h1) (by rw [hp]; simp)).2 hp hne
  · rcases touch_app ha with ⟨_, h⟩ | ⟨op, hop, _, h⟩
    · exact (I.known j a h hm).imp (·.app _) id
    · refine .inr fun b hb => ?_
      rw [(bk2_touch hbk hop h).1] at hb
      cases hb
      exact ⟨fun hw => I.nwg (I.sub _ hw), fun _ hr => I.nwg hr⟩
  · rcases touch_app ha with ⟨_, h⟩ | ⟨op, hop, hg, h⟩
    · exact (I.done j a h hm).imp (·.app _) fun h => h.imp (fun h => ⟨hne', g_app h.2⟩) id
    · refine .inr (.inl ⟨hne', ?_⟩)
      unfold Trace.g?
      rw [hg]
      simp [mem_g hop]
  · rcases touch_app ha with ⟨_, h⟩ | ⟨op, hop, hg, h⟩
    · obtain ⟨a1, a2⟩ := I.quiet j a h hb hk
      exact ⟨a1.app _, fun hp _ => (a2 hp hne).app _⟩
    · exact absurd (bk2_touch hbk hop h).2 hk
  · rcases touch_app ha with ⟨hlt', h⟩ | ⟨op, hop, _, h⟩
    · rcases hr with ⟨rfl, hr⟩ | rfl
      · refine I.late j a hj ?_ h (hr hst)
        unfold Trace.g? at hg ⊢
        rw [getElem?_append_old hlt'] at hg
        exact hg
      · omega
    · exact bk2_touch hbk hop h
  · rw [hs]
    exact seen_app I.seen (bk2_low hbk hwl)
end
end Go.Proofs.Ythnccaajpdnndaa
namespace Go.Proofs.Ythnccaajpdnndaa
open Go.Conc
open Go.ConcR (Bk stA smA rd wr mk)
inductive KLt (P : Program) (G : Grp) : Goroutine × WkS → Goroutine × WkS → Prop where
  | step {g g' : Goroutine} {w w₁ w' : World} {ft : Foot} {es : Array Event} {b' : Bool} : RelyW ft w w₁ → stepG P false g w₁ = .go g' w' es → TW P (AtDone P G) b' g' w' (ft.ext w₁.heap.size w'.heap.size) → KLt P G (g', .way w' (ft.ext w₁.heap.size w'.heap.size) b') (g, .way w ft false)
  | sit {g g' : Goroutine} {w : World} {ft fi : Foot} {b : Bool} {s m : Nat} {v : Value} : KLt P G (g', .sit s m v fi) (g, .way w ft b)
  | less {g g' : Goroutine} {fi fi' : Foot} {s m s' m' : Nat} {v v' : Value} : s' < s ∨ (s' = s ∧ m' < m) → KLt P G (g', .sit s' m' v' fi') (g, .sit s m v fi)
  | out {g g' : Goroutine} {fi fi' : Foot} {s m n : Nat} {v : Value} : KLt P G (g', .gone n fi') (g, .sit s m v fi)
  | quit {g g' : Goroutine} {fi fi' : Foot} {n n' : Nat} : n' < n → KLt P G (g', .gone n' fi') (g, .gone n fi)
section
variable {P : Program} {G : Grp}
theorem kacc_gone : ∀ (n : Nat) (g : Goroutine) (fi : Foot), Acc (KLt P G) (g, .gone n fi) := by
  intro n
  induction n using Nat.strongRecOn with
  | ind n ih =>
    intro g fi
    refine ⟨_, fun y hy => ?_⟩
    cases hy with
    | quit h => exact ih _ h _ _
theorem kacc_sit : ∀ (s m : Nat) (v : Value) (g : Goroutine) (fi : Foot), Acc (KLt P G) (g, .sit s m v fi) := by
  intro s
  induction s using Nat.strongRecOn with
  | ind s ihs =>
    intro m
    induction m using Nat.strongRecOn with
    | ind m ihm =>
      intro v g fi
      refine ⟨_, fun y hy => ?_⟩
      cases hy with
      | less h =>
        rcases h with h | ⟨rfl, h⟩
        · exact ihs _ h _ _ _ _
        · exact ihm _ h _ _ _
      | out => exact kacc_gone _ _ _
theorem kacc_stop (g : Goroutine) (w : World) (ft : Foot) : Acc (KLt P G) (g, .way w ft true) :=
  ⟨_, fun y hy => by cases hy with | sit => exact kacc_sit _ _ _ _ _⟩
theorem kacc_way {g : Goroutine} {w : World} {ft : Foot} (h : Toward P (AtDone P G) g w ft) : ∀ b, TW P (AtDone P G) b g w ft → Acc (KLt P G) (g, .way w ft b) := by
  induction h with
  | stop h1 h2 =>
    intro b hb
    cases b with
    | true => exact kacc_stop _ _ _
    | false => exact absurd h2 hb.2.1
  | step h1 h2 _ ih =>
    intro b hb
    cases b with
    | true => exact kacc_stop _ _ _
    | false =>
      refine ⟨_, fun y hy => ?_⟩
      cases hy with
      | step hr hs ht => exact ih _ _ _ _ hr hs _ ht
      | sit => exact kacc_sit _ _ _ _ _
theorem TW.toward {Stop : JT} {b : Bool} {g : Goroutine} {w : World} {ft : Foot} (h : TW P Stop b g w ft) : Toward P Stop g w ft := by
  cases b with
  | true => exact .stop h.1 h.2
  | false => exact .step h.1 h.2.2.1 h.2.2.2
def noFoot : Foot := ⟨fun _ => False, fun _ => False, 0⟩
def measG (gs : Array Goroutine) (i : Nat) (q : Nat → Nat) (ws : WkS) : Nat → Goroutine × WkS := fun j =>
  if j = 0 then (default, .gone 0 noFoot) else match ws with
    | .none => (default, .gone (q j) noFoot)
    | ws => if j = i then (gs.getD j default, ws) else (default, .gone (q j) noFoot)
theorem measG_wk {gs : Array Goroutine} {i : Nat} {q : Nat → Nat} {ws : WkS} (h0 : 0 < i) (hne : ws ≠ .none) {g : Goroutine} (hg : gs[i]? = some g) : measG gs i q ws i = (g, ws) := by
  have h : ¬ i = 0 := by omega
  unfold measG
  rw [if_neg h, Array.getD_eq_getD_getElem?, hg]
  cases ws <;> first | exact absurd rfl hne | simp
theorem measG_other {gs : Array Goroutine} {i j : Nat} {q : Nat → Nat} {ws : WkS} (h0 : j ≠ 0) (hji : ws = .none ∨ j ≠ i) : measG gs i q ws j = (default, .gone (q j) noFoot) := by
  unfold measG
  rw [if_neg h0]
  cases ws <;> first | rfl | exact if_neg (hji.resolve_left (by simp))
theorem measG_zero {gs : Array Goroutine} {i : Nat} {q : Nat → Nat} {ws : WkS} : measG gs i q ws 0 = (default, .gone 0 noFoot) := if_pos rfl
end
section
variable {P : Program} {W0 : World} {Post : Value → World → Prop} {G : Grp} {g : Goroutine} {w w₁ w' : World} {ft : Foot} {gs gs' : Array Goroutine} {t : Trace} {i r : Nat} {q q' : Nat → Nat} {ws ws' : WkS} {S : Nat → Prop}
theorem GInv.acc (I : GInv P W0 G ft gs w t i r q ws S) : Acc (Less (KLt P G) gs.size) (measG gs i q ws) := by
  refine less_acc _ _ _ fun j _ => ?_
  by_cases h0 : j = 0
  · subst h0
    rw [measG_zero]
    exact kacc_gone _ _ _
  by_cases hji : ws = .none ∨ j ≠ i
  · rw [measG_other h0 hji]
    exact kacc_gone _ _ _
  · have hn : ws ≠ .none := fun e => hji (.inl e)
    obtain rfl : j = i := by
      by_cases e : j = i
      · exact e
      · exact absurd (.inr e) hji
    cases ws with
    | none => exact absurd rfl hn
    | way wi fi b =>
      obtain ⟨g, h1, _, h3, _⟩ := I.wk
      rw [measG_wk I.ipos hn h1]
      exact kacc_way h3.toward b h3
    | sit s m v fi =>
      obtain ⟨_, _, g, h1, _⟩ := I.wk
      rw [measG_wk I.ipos hn h1]
      exact kacc_sit _ _ _ _ _
    | gone n fi =>
      obtain ⟨g, h1, _⟩ := I.wk
      rw [measG_wk I.ipos hn h1]
      exact kacc_gone _ _ _
theorem measG_less (h0 : 0 < i) (hlt : i < gs.size) (hne : ws ≠ .none) (hne' : ws' ≠ .none) {x y : Goroutine} (hx : gs[i]? = some x) (hy : gs'[i]? = some y) (h : KLt P G (y, ws') (x, ws)) : Less (KLt P G) gs.size (measG gs' i q ws') (measG gs i q ws) := by
  refine ⟨i, hlt, ?_, fun j hj => ?_⟩
  · rw [measG_wk h0 hne hx, measG_wk h0 hne' hy]
    exact h
  · by_cases hj0 : j = 0
    · subst hj0
      rw [measG_zero, measG_zero]
    · rw [measG_other hj0 (.inr hj), measG_other hj0 (.inr hj)]
theorem measG_quit {j m n : Nat} (h0 : 0 < j) (hlt : j < gs.size) (hji : ws = .none ∨ j ≠ i) (hq : q j = n) (hm : m < n) (hg : ws ≠ .none → gs'[i]? = gs[i]?) : Less (KLt P G) gs.size (measG gs' i (putAt q j m) ws) (measG gs i q ws) := by
  refine ⟨j, hlt, ?_, fun k hk => ?_⟩
  · rw [measG_other (by omega) hji, measG_other (by omega) hji, putAt_self, hq]
    exact .quit hm
  · by_cases hk0 : k = 0
    · subst hk0
      rw [measG_zero, measG_zero]
    · by_cases hki : ws = .none ∨ k ≠ i
      · rw [measG_other hk0 hki, measG_other hk0 hki, putAt_ne _ _ hk]
      · have hn : ws ≠ .none := fun e => hki (.inl e)
        obtain rfl : k = i := by
          by_cases e : k = i
          · exact e
          · exact absurd (.inr e) hki
        have e := hg hn
        unfold measG
        rw [if_neg hk0, if_neg hk0, Array.getD_eq_getD_getElem?, Array.getD_eq_getD_getElem?, e]
        cases ws <;> first | exact absurd rfl hn | simp
theorem GInv.at (I : GInv P W0 G ft gs w t i r q ws S) (d : Nat) : GInv P W0 G ft gs (w.at d) t i r q ws S where
  base := ⟨I.base.tape, I.base.os, I.base.output, I.base.size⟩
  lt := I.lt
  sub := I.sub
  nwg := I.nwg
  tagw := I.tagw
  grp := I.grp
  hears := I.hears
  ipos := I.ipos
  wk := by
    have h := I.wk
    have own : ∀ {fi}, OwnF G ft fi w t S → OwnF G ft fi (w.at d) t S := fun O => ⟨O.lt, O.sub, O.grp, O.d1, O.d2, O.sh, O.nr⟩
    cases ws with
    | none => trivial
    | way wi fi b =>
      obtain ⟨g, h1, h2, h3, h4, h5, h6⟩ := h
      exact ⟨g, h1, h2, h3, h4.trans (relyW_at fi w d), own h5, h6⟩
    | sit s m v fi =>
      obtain ⟨a, b, g, h1, h2, h3, h4, h5, h6⟩ := h
      exact ⟨a, b, g, h1, h2.rely (@ConcN.RW.at ⟨0⟩ _ _ _ _ _ _ w d), own h3, h4, G.keep w _ _ (fun _ _ => rfl) h5, h6⟩
    | gone n fi =>
      obtain ⟨g, h1, h2, h3, h4, h5⟩ := h
      exact ⟨g, h1, h2, own h3, G.keep w _ _ (fun _ _ => rfl) h4, h5⟩
  old := I.old
  above := I.above
  clean := I.clean
  known := I.known
  done := I.done
  over := I.over
  quiet := I.quiet
  late := I.late
  seen := I.seen
  shun := I.shun
  norel := I.norel
  acq := I.acq
theorem GInv.stage {s m : Nat} {v : Value} {fi : Foot} (I : GInv P W0 G ft gs w t i r q (.sit s m v fi) S) (h6 : s ≤ 6) {x g' : Goroutine} {es : Array Event} (hx : gs[i]? = some x) (A : Aside G.wg w w') {st' sm' : Int} (hat : G.at_ w' st' sm') (hbk : ∀ e ∈ es, Bk G.wg e)
    (hd : ∀ j e, es[j]? = some e → (MemAct.ofEvent e).touch? = none ∨ 0 < deafBehind (Deaf t i) (es.extract 0 j)) (hph : Phase (ft.tag % 32) ws'.stage st' sm')
    (hws : (∃ s' m', ws' = .sit s' m' v fi ∧ 2 ≤ s' ∧ s' ≤ 6 ∧ G.sit P v s' m' (deafBehind (Deaf t i) es) g' w') ∨ ∃ n, ws' = .gone n fi ∧ QuitsD P n (deafBehind (Deaf t i) es) g') :
    GInv P W0 G ft ((gs.map (woken P x g' w')).setIfInBounds i g') w' (t ++ MemOp.ofEvents i x.frame.fn x.frame.place es) i r q ws' S := by
  obtain ⟨h2, _, y, h1, hsit, O, hF, hphi, hrel⟩ := I.wk
  have hrel' := ConcN.RelBy.book (hrel h6) rfl x.frame.fn x.frame.place hbk hd
  have hst : ws'.stage ≤ 6 := by
    rcases hws with ⟨s', m', rfl, _, h, _⟩ | ⟨n, rfl, _⟩
    · exact h
    · show 1 ≤ 6
      omega
  have hne' : ws' ≠ .none := by rcases hws with ⟨s', m', rfl, _⟩ | ⟨n, rfl, _⟩ <;> simp
  have O' : OwnF G ft fi w' (t ++ MemOp.ofEvents i x.frame.fn x.frame.place es) S := O.app (Nat.le_of_eq A.size.symm) (bk_norel hbk)
  have hphi' : G.phi w' fi := G.keep _ _ _ (fun b hb => A.block b fun e => O.grp (e ▸ hb)) hphi
  refine I.turn (by simp) hne' hx A.size A.tape A.os A.output (fun e he => .inl (hbk e he)) (.inl ⟨rfl, fun _ => h6⟩) (fun _ => rfl) hat hph ?_
  rcases hws with ⟨s', m', rfl, a, b, c⟩ | ⟨n, rfl, c⟩
  · exact ⟨a, by omega, g', moved_own hx, by rw [Deaf_own]; exact .inr ⟨b, c⟩, O', hF, hphi', fun _ => hrel'⟩
  · exact ⟨g', moved_own hx, by rw [Deaf_own]; exact c, O', hphi', hrel'⟩
theorem GInv.arrive {wi : World} {fi : Foot} (I : GInv P W0 G ft gs w t i r q (.way wi fi true) S) : ∃ m v, GInv P W0 G ft gs w t i r q (.sit 7 m v fi) S := by
  obtain ⟨y, h1, hdf, h3, hr, O, hkn⟩ := I.wk
  obtain ⟨_, hF, hphi, v, hv, hall⟩ := h3.2 w hr
  obtain ⟨st, sm, hat, hph⟩ := I.grp
  obtain ⟨m, hg⟩ := hall w ⟨st, sm, hat⟩ hv
  refine ⟨m, v, { base := I.base, lt := I.lt, sub := I.sub, nwg := I.nwg, tagw := I.tagw, grp := ⟨st, sm, hat, ?_⟩, hears := I.hears, ipos := I.ipos, wk := ⟨by omega, by omega, y, h1, .inl ⟨rfl, hdf, hg⟩, O, hF, hphi, fun e => by omega⟩, old := fun j g hj hg hn => I.old j g hj hg (.inr (hn.resolve_left (by simp))), above := I.above, clean := I.clean, known := I.known, done := fun j a ha hm => (I.done j a ha hm).imp id fun h => h.imp (fun h => ⟨by simp, h.2⟩) id, over := fun j x h1 h2 h3 => (I.over j x h1 h2 h3).imp id fun h => ⟨by simp, h.2⟩, quiet := fun j a ha hb hk => ⟨(I.quiet j a ha hb hk).1, fun hp _ => (I.quiet j a ha hb hk).2 hp (by simp)⟩, late := fun _ _ _ _ _ h => ?_, seen := I.seen, shun := I.shun, norel := I.norel, acq := I.acq }⟩
  · have h8 : WkS.stage (.way wi fi true) = 8 := rfl
    rw [h8] at hph
    generalize ft.tag % 32 = x at hph
    show Phase x 7 st sm
    cases hph with
    | run a b _ _ => exact .run a b (by omega) (by omega)
    | reg _ _ => exact .reg (by omega) (by omega)
    | low h => omega
  · have : (7 : Nat) ≤ 6 := h
    omega
theorem GInv.seven {m : Nat} {v : Value} {fi : Foot} (I : GInv P W0 G ft gs w t i r q (.sit 7 m v fi) S) {x : Goroutine} (hx : gs[i]? = some x) : ∃ g' es r' s' m', stepG P false x w = .go g' w es ∧ ((s' = 7 ∧ m' < m) ∨ s' = 6) ∧
    GInv P W0 G ft ((gs.map (woken P x g' w)).setIfInBounds i g') w (t ++ MemOp.ofEvents i x.frame.fn x.frame.place es) i r' q (.sit s' m' v fi) S := by
  letI pl : ConcR.Payload := ⟨0⟩
  obtain ⟨_, _, y, h1, hs, O, hF, hphi, _⟩ := I.wk
  rw [hx] at h1
  cases h1
  obtain ⟨_, hdf, hgo⟩ := hs.resolve_right fun h => by omega
  obtain ⟨st, sm, hat, hph⟩ := I.grp
  have hph : Phase (ft.tag % 32) 7 st sm := hph
  rcases Goes.cases hgo with hstop | ⟨m', rfl, hstep⟩
  · obtain ⟨_, g', hst, m', hs'⟩ := hstop w (ConcN.RW.refl w)
    have hbk : ∀ e ∈ #[Go.ConcR.mk (.releaseMerge (stA G.wg))], Bk2 G.wg e := fun e he => .inr (by simpa using he)
    have hph' : Phase (ft.tag % 32) 6 st sm := by
      generalize hx : ft.tag % 32 = x at hph
      cases hph with
      | run a b _ _ => exact .run a b (by omega) (by omega)
      | reg _ _ => exact .reg (by omega) (by omega)
      | low h => omega
    refine ⟨g', _, t.size, 6, m', hst, .inr rfl, I.turn (by simp) (by simp) hx rfl rfl rfl rfl hbk (.inr rfl) (fun h12 => ?_) hat hph' ⟨by omega, by omega, g', moved_own hx, ?_, O.app (Nat.le_refl _) (bk2_norel hbk), hF, hphi, fun _ => ConcN.RelBy.new hdf _ _⟩⟩
    · exfalso
      rw [h12] at hph
      cases hph with
      | run _ h _ _ => omega
    · rw [Deaf_own, hdf]
      exact .inr ⟨by omega, hs'⟩
  · obtain ⟨g', w', es, hst, ⟨rfl, rfl⟩, hg'⟩ := hstep w (ConcN.RW.refl w)
    refine ⟨g', #[], r, 7, m', hst, .inl ⟨rfl, by omega⟩, I.turn (by simp) (by simp) hx rfl rfl rfl rfl (by simp) (.inl ⟨rfl, fun h => h⟩) (fun _ => rfl) hat hph ⟨by omega, by omega, g', moved_own hx, ?_, O.app (Nat.le_refl _) (bk_norel (Wg := 0) (by simp)), hF, hphi, fun e => by omega⟩⟩
    rw [Deaf_own, hdf]
    exact .inl ⟨rfl, rfl, hg'⟩
end
end Go.Proofs.Ythnccaajpdnndaa
namespace Go.Proofs.Ythnccaajpdnndaa
open Go.Conc
open Go.ConcR (Bk stA smA rd wr mk KK)
section
variable {x s : Nat} {st sm : Int}
theorem Phase.counted (h : Phase x s st sm) (h5 : 5 ≤ s) (h8 : s ≤ 8) : sm = 0 ∧ ((5 ≤ x ∧ x ≤ 7 ∧ st = 4294967296) ∨ (x = 9 ∧ st = 4294967297)) := by
  cases h with
  | opened _ => omega
  | added _ => omega
  | run a b _ _ => exact ⟨rfl, .inl ⟨a, b, rfl⟩⟩
  | out _ _ _ => omega
  | reg _ _ => exact ⟨rfl, .inr ⟨rfl, rfl⟩⟩
  | low h => omega
  | last => omega
  | freed => omega
theorem Phase.lows (h : Phase x s st sm) (h3 : s = 4 ∨ s = 3) : x = 9 ∧ st = 1 ∧ sm = 0 := by
  cases h with
  | opened _ => omega
  | added _ => omega
  | run a b _ _ => omega
  | out _ _ _ => omega
  | reg _ _ => omega
  | low h => exact ⟨rfl, rfl, rfl⟩
  | last => omega
  | freed => omega
theorem Phase.two (h : Phase x 2 st sm) : x = 9 ∧ st = 0 ∧ sm = 0 := by
  cases h with
  | run a b _ _ => omega
  | reg _ _ => omega
  | low h => omega
  | last => exact ⟨rfl, rfl, rfl⟩
theorem Phase.same {s' : Nat} (h : Phase x s st sm) (h5 : 5 ≤ s) (h8 : s ≤ 8) (h5' : 5 ≤ s') (h8' : s' ≤ 8) : Phase x s' st sm := by
  obtain ⟨rfl, ⟨a, b, rfl⟩ | ⟨rfl, rfl⟩⟩ := h.counted h5 h8
  · exact .run a b h5' h8'
  · exact .reg h5' h8'
end
section
variable {P : Program} {W0 : World} {Post : Value → World → Prop} {G : Grp} {g g0 : Goroutine} {w w₁ w' : World} {ft : Foot} {gs gs' : Array Goroutine} {t : Trace} {i r : Nat} {q q' : Nat → Nat} {ws ws' : WkS} {S : Nat → Prop} {sl : Option (Nat × Nat)}
theorem rely_aside (A : Aside G.wg w w') (hn : ¬ ft.rd G.wg) : RelyW ft w w' := ⟨fun b hb => A.block b fun e => hn (e ▸ hb), Nat.le_of_eq A.size.symm, A.tape, A.os, A.output⟩
def Moves (P : Program) (W0 : World) (G : Grp) (ft : Foot) (gs : Array Goroutine) (w : World) (t : Trace) (i : Nat) (q : Nat → Nat) (ws : WkS) (S : Nat → Prop) (j : Nat) (x : Goroutine) : Prop :=
  ∃ (g' : Goroutine) (w' : World) (es : Array Event) (r' : Nat) (q' : Nat → Nat) (ws' : WkS), stepG P false x w = .go g' w' es ∧ RelyW ft w w' ∧
    GInv P W0 G ft ((gs.map (woken P x g' w')).setIfInBounds j g') w' (t ++ MemOp.ofEvents j x.frame.fn x.frame.place es) i r' q' ws' S ∧
    Less (KLt P G) gs.size (measG ((gs.map (woken P x g' w')).setIfInBounds j g') i q' ws') (measG gs i q ws) ∧ (ft.tag % 32 = 9 → ws.stage ≠ 1 → ws'.stage = 1 → mayWake P x = true ∧ g'.status = .running)
theorem bk_rw2 (wg : Nat) : ∀ e ∈ #[rd (stA wg), wr (stA wg)], Bk wg e := by
  intro e he
  simp at he
  rcases he with rfl | rfl <;> exact ConcN.bk_cell _ _ rfl
theorem df_rw2 (wg : Nat) : ∀ j e, (#[rd (stA wg), wr (stA wg)] : Array Event)[j]? = some e → (MemAct.ofEvent e).touch? = none ∨ 0 < deafBehind 1 ((#[rd (stA wg), wr (stA wg)] : Array Event).extract 0 j) := by
  intro j e he
  match j, he with
  | 0, _ => exact .inr (by simp [deafBehind])
  | 1, _ => exact .inr (by simp [deafBehind, rd])
  | j + 2, he => simp at he
set_option maxHeartbeats 1600000 in
/-- The worker's move behind its release. -/
theorem GInv.sits {s m : Nat} {v : Value} {fi : Foot} (I : GInv P W0 G ft gs w t i r q (.sit s m v fi) S) (h6 : s ≤ 6) {x : Goroutine} (hx : gs[i]? = some x) (_hrun : x.status = .running) : Moves P W0 G ft gs w t i q (.sit s m v fi) S i x := by
  letI pl : ConcR.Payload := ⟨0⟩
  obtain ⟨h2, _, y, h1, hsit, O, hF, hphi, hrel⟩ := I.wk
  have hsit := (hsit.resolve_left fun h => by omega).2
  rw [hx] at h1
  cases h1
  obtain ⟨st, sm, hat, hph⟩ := I.grp
  have hph : Phase (ft.tag % 32) s st sm := hph
  have hlt : i < gs.size := (Array.getElem?_eq_some_iff.1 hx).1
  -- from a step to the move
  have fin : ∀ {g' : Goroutine} {w' : World} {es : Array Event} {st' sm' : Int} {ws' : WkS}, stepG P false x w = .go g' w' es → Aside G.wg w w' → G.at_ w' st' sm' → (∀ e ∈ es, Bk G.wg e) →
      (∀ j e, es[j]? = some e → (MemAct.ofEvent e).touch? = none ∨ 0 < deafBehind (Deaf t i) (es.extract 0 j)) → Phase (ft.tag % 32) ws'.stage st' sm' →
      ((∃ s' m', ws' = .sit s' m' v fi ∧ 2 ≤ s' ∧ s' ≤ 6 ∧ G.sit P v s' m' (deafBehind (Deaf t i) es) g' w' ∧ (s' < s ∨ (s' = s ∧ m' < m))) ∨ ∃ n, ws' = .gone n fi ∧ QuitsD P n (deafBehind (Deaf t i) es) g' ∧ (ft.tag % 32 = 9 → mayWake P x = true ∧ g'.status = .running)) → Moves P W0 G ft gs w t i q (.sit s m v fi) S i x := by
    intro g' w' es st' sm' ws' hgo A hat' hbk hd hph' hws
    have hI := I.stage h6 hx A hat' hbk hd hph' (hws.imp (fun ⟨s', m', a, b, c, d, _⟩ => ⟨s', m', a, b, c, d⟩) fun ⟨n, a, b, _⟩ => ⟨n, a, b⟩)
    refine ⟨g', w', es, r, q, ws', hgo, rely_aside A I.nwg, hI, ?_, ?_⟩
    · rcases hws with ⟨s', m', rfl, _, _, _, hl⟩ | ⟨n, rfl, _⟩
      · exact measG_less I.ipos hlt (by simp) (by simp) hx (moved_own hx) (.less hl)
      · exact measG_less I.ipos hlt (by simp) (by simp) hx (moved_own hx) .out
    · intro h9 _ h1'
      rcases hws with ⟨s', m', rfl, h2', _⟩ | ⟨n, rfl, _, hw⟩
      · have : s' = 1 := h1'
        omega
      · exact hw h9
  generalize hdd : Deaf t i = d at hsit fin
  have idle : ∀ {g' : Goroutine} {m' : Nat}, stepG P false x w = .go g' w #[] → G.sit P v s m' d g' w → m' + 1 = m → Moves P W0 G ft gs w t i q (.sit s m v fi) S i x := fun {g' m'} hgo hs hm =>
    fin hgo (.refl _ _) hat (by simp) (by simp) (ws' := .sit s m' v fi) hph (.inl ⟨s, m', rfl, h2, h6, by simpa [deafBehind] using hs, .inr ⟨rfl, by omega⟩⟩)
  have one : ∀ (e : Event) (j : Nat) (x : Event), (#[e] : Array Event)[j]? = some x → x = e := fun e j x h => by
    cases j with
    | zero => simpa using h.symm
    | succ j => simp at h
  cases hsit with
  | k1 h =>
    rcases Goes.cases h with hstop | ⟨m', rfl, hstep⟩
    · obtain ⟨_, g', hgo, m₂, hk⟩ := hstop w (ConcN.RW.refl w)
      refine fin hgo (.refl _ _) hat (fun e he => by simp at he; subst he; exact .inl rfl) (fun j e he => .inl (by rw [one _ j e he]; rfl)) (ws' := .sit 5 m₂ v fi) (show Phase (ft.tag % 32) 5 st sm from hph.same (by omega) (by omega) (by omega) (by omega)) (.inl ⟨5, m₂, rfl, by omega, by omega, ?_, .inl (by omega)⟩)
      exact .d1 hk
    · obtain ⟨g', w', es, hgo, ⟨rfl, rfl⟩, hg'⟩ := hstep w (ConcN.RW.refl w)
      exact idle hgo (.k1 hg') rfl
  | d1 h =>
    rcases Goes.cases h with hstop | ⟨m', rfl, hstep⟩
    · obtain ⟨_, hall⟩ := hstop w (ConcN.RW.refl w)
      obtain ⟨rfl, hc⟩ := hph.counted (by omega) (by omega)
      rcases hc with ⟨x5, x7, rfl⟩ | ⟨x9, rfl⟩
      · obtain ⟨g', hgo, _, hq⟩ := hall 0 0 (by omega) (by omega) (by
          have e : ((0 : Nat) + 1 : Int) * KK + ((0 : Nat) : Int) = 4294967296 := by decide
          rw [e]
          exact hat)
        obtain ⟨n, hq⟩ := hq (by simp)
        refine fin hgo (aside_setCell w (stA G.wg) _) (st' := 0) (sm' := 0) (Go.ConcR.WgAt.setSt hat _) (bk_rw2 _) (df_rw2 _) (ws' := .gone n fi) (.out x5 (by omega) (by omega)) (.inr ⟨n, rfl, ?_, fun e => by omega⟩)
        exact hq
      · obtain ⟨g', hgo, hl, _⟩ := hall 0 1 (by omega) (by omega) (by
          have e : ((0 : Nat) + 1 : Int) * KK + ((1 : Nat) : Int) = 4294967297 := by decide
          rw [e]
          exact hat)
        obtain ⟨m₂, hk⟩ := hl ⟨rfl, rfl⟩
        refine fin hgo (aside_setCell w (stA G.wg) _) (st' := 1) (sm' := 0) (Go.ConcR.WgAt.setSt hat _) (bk_rw2 _) (df_rw2 _) (ws' := .sit 4 m₂ v fi) (by rw [x9]; exact .low (.inl rfl)) (.inl ⟨4, m₂, rfl, by omega, by omega, ?_, .inl (by omega)⟩)
        exact .d2 hk
    · obtain ⟨g', w', es, hgo, ⟨rfl, rfl⟩, hg'⟩ := hstep w (ConcN.RW.refl w)
      exact idle hgo (.d1 hg') rfl
  | d2 h =>
    rcases Goes.cases h with hstop | ⟨m', rfl, hstep⟩
    · obtain ⟨_, hall⟩ := hstop w (ConcN.RW.refl w)
      obtain ⟨x9, rfl, rfl⟩ := hph.lows (.inl rfl)
      obtain ⟨g', hgo, m₂, hk⟩ := hall hat
      refine fin hgo (.refl _ _) hat (fun e he => by simp at he; subst he; exact ConcN.bk_cell _ _ rfl) (fun j e he => ?_) (ws' := .sit 3 m₂ v fi) (by rw [x9]; exact .low (.inr rfl)) (.inl ⟨3, m₂, rfl, by omega, by omega, ?_, .inl (by omega)⟩)
      · match j, he with
        | 0, _ => exact .inr (by simp [deafBehind])
        | j + 1, he => simp at he
      · exact .d3 hk
    · obtain ⟨g', w', es, hgo, ⟨rfl, rfl⟩, hg'⟩ := hstep w (ConcN.RW.refl w)
      exact idle hgo (.d2 hg') rfl
  | d3 h =>
    rcases Goes.cases h with hstop | ⟨m', rfl, hstep⟩
    · obtain ⟨_, hall⟩ := hstop w (ConcN.RW.refl w)
      obtain ⟨x9, rfl, rfl⟩ := hph.lows (.inr rfl)
      obtain ⟨g', hgo, m₂, hk⟩ := hall hat
      refine fin hgo (aside_setCell w (stA G.wg) _) (st' := 0) (sm' := 0) (Go.ConcR.WgAt.setSt hat _) (fun e he => by simp at he; subst he; exact ConcN.bk_cell _ _ rfl) (fun j e he => ?_) (ws' := .sit 2 m₂ v fi) (by rw [x9]; exact .last) (.inl ⟨2, m₂, rfl, by omega, by omega, ?_, .inl (by omega)⟩)
      · match j, he with
        | 0, _ => exact .inr (by simp [deafBehind])
        | j + 1, he => simp at he
      · exact .d4 hk
    · obtain ⟨g', w', es, hgo, ⟨rfl, rfl⟩, hg'⟩ := hstep w (ConcN.RW.refl w)
      exact idle hgo (.d3 hg') rfl
  | d4 h =>
    rcases Goes.cases h with hstop | ⟨m', rfl, hstep⟩
    · obtain ⟨_, hmw, hall⟩ := hstop w (ConcN.RW.refl w)
      obtain ⟨x9, rfl, rfl⟩ := hph.two
      obtain ⟨g', hgo, n, hq⟩ := hall hat
      have hrun' : g'.status = .running := by
        cases n with
        | zero => exact absurd hq.2 (by decide)
        | succ n => exact hq.elim (fun x => absurd x.2 (by decide)) (fun x => x.1)
      refine fin hgo (aside_setCell w (smA G.wg) _) (st' := 0) (sm' := 1) (Go.ConcR.WgAt.setSm hat _) (fun e he => ?_) (fun j e he => ?_) (ws' := .gone n fi) (by rw [x9]; exact .freed) (.inr ⟨n, rfl, ?_, fun _ => ⟨hmw, hrun'⟩⟩)
      · simp [semEvents] at he
        rcases he with rfl | rfl | rfl | rfl
        · exact .inl rfl
        · exact ConcN.bk_cell _ _ rfl
        · exact ConcN.bk_cell _ _ rfl
        · exact .inr (.inl rfl)
      · match j, he with
        | 0, he => simp [semEvents] at he; subst he; exact .inl rfl
        | 1, _ => exact .inr (by simp [deafBehind, semEvents])
        | 2, _ => exact .inr (by simp [deafBehind, semEvents])
        | 3, he => simp [semEvents] at he; subst he; exact .inl rfl
        | j + 4, he => simp [semEvents] at he
      · simpa [deafBehind, semEvents] using hq
    · obtain ⟨g', w', es, hgo, ⟨rfl, rfl⟩, hg'⟩ := hstep w (ConcN.RW.refl w)
      exact idle hgo (.d4 hg') rfl
  | r0 h => omega
  | quit h => omega
theorem GInv.other (I : GInv P W0 G ft gs w t i r q ws S) {j : Nat} {x : Goroutine} (hpos : 0 < j) (hx : gs[j]? = some x) (hrun : x.status = .running) : Moves P W0 G ft gs w t i q ws S j x := by
  have hlt : j < gs.size := (Array.getElem?_eq_some_iff.1 hx).1
  by_cases hji : ws = .none ∨ j ≠ i
  · have hq := I.old j x hpos hx hji
    cases hqj : q j with
    | zero => rw [hqj] at hq; rw [hq.1] at hrun; cases hrun
    | succ m =>
      rw [hqj] at hq
      rcases hq with ⟨hf, _⟩ | ⟨_, g', es, hmu, hst, hq'⟩
      · rw [hf] at hrun; cases hrun
      have hI := I.quit hpos hx hji hmu hq'
      refine ⟨g', w, es, r, putAt q j m, ws, hst w, RelyW.refl _ _, hI, measG_quit hpos hlt hji hqj (Nat.lt_succ_self m) fun hn => ?_, fun _ h1 h2 => absurd h2 h1⟩
      have hne := hji.resolve_left hn
      cases ws with
      | none => exact absurd rfl hn
      | way wi fi b =>
        obtain ⟨y, h1, _, h3, _⟩ := I.wk
        rw [h1]
        exact moved_put hne h1 (woken_run h3.1)
      | sit s m v fi =>
        obtain ⟨_, _, y, h1, h3, _⟩ := I.wk
        rw [h1]
        exact moved_put hne h1 (h3.woken _ _ _)
      | gone n fi =>
        obtain ⟨y, h1, h3, _⟩ := I.wk
        rw [h1]
        exact moved_put hne h1 (woken_quitsD h3)
  · have hn : ws ≠ .none := fun e => hji (.inl e)
    obtain rfl : j = i := by
      by_cases e : j = i
      · exact e
      · exact absurd (.inr e) hji
    cases ws with
    | none => exact absurd rfl hn
    | way wi fi b =>
      obtain ⟨y, h1, hdf, h3, hr, O, hkn⟩ := I.wk
      rw [hx] at h1
      cases h1
      cases b with
      | true =>
        obtain ⟨m, v, I7⟩ := I.arrive
        obtain ⟨g', es, r', s', m', hgo, hl, hI⟩ := I7.seven hx
        exact ⟨g', w, es, r', q, _, hgo, RelyW.refl _ _, hI, measG_less hpos hlt (by simp) (by simp) hx (moved_own hx) .sit, fun _ _ h => by
          have : s' = 1 := h
          omega⟩
      | false =>
        obtain ⟨_, _, hst, hto⟩ := h3
        obtain ⟨g', w', es, hgo, hr', hgu⟩ := hst w hr
        have ht := hto w g' w' es hr hgo
        obtain ⟨b', hb'⟩ := toward_tw ht
        have hI := I.walk hx hgu hb'
        refine ⟨g', w', es, r, q, _, hgo, ⟨fun b hb => hgu.heap b (I.lt b hb) fun hw => O.d1 b hw hb, hgu.size, hgu.tape, hgu.os, hgu.output⟩, hI, measG_less hpos hlt (by simp) (by simp) hx (moved_own hx) (.step hr hgo hb'), fun _ _ h => by cases h⟩
    | sit s m v fi =>
      by_cases h6 : s ≤ 6
      · exact I.sits h6 hx hrun
      · have h7 := I.wk.2.1
        obtain rfl : s = 7 := by omega
        obtain ⟨g', es, r', s', m', hgo, hl, hI⟩ := I.seven hx
        exact ⟨g', w, es, r', q, _, hgo, RelyW.refl _ _, hI, measG_less hpos hlt (by simp) (by simp) hx (moved_own hx) (.less (by omega)), fun _ _ h => by
          have : s' = 1 := h
          omega⟩
    | gone n fi =>
      obtain ⟨y, h1, hq, O, hphi, hrel⟩ := I.wk
      rw [hx] at h1
      cases h1
      cases n with
      | zero => rw [hq.1] at hrun; cases hrun
      | succ m =>
        rcases hq with ⟨hf, _⟩ | ⟨_, g', es, hmu, hst, hq'⟩
        · rw [hf] at hrun; cases hrun
        have hbk : ∀ e ∈ es, Bk G.wg e := fun e he => Go.ConcR.bk_of_mute (hmu e he)
        obtain ⟨st, sm, hat, hph⟩ := I.grp
        have hI := I.turn (by simp) (ws' := .gone m fi) (by simp) hx rfl rfl rfl rfl (fun e he => .inl (hbk e he)) (.inl ⟨rfl, fun _ => (by show 1 ≤ 6; omega)⟩) (fun _ => rfl) hat hph
          ⟨g', moved_own hx, by rw [Deaf_own]; exact hq', O.app (Nat.le_refl _) (bk_norel hbk), hphi, ConcN.RelBy.book hrel rfl _ _ hbk fun k e he => .inl (touch_mute (hmu e (Array.mem_of_getElem? he)))⟩
        exact ⟨g', w, es, r, q, .gone m fi, hst w, RelyW.refl _ _, hI, measG_less hpos hlt (by simp) (by simp) hx (moved_own hx) (.quit (Nat.lt_succ_self m)), fun _ h _ => absurd rfl h⟩
theorem GInv.awake (I : GInv P W0 G ft gs w t i r q ws S) (h0 : gs[0]? = some g0) (hm : g0.status = .running ∨ g0.status = .blocked) : ∀ g ∈ gs, awake g := by
  intro y hy
  obtain ⟨j, hj, rfl⟩ := Array.mem_iff_getElem.1 hy
  have hg : gs[j]? = some gs[j] := Array.getElem?_eq_getElem hj
  rcases Nat.eq_zero_or_pos j with rfl | hpos
  · have : gs[0] = g0 := by rw [hg] at h0; exact Option.some.inj h0
    rw [this]
    exact awake_of (hm.imp id .inl)
  · by_cases hji : ws = .none ∨ j ≠ i
    · exact awake_of ((I.old j _ hpos hg hji).status.elim .inl fun x => .inr (.inr x))
    · have hn : ws ≠ .none := fun e => hji (.inl e)
      obtain rfl : j = i := by
        by_cases e : j = i
        · exact e
        · exact absurd (.inr e) hji
      cases ws with
      | none => exact absurd rfl hn
      | way wi fi b =>
        obtain ⟨y, h1, _, h3, _⟩ := I.wk
        rw [hg] at h1
        cases h1
        exact awake_of (.inl h3.1)
      | sit s m v fi =>
        obtain ⟨_, _, y, h1, h3, _⟩ := I.wk
        rw [hg] at h1
        cases h1
        exact awake_of (h3.status.elim .inl fun x => .inr (.inr x))
      | gone n fi =>
        obtain ⟨y, h1, h3, _⟩ := I.wk
        rw [hg] at h1
        cases h1
        exact awake_of (h3.status.elim .inl fun x => .inr (.inr x))
theorem JG.main (hrun : g.status = .running) (h : ∀ gs w₁ sl t i r q ws S, RelyW ft w w₁ → gs[0]? = some g → GInv P W0 G ft gs w₁ t i r q ws S → ∃ m' ops, runT P (crowd gs w₁ sl) 0 = (.next m', ops) ∧ Ends P Post m' (t ++ ops)) : JG P W0 Post G g w ft := by
  intro gs w₁ sl t i r q ws S hrel h0 I
  have hacc := I.acc
  generalize hM : measG gs i q ws = M at hacc
  generalize hn : gs.size = n at hacc
  induction hacc generalizing gs w₁ sl t r q ws with
  | intro M _ ih =>
    obtain ⟨j, x, d, sl', hj, hx, hst⟩ := crowd_pick (P := P) (w := w₁) (sl := sl) (I.awake h0 (.inl hrun)) ⟨0, g, h0, hrun⟩
    rcases Nat.eq_zero_or_pos j with rfl | hpos
    · obtain rfl : x = g := by rw [h0] at hj; exact (Option.some.inj hj).symm
      obtain ⟨m', ops, hr, he⟩ := h gs (w₁.at d) sl' t i r q ws S (hrel.trans (relyW_at ft w₁ d)) h0 (I.at d)
      exact Ends.next (hst.trans hr) he
    · have hj0 : (j == 0) = false := by simp; omega
      obtain ⟨g', w', es, r', q', ws', hgo, hrel', I', hl, _⟩ := (I.at d).other hpos hj hx
      subst hM hn
      refine Ends.next (hst.trans (runT_crowd_go (P := P) (sl := sl') hj (by rw [hj0]; exact hgo))) (ih _ hl _ w' sl' _ r' q' ws' ((hrel.trans (relyW_at ft w₁ d)).trans hrel') ?_ I' rfl (by simp))
      exact moved_put (by omega) h0 (woken_run hrun)
theorem GInv.main (I : GInv P W0 G ft gs w t i r q ws S) (_h0 : gs[0]? = some g) {g' : Goroutine} {es : Array Event} (hgu : GuarW ft w w' es) :
    GInv P W0 G (ft.ext w.heap.size w'.heap.size) ((gs.map (woken P g g' w')).setIfInBounds 0 g') w' (t ++ MemOp.ofEvents 0 g.frame.fn g.frame.place es) i r q ws S := by
  letI pl : ConcR.Payload := ⟨0⟩
  have hsz := hgu.size
  have hdf := fun j => deaf_evs (t := t) (i := 0) (fn := g.frame.fn) (pos := g.frame.place) hgu.evs I.lt j
  obtain ⟨st, sm, hat, hph⟩ := I.grp
  have hwl := at_lt hat
  have hi0 : (0 : Nat) ≠ i := Nat.ne_of_lt I.ipos
  have hwe : w'.heap[G.wg]? = w.heap[G.wg]? := hgu.heap _ hwl fun hw => I.nwg (I.sub _ hw)
  have own : ∀ {fi : Foot}, OwnF G ft fi w t S → OwnF G (ft.ext w.heap.size w'.heap.size) fi w' (t ++ MemOp.ofEvents 0 g.frame.fn g.frame.place es) S := fun {fi} O => by
    refine ⟨fun b hb => Nat.lt_of_lt_of_le (O.lt b hb) hsz, O.sub, O.grp, fun b hb hr => ?_, fun b hb hr => ?_, O.sh, fun a ha => (O.nr a ha).app (ok_norel hgu.evs a)⟩
    · rcases hr with hr | hr
      · exact O.d1 b hb hr
      · have := O.lt b (O.sub b hb)
        omega
    · rcases hb with hb | hb
      · exact O.d2 b hb hr
      · have := O.lt b hr
        omega
  have heq : ∀ {fi : Foot}, OwnF G ft fi w t S → ∀ b, fi.rd b → w'.heap[b]? = w.heap[b]? := fun O b hb => hgu.heap b (O.lt b hb) fun hw => O.d2 b hw hb
  have nw : ∀ {op : MemOp} {a : Touch}, op ∈ MemOp.ofEvents 0 g.frame.fn g.frame.place es → op.act.touch? = some a → locBlk a.loc ≠ some G.wg := fun hop ha e => by
    obtain ⟨ev, he, rfl⟩ := Go.Conc.mem_ofEvents hop
    obtain ⟨bl, e1, e2, _⟩ := evOk_touch (hgu.evs ev he) ha
    rw [e1] at e
    cases e
    exact I.nwg e2
  refine { base := ⟨hgu.tape.trans I.base.tape, hgu.os.trans I.base.os, hgu.output.trans I.base.output, Nat.le_trans I.base.size hsz⟩, lt := fun b hb => ?_, sub := fun b hb => ?_, nwg := fun hr => ?_, tagw := I.tagw, grp := ⟨st, sm, at_of_block hat hwe, hph⟩, hears := by rw [hdf]; exact I.hears, ipos := I.ipos, wk := ?_, old := fun j y hj hy hnj => ?_, above := fun j hj => ?_, clean := fun said => I.known.noRace (I.clean said) hgu.evs, known := I.known.own hgu.evs I.seen, done := fun j a ha hm => ?_, over := over_app I.over fun op hop => .inr (.inl (mem_g hop)), quiet := fun j a ha hb hk => ?_, late := fun j a hj hg ha hs => ?_, seen := ?_, shun := fun b hS => ⟨fun hr => ?_, Nat.lt_of_lt_of_le (I.shun b hS).2.1 hsz, (I.shun b hS).2.2⟩, norel := fun a ha => ?_, acq := fun h => (I.acq h).app _ }
  · rcases hb with hb | hb
    · exact Nat.lt_of_lt_of_le (I.lt b hb) hsz
    · exact hb.2
  · rcases hb with hb | hb
    · exact .inl (I.sub b hb)
    · exact .inr hb
  · rcases hr with hr | hr
    · exact I.nwg hr
    · omega
  · have hwk := I.wk
    cases ws with
    | none => trivial
    | way wi fi b =>
      obtain ⟨y, h1, h2, h3, h4, h5, h6⟩ := hwk
      exact ⟨y, moved_put hi0 h1 (woken_run h3.1), by rw [hdf]; exact h2, h3, h4.trans ⟨heq h5, hsz, hgu.tape, hgu.os, hgu.output⟩, own h5, h6.other hgu.evs h5.d2 h5.d1⟩
    | sit s m v fi =>
      obtain ⟨a1, a2, y, h1, h2, h3, h4, h5, h6⟩ := hwk
      refine ⟨a1, a2, y, moved_put hi0 h1 (h2.woken _ _ _), by rw [hdf]; exact h2.rely ⟨fun b hb => by omega, fun ⟨st, sm, h⟩ => ⟨st, sm, hwe.trans h⟩, fun h => (by obtain ⟨cs, hc, hz⟩ := h; exact ⟨cs, (heq h3 _ h4).trans hc, hz⟩), ConcN.cell_of_block (heq h3 _ h4) _⟩, own h3, h4, G.keep w _ _ (heq h3) h5, fun e => (h6 e).appOther (fun op hop => mem_g hop) hi0⟩
    | gone n fi =>
      obtain ⟨y, h1, h2, h3, h4, h5⟩ := hwk
      exact ⟨y, moved_put hi0 h1 (woken_quitsD h2), by rw [hdf]; exact h2, own h3, G.keep w _ _ (heq h3) h4, h5.appOther (fun op hop => mem_g hop) hi0⟩
  · obtain ⟨z, hz, rfl⟩ := moved_get (by omega) hy
    have hqz := I.old j z hj hz hnj
    rw [woken_quitsD hqz, hdf]
    exact hqz
  · rw [hdf]
    exact I.above j (by simpa using hj)
  · rcases touch_app ha with ⟨_, h⟩ | ⟨op, hop, hg, h⟩
    · exact (I.done j a h hm).imp (·.app _) fun h => h.imp (fun h => ⟨h.1, g_app h.2⟩) id
    · have := knows_own hg
      rw [mem_g hop] at this
      exact .inl this
  · rcases touch_app ha with ⟨_, h⟩ | ⟨op, hop, hg, h⟩
    · obtain ⟨a1, a2⟩ := I.quiet j a h hb hk
      exact ⟨a1.app _, fun hp hn => (a2 hp hn).app _⟩
    · exact absurd hb (nw hop h)
  · rcases touch_app ha with ⟨hlt', h⟩ | ⟨op, hop, hg', h⟩
    · refine I.late j a hj ?_ h hs
      unfold Trace.g? at hg ⊢
      rw [getElem?_append_old hlt'] at hg
      exact hg
    · unfold Trace.g? at hg
      rw [hg'] at hg
      simp [mem_g hop] at hg
      omega
  · exact seen_app (fun op hop => MemAct.low_mono hsz (I.seen op hop)) fun op hop => MemAct.low_mono hsz (low_events hgu.evs I.lt op hop)
  · rcases hr with hr | hr
    · exact (I.shun b hS).1 hr
    · have := (I.shun b hS).2.1
      omega
  · refine NoRelease.app ?_ (ok_norel hgu.evs a)
    rcases ha with (ha | ha) | ha
    · exact I.norel a (.inl ha)
    · exact norel_fresh I.seen ha.1
    · exact I.norel a (.inr ha)
theorem JG.closed (P : Program) (W0 : World) (Post : Value → World → Prop) (G : Grp) : Closed P true (JG P W0 Post G) where
  rely := fun h hr gs w₂ sl t i r q ws S hrel h0 I => h gs w₂ sl t i r q ws S (hr.trans hrel) h0 I
  step := fun hrun h => JG.main hrun fun gs w₁ sl t i r q ws S hrel h0 I => by
    obtain ⟨g', w', es, hgo, hr', hgu, hJ⟩ := h w₁ hrel
    refine ⟨_, _, runT_crowd_go (P := P) (sl := sl) (i := 0) h0 (show stepG P (0 == 0) _ w₁ = _ from hgo), ?_⟩
    exact hJ _ w' sl _ i r q ws S (RelyW.refl _ _) (moved_own h0) (I.main h0 hgu)
end
end Go.Proofs.Ythnccaajpdnndaa
namespace Go.Proofs.Ythnccaajpdnndaa
open Go.Conc
def Crew.more (T : Crew) (k : Nat) : Crew := { T with pend := T.pend ++ [k] }
def Foot.lend (ft : Foot) : Foot := ⟨ft.rd, fun _ => False, ft.tag⟩
section
variable {P : Program} {W0 : World} {Post : Value → World → Prop} {T : Crew} {g g0 : Goroutine} {w w₁ w' : World} {ft : Foot} {gs gs' : Array Goroutine} {t : Trace} {st st' : Nat → WS} {ix : Nat → Nat} {i k : Nat} {sl : Option (Nat × Nat)}
def hired (c : Nat) (f0 : FuncId) (p0 : String) (f1 : FuncId) (p1 : String) : Trace := #[{ g := 0, fn := f0, pos := p0, act := .go c }, { g := c, fn := f1, pos := p1, act := .start }]
theorem hired_quiet (c : Nat) (f0 : FuncId) (p0 : String) (f1 : FuncId) (p1 : String) (g : Nat) : ∀ op ∈ hired c f0 p0 f1 p1, ∀ d, deafStep g d op = d := by
  intro op hop d
  simp only [hired, List.mem_toArray, List.mem_cons, List.not_mem_nil, or_false] at hop
  rcases hop with rfl | rfl <;> rfl
theorem hired_mute (c : Nat) (f0 : FuncId) (p0 : String) (f1 : FuncId) (p1 : String) : ∀ op ∈ hired c f0 p0 f1 p1, op.act.touch? = none := by
  intro op hop
  simp only [hired, List.mem_toArray, List.mem_cons, List.not_mem_nil, or_false] at hop
  rcases hop with rfl | rfl <;> rfl
theorem hired_low (c : Nat) (f0 : FuncId) (p0 : String) (f1 : FuncId) (p1 : String) (n : Nat) : ∀ op ∈ hired c f0 p0 f1 p1, op.act.low n := by
  intro op hop
  simp only [hired, List.mem_toArray, List.mem_cons, List.not_mem_nil, or_false] at hop
  rcases hop with rfl | rfl <;> trivial
theorem Inv.hire (I : Inv P W0 T ft gs w t st ix) (hlt0 : 0 < gs.size) (hk : k ∉ T.pend) (hown : T.ch T.c = some (0, #[], false)) {g' child : Goroutine} (hto : Toward P (AtSend P T.c (T.phi k)) child w ft.lend) (f0 : FuncId) (p0 : String) (f1 : FuncId) (p1 : String) :
    Inv P W0 (T.more k) ft.lend ((gs.setIfInBounds 0 g').push child) w (t ++ hired gs.size f0 p0 f1 p1) (putAt st gs.size (.way w ft.lend)) (putAt ix k gs.size) := by
  have hd := fun j => Deaf_quiet (t := t) (hired_quiet gs.size f0 p0 f1 p1 j)
  have hmu := hired_mute gs.size f0 p0 f1 p1
  have hix : ∀ l ∈ T.pend, putAt ix k gs.size l = ix l := fun l hl => putAt_ne _ _ fun e => hk (e ▸ hl)
  have hmem : ∀ {l}, l ∈ (T.more k).pend → l ∈ T.pend ∨ l = k := fun hl => by simpa [Crew.more] using hl
  have hget : ∀ l ∈ T.pend, ((gs.setIfInBounds 0 g').push child)[ix l]? = gs[ix l]? := fun l hl => by
    have := I.ixr l hl
    rw [Array.getElem?_push_lt (by simpa using this.2), Array.getElem_setIfInBounds (by simpa using this.2), if_neg (by omega), Array.getElem?_eq_getElem this.2]
  have hst : ∀ l ∈ T.pend, putAt st gs.size (.way w ft.lend) (ix l) = st (ix l) := fun l hl => putAt_ne _ _ (by have := I.ixr l hl; omega)
  have hkn : putAt ix k gs.size k = gs.size := putAt_self _ _ _
  have e0 : (t ++ hired gs.size f0 p0 f1 p1)[t.size]? = some { g := 0, fn := f0, pos := p0, act := .go gs.size } := by simp [hired]
  have e1 : (t ++ hired gs.size f0 p0 f1 p1)[t.size + 1]? = some { g := gs.size, fn := f1, pos := p1, act := .start } := by simp [hired]
  have edge : HappensBefore (t ++ hired gs.size f0 p0 f1 p1) t.size (t.size + 1) :=
    Relation.TransGen.single (.inr ⟨.spawn (act?_of e0) (act?_of e1) (g?_of e1), ⟨0, g?_of e0, by rw [deaf_old (Nat.le_refl _)]; exact I.hears⟩, ⟨gs.size, g?_of e1, by rw [deaf_quiet (hired_quiet gs.size f0 p0 f1 p1 gs.size) 1 (by simp [hired])]; exact I.above _ (Nat.le_refl _)⟩⟩)
  refine { base := I.base, lt := I.lt, sub := fun _ h => h.elim, chan := I.chan, cnt := I.cnt, chft := I.chft, own := fun _ => hown, nd := ?_, ixr := fun l hl => ?_, inj := fun a ha b hb e => ?_, pnd := fun l hl => ?_, old := fun j y hj hy hnj => ?_, disj := fun a ha b hb hab wa fa wb fb x1 x2 => ?_, above := fun j hj => ?_, hears := by rw [hd]; exact I.hears, clean := fun said => noRace_appendMute (I.clean said) hmu, known := (I.known.less (f' := ft.lend) (fun _ h => h) (fun _ h => h.elim)).mute hmu, done := fun j a ha hm => ?_, seen := seen_app I.seen (hired_low _ _ _ _ _ _) }
  · show (T.pend ++ [k]).Nodup
    rw [List.nodup_append]
    exact ⟨I.nd, by simp, fun a ha b hb => by simp at hb; subst hb; exact fun e => hk (e ▸ ha)⟩
  · rcases hmem hl with h | rfl
    · rw [hix l h]
      have := I.ixr l h
      exact ⟨this.1, by simp; omega⟩
    · rw [hkn]
      exact ⟨hlt0, by simp⟩
  · rcases hmem ha with h | rfl <;> rcases hmem hb with h' | rfl
    · rw [hix a h, hix b h'] at e
      exact I.inj a h b h' e
    · rw [hix a h, hkn] at e
      have := I.ixr a h
      omega
    · rw [hix b h', hkn] at e
      have := I.ixr b h'
      omega
    · rfl
  · rcases hmem hl with h | rfl
    · rw [hix l h, hget l h, hst l h, hd]
      obtain ⟨y, h1, h2, h3⟩ := I.pnd l h
      exact ⟨y, h1, h2, h3.imp (fun ⟨wl, fl, e, V⟩ => ⟨wl, fl, e, V.way, V.rely, V.lt, V.sub, V.ch, V.d1, fun _ h => h.elim, V.know.mute hmu⟩) id⟩
    · rw [hkn, hd, putAt_self]
      refine ⟨child, by rw [Array.getElem?_push, if_pos (by simp)], I.above _ (Nat.le_refl _), .inl ⟨w, _, rfl, hto, RelyW.refl _ _, I.lt, fun _ h => h.elim, I.chft, fun _ h => h.elim, fun _ h => h.elim, fun j a ha hm => ?_⟩⟩
      rcases touch_app ha with ⟨_, h⟩ | ⟨op, hop, _, h⟩
      · rcases I.known j a h hm with hh | hh
        · exact .inl ⟨t.size + 1, _, e1, rfl, .inr ((hh.hb_new (Nat.le_refl _) e0 rfl).trans edge)⟩
        · exact .inr fun b hb => ⟨fun h => h.elim, (hh b hb).2⟩
      · rw [hmu op hop] at h; cases h
  · have hjs : j ≠ gs.size := fun e => hnj k (by simp [Crew.more]) (by rw [hkn]; exact e.symm)
    have hlt : j < gs.size := by
      have := (Array.getElem?_eq_some_iff.1 hy).1
      simp at this
      omega
    rw [Array.getElem?_push_lt (by simpa using hlt), Array.getElem_setIfInBounds (by simpa using hlt), if_neg (by omega), ← Array.getElem?_eq_getElem hlt] at hy
    obtain ⟨n, e, hq⟩ := I.old j y hj hy fun l hl e => hnj l (by simp [Crew.more, hl]) (by rw [hix l hl]; exact e)
    exact ⟨n, by rw [putAt_ne _ _ hjs]; exact e, by rw [hd]; exact hq⟩
  · rcases hmem ha with h | rfl <;> rcases hmem hb with h' | rfl
    · rw [hix a h, hst a h] at x1
      rw [hix b h', hst b h'] at x2
      exact I.disj a h b h' hab wa fa wb fb x1 x2
    · rw [hix a h, hst a h] at x1
      rw [hkn, putAt_self] at x2
      cases x2
      obtain ⟨y, _, _, h3⟩ := I.pnd a h
      rcases h3 with ⟨wl, fl, e, V⟩ | ⟨e, _⟩
      · rw [e] at x1
        cases x1
        exact V.d1
      · rw [e] at x1
        cases x1
    · rw [hkn, putAt_self] at x1
      cases x1
      exact fun _ h => h.elim
    · exact absurd rfl hab
  · rw [hd]
    exact I.above j (by simp at hj; omega)
  · rcases done_mute (ix := ix) I.done hmu j a ha hm with h | ⟨l, hl, e⟩
    · exact .inl h
    · exact .inr ⟨l, by simp [Crew.more, hl], by rw [hix l hl]; exact e⟩
theorem JC.spawn (hrun : g.status = .running) (hk : k ∉ T.pend) (hown : T.ch T.c = some (0, #[], false))
    (h : ∀ w₁, RelyW ft w w₁ → ∃ g' child, stepG P true g w₁ = .spawn g' child w₁ #[] ∧ Toward P (AtSend P T.c (T.phi k)) child w₁ ft.lend ∧ JC P W0 Post (T.more k) g' w₁ ft.lend) : JC P W0 Post T g w ft :=
  JC.main hrun fun gs w₁ sl t st ix hrel h0 I => by
    obtain ⟨g', child, hgo, hto, hJ⟩ := h w₁ hrel
    have hlt0 : 0 < gs.size := (Array.getElem?_eq_some_iff.1 h0).1
    refine ⟨_, _, runT_crowd_spawn (P := P) (sl := sl) (i := 0) h0 (show stepG P (0 == 0) _ w₁ = _ from hgo), ?_⟩
    have e : t ++ ((MemOp.ofEvents 0 g.frame.fn g.frame.place #[]).push { g := 0, fn := g.frame.fn, pos := g.frame.place, act := .go gs.size } |>.push { g := gs.size, fn := child.frame.fn, pos := g.frame.place, act := .start }) = t ++ hired gs.size g.frame.fn g.frame.place child.frame.fn g.frame.place := by
      rw [ofEvents_eq]
      simp [hired]
    rw [e]
    refine hJ _ w₁ sl _ _ _ (RelyW.refl _ _) ?_ (I.hire hlt0 hk hown hto _ _ _ _)
    rw [Array.getElem?_push_lt (by simpa using hlt0), Array.getElem_setIfInBounds (by simpa using hlt0)]
    simp
end
end Go.Proofs.Ythnccaajpdnndaa
namespace Go.Proofs.Ythnccaajpdnndaa
open Go.Conc
open Go.ConcR (Bk stA smA rd wr mk KK)
def Bk3 (wg : Nat) (e : Event) : Prop := Bk wg e ∨ ∃ a : Addr, a.block = wg ∧ (e = Go.ConcR.mk (.read a) ∨ e = Go.ConcR.mk (.write a))
theorem bk3_norel {wg : Nat} {es : Array Event} (he : ∀ e ∈ es, Bk3 wg e) {g : Nat} {fn : FuncId} {pos : String} (a : Addr) : ∀ op ∈ MemOp.ofEvents g fn pos es, op.act ≠ .mark (.release a) := by
  intro op hop e
  obtain ⟨x, hx, rfl⟩ := Go.Conc.mem_ofEvents hop
  rcases he x hx with (h1 | h1 | ⟨y, wr, rfl, _⟩) | ⟨y, _, rfl | rfl⟩
  · simp only [Go.ConcR.ofEvent_loc_mark h1] at e
    cases e
  · simp only [Go.ConcR.ofEvent_loc_mark h1] at e
    cases e
  · cases e
  · cases e
  · cases e
theorem bk3_touch {wg : Nat} {es : Array Event} (he : ∀ e ∈ es, Bk3 wg e) {g : Nat} {fn : FuncId} {pos : String} {op : MemOp} (hop : op ∈ MemOp.ofEvents g fn pos es) {b : Touch} (hb : op.act.touch? = some b) : locBlk b.loc = some wg ∧ b.kind ≠ .plain := by
  obtain ⟨x, hx, rfl⟩ := Go.Conc.mem_ofEvents hop
  rcases he x hx with (h1 | h1 | ⟨y, wr, rfl, hy⟩) | ⟨y, hy, rfl | rfl⟩
  · simp only [Go.ConcR.ofEvent_loc_mark h1] at hb
    cases hb
  · simp only [Go.ConcR.ofEvent_loc_mark h1] at hb
    cases hb
  · simp only [Go.ConcR.ofEvent_cell, MemAct.touch?, Option.some.injEq] at hb
    subst hb
    exact ⟨by show some y.block = _; rw [hy], by simp⟩
  · simp only [MemAct.ofEvent, Go.ConcR.mk, MemAct.touch?, Option.some.injEq] at hb
    subst hb
    exact ⟨by show some y.block = _; rw [hy], by simp⟩
  · simp only [MemAct.ofEvent, Go.ConcR.mk, MemAct.touch?, Option.some.injEq] at hb
    subst hb
    exact ⟨by show some y.block = _; rw [hy], by simp⟩
theorem bk3_low {wg n : Nat} {es : Array Event} (he : ∀ e ∈ es, Bk3 wg e) (hn : wg < n) {g : Nat} {fn : FuncId} {pos : String} : ∀ op ∈ MemOp.ofEvents g fn pos es, op.act.low n := by
  intro op hop
  obtain ⟨x, hx, rfl⟩ := Go.Conc.mem_ofEvents hop
  rcases he x hx with (h1 | h1 | ⟨y, wr, rfl, hy⟩) | ⟨y, hy, rfl | rfl⟩
  · simp only [Go.ConcR.ofEvent_loc_mark h1]
    trivial
  · simp only [Go.ConcR.ofEvent_loc_mark h1]
    trivial
  · simp only [Go.ConcR.ofEvent_cell]
    show y.block < n
    rw [hy]
    exact hn
  · show y.block < n
    rw [hy]
    exact hn
  · show y.block < n
    rw [hy]
    exact hn
theorem conf_quiet {said : Bool} {a b : Touch} (h : a.conflicts said b) (hb : b.kind ≠ .plain) : a.kind ≠ .atomic := by
  obtain ⟨_, _, _, h | h | ⟨_, h, _⟩⟩ := h
  · rw [h]; simp
  · exact absurd h hb
  · rw [h]; simp
section
variable {P : Program} {W0 : World} {Post : Value → World → Prop} {G : Grp} {g g0 : Goroutine} {w w₁ w' : World} {ft : Foot} {gs gs' : Array Goroutine} {t : Trace} {i r : Nat} {q q' : Nat → Nat} {ws ws' : WkS} {S : Nat → Prop} {sl : Option (Nat × Nat)}
theorem GInv.act (I : GInv P W0 G ft gs w t i r q ws S) (h0 : gs[0]? = some g) {g' : Goroutine} {es : Array Event} {x' : Nat} {st' sm' : Int} (A : Aside G.wg w w') (hat : G.at_ w' st' sm') (hbk : ∀ e ∈ es, Bk3 G.wg e) (hx : x' < 32 ∧ (x' = 12 → ft.tag % 32 = 12))
    (hd : deafBehind (deafX (ft.tag % 32)) es = deafX x') (hph : Phase x' ws.stage st' sm') :
    GInv P W0 G { ft with tag := x' + 32 * G.wg } ((gs.map (woken P g g' w')).setIfInBounds 0 g') w' (t ++ MemOp.ofEvents 0 g.frame.fn g.frame.place es) i r q ws S := by
  letI pl : ConcR.Payload := ⟨0⟩
  have hdo : ∀ j, 0 ≠ j → Deaf (t ++ MemOp.ofEvents 0 g.frame.fn g.frame.place es) j = Deaf t j := fun j hj => Deaf_other t hj _ (fun op hop => mem_g hop)
  have hi0 : (0 : Nat) ≠ i := Nat.ne_of_lt I.ipos
  obtain ⟨_, _, hat0, _⟩ := I.grp
  have hwl := at_lt hat0
  have e1 : (x' + 32 * G.wg) / 32 = G.wg := by omega
  have e2 : (x' + 32 * G.wg) % 32 = x' := by omega
  have own : ∀ {fi : Foot}, OwnF G ft fi w t S → OwnF G { ft with tag := x' + 32 * G.wg } fi w' (t ++ MemOp.ofEvents 0 g.frame.fn g.frame.place es) S := fun O =>
    ⟨by rw [A.size]; exact O.lt, O.sub, O.grp, O.d1, O.d2, O.sh, fun a ha => (O.nr a ha).app (bk3_norel hbk a)⟩
  have heq : ∀ {fi : Foot}, OwnF G ft fi w t S → ∀ b, fi.rd b → w'.heap[b]? = w.heap[b]? := fun O b hb => A.block b fun e => O.grp (e ▸ hb)
  refine { base := ⟨A.tape.trans I.base.tape, A.os.trans I.base.os, A.output.trans I.base.output, by rw [A.size]; exact I.base.size⟩, lt := by rw [A.size]; exact I.lt, sub := I.sub, nwg := I.nwg, tagw := e1, grp := ⟨st', sm', hat, by rw [e2]; exact hph⟩, hears := by rw [Deaf_own, I.hears, hd]; show _ = deafX ((x' + 32 * G.wg) % 32); rw [e2], ipos := I.ipos, wk := ?_, old := fun j y hj hy hn => ?_, above := fun j hj => ?_, clean := fun said => noRace_append (I.clean said) (fun op hop => mem_g hop) fun k a ha op hop b hb hc => ?_, known := fun j a ha hm => ?_, done := fun j a ha hm => ?_, over := over_app I.over fun op hop => .inr (.inl (mem_g hop)), quiet := fun j a ha hb hk => ?_, late := fun j a hj hg ha hst => ?_, seen := ?_, shun := by rw [A.size]; exact I.shun, norel := fun a ha => (I.norel a ha).app (bk3_norel hbk a), acq := fun h => (I.acq (hx.2 (e2.symm.trans h))).app _ }
  · have hwk := I.wk
    cases ws with
    | none => trivial
    | way wi fi b =>
      obtain ⟨y, h1, h2, h3, h4, h5, h6⟩ := hwk
      refine ⟨y, moved_put hi0 h1 (woken_run h3.1), by rw [hdo _ hi0]; exact h2, h3, h4.trans ⟨heq h5, Nat.le_of_eq A.size.symm, A.tape, A.os, A.output⟩, own h5, fun j a ha hm => ?_⟩
      rcases touch_app ha with ⟨_, h⟩ | ⟨op, hop, _, h⟩
      · exact (h6 j a h hm).imp (·.app _) id
      · refine .inr fun b hb => ?_
        rw [(bk3_touch hbk hop h).1] at hb
        cases hb
        exact ⟨fun hw => h5.grp (h5.sub _ hw), fun _ hr => h5.grp hr⟩
    | sit s m v fi =>
      obtain ⟨a1, a2, y, h1, h2, h3, h4, h5, h6⟩ := hwk
      refine ⟨a1, a2, y, moved_put hi0 h1 (h2.woken _ _ _), by rw [hdo _ hi0]; exact h2.rely ⟨fun b hb => by omega, fun _ => ⟨_, _, hat⟩, fun h => (by obtain ⟨cs, hc, hz⟩ := h; exact ⟨cs, (heq h3 _ h4).trans hc, hz⟩), ConcN.cell_of_block (heq h3 _ h4) _⟩, own h3, h4, G.keep w _ _ (heq h3) h5, fun e => (h6 e).appOther (fun op hop => mem_g hop) hi0⟩
    | gone n fi =>
      obtain ⟨y, h1, h2, h3, h4, h5⟩ := hwk
      exact ⟨y, moved_put hi0 h1 (woken_quitsD h2), by rw [hdo _ hi0]; exact h2, own h3, G.keep w _ _ (heq h3) h4, h5.appOther (fun op hop => mem_g hop) hi0⟩
  · obtain ⟨z, hz, rfl⟩ := moved_get (by omega) hy
    have hqz := I.old j z hj hz hn
    rw [woken_quitsD hqz, hdo _ (by omega)]
    exact hqz
  · have h0' : 0 < gs.size := (Array.getElem?_eq_some_iff.1 h0).1
    rw [hdo _ (by simp at hj; omega)]
    exact I.above j (by simpa using hj)
  · obtain ⟨h1, h2⟩ := bk3_touch hbk hop hb
    exact (I.quiet k a ha (by rw [hc.1]; exact h1) (conf_quiet hc h2)).1
  · rcases touch_app ha with ⟨_, h⟩ | ⟨op, hop, hg, h⟩
    · exact (I.known j a h hm).imp (·.app _) id
    · have := knows_own hg
      rw [mem_g hop] at this
      exact .inl this
  · rcases touch_app ha with ⟨_, h⟩ | ⟨op, hop, hg, h⟩
    · exact (I.done j a h hm).imp (·.app _) fun h => h.imp (fun h => ⟨h.1, g_app h.2⟩) id
    · have := knows_own hg
      rw [mem_g hop] at this
      exact .inl this
  · rcases touch_app ha with ⟨_, h⟩ | ⟨op, hop, hg, h⟩
    · obtain ⟨a1, a2⟩ := I.quiet j a h hb hk
      exact ⟨a1.app _, fun hp hn => (a2 hp hn).app _⟩
    · have := knows_own hg
      rw [mem_g hop] at this
      exact ⟨this, fun hp => absurd hp (bk3_touch hbk hop h).2⟩
  · rcases touch_app ha with ⟨hlt', h⟩ | ⟨op, hop, hg', h⟩
    · refine I.late j a hj ?_ h hst
      unfold Trace.g? at hg ⊢
      rw [getElem?_append_old hlt'] at hg
      exact hg
    · unfold Trace.g? at hg
      rw [hg'] at hg
      simp [mem_g hop] at hg
      omega
  · rw [A.size]
    exact seen_app I.seen (bk3_low hbk hwl)
theorem JG.act (hrun : g.status = .running) (h : ∀ w₁ s st sm, RelyW ft w w₁ → ft.tag / 32 = G.wg → ¬ ft.rd G.wg → G.at_ w₁ st sm → Phase (ft.tag % 32) s st sm → ∃ (g' : Goroutine) (w' : World) (es : Array Event) (st' sm' : Int) (x' : Nat), stepG P true g w₁ = .go g' w' es ∧ Aside G.wg w₁ w' ∧ G.at_ w' st' sm' ∧ (∀ e ∈ es, Bk3 G.wg e) ∧ (x' < 32 ∧ (x' = 12 → ft.tag % 32 = 12)) ∧
      deafBehind (deafX (ft.tag % 32)) es = deafX x' ∧ Phase x' s st' sm' ∧ JG P W0 Post G g' w' { ft with tag := x' + 32 * G.wg }) : JG P W0 Post G g w ft :=
  JG.main hrun fun gs w₁ sl t i r q ws S hrel h0 I => by
    obtain ⟨st, sm, hat, hph⟩ := I.grp
    obtain ⟨g', w', es, st', sm', x', hgo, A, hat', hbk, hx, hd, hph', hJ⟩ := h w₁ ws.stage st sm hrel I.tagw I.nwg hat hph
    refine ⟨_, _, runT_crowd_go (P := P) (sl := sl) (i := 0) h0 (show stepG P (0 == 0) _ w₁ = _ from hgo), ?_⟩
    exact hJ _ w' sl _ i r q ws S (RelyW.refl _ _) (moved_own h0) (I.act h0 A hat' hbk hx hd hph')
theorem measG_congr (h : ws ≠ .none → gs'[i]? = gs[i]?) : measG gs' i q ws = measG gs i q ws := by
  funext j
  by_cases hj : j = 0
  · subst hj
    rw [measG_zero, measG_zero]
  · by_cases hji : ws = .none ∨ j ≠ i
    · rw [measG_other hj hji, measG_other hj hji]
    · have hn : ws ≠ .none := fun e => hji (.inl e)
      obtain rfl : j = i := by
        by_cases e : j = i
        · exact e
        · exact absurd (.inr e) hji
      have e := h hn
      unfold measG
      rw [if_neg hj, if_neg hj, Array.getD_eq_getD_getElem?, Array.getD_eq_getD_getElem?, e]
theorem tries_again (hs : g.status = .running) (ho : g.offers = none) (w : World) : ({ g with status := .blocked } : Goroutine).again w = g := by
  obtain ⟨fr, cs, stt, dy, off⟩ := g
  simp only at hs ho
  subst hs ho
  simp [Goroutine.again]
theorem GInv.runs (I : GInv P W0 G ft gs w t i r q ws S) (h1 : ws.stage ≠ 1) (h9 : ws.stage ≠ 9) : ∃ y, gs[i]? = some y ∧ y.status = .running := by
  letI pl : ConcR.Payload := ⟨0⟩
  cases ws with
  | none => exact absurd rfl h9
  | way wi fi b =>
    obtain ⟨y, a, _, h3, _⟩ := I.wk
    exact ⟨y, a, h3.1⟩
  | sit s m v fi =>
    obtain ⟨h2, h6, y, a, h3, _⟩ := I.wk
    refine ⟨y, a, ?_⟩
    rcases h3 with ⟨_, _, h3⟩ | ⟨h6', h3⟩
    · exact Goes.running (fun _ _ x => x.1) w (ConcN.RW.refl w) h3
    generalize Deaf t i = d at h3
    cases h3 with
    | r0 h => omega
    | k1 h => exact Goes.running (fun _ _ x => x.1) w (ConcN.RW.refl w) h
    | d1 h => exact Goes.running (fun _ _ x => x.1) w (ConcN.RW.refl w) h
    | d2 h => exact Goes.running (fun _ _ x => x.1) w (ConcN.RW.refl w) h
    | d3 h => exact Goes.running (fun _ _ x => x.1) w (ConcN.RW.refl w) h
    | d4 h => exact Goes.running (fun _ _ x => x.1) w (ConcN.RW.refl w) h
    | quit h => omega
  | gone n fi => exact absurd rfl h1
theorem JG.sema (hrun : g.status = .running) (hoff : g.offers = none) (e9 : ft.tag % 32 = 9) (hwait : ∀ w₁ st, RelyW ft w w₁ → ft.tag / 32 = G.wg → G.at_ w₁ st 0 → stepG P true g w₁ = .go { g with status := .blocked } w₁ #[])
    (hgo : ∀ w₁, RelyW ft w w₁ → ft.tag / 32 = G.wg → ¬ ft.rd G.wg → G.at_ w₁ 0 1 → ∃ g', stepG P true g w₁ = .go g' (w₁.setCell (smA G.wg) (.int .u32 0)) (semEvents (smA G.wg)) ∧ JG P W0 Post G g' (w₁.setCell (smA G.wg) (.int .u32 0)) { ft with tag := 10 + 32 * G.wg }) : JG P W0 Post G g w ft := by
  have hself : ft.tag / 32 = G.wg → ({ ft with tag := 9 + 32 * G.wg } : Foot) = ft := fun h => by
    have : 9 + 32 * G.wg = ft.tag := by omega
    rw [this]
  have nine : ∀ {s : Nat} {st sm : Int}, Phase 9 s st sm → s ≠ 9 ∧ ((s ≠ 1 ∧ sm = 0) ∨ (s = 1 ∧ st = 0 ∧ sm = 1)) := by
    intro s st sm h
    cases h with
    | opened h => omega
    | added h => omega
    | run a b _ _ => omega
    | out a b c => exact absurd rfl c
    | reg a b =>
      refine ⟨?_, .inl ⟨by omega, rfl⟩⟩
      intro e
      omega
    | low h => exact ⟨by omega, .inl ⟨by omega, rfl⟩⟩
    | last => exact ⟨by omega, .inl ⟨by omega, rfl⟩⟩
    | freed => exact ⟨by omega, .inr ⟨rfl, rfl, rfl⟩⟩
  have all : ∀ (M : Nat → Goroutine × WkS) (n : Nat), Acc (Less (KLt P G) n) M → ∀ (b : Bool) (gs : Array Goroutine) (w₁ : World) (sl : Option (Nat × Nat)) (t : Trace) (i r : Nat) (q : Nat → Nat) (ws : WkS) (S : Nat → Prop), RelyW ft w w₁ → gs.size = n → measG gs i q ws = M →
      gs[0]? = some (if b = true then { g with status := .blocked } else g) → (b = true → ws.stage ≠ 1) → GInv P W0 G ft gs w₁ t i r q ws S → Ends P Post (crowd gs w₁ sl) t := by
    intro M n hacc
    induction hacc with
    | intro M _ ih =>
      have blk : ∀ (gs : Array Goroutine) (w₁ : World) (sl : Option (Nat × Nat)) (t : Trace) (i r : Nat) (q : Nat → Nat) (ws : WkS) (S : Nat → Prop), RelyW ft w w₁ → gs.size = n → measG gs i q ws = M →
          gs[0]? = some { g with status := .blocked } → ws.stage ≠ 1 → GInv P W0 G ft gs w₁ t i r q ws S → Ends P Post (crowd gs w₁ sl) t := by
        intro gs w₁ sl t i r q ws S hrel hn hM h0 h1 I
        obtain ⟨st, sm, hat, hph⟩ := I.grp
        rw [e9] at hph
        obtain ⟨y, hy, hyr⟩ := I.runs h1 (nine hph).1
        obtain ⟨j, x, d, sl', hj, hx, hst⟩ := crowd_pick (P := P) (w := w₁) (sl := sl) (I.awake h0 (.inr rfl)) ⟨i, y, hy, hyr⟩
        have hpos : 0 < j := by
          rcases Nat.eq_zero_or_pos j with rfl | h
          · rw [h0] at hj
            cases hj
            cases hx
          · exact h
        have hj0 : (j == 0) = false := by simp; omega
        obtain ⟨g', w', es, r', q', ws', hst', hrel', I', hl, hwk⟩ := (I.at d).other hpos hj hx
        subst hM hn
        refine Ends.next (hst.trans (runT_crowd_go (P := P) (sl := sl') hj (by rw [hj0]; exact hst'))) ?_
        have h0' : ((gs.map (woken P x g' w')).setIfInBounds j g')[0]? = some (woken P x g' w' { g with status := .blocked }) := by
          rw [Array.getElem?_setIfInBounds_ne (by omega), Array.getElem?_map, h0]
          rfl
        by_cases hcond : (mayWake P x && g'.status != .blocked && g'.status != .waiting) = true
        · have hw : woken P x g' w' { g with status := .blocked } = g := by
            unfold woken
            rw [if_pos hcond]
            exact tries_again hrun hoff w'
          rw [hw] at h0'
          exact ih _ hl false _ w' sl' _ i r' q' ws' S ((hrel.trans (relyW_at ft w₁ d)).trans hrel') (by simp) rfl h0' (fun e => by cases e) I'
        · have hw : woken P x g' w' { g with status := .blocked } = { g with status := .blocked } := by
            unfold woken
            rw [if_neg hcond]
          rw [hw] at h0'
          refine ih _ hl true _ w' sl' _ i r' q' ws' S ((hrel.trans (relyW_at ft w₁ d)).trans hrel') (by simp) rfl h0' (fun _ e => ?_) I'
          obtain ⟨a1, a2⟩ := hwk e9 h1 e
          exact hcond (by simp [a1, a2])
      intro b gs w₁ sl t i r q ws S hrel hn hM h0 hb I
      cases b with
      | true => exact blk gs w₁ sl t i r q ws S hrel hn hM h0 (hb rfl) I
      | false =>
        have h0 : gs[0]? = some g := h0
        obtain ⟨j, x, d, sl', hj, hx, hst⟩ := crowd_pick (P := P) (w := w₁) (sl := sl) (I.awake h0 (.inl hrun)) ⟨0, g, h0, hrun⟩
        rcases Nat.eq_zero_or_pos j with rfl | hpos
        · obtain rfl : x = g := by rw [h0] at hj; exact (Option.some.inj hj).symm
          have Id := I.at d
          have hreld := hrel.trans (relyW_at ft w₁ d)
          obtain ⟨st, sm, hat, hph⟩ := Id.grp
          have hph9 := hph
          rw [e9] at hph9
          rcases (nine hph9).2 with ⟨h1, rfl⟩ | ⟨h1, rfl, rfl⟩
          · have hgo' := hwait (w₁.at d) st hreld Id.tagw hat
            refine Ends.next (hst.trans (runT_crowd_go (P := P) (sl := sl') (i := 0) h0 (show stepG P (0 == 0) _ (w₁.at d) = _ from hgo'))) ?_
            have Ia := Id.act h0 (g' := { x with status := .blocked }) (es := #[]) (x' := 9) (.refl _ _) hat (by simp) ⟨by omega, fun e => by omega⟩ (by rw [e9]; rfl) hph9
            rw [hself Id.tagw] at Ia
            subst hM hn
            have hid : ∀ o, woken P x { x with status := .blocked } (w₁.at d) o = o := fun o => by
              unfold woken
              simp
            refine blk _ (w₁.at d) sl' _ i r q ws S hreld (by simp) (measG_congr fun hne => ?_) (moved_own h0) h1 Ia
            have hip := I.ipos
            rw [Array.getElem?_setIfInBounds_ne (by omega), Array.getElem?_map]
            cases gs[i]? with
            | none => rfl
            | some o => rw [Option.map_some, hid]
          · obtain ⟨g', hgo', hJ⟩ := hgo (w₁.at d) hreld Id.tagw Id.nwg hat
            refine Ends.next (hst.trans (runT_crowd_go (P := P) (sl := sl') (i := 0) h0 (show stepG P (0 == 0) _ (w₁.at d) = _ from hgo'))) ?_
            refine hJ _ _ sl' _ i r q ws S (RelyW.refl _ _) (moved_own h0) (Id.act h0 (aside_setCell (w₁.at d) (smA G.wg) _) (st' := 0) (sm' := 0) (Go.ConcR.WgAt.setSm hat 0) (fun e he => .inl ?_) ⟨by omega, fun e => by omega⟩ (by rw [e9]; simp [deafBehind, semEvents, deafX]) (by rw [h1]; exact .out (by omega) (by omega) (by omega)))
            simp [semEvents] at he
            rcases he with rfl | rfl | rfl | rfl
            · exact .inl rfl
            · exact ConcN.bk_cell _ _ rfl
            · exact ConcN.bk_cell _ _ rfl
            · exact .inr (.inl rfl)
        · have hj0 : (j == 0) = false := by simp; omega
          obtain ⟨g', w', es, r', q', ws', hst', hrel', I', hl, _⟩ := (I.at d).other hpos hj hx
          subst hM hn
          refine Ends.next (hst.trans (runT_crowd_go (P := P) (sl := sl') hj (by rw [hj0]; exact hst'))) (ih _ hl false _ w' sl' _ i r' q' ws' S ((hrel.trans (relyW_at ft w₁ d)).trans hrel') (by simp) rfl ?_ (fun e => by cases e) I')
          exact moved_put (by omega) h0 (woken_run hrun)
  intro gs w₁ sl t i r q ws S hrel h0 I
  exact all _ _ I.acc false gs w₁ sl t i r q ws S hrel rfl rfl h0 (fun e => by cases e) I
theorem GInv.hire {fi ft' : Foot} (I : GInv P W0 G ft gs w t i r q ws S) (h4 : ft.tag % 32 = 4) (hlt0 : 0 < gs.size) (hir : ∀ b, fi.rd b → ft.rd b) (his : ∀ b, fi.wr b → fi.rd b) (hiw : ∀ b, fi.wr b → ft.wr b) (hmr : ∀ b, ft'.rd b → ft.rd b) (hms : ∀ b, ft'.wr b → ft'.rd b) (hmw : ∀ b, ft'.wr b → ft.wr b) (d1 : ∀ b, fi.wr b → ¬ ft'.rd b) (d2 : ∀ b, ft'.wr b → ¬ fi.rd b) (h5 : ft'.tag = ft.tag + 1)
    {g' child : Goroutine} {b : Bool} (hto : TW P (AtDone P G) b child w fi) (f0 : FuncId) (p0 : String) (f1 : FuncId) (p1 : String) :
    GInv P W0 G ft' ((gs.setIfInBounds 0 g').push child) w (t ++ hired gs.size f0 p0 f1 p1) gs.size 0 q (.way w fi b) S := by
  have hd := fun j => Deaf_quiet (t := t) (hired_quiet gs.size f0 p0 f1 p1 j)
  have hmu := hired_mute gs.size f0 p0 f1 p1
  obtain ⟨st, sm, hat, hph⟩ := I.grp
  have htw := I.tagw
  have em : ft.tag % 32 = 4 := h4
  have em' : ft'.tag % 32 = 5 := by omega
  rw [em] at hph
  have hwn : ws = .none ∧ st = 4294967296 ∧ sm = 0 := by
    generalize hz : ws.stage = z at hph
    cases hph with
    | opened h => omega
    | added h =>
      refine ⟨?_, rfl, rfl⟩
      cases ws with
      | none => rfl
      | way => cases hz
      | sit s m v fi =>
        have h6 := I.wk.2.1
        have : s = 9 := hz
        omega
      | gone => cases hz
    | run a b _ _ => omega
    | out a b c => omega
  obtain ⟨rfl, rfl, rfl⟩ := hwn
  have e0 : (t ++ hired gs.size f0 p0 f1 p1)[t.size]? = some { g := 0, fn := f0, pos := p0, act := .go gs.size } := by simp [hired]
  have e1 : (t ++ hired gs.size f0 p0 f1 p1)[t.size + 1]? = some { g := gs.size, fn := f1, pos := p1, act := .start } := by simp [hired]
  have hears : Deaf t 0 = 0 := by rw [I.hears, em]; rfl
  have edge : HappensBefore (t ++ hired gs.size f0 p0 f1 p1) t.size (t.size + 1) :=
    Relation.TransGen.single (.inr ⟨.spawn (act?_of e0) (act?_of e1) (g?_of e1), ⟨0, g?_of e0, by rw [deaf_old (Nat.le_refl _)]; exact hears⟩, ⟨gs.size, g?_of e1, by rw [deaf_quiet (hired_quiet gs.size f0 p0 f1 p1 gs.size) 1 (by simp [hired])]; exact I.above _ (Nat.le_refl _)⟩⟩)
  have kn : ∀ {j}, Knows t 0 j → Knows (t ++ hired gs.size f0 p0 f1 p1) gs.size j := fun hh => ⟨t.size + 1, _, e1, rfl, .inr ((hh.hb_new (Nat.le_refl _) e0 rfl).trans edge)⟩
  have old : ∀ {j : Nat} {a : Touch}, touchAt (t ++ hired gs.size f0 p0 f1 p1) j = some a → j < t.size ∧ touchAt t j = some a := fun {j a} ha => by
    rcases touch_app ha with h | ⟨op, hop, _, h⟩
    · exact h
    · rw [hmu op hop] at h; cases h
  have hnr : ∀ a : Addr, ∀ op ∈ hired gs.size f0 p0 f1 p1, op.act ≠ .mark (.release a) := fun a op hop e => by
    simp only [hired, List.mem_toArray, List.mem_cons, List.not_mem_nil, or_false] at hop
    rcases hop with rfl | rfl <;> cases e
  refine { base := I.base, lt := fun b hb => I.lt b (hmr b hb), sub := hms, nwg := fun h => I.nwg (hmr _ h), tagw := by omega, grp := ⟨_, _, hat, by rw [em']; exact .run (by omega) (by omega) (by show 5 ≤ 8; omega) (by show 8 ≤ 8; omega)⟩, hears := by rw [hd, hears, em']; rfl, ipos := hlt0, wk := ?_, old := fun j y hj hy hn => ?_, above := fun j hj => ?_, clean := fun said => noRace_appendMute (I.clean said) hmu, known := (I.known.less hmr hmw).mute hmu, done := fun j a ha hm => ?_, over := ?_, quiet := fun j a ha hb hk => ?_, late := fun _ _ _ _ _ hs => ?_, seen := seen_app I.seen (hired_low _ _ _ _ _ _), shun := fun b hS => ⟨fun h => (I.shun b hS).1 (hmr b h), (I.shun b hS).2⟩, norel := fun a ha => (I.norel a (ha.imp (hmr _) id)).app (hnr a), acq := fun h => by omega }
  · refine ⟨child, by rw [Array.getElem?_push, if_pos (by simp)], by rw [hd]; exact I.above _ (Nat.le_refl _), hto, RelyW.refl _ _, ⟨fun b hb => I.lt b (hir b hb), his, fun h => I.nwg (hir _ h), d1, d2, fun b hS h => (I.shun b hS).1 (hir b h), fun a ha => (I.norel a (.inl (hir _ ha))).app (hnr a)⟩, fun j a ha hm => ?_⟩
    obtain ⟨_, h⟩ := old ha
    rcases I.known j a h hm with hh | hh
    · exact .inl (kn hh)
    · exact .inr fun b hb => ⟨fun hw => (hh b hb).1 (hiw b hw), fun hw hr => (hh b hb).2 hw (hir b hr)⟩
  · have hjs : j ≠ gs.size := hn.resolve_left (by simp)
    have hlt : j < gs.size := by
      have := (Array.getElem?_eq_some_iff.1 hy).1
      simp at this
      omega
    rw [Array.getElem?_push_lt (by simpa using hlt), Array.getElem_setIfInBounds (by simpa using hlt), if_neg (by omega), ← Array.getElem?_eq_getElem hlt] at hy
    rw [hd]
    exact I.old j y hj hy (.inl rfl)
  · rw [hd]
    exact I.above j (by simp at hj; omega)
  · obtain ⟨_, h⟩ := old ha
    rcases I.done j a h hm with h | ⟨h, _⟩ | h
    · exact .inl (h.app _)
    · exact absurd rfl h
    · exact .inr (.inr h)
  · exact over_app (Q := fun x => WkS.way w fi b ≠ .none ∧ x = gs.size) (fun j x h1 h2 h3 => (I.over j x h1 h2 h3).imp id fun h => absurd rfl h.1) fun op hop => .inl (hmu op hop)
  · obtain ⟨_, h⟩ := old ha
    have := (I.quiet j a h hb hk).1
    exact ⟨this.app _, fun _ _ => kn this⟩
  · have : (8 : Nat) ≤ 6 := hs
    omega
theorem JG.spawn {fi ft' : Foot} (hrun : g.status = .running) (h4 : ft.tag % 32 = 4) (hir : ∀ b, fi.rd b → ft.rd b) (his : ∀ b, fi.wr b → fi.rd b) (hiw : ∀ b, fi.wr b → ft.wr b) (hmr : ∀ b, ft'.rd b → ft.rd b) (hms : ∀ b, ft'.wr b → ft'.rd b) (hmw : ∀ b, ft'.wr b → ft.wr b) (d1 : ∀ b, fi.wr b → ¬ ft'.rd b) (d2 : ∀ b, ft'.wr b → ¬ fi.rd b) (h5 : ft'.tag = ft.tag + 1)
    (h : ∀ w₁, RelyW ft w w₁ → ∃ g' child, stepG P true g w₁ = .spawn g' child w₁ #[] ∧ Toward P (AtDone P G) child w₁ fi ∧ JG P W0 Post G g' w₁ ft') : JG P W0 Post G g w ft :=
  JG.main hrun fun gs w₁ sl t i r q ws S hrel h0 I => by
    obtain ⟨g', child, hgo, hto, hJ⟩ := h w₁ hrel
    obtain ⟨b, hto⟩ := toward_tw hto
    have hlt0 : 0 < gs.size := (Array.getElem?_eq_some_iff.1 h0).1
    refine ⟨_, _, runT_crowd_spawn (P := P) (sl := sl) (i := 0) h0 (show stepG P (0 == 0) _ w₁ = _ from hgo), ?_⟩
    have e : t ++ ((MemOp.ofEvents 0 g.frame.fn g.frame.place #[]).push { g := 0, fn := g.frame.fn, pos := g.frame.place, act := .go gs.size } |>.push { g := gs.size, fn := child.frame.fn, pos := g.frame.place, act := .start }) = t ++ hired gs.size g.frame.fn g.frame.place child.frame.fn g.frame.place := by
      rw [ofEvents_eq]
      simp [hired]
    rw [e]
    refine hJ _ w₁ sl _ _ _ _ _ S (RelyW.refl _ _) ?_ (I.hire h4 hlt0 hir his hiw hmr hms hmw d1 d2 h5 hto _ _ _ _)
    rw [Array.getElem?_push_lt (by simpa using hlt0), Array.getElem_setIfInBounds (by simpa using hlt0)]
    simp
theorem JG.acquire (hrun : g.status = .running) (em : ft.tag % 32 = 11) (h : ∀ w₁, RelyW ft w w₁ → ft.tag / 32 = G.wg → (∃ st sm, G.at_ w₁ st sm) → ∃ g', stepG P true g w₁ = .go g' w₁ #[Go.ConcR.mk (.acquire (stA G.wg))] ∧ JG P W0 Post G g' w₁ { ft with tag := ft.tag + 1 }) : JG P W0 Post G g w ft :=
  JG.main hrun fun gs w₁ sl t i r q ws S hrel h0 I => by
    letI pl : ConcR.Payload := ⟨0⟩
    obtain ⟨st, sm, hat, hph⟩ := I.grp
    have htw := I.tagw
    rw [em] at hph
    have hst : ws.stage = 1 ∧ st = 0 ∧ sm = 0 := by
      generalize ws.stage = z at hph
      cases hph with
      | opened h => omega
      | added h => omega
      | run a b _ _ => omega
      | out a b c => exact ⟨rfl, rfl, rfl⟩
    obtain ⟨hst, rfl, rfl⟩ := hst
    have hwl := at_lt hat
    have hears : Deaf t 0 = 0 := by rw [I.hears, em]; rfl
    have hg : ∃ n fi, ws = .gone n fi := by
      cases ws with
      | none => cases hst
      | way => cases hst
      | sit s m v fi =>
        have h2 := I.wk.1
        have : s = 1 := hst
        omega
      | gone n fi => exact ⟨n, fi, rfl⟩
    obtain ⟨n, fi, rfl⟩ := hg
    obtain ⟨y, hy, hq, O, hphi, hrb⟩ := I.wk
    obtain ⟨g', hgo, hJ⟩ := h w₁ hrel htw ⟨_, _, hat⟩
    refine ⟨_, _, runT_crowd_go (P := P) (sl := sl) (i := 0) h0 (show stepG P (0 == 0) _ w₁ = _ from hgo), ?_⟩
    have hev : MemOp.ofEvents 0 g.frame.fn g.frame.place #[Go.ConcR.mk (.acquire (stA G.wg))] = #[{ g := 0, fn := g.frame.fn, pos := g.frame.place, act := .mark (.acquire (stA G.wg)) }] := by
      rw [ofEvents_eq]
      simp [Go.ConcR.ofEvent_mk]
    rw [hev]
    have hmu : ∀ op ∈ (#[{ g := 0, fn := g.frame.fn, pos := g.frame.place, act := .mark (.acquire (stA G.wg)) }] : Trace), op.act.touch? = none := fun op hop => by
      simp at hop
      subst hop
      rfl
    have hg0 : ∀ op ∈ (#[{ g := 0, fn := g.frame.fn, pos := g.frame.place, act := .mark (.acquire (stA G.wg)) }] : Trace), op.g = 0 := fun op hop => by
      simp at hop
      subst hop
      rfl
    have hqu : ∀ j, ∀ op ∈ (#[{ g := 0, fn := g.frame.fn, pos := g.frame.place, act := .mark (.acquire (stA G.wg)) }] : Trace), ∀ d, deafStep j d op = d := fun j op hop d => by
      simp at hop
      subst hop
      rfl
    generalize hu : (#[{ g := 0, fn := g.frame.fn, pos := g.frame.place, act := .mark (.acquire (stA G.wg)) }] : Trace) = u at hmu hg0 hqu
    have eq0 : (t ++ u)[t.size]? = some { g := 0, fn := g.frame.fn, pos := g.frame.place, act := .mark (.acquire (stA G.wg)) } := by
      rw [← hu]
      simp
    have hd := fun j => Deaf_quiet (t := t) (hqu j)
    have hnr0 : ∀ a : Addr, ∀ op ∈ u, op.act ≠ .mark (.release a) := fun a op hop e => by
      rw [← hu] at hop
      simp at hop
      subst hop
      cases e
    have hrlt := lt_of_act? hrb.act
    have hq' : (t ++ u).act? t.size = some (.mark (.acquire (stA G.wg))) := act?_of eq0
    have hheard : (t ++ u).heard t.size := ⟨0, g?_of eq0, by rw [deaf_old (Nat.le_refl _)]; exact hears⟩
    have old : ∀ {j : Nat} {a : Touch}, touchAt (t ++ u) j = some a → j < t.size ∧ touchAt t j = some a := fun {j a} ha => by
      rcases touch_app ha with h | ⟨op, hop, _, h⟩
      · exact h
      · rw [hmu op hop] at h; cases h
    have og : ∀ {j x : Nat}, j < t.size → (t ++ u).g? j = some x → t.g? j = some x := fun {j x} hlt h => by
      unfold Trace.g? at h ⊢
      rw [getElem?_append_old hlt] at h
      exact h
    have em' : (ft.tag + 1) % 32 = 12 := by omega
    refine hJ _ w₁ sl _ i r q (.gone n fi) S (RelyW.refl _ _) (moved_own h0) { base := I.base, lt := I.lt, sub := I.sub, nwg := I.nwg, tagw := by show (ft.tag + 1) / 32 = G.wg; omega, grp := ⟨0, 0, hat, by show Phase ((ft.tag + 1) % 32) 1 0 0; rw [em']; exact .out (by omega) (by omega) (by omega)⟩, hears := by show _ = deafX ((ft.tag + 1) % 32); rw [hd, em']; exact hears, ipos := I.ipos, wk := ?_, old := fun j z hj hz hn => ?_, above := fun j hj => ?_, clean := fun said => noRace_appendMute (I.clean said) hmu, known := I.known.mute hmu, done := fun j a ha hm => ?_, over := over_app I.over fun op hop => .inl (hmu op hop), quiet := fun j a ha hb hk => ?_, late := fun j a hj hg ha hs => ?_, seen := seen_app I.seen fun op hop => ?_, shun := I.shun, norel := fun a ha => (I.norel a ha).app (hnr0 a), acq := fun _ => ⟨t.size, hq', g?_of eq0, hheard, hrlt⟩ }
    · exact ⟨y, moved_put (Nat.ne_of_lt I.ipos) hy (woken_quitsD hq), by rw [hd]; exact hq, ⟨O.lt, O.sub, O.grp, O.d1, O.d2, O.sh, fun a ha => (O.nr a ha).app (hnr0 a)⟩, hphi, hrb.appOther hg0 (Nat.ne_of_lt I.ipos)⟩
    · obtain ⟨z', hz', rfl⟩ := moved_get (by omega) hz
      have := I.old j z' hj hz' hn
      rw [woken_quitsD this, hd]
      exact this
    · rw [hd]
      exact I.above j (by simpa using hj)
    · obtain ⟨_, h⟩ := old ha
      exact (I.done j a h hm).imp (·.app _) fun h => h.imp (fun h => ⟨h.1, g_app h.2⟩) id
    · obtain ⟨_, h⟩ := old ha
      obtain ⟨a1, a2⟩ := I.quiet j a h hb hk
      exact ⟨a1.app _, fun hp hn => (a2 hp hn).app _⟩
    · obtain ⟨hlt, h⟩ := old ha
      exact I.late j a hj (og hlt hg) h hs
    · rw [← hu] at hop
      simp at hop
      subst hop
      exact hwl
theorem JG.last (em : ft.tag % 32 = 12)
    (h : ∀ w₁ fi, RelyW ft w w₁ → ¬ ft.rd G.wg → ¬ fi.rd G.wg → G.phi w₁ fi → (∀ b, fi.rd b → b < w₁.heap.size) → (∀ b, fi.wr b → fi.rd b) → (∀ b, fi.wr b → ¬ ft.rd b) → (∀ b, ft.rd b → b < w₁.heap.size) → ∃ f' : Foot, (∀ b, f'.rd b → ft.rd b ∨ fi.rd b) ∧ (∀ b, f'.wr b → f'.rd b) ∧ J2 P W0 Post g w₁ f') : JG P W0 Post G g w ft := by
  intro gs w₁ sl t i r q ws S hrel h0 I
  obtain ⟨st, sm, hat, hph⟩ := I.grp
  rw [em] at hph
  have hst : ws.stage = 1 := by
    generalize ws.stage = z at hph
    cases hph with
    | opened h => omega
    | added h => omega
    | run a b _ _ => omega
    | out a b c => rfl
  have hwl := at_lt hat
  have hears : Deaf t 0 = 0 := by rw [I.hears, em]; rfl
  have hg : ∃ n fi, ws = .gone n fi := by
    cases ws with
    | none => cases hst
    | way => cases hst
    | sit s m v fi =>
      have h2 := I.wk.1
      have : s = 1 := hst
      omega
    | gone n fi => exact ⟨n, fi, rfl⟩
  obtain ⟨n, fi, rfl⟩ := hg
  obtain ⟨y, hy, hq, O, hphi, hrb⟩ := I.wk
  obtain ⟨k, hk1, hk2, hk3, hrk⟩ := I.acq em
  obtain ⟨zk, hzk, hzg⟩ : ∃ z, t[k]? = some z ∧ z.g = 0 := by
    unfold Trace.g? at hk2
    exact Option.map_eq_some_iff.1 hk2
  obtain ⟨f', hfr, hfs, hJ⟩ := h w₁ fi hrel I.nwg O.grp hphi O.lt O.sub O.d1 I.lt
  have hnr := I.norel (stA G.wg) (.inr rfl)
  have edge : HappensBefore t r k := .single (.inr ⟨.marked hrk (.inr hrb.act) hk1 (fun k _ _ => hnr k), hrb.heard, hk3⟩)
  have hb : ∀ {j}, t.g? j = some i → j ≤ r → HappensBefore t j k := fun {j} hgj hjr => by
    rcases Nat.lt_or_ge j r with hlt | hge
    · exact .trans (.single (.inl ⟨hlt, i, hgj, hrb.g⟩)) edge
    · obtain rfl : j = r := by omega
      exact edge
  refine hJ gs w₁ sl t (fun j => if j = i then n else q j) (fun b => S b ∨ b = G.wg) (fun b hbr => (hfr b hbr).elim (I.lt b) (O.lt b)) hfs (RelyW.refl _ _) I.base h0 ⟨fun j z hj hz => ?_, I.above⟩ ⟨⟨I.clean, fun j a ha hm => ?_, fun j x hgj hne hc => ?_, hears, I.seen⟩, fun b hS => ?_, fun a ha => ?_⟩
  · by_cases e : j = i
    · subst e
      rw [hy] at hz
      cases hz
      rw [if_pos rfl]
      exact hq
    · rw [if_neg e]
      exact I.old j z hj hz (.inr e)
  · rcases I.done j a ha hm with h1 | ⟨_, h1⟩ | ⟨⟨b, e1, e2⟩, e3⟩
    · exact .inl h1
    · rcases Nat.lt_or_ge r j with hrj | hjr
      · obtain ⟨e1, e2⟩ := I.late j a hrj h1 ha (by show 1 ≤ 6; omega)
        exact .inr ⟨⟨G.wg, e1, .inr rfl⟩, e2⟩
      · exact .inl ⟨k, zk, hzk, hzg, .inr (hb h1 hjr)⟩
    · exact .inr ⟨⟨b, e1, .inl e2⟩, e3⟩
  · rcases I.over j x hgj hne hc with h1 | ⟨_, rfl⟩
    · exact h1
    · exact ⟨k, hk2, hb hgj (Nat.le_of_not_lt fun hlt' => hrb.after j hlt' hgj hc)⟩
  · rcases hS with hS | rfl
    · exact ⟨fun hr => (hfr b hr).elim (I.shun b hS).1 (O.sh b hS), (I.shun b hS).2.1⟩
    · exact ⟨fun hr => (hfr _ hr).elim I.nwg O.grp, hwl⟩
  · exact (hfr _ ha).elim (fun h => I.norel a (.inl h)) (O.nr a)
end
end Go.Proofs.Ythnccaajpdnndaa
namespace Go.Proofs.Ythnccaajpdnndaa
open Go.Conc Go.Proofs.Try
open Go.ConcR (Bk stA smA rd wr mk KK)
section
variable {P : Program} {W0 : World} {Post : Value → World → Prop} {G : Grp} {w : World} {h : List AObj} {K : Value → List AObj → Prop} {g : FuncId} {fn : Func} {e : Array Value → Go.Sem Value} {args : List Value} {p x : Nat} {main : Bool}
  {cargs : List Value} {b : FB} {a : Act} {ops : Array Oper} {i : Nat} {rest : List Nat} {o : Oper} {k : List Item} {cs : List Frame}
theorem RunsX.of {α : Type} {s : Go.Sem α} {v : α} {w' : World} {es : List Event} (h1 : s.run P w = .ok v w') (h2 : ∀ acc, s.events P w acc = acc ++ es.toArray) : RunsX P s w v w' es := fun acc => by
  rw [Sem.runT_eq, h1, h2]
structure GrpAt (h : List AObj) (p x : Nat) : Prop where
  here : h[p]? = some (.group x)
  one : ∀ (q z : Nat), h[q]? = some (.group z) → q = p
  lt : x < 32
theorem GrpAt.set {y : Nat} (hg : GrpAt h p x) (hy : y < 32) : GrpAt (h.set p (.group y)) p y := by
  refine ⟨by rw [List.getElem?_set_self (List.getElem?_eq_some_iff.1 hg.here).1], fun q z hq => ?_, hy⟩
  rcases set_get hq with ⟨rfl, _, _⟩ | ⟨_, hq⟩
  · rfl
  · exact hg.one q z hq
theorem Phase.at_opened {s : Nat} {st sm : Int} (h : Phase x s st sm) (hx : x = 1 ∨ x = 2) : s = 9 ∧ st = 0 ∧ sm = 0 := by
  cases h with
  | opened _ => exact ⟨rfl, rfl, rfl⟩
  | added h => omega
  | run a b _ _ => omega
  | out a b c => omega
  | reg _ _ => omega
  | low _ => omega
  | last => omega
  | freed => omega
theorem Phase.at_added {s : Nat} {st sm : Int} (h : Phase x s st sm) (hx : x = 3 ∨ x = 4) : s = 9 ∧ st = 4294967296 ∧ sm = 0 := by
  cases h with
  | opened h => omega
  | added h => exact ⟨rfl, rfl, rfl⟩
  | run a b _ _ => omega
  | out a b c => omega
  | reg _ _ => omega
  | low _ => omega
  | last => omega
  | freed => omega
theorem Phase.at_run {s : Nat} {st sm : Int} (h : Phase x s st sm) (hx : 5 ≤ x ∧ x ≤ 7) : sm = 0 ∧ ((5 ≤ s ∧ s ≤ 8 ∧ st = 4294967296) ∨ (s = 1 ∧ st = 0)) := by
  cases h with
  | opened h => omega
  | added h => omega
  | run a b c d => exact ⟨rfl, .inl ⟨c, d, rfl⟩⟩
  | out a b c => exact ⟨rfl, .inr ⟨rfl, rfl⟩⟩
  | reg _ _ => omega
  | low _ => omega
  | last => omega
  | freed => omega
theorem Phase.at_out {s : Nat} {st sm : Int} (h : Phase x s st sm) (hx : x = 8 ∨ (10 ≤ x ∧ x ≤ 13)) : s = 1 ∧ st = 0 ∧ sm = 0 := by
  cases h with
  | opened h => omega
  | added h => omega
  | run a b c d => omega
  | out a b c => exact ⟨rfl, rfl, rfl⟩
  | reg _ _ => omega
  | low _ => omega
  | last => omega
  | freed => omega
theorem Phase.bump {s y : Nat} {st sm : Int} (h : Phase x s st sm) (hx : (x = 1 ∧ y = 2) ∨ (x = 3 ∧ (y = 3 ∨ y = 4)) ∨ (x = 5 ∧ y = 6) ∨ (x = 8 ∧ y = 11) ∨ (x = 10 ∧ (y = 10 ∨ y = 11)) ∨ x = y) : Phase y s st sm := by
  by_cases e : x = y
  · exact e ▸ h
  by_cases h1 : x = 1
  · obtain ⟨rfl, rfl, rfl⟩ := h.at_opened (.inl h1)
    exact .opened (by omega)
  by_cases h3 : x = 3
  · obtain ⟨rfl, rfl, rfl⟩ := h.at_added (.inl h3)
    exact .added (by omega)
  by_cases h5 : x = 5
  · obtain ⟨rfl, ⟨a, b, rfl⟩ | ⟨rfl, rfl⟩⟩ := h.at_run (by omega)
    · exact .run (by omega) (by omega) a b
    · exact .out (by omega) (by omega) (by omega)
  · obtain ⟨rfl, rfl, rfl⟩ := h.at_out (by omega)
    exact .out (by omega) (by omega) (by omega)
theorem ptr_arg {ρ : Env} {o : Nat} {c : Value} {n : Nat} (hv : VRel n ρ (ptr p o) c) : c = .pointer (some ⟨ρ.blk p, o, none⟩) := by
  rcases hv with e | ⟨_, e⟩
  · cases e
  · rw [e]
    rfl
theorem fine_arg {ρ : Env} {v c : Value} {n : Nat} (hv : VRel n ρ v c) (h0 : VOk 0 v) (hu : v ≠ unk) : c = v := by
  rcases hv with e | ⟨_, e⟩
  · exact absurd e hu
  · rw [e, ren0 v h0]
theorem one_of {l : List Value} (h : l.length = 1) : l = [l.getD 0 undef] := by
  match l, h with
  | [a], _ => rfl
theorem two_of {l : List Value} (h : l.length = 2) : l = [l.getD 0 undef, l.getD 1 undef] := by
  match l, h with
  | [a, b], _ => rfl
end
section
variable {W0 : World} {Post : Value → World → Prop} {G : Grp} {w : World} {h : List AObj} {K : Value → List AObj → Prop} {p x : Nat}
theorem bk3_mark {wg : Nat} (m : Mark) (hm : m = .disable ∨ m = .enable) : ∀ y ∈ [(⟨.mark m, false, true⟩ : Event)], Bk3 wg y := by
  intro y hy
  simp at hy
  subst hy
  rcases hm with rfl | rfl
  · exact .inl (.inl rfl)
  · exact .inl (.inr (.inl rfl))
theorem bk3_read {wg : Nat} {a : Addr} (ha : a.block = wg) (m : Mark) (hm : m = .read a ∨ m = .write a) : ∀ y ∈ [(⟨.mark m, false, true⟩ : Event)], Bk3 wg y := by
  intro y hy
  simp at hy
  subst hy
  rcases hm with rfl | rfl
  · exact .inr ⟨a, ha, .inl rfl⟩
  · exact .inr ⟨a, ha, .inr rfl⟩
theorem bk3_cell {wg : Nat} {l : List Event} {ad : Addr} (ha : ad.block = wg) (h : ∀ y ∈ l, ∃ wr, y = ⟨.cell ad, wr, true⟩) : ∀ y ∈ l, Bk3 wg y := fun y hy => by
  obtain ⟨wr, rfl⟩ := h y hy
  exact .inl (ConcN.bk_cell _ _ ha)
theorem cells1 (ad : Addr) : ∀ y ∈ [(⟨.cell ad, false, true⟩ : Event)], ∃ wr, y = ⟨.cell ad, wr, true⟩ := fun y hy => ⟨false, by simpa using hy⟩
theorem cells2 (ad : Addr) : ∀ y ∈ [(⟨.cell ad, false, true⟩ : Event), ⟨.cell ad, true, true⟩], ∃ wr, y = ⟨.cell ad, wr, true⟩ := fun y hy => by
  simp at hy
  rcases hy with rfl | rfl
  · exact ⟨_, rfl⟩
  · exact ⟨_, rfl⟩
end
end Go.Proofs.Ythnccaajpdnndaa
namespace Go.Proofs.Ythnccaajpdnndaa
open Go.Conc Go.Conc.Lib Go.Proofs.Try
abbrev wgLink : WgLink := { add := 74, done := 76, wait := 80, relMerge := 104, disable := 105, enable := 106, inBubble := 107, associate := 108, fatal := 109, uOr := 110, uAdd := 111, raceRead := 112, uLoad := 113, uStore := 114, disassociate := 115, semrelease := 116, acquire := 119, isAssociated := 120, uCas := 121, raceWrite := 122, semacquire := 123, orU64 := 134, addU64 := 135, loadU64 := 136, storeU64 := 137, casU64 := 138, tWgP := 136, tUP := 138, tAssoc := 139, tWg := 100, tAU := 97, tU64 := 83, tUint := 135, tU32 := 98, tPU32 := 143, tPAU := 170, tPU64 := 172, tNoCopy := 93, tANoCopy := 94, tAlign64 := 95 }
set_option maxRecDepth 100000
theorem wgLib : WgLib prog wgLink := by
  constructor <;> first | kernel_rfl | (intro w; kernel_rfl)
end Go.Proofs.Ythnccaajpdnndaa
namespace Go.Proofs.Ythnccaajpdnndaa
open Go.Conc Go.ConcN Go.ConcN.Gen Go.RowKit Go.Conc.Lib Go.ConcR.Gen Go.Proofs.Try
open Go.ConcR (Bk stA smA rd wr mk KK Payload DC0 WgAt)
section
variable {P : Program} {ty : TypeId} {wg F : Nat} {v : Value}
def AtDis (P : Program) (g : Goroutine) (_w : World) : Prop := g.status = .running ∧ ∃ g' w', stepG P false g _w = .go g' w' #[mk .disable]
def AtRel0 (P : Program) (R : World → World → Prop) (wg : Nat) (g : Goroutine) (w : World) : Prop := g.status = .running ∧ ∃ g', stepG P false g w = .go g' w #[mk (.releaseMerge (stA wg))] ∧ ∃ m, Goes P false R DC0 (AtDis P) m g' w
theorem goes_clash [Payload] : ∀ (m n : Nat) (g : Goroutine) (w : World), Goes P false (RW ty wg F 0 0 0) (DWs wg noPl noPl F 0 1) (AtR0 P ty wg F 0 0 1 v) n g w → Goes P false (RW ty wg F 0 0 0) DC0 (AtDis P) m g w → False := by
  intro m
  induction m with
  | zero =>
    intro n g w A B
    obtain ⟨_, g', w', hst⟩ := B w (RW.refl w)
    rcases Goes.cases A with hs | ⟨n', rfl, hs⟩
    · obtain ⟨_, _, g2, h2, _⟩ := hs w (RW.refl w)
      rw [hst] at h2
      simp [mk] at h2
    · obtain ⟨g2, w2, es, h2, ⟨_, hd⟩, _⟩ := hs w (RW.refl w)
      rw [hst] at h2
      cases h2
      exact (hd (mk .disable) (by simp)).2.1 rfl
  | succ m ih =>
    intro n g w A B
    rcases Goes.cases B with hb | ⟨m', e, hb⟩
    · obtain ⟨_, g', w', hst⟩ := hb w (RW.refl w)
      rcases Goes.cases A with hs | ⟨n', rfl, hs⟩
      · obtain ⟨_, _, g2, h2, _⟩ := hs w (RW.refl w)
        rw [hst] at h2
        simp [mk] at h2
      · obtain ⟨g2, w2, es, h2, ⟨_, hd⟩, _⟩ := hs w (RW.refl w)
        rw [hst] at h2
        cases h2
        exact (hd (mk .disable) (by simp)).2.1 rfl
    · cases e
      obtain ⟨g', w', es, hst, ⟨rfl, rfl⟩, hb'⟩ := hb w (RW.refl w)
      rcases Goes.cases A with hs | ⟨n', rfl, hs⟩
      · obtain ⟨_, _, g2, h2, _⟩ := hs w' (RW.refl w')
        rw [hst] at h2
        simp [mk] at h2
      · obtain ⟨g2, w2, es, h2, _, hA'⟩ := hs w' (RW.refl w')
        rw [hst] at h2
        cases h2
        exact ih n' g' w' hA' hb'
theorem goes_both {G : Grp} [pl : Payload] (hpl : pl = ⟨0⟩) : ∀ (m n : Nat) (g : Goroutine) (w : World), Goes P false (RW G.ty G.wg G.F 0 0 0) (DWs G.wg noPl noPl G.F 0 1) (AtR0 P G.ty G.wg G.F 0 0 1 v) n g w →
    Goes P false (RW G.ty G.wg G.F 0 0 0) DC0 (AtRel0 P (RW G.ty G.wg G.F 0 0 0) G.wg) m g w → Goes P false (RW G.ty G.wg G.F 0 0 0) DC0 (AtR P G v) m g w := by
  subst hpl
  letI pl : Payload := ⟨0⟩
  have tr : ∀ a b c, RW G.ty G.wg G.F 0 0 0 a b → RW G.ty G.wg G.F 0 0 0 b c → RW G.ty G.wg G.F 0 0 0 a c := fun _ _ _ h1 h2 => h1.trans h2
  have fin : ∀ (n : Nat) (g : Goroutine) (w : World), Goes P false (RW G.ty G.wg G.F 0 0 0) (DWs G.wg noPl noPl G.F 0 1) (AtR0 P G.ty G.wg G.F 0 0 1 v) n g w → AtRel0 P (RW G.ty G.wg G.F 0 0 0) G.wg g w → AtR P G v g w := by
    intro n g w A ⟨hr, g', hst, m2, hB⟩
    refine ⟨hr, g', hst, ?_⟩
    rcases Goes.cases A with hs | ⟨n', rfl, hs⟩
    · obtain ⟨_, _, g2, h2, m3, hk⟩ := hs w (RW.refl w)
      rw [hst] at h2
      cases h2
      exact ⟨m3, .k1 hk⟩
    · obtain ⟨g2, w2, es, h2, _, hA'⟩ := hs w (RW.refl w)
      rw [hst] at h2
      cases h2
      exact (goes_clash m2 n' g' w hA' hB).elim
  intro m
  induction m with
  | zero => exact fun n g w A B => fun w₁ h₁ => fin n g w₁ (Goes.rely tr A h₁) (B w₁ h₁)
  | succ m ih =>
    intro n g w A B
    rcases B with hb | ⟨hr, hb⟩
    · exact .inl fun w₁ h₁ => fin n g w₁ (Goes.rely tr A h₁) (hb w₁ h₁)
    · refine .inr ⟨hr, fun w₁ h₁ => ?_⟩
      have hb1 := hb w₁ h₁
      have A1 := Goes.rely tr A h₁
      cases hgo : stepG P false g w₁ with
      | go g' w' es =>
        rw [hgo] at hb1
        simp only [goes_go] at hb1 ⊢
        obtain ⟨⟨rfl, rfl⟩, hb'⟩ := hb1
        refine ⟨⟨rfl, rfl⟩, ?_⟩
        rcases Goes.cases A1 with hs | ⟨n', rfl, hs⟩
        · obtain ⟨_, _, g2, h2, _⟩ := hs w' (RW.refl w')
          rw [hgo] at h2
          simp [mk] at h2
        · obtain ⟨g2, w2, es, h2, _, hA'⟩ := hs w' (RW.refl w')
          rw [hgo] at h2
          cases h2
          exact ih n' g' w' hA' hb'
      | _ => rw [hgo] at hb1; exact hb1.elim
end
section
variable [Payload] {L : WgLink}
set_option maxRecDepth 100000 in
set_option maxHeartbeats 8000000 in
/-- From Done's beginning to the release, and on to 'disable'. -/
theorem done_rel {P : Program} (H : WgLib P L) {wg F : Nat} {val : Value} {cs : List Frame} (w : World) (hK : WgLive L.tWg wg w ∧ Has F 0 val w) :
    Goes P false (RW L.tWg wg F 0 0 0) DC0 (AtRel0 P (RW L.tWg wg F 0 0 0) wg) 23 (Go.Conc.G ((baseD L.done).at ⟨#[.pointer (some ⟨wg, 0, none⟩), undef, undef, undef], []⟩ [.code (body_done L)]) cs) w := by
  lib_facts
  simp only [body_done, doneFn, Option.getD_some]
  u_reg kn_rely hK
  u_op kn_rely hK
  u_in kn_rely hK
  refine goes_call rfl rfl (by k_ne) rfl H.f_add (nm_add L) rfl ⟨by u_nil, ?_⟩
  walk_nrmf addFn
  u_c stepG_seq kn_rely hK
  u_cond true kn_rely hK
  u_c stepG_seq kn_rely hK
  u_c stepG_seq kn_rely hK
  u_reg kn_rely hK
  u_op kn_rely hK
  u_op kn_rely hK
  u_c stepG_region_end kn_rely hK
  u_cond true kn_rely hK
  u_reg kn_rely hK
  u_op kn_rely hK
  u_conv H.underlying_tWgP H.room_tWg (Go.ConcN.Gen.WgLive.cell0 hK.1).choose_spec kn_rely hK
  refine Goes.stop (fun w₁ h₁ => ?_)
  replace hK := kn_rely hK h₁
  clear h₁
  refine ⟨rfl, _, stepG_markAt .releaseMerge (by simp) rfl rfl (by k_ne) rfl H.f_relMerge (x_relMerge_n L) (x_relMerge_b L) (x_relMerge_x L) (x_relMerge_f L) (by simp [Act.eval, stA]), 10, ?_⟩
  walk_nrm
  u_c stepG_region_end kn_rely hK
  u_c stepG_seq kn_rely hK
  u_reg kn_rely hK
  refine Goes.stop (fun w₁ h₁ => ?_)
  exact ⟨rfl, _, _, stepG_mark0 .disable (by simp) rfl rfl (by k_ne) rfl H.f_disable (x_disable_n L) (x_disable_b L) (x_disable_x L) (x_disable_f L)⟩
end
theorem done_stop {G : Grp} (hty : G.ty = wgLink.tWg) {c : Frame} {cs : List Frame} {qt : Nat} (hcm : c.mode = .returning) (hT : QuitsD prog qt 0 (Go.Conc.G c cs)) {w : World} {fi : Foot} {v : Value} (hF : fi.rd G.F) (hphi : G.phi w fi) (hv : G.has v w) :
    AtDone prog G (Go.Conc.G ((baseD wgLink.done).at ⟨#[.pointer (some ⟨G.wg, 0, none⟩), undef, undef, undef], []⟩ [.code (body_done wgLink)]) (c :: cs)) w fi := by
  letI pl : Payload := ⟨0⟩
  refine ⟨rfl, hF, hphi, v, hv, fun w₁ hat hv₁ => ⟨23, ?_⟩⟩
  have hK : WgLive wgLink.tWg G.wg w₁ ∧ Has G.F 0 v w₁ := ⟨by rw [← hty]; exact hat, hv₁⟩
  have A := doneN (L := wgLink) wgLib (Own := noPl) (Rd := noPl) (n := 0) (Low := 0) (k := 1) hcm hT w₁ hK
  have B := done_rel (L := wgLink) wgLib (cs := c :: cs) w₁ hK
  rw [← hty] at A B
  exact goes_both rfl 23 23 _ w₁ A B
section
variable {P : Program} {W0 : World} {Post : Value → World → Prop} {G : Grp} {ρ : Env} {FC : Frm} {h : List AObj} {p x : Nat}
def LiveR (ty : TypeId) (wg : Nat) (w w₁ : World) : Prop := WgLive ty wg w → WgLive ty wg w₁
theorem live_rely {ty : TypeId} {wg : Nat} {w w₁ : World} (h : WgLive ty wg w) (r : LiveR ty wg w w₁) : WgLive ty wg w₁ := r h
theorem JG.goes : ∀ (n : Nat) (g : Goroutine) (w : World) (ft : Foot), WgLive G.ty G.wg w → HRel ρ h FC w ft → Goes P true (LiveR G.ty G.wg) DC0 (fun g w => ∀ ft, WgLive G.ty G.wg w → HRel ρ h FC w ft → JG P W0 Post G g w ft) n g w → JG P W0 Post G g w ft := by
  intro n
  induction n with
  | zero => exact fun g w ft hl H hg => hg w id ft hl H
  | succ n ih =>
    intro g w ft hl H hg
    rcases hg with hs | ⟨hr, hb⟩
    · exact hs w id ft hl H
    · refine JG.act hr fun w₁ s st sm h₁ htw hnw hat hph => ?_
      have hl1 : WgLive G.ty G.wg w₁ := ⟨st, sm, hat⟩
      have hb1 := hb w₁ fun _ => hl1
      cases hgo : stepG P true g w₁ with
      | go g' w' es =>
        rw [hgo] at hb1
        simp only [goes_go] at hb1
        obtain ⟨⟨rfl, rfl⟩, hb'⟩ := hb1
        refine ⟨g', w', #[], st, sm, ft.tag % 32, rfl, .refl _ _, hat, by simp, ⟨Nat.mod_lt _ (by omega), id⟩, rfl, hph, ?_⟩
        have e : ft.tag % 32 + 32 * G.wg = ft.tag := by omega
        rw [e]
        exact ih g' w' ft hl1 (H.rely h₁) hb'
      | _ => rw [hgo] at hb1; exact hb1.elim
theorem JG.there {g : Goroutine} {w : World} {ft : Foot} (hh : ∀ w₁, RelyW ft w w₁ → ft.tag / 32 = G.wg → WgLive G.ty G.wg w₁ → JG P W0 Post G g w₁ ft) : JG P W0 Post G g w ft := by
  intro gs w₁ sl t i r q ws S hrel h0 I
  obtain ⟨st, sm, hat, _⟩ := I.grp
  exact hh w₁ hrel I.tagw ⟨st, sm, hat⟩ gs w₁ sl t i r q ws S (RelyW.refl _ _) h0 I
theorem JG.act_at (hg : GrpAt h p x) {g : Goroutine} {w : World} {ft : Foot} (H : HRel ρ h FC w ft) (hrun : g.status = .running)
    (hs : ∀ w₁ s st sm, ρ.blk p = G.wg → G.at_ w₁ st sm → Phase x s st sm → ∃ (g' : Goroutine) (w' : World) (es : Array Event) (st' sm' : Int) (x' : Nat), stepG P true g w₁ = .go g' w' es ∧ Aside G.wg w₁ w' ∧ G.at_ w' st' sm' ∧ (∀ e ∈ es, Bk3 G.wg e) ∧ (x' < 32 ∧ (x' = 12 → x = 12)) ∧ deafBehind (deafX x) es = deafX x' ∧ Phase x' s st' sm' ∧
      ∀ ft', WgLive G.ty G.wg w' → HRel ρ (h.set p (.group x')) FC w' ft' → JG P W0 Post G g' w' ft') : JG P W0 Post G g w ft := by
  refine JG.act hrun fun w₁ s st sm h₁ htw hnw hat hph => ?_
  have htag := H.tag p x hg.here
  have hlt := hg.lt
  have e1 : ft.tag % 32 = x := by omega
  have e2 : ρ.blk p = G.wg := by omega
  rw [e1] at hph
  obtain ⟨g', w', es, st', sm', x', hgo, A, hat', hbk, hx, hd, hph', hJ⟩ := hs w₁ s st sm e2 hat hph
  refine ⟨g', w', es, st', sm', x', hgo, A, hat', hbk, ⟨hx.1, fun e => e1.trans (hx.2 e)⟩, by rw [e1]; exact hd, hph', hJ _ ⟨st', sm', hat'⟩ ?_⟩
  have H2 := (H.rely h₁).tell hg.here (y := x') hg.one
  rw [e2] at H2
  exact H2.rely ⟨fun b hb => A.block b fun e => hnw (e ▸ hb), Nat.le_of_eq A.size.symm, A.tape, A.os, A.output⟩
theorem bk3_markA {wg : Nat} (m : Mark) (hm : m = .disable ∨ m = .enable) : ∀ y ∈ #[(⟨.mark m, false, true⟩ : Event)], Bk3 wg y := fun y hy => bk3_mark m hm y (by simpa using hy)
theorem bk3_saidA {wg : Nat} (m : Mark) (hm : m = .read ⟨wg, 1, none⟩ ∨ m = .write ⟨wg, 1, none⟩) : ∀ y ∈ #[(⟨.mark m, false, true⟩ : Event)], Bk3 wg y := fun y hy => bk3_read (a := ⟨wg, 1, none⟩) rfl m hm y (by simpa using hy)
theorem bk3_rwA (wg : Nat) : ∀ y ∈ #[(⟨.cell (stA wg), false, true⟩ : Event), ⟨.cell (stA wg), true, true⟩], Bk3 wg y := fun y hy => bk3_cell (ad := stA wg) rfl (cells2 (stA wg)) y (by simpa using hy)
theorem bk3_rA (wg : Nat) : ∀ y ∈ #[(⟨.cell (stA wg), false, true⟩ : Event)], Bk3 wg y := fun y hy => bk3_cell (ad := stA wg) rfl (cells1 (stA wg)) y (by simpa using hy)
set_option maxRecDepth 100000 in
set_option maxHeartbeats 16000000 in
theorem add_walk {L : WgLink} (H : WgLib P L) (hty : G.ty = L.tWg) (hg : GrpAt h p 1) {w : World} {ft : Foot} (HR : HRel ρ h FC w ft) {c : Frame} {cs : List Frame} (hF : WgLive G.ty G.wg w)
    (hc : ∀ w' ft', HRel ρ (h.set p (.group 4)) FC w' ft' → JG P W0 Post G (Go.Conc.G (c.finish (.tuple #[])) cs) w' ft') :
    JG P W0 Post G (Go.Conc.G ((base L.add).at ⟨#[.pointer (some ⟨G.wg, 0, none⟩), .int .i64 1] ++ Array.replicate 115 undef, []⟩ [.code (Go.ConcR.Gen.body_add L)]) (c :: cs)) w ft := by
  letI pl : Payload := ⟨0⟩
  have er : (#[.pointer (some ⟨G.wg, 0, none⟩), .int .i64 1] ++ Array.replicate 115 undef : Array Value) = #[.pointer (some ⟨G.wg, 0, none⟩), .int .i64 1, undef, undef, undef, undef, undef, undef, undef, undef, undef, undef, undef, undef, undef, undef, undef, undef, undef, undef, undef, undef, undef, undef, undef, undef, undef, undef, undef, undef, undef, undef, undef, undef, undef, undef, undef, undef, undef, undef, undef, undef, undef, undef, undef, undef, undef, undef, undef, undef, undef, undef, undef, undef, undef, undef, undef, undef, undef, undef, undef, undef, undef, undef, undef, undef, undef, undef, undef, undef, undef, undef, undef, undef, undef, undef, undef, undef, undef, undef, undef, undef, undef, undef, undef, undef, undef, undef, undef, undef, undef, undef, undef, undef, undef, undef, undef, undef, undef, undef, undef, undef, undef, undef, undef, undef, undef, undef, undef, undef, undef, undef, undef, undef, undef, undef, undef] := by kernel_rfl
  rw [er]
  clear er
  refine JG.goes 100 _ _ ft hF HR ?_
  rw [hty] at *
  lib_facts
  simp only [Go.ConcR.Gen.body_add, addFn, Option.getD_some]
  u_c stepG_seq live_rely hF
  u_cond true live_rely hF
  u_c stepG_seq live_rely hF
  u_c stepG_seq live_rely hF
  u_reg live_rely hF
  u_op live_rely hF
  u_op live_rely hF
  u_c stepG_region_end live_rely hF
  u_cond false live_rely hF
  u_c stepG_skip live_rely hF
  u_c stepG_seq live_rely hF
  u_reg live_rely hF
  refine Goes.stop (fun w₁ _ ft hl HR => ?_)
  refine JG.act_at hg HR rfl fun w₂ s st sm hb hat hph => ⟨_, w₂, _, st, sm, 2, stepG_mark0 .disable (by simp) rfl rfl (by k_ne) rfl H.f_disable (x_disable_n L) (x_disable_b L) (x_disable_x L) (x_disable_f L), .refl _ _, hat, bk3_markA _ (.inl rfl), ⟨by omega, fun e => by omega⟩, by simp [deafBehind, deafX], hph.bump (by omega), fun ft hF HR => ?_⟩
  have hg2 := hg.set (y := 2) (by omega)
  refine JG.goes 100 _ _ ft hF HR ?_
  walk_nrm
  u_c stepG_region_end live_rely hF
  u_reg live_rely hF
  u_defer live_rely hF
  u_c stepG_region_end live_rely hF
  u_c stepG_seq live_rely hF
  u_reg live_rely hF
  u_op live_rely hF
  u_c stepG_region_end live_rely hF
  u_c stepG_seq live_rely hF
  u_c stepG_seq live_rely hF
  u_reg live_rely hF
  u_bub live_rely hF
  u_c stepG_region_end live_rely hF
  u_cond false live_rely hF
  u_c stepG_skip live_rely hF
  u_c stepG_seq live_rely hF
  u_reg live_rely hF
  u_op live_rely hF
  u_op live_rely hF
  u_op live_rely hF
  u_op live_rely hF
  u_op live_rely hF
  u_op live_rely hF
  u_call H.f_uAdd (nm_uAdd L) uAddFn live_rely hF
  u_c stepG_seq live_rely hF
  u_reg live_rely hF
  u_op live_rely hF
  u_c stepG_region_end live_rely hF
  u_c stepG_seq live_rely hF
  u_reg live_rely hF
  u_op live_rely hF
  u_op live_rely hF
  u_op live_rely hF
  u_op live_rely hF
  refine Goes.stop (fun w₁ _ ft hl HR => ?_)
  clear hF
  refine JG.act_at hg2 HR rfl fun w₂ s st sm hb hat hph => ?_
  obtain ⟨rfl, rfl, rfl⟩ := hph.at_opened (.inr rfl)
  have e0 : IntKind.u64.wrap (0 + 4294967296) = 4294967296 := by decide
  refine ⟨_, w₂.setCell (stA G.wg) (.int .u64 4294967296), _, 4294967296, 0, 3, (stepG_add_atomic rfl rfl (by k_ne) rfl H.f_addU64 (x_addU64_n L) (x_addU64_b L) (x_addU64_x L) .u64 (x_addU64_f L) rfl rfl (Go.ConcR.WgAt.cellSt hat) (Go.ConcR.WgAt.thaw hat 0)).trans (by rw [e0]), aside_setCell w₂ (stA G.wg) _, Go.ConcR.WgAt.setSt hat _, bk3_rwA _, ⟨by omega, fun e => by omega⟩, by simp [deafBehind, deafX], .added (.inl rfl), fun ft hF HR => ?_⟩
  have hg3 := hg2.set (y := 3) (by omega)
  refine JG.goes 200 _ _ ft hF HR ?_
  walk_nrm
  u_op live_rely hF
  u_c stepG_region_end live_rely hF
  u_c stepG_ret' live_rely hF
  u_leave1 H.f_uAdd live_rely hF
  u_op live_rely hF
  u_c stepG_region_end live_rely hF
  u_c stepG_seq live_rely hF
  u_c stepG_seq live_rely hF
  u_reg live_rely hF
  u_op live_rely hF
  u_op live_rely hF
  u_op live_rely hF
  u_op live_rely hF
  u_skip live_rely hF
  u_skip live_rely hF
  u_op live_rely hF
  u_c stepG_region_end live_rely hF
  u_cond false live_rely hF
  u_c stepG_skip live_rely hF
  u_c stepG_seq live_rely hF
  u_reg live_rely hF
  u_op live_rely hF
  u_op live_rely hF
  u_op live_rely hF
  u_op live_rely hF
  u_c stepG_region_end live_rely hF
  u_c stepG_seq live_rely hF
  u_reg live_rely hF
  u_op live_rely hF
  u_op live_rely hF
  u_op live_rely hF
  u_op live_rely hF
  u_c stepG_region_end live_rely hF
  u_c stepG_seq live_rely hF
  u_c stepG_seq live_rely hF
  u_reg live_rely hF
  u_op live_rely hF
  u_op live_rely hF
  u_op live_rely hF
  u_op live_rely hF
  u_op live_rely hF
  u_op live_rely hF
  u_op live_rely hF
  u_op live_rely hF
  u_op live_rely hF
  u_op live_rely hF
  u_c stepG_region_end live_rely hF
  u_cond true live_rely hF
  u_reg live_rely hF
  u_op live_rely hF
  u_op live_rely hF
  u_op live_rely hF
  u_conv H.underlying_tPU32 H.room_tU32 (Go.ConcN.Gen.WgLive.cell1 hF).choose_spec live_rely hF
  refine Goes.stop (fun w₁ _ ft hl HR => ?_)
  clear hF
  refine JG.act_at hg3 HR rfl fun w₂ s st sm hb hat hph => ⟨_, w₂, _, st, sm, 3, stepG_markAt .read (by simp) rfl rfl (by k_ne) rfl H.f_raceRead (x_raceRead_n L) (x_raceRead_b L) (x_raceRead_x L) (x_raceRead_f L) (ad := ⟨G.wg, 1, none⟩) (by simp [Act.eval]), .refl _ _, hat, bk3_saidA _ (.inl rfl), ⟨by omega, fun e => by omega⟩, by simp [deafBehind, deafX], hph, fun ft hF HR => ?_⟩
  have hg4 := hg3.set (y := 3) (by omega)
  refine JG.goes 200 _ _ ft hF HR ?_
  walk_nrm
  u_c stepG_region_end live_rely hF
  u_c stepG_seq live_rely hF
  u_c stepG_seq live_rely hF
  u_reg live_rely hF
  u_op live_rely hF
  u_op live_rely hF
  u_c stepG_region_end live_rely hF
  u_cond false live_rely hF
  u_c stepG_skip live_rely hF
  u_c stepG_seq live_rely hF
  u_c stepG_seq live_rely hF
  u_reg live_rely hF
  u_op live_rely hF
  u_op live_rely hF
  u_op live_rely hF
  u_skip live_rely hF
  u_skip live_rely hF
  u_op live_rely hF
  u_op live_rely hF
  u_skip live_rely hF
  u_skip live_rely hF
  u_skip live_rely hF
  u_skip live_rely hF
  u_op live_rely hF
  u_c stepG_region_end live_rely hF
  u_cond false live_rely hF
  u_c stepG_skip live_rely hF
  u_c stepG_seq live_rely hF
  u_c stepG_seq live_rely hF
  u_reg live_rely hF
  u_op live_rely hF
  u_op live_rely hF
  u_op live_rely hF
  u_skip live_rely hF
  u_skip live_rely hF
  u_op live_rely hF
  u_c stepG_region_end live_rely hF
  u_cond true live_rely hF
  u_c stepG_ret' live_rely hF
  refine Goes.stop (fun w₁ _ ft hl HR => ?_)
  clear hF
  refine JG.act_at hg4 HR rfl fun w₂ s st sm hb hat hph => ⟨_, w₂, _, st, sm, 4, stepG_unwind_entry (v := .tuple #[]) (evs := #[mk .enable]) rfl H.f_enable (x_enable_n L) (x_enable_b L) (x_enable_x L) (x_enable_f L) (by simp [Extern.Race.none_]) (by simp [mk]) (by simp [mk]), .refl _ _, hat, bk3_markA _ (.inr rfl), ⟨by omega, fun e => by omega⟩, by simp [deafBehind, deafX, mk], hph.bump (by omega), fun ft hF HR => ?_⟩
  refine (JG.closed P W0 Post G).ctrl rfl rfl (fun w => stepG_leave rfl rfl H.f_add (v := .tuple #[]) (by simp [results, addFn]) (by simp [results, addFn])) ?_
  refine hc _ _ ?_
  simpa [List.set_set] using HR
end
section
variable {P : Program} {W0 : World} {Post : Value → World → Prop} {G : Grp} {ρ : Env} {FC : Frm} {h : List AObj} {p x : Nat}
theorem JG.acq_at (hg : GrpAt h p 11) {g : Goroutine} {w : World} {ft : Foot} (H : HRel ρ h FC w ft) (hrun : g.status = .running)
    (hs : ∀ w₁, ρ.blk p = G.wg → ∃ g', stepG P true g w₁ = .go g' w₁ #[Go.ConcR.mk (.acquire (stA G.wg))] ∧ ∀ ft', WgLive G.ty G.wg w₁ → HRel ρ (h.set p (.group 12)) FC w₁ ft' → JG P W0 Post G g' w₁ ft') : JG P W0 Post G g w ft := by
  have htag := H.tag p 11 hg.here
  refine JG.acquire hrun (by omega) fun w₁ h₁ htw hlv => ?_
  have e2 : ρ.blk p = G.wg := by omega
  obtain ⟨g', hgo, hJ⟩ := hs w₁ e2
  have H2 := (H.rely h₁).tell hg.here (y := 12) hg.one
  have e3 : ft.tag + 1 = 12 + 32 * ρ.blk p := by omega
  rw [e3]
  exact ⟨g', hgo, hJ _ hlv H2⟩
theorem JG.sem_at (hg : GrpAt h p 9) {g : Goroutine} {w : World} {ft : Foot} (H : HRel ρ h FC w ft) (hrun : g.status = .running) (hoff : g.offers = none)
    (hwait : ∀ w₁ st, ρ.blk p = G.wg → G.at_ w₁ st 0 → stepG P true g w₁ = .go { g with status := .blocked } w₁ #[])
    (hgo : ∀ w₁, ρ.blk p = G.wg → G.at_ w₁ 0 1 → ∃ g', stepG P true g w₁ = .go g' (w₁.setCell (smA G.wg) (.int .u32 0)) (semEvents (smA G.wg)) ∧ ∀ ft', WgLive G.ty G.wg (w₁.setCell (smA G.wg) (.int .u32 0)) → HRel ρ (h.set p (.group 10)) FC (w₁.setCell (smA G.wg) (.int .u32 0)) ft' → JG P W0 Post G g' (w₁.setCell (smA G.wg) (.int .u32 0)) ft') : JG P W0 Post G g w ft := by
  have htag := H.tag p 9 hg.here
  refine JG.sema hrun hoff (by omega) (fun w₁ st h₁ htw hat => hwait w₁ st (by omega) hat) fun w₁ h₁ htw hnw hat => ?_
  have hb : ρ.blk p = G.wg := by omega
  obtain ⟨g', h1, hJ⟩ := hgo w₁ hb hat
  refine ⟨g', h1, hJ _ ⟨0, 0, Go.ConcR.WgAt.setSm hat 0⟩ ?_⟩
  have A := aside_setCell w₁ (smA G.wg) (.int .u32 0)
  have H2 := (H.rely h₁).tell hg.here (y := 10) hg.one
  rw [hb] at H2
  refine H2.rely ⟨fun b hb' => A.block b fun e => hnw ?_, Nat.le_of_eq A.size.symm, A.tape, A.os, A.output⟩
  rw [e] at hb'
  exact hb'
set_option maxRecDepth 100000 in
set_option maxHeartbeats 32000000 in
theorem wait_walk {L : WgLink} (H : WgLib P L) (hty : G.ty = L.tWg) (hg : GrpAt h p 5) {w : World} {ft : Foot} (HR : HRel ρ h FC w ft) {c : Frame} {cs : List Frame} (hF : WgLive G.ty G.wg w)
    (hc : ∀ w' ft', HRel ρ (h.set p (.group 12)) FC w' ft' → JG P W0 Post G (Go.Conc.G (c.finish (.tuple #[])) cs) w' ft') :
    JG P W0 Post G (Go.Conc.G ((base L.wait).at ⟨#[.pointer (some ⟨G.wg, 0, none⟩)] ++ Array.replicate 83 undef, []⟩ [.code (Go.ConcR.Gen.body_wait L)]) (c :: cs)) w ft := by
  letI pl : Payload := ⟨0⟩
  have er : (#[.pointer (some ⟨G.wg, 0, none⟩)] ++ Array.replicate 83 undef : Array Value) = #[.pointer (some ⟨G.wg, 0, none⟩), undef, undef, undef, undef, undef, undef, undef, undef, undef, undef, undef, undef, undef, undef, undef, undef, undef, undef, undef, undef, undef, undef, undef, undef, undef, undef, undef, undef, undef, undef, undef, undef, undef, undef, undef, undef, undef, undef, undef, undef, undef, undef, undef, undef, undef, undef, undef, undef, undef, undef, undef, undef, undef, undef, undef, undef, undef, undef, undef, undef, undef, undef, undef, undef, undef, undef, undef, undef, undef, undef, undef, undef, undef, undef, undef, undef, undef, undef, undef, undef, undef, undef, undef] := by kernel_rfl
  rw [er]
  clear er
  refine JG.goes 100 _ _ ft hF HR ?_
  rw [hty] at *
  lib_facts
  simp only [Go.ConcR.Gen.body_wait, waitFn, Option.getD_some]
  u_c stepG_seq live_rely hF
  u_cond true live_rely hF
  u_reg live_rely hF
  refine Goes.stop (fun w₁ _ ft hl HR => ?_)
  clear hF
  refine JG.act_at hg HR rfl fun w₂ s st sm hb hat hph => ⟨_, w₂, _, st, sm, 6, stepG_mark0 .disable (by simp) rfl rfl (by k_ne) rfl H.f_disable (x_disable_n L) (x_disable_b L) (x_disable_x L) (x_disable_f L), .refl _ _, hat, bk3_markA _ (.inl rfl), ⟨by omega, fun e => by omega⟩, by simp [deafBehind, deafX], hph.bump (by omega), fun ft hF HR => ?_⟩
  have hg6 := hg.set (y := 6) (by omega)
  refine JG.goes 300 _ _ ft hF HR ?_
  walk_nrm
  u_c stepG_region_end live_rely hF
  u_c stepG_block live_rely hF
  u_c stepG_loop live_rely hF
  u_c stepG_block live_rely hF
  u_c stepG_seq live_rely hF
  u_reg live_rely hF
  u_op live_rely hF
  u_op live_rely hF
  u_op live_rely hF
  u_call H.f_uLoad (nm_uLoad L) uLoadFn live_rely hF
  u_c stepG_seq live_rely hF
  u_reg live_rely hF
  u_op live_rely hF
  u_c stepG_region_end live_rely hF
  u_c stepG_seq live_rely hF
  u_reg live_rely hF
  u_op live_rely hF
  u_op live_rely hF
  u_op live_rely hF
  refine Goes.stop (fun w₁ _ ft hl HR => ?_)
  clear hF
  refine JG.act_at hg6 HR rfl fun w₂ s st sm hb hat hph => ?_
  obtain ⟨rfl, ⟨a5, a8, rfl⟩ | ⟨rfl, rfl⟩⟩ := hph.at_run (by omega)
  · refine ⟨_, w₂, _, 4294967296, 0, 7, stepG_load_atomic rfl rfl (by k_ne) rfl H.f_loadU64 (x_loadU64_n L) (x_loadU64_b L) (x_loadU64_x L) .u64 (x_loadU64_f L) rfl (Go.ConcR.WgAt.cellSt hat), .refl _ _, hat, bk3_rA _, ⟨by omega, fun e => by omega⟩, by simp [deafBehind, deafX], .run (by omega) (by omega) a5 a8, fun ft hF HR => ?_⟩
    have hg7 := hg6.set (y := 7) (by omega)
    refine JG.goes 300 _ _ ft hF HR ?_
    walk_nrm
    u_op live_rely hF
    u_c stepG_region_end live_rely hF
    u_c stepG_ret' live_rely hF
    u_leave1 H.f_uLoad live_rely hF
    u_op live_rely hF
    u_c stepG_region_end live_rely hF
    u_c stepG_seq live_rely hF
    u_reg live_rely hF
    u_op live_rely hF
    u_op live_rely hF
    u_op live_rely hF
    u_op live_rely hF
    u_c stepG_region_end live_rely hF
    u_c stepG_seq live_rely hF
    u_reg live_rely hF
    u_op live_rely hF
    u_op live_rely hF
    u_op live_rely hF
    u_op live_rely hF
    u_c stepG_region_end live_rely hF
    u_c stepG_seq live_rely hF
    u_c stepG_seq live_rely hF
    u_reg live_rely hF
    u_op live_rely hF
    u_op live_rely hF
    u_c stepG_region_end live_rely hF
    u_cond false live_rely hF
    u_c stepG_skip live_rely hF
    u_c stepG_seq live_rely hF
    u_reg live_rely hF
    u_op live_rely hF
    u_op live_rely hF
    u_op live_rely hF
    u_op live_rely hF
    u_op live_rely hF
    u_op live_rely hF
    u_call H.f_uCas (nm_uCas L) uCasFn live_rely hF
    u_c stepG_seq live_rely hF
    u_reg live_rely hF
    u_op live_rely hF
    u_c stepG_region_end live_rely hF
    u_c stepG_seq live_rely hF
    u_reg live_rely hF
    u_op live_rely hF
    u_op live_rely hF
    u_op live_rely hF
    u_op live_rely hF
    u_op live_rely hF
    refine Goes.stop (fun w₁ _ ft hl HR => ?_)
    clear hF
    refine JG.act_at hg7 HR rfl fun w₂ s st sm hb hat hph => ?_
    obtain ⟨rfl, ⟨a5, a8, rfl⟩ | ⟨rfl, rfl⟩⟩ := hph.at_run (by omega)
    · refine ⟨_, w₂.setCell (stA G.wg) (.int .u64 4294967297), _, 4294967297, 0, 9, stepG_cas_hit (v := 4294967296) (n := 4294967297) rfl rfl (by k_ne) rfl H.f_casU64 (x_casU64_n L) (x_casU64_b L) (x_casU64_x L) .u64 (x_casU64_f L) rfl rfl rfl (Go.ConcR.WgAt.cellSt hat) (Go.ConcR.WgAt.thaw hat 0), aside_setCell w₂ (stA G.wg) _, Go.ConcR.WgAt.setSt hat _, bk3_rwA _, ⟨by omega, fun e => by omega⟩, by simp [deafBehind, deafX], .reg a5 a8, fun ft hF HR => ?_⟩
      have hg9 := hg7.set (y := 9) (by omega)
      refine JG.goes 300 _ _ ft hF HR ?_
      walk_nrm
      u_op live_rely hF
      u_c stepG_region_end live_rely hF
      u_c stepG_ret' live_rely hF
      u_leave1 H.f_uCas live_rely hF
      u_c stepG_region_end live_rely hF
      u_cond true live_rely hF
      u_c stepG_seq live_rely hF
      u_c stepG_seq live_rely hF
      u_reg live_rely hF
      u_op live_rely hF
      u_op live_rely hF
      u_op live_rely hF
      u_op live_rely hF
      u_c stepG_region_end live_rely hF
      u_cond true live_rely hF
      u_reg live_rely hF
      u_op live_rely hF
      u_op live_rely hF
      u_op live_rely hF
      u_conv H.underlying_tPU32 H.room_tU32 (Go.ConcN.Gen.WgLive.cell1 hF).choose_spec live_rely hF
      refine Goes.stop (fun w₁ _ ft hl HR => ?_)
      clear hF
      refine JG.act_at hg9 HR rfl fun w₂ s st sm hb hat hph => ⟨_, w₂, _, st, sm, 9, stepG_markAt .write (by simp) rfl rfl (by k_ne) rfl H.f_raceWrite (x_raceWrite_n L) (x_raceWrite_b L) (x_raceWrite_x L) (x_raceWrite_f L) (ad := ⟨G.wg, 1, none⟩) (by simp [Act.eval]), .refl _ _, hat, bk3_saidA _ (.inr rfl), ⟨by omega, fun e => by omega⟩, by simp [deafBehind, deafX], hph.bump (by omega), fun ft hF HR => ?_⟩
      have hg9b := hg9.set (y := 9) (by omega)
      refine JG.goes 300 _ _ ft hF HR ?_
      walk_nrm
      u_c stepG_region_end live_rely hF
      u_c stepG_seq live_rely hF
      u_reg live_rely hF
      u_op live_rely hF
      u_c stepG_region_end live_rely hF
      u_c stepG_seq live_rely hF
      u_c stepG_seq live_rely hF
      u_reg live_rely hF
      u_op live_rely hF
      u_op live_rely hF
      u_op live_rely hF
      u_op live_rely hF
      u_skip live_rely hF
      u_op live_rely hF
      u_c stepG_region_end live_rely hF
      u_cond false live_rely hF
      u_c stepG_skip live_rely hF
      u_c stepG_seq live_rely hF
      u_reg live_rely hF
      u_op live_rely hF
      u_op live_rely hF
      u_op live_rely hF
      u_op live_rely hF
      refine Goes.stop (fun w₁ _ ft hl HR => ?_)
      clear hF
      refine JG.sem_at hg9b HR rfl rfl (fun w₂ st hb hat => stepG_semacquire_wait rfl rfl rfl H.f_semacquire (x_semacquire_n L) (x_semacquire_b L) (x_semacquire_x L) (x_semacquire_f L) (ad := ⟨G.wg, 1, none⟩) (by simp [Act.eval]) (Go.ConcR.WgAt.cellSm hat)) fun w₂ hb hat => ⟨_, stepG_semacquire rfl rfl (by k_ne) rfl H.f_semacquire (x_semacquire_n L) (x_semacquire_b L) (x_semacquire_x L) (x_semacquire_f L) (ad := ⟨G.wg, 1, none⟩) (n := 1) (by simp [Act.eval]) (Go.ConcR.WgAt.cellSm hat) (by decide) (Go.ConcR.WgAt.thaw hat 1), fun ft hF HR => ?_⟩
      have hg10 := hg9b.set (y := 10) (by omega)
      refine JG.goes 300 _ _ ft hF HR ?_
      walk_nrm
      u_c stepG_region_end live_rely hF
      u_c stepG_seq live_rely hF
      u_reg live_rely hF
      u_op live_rely hF
      u_op live_rely hF
      u_op live_rely hF
      u_call H.f_uLoad (nm_uLoad L) uLoadFn live_rely hF
      u_c stepG_seq live_rely hF
      u_reg live_rely hF
      u_op live_rely hF
      u_c stepG_region_end live_rely hF
      u_c stepG_seq live_rely hF
      u_reg live_rely hF
      u_op live_rely hF
      u_op live_rely hF
      u_op live_rely hF
      refine Goes.stop (fun w₁ _ ft hl HR => ?_)
      clear hF
      refine JG.act_at hg10 HR rfl fun w₂ s st sm hb hat hph => ?_
      obtain ⟨rfl, rfl, rfl⟩ := hph.at_out (by omega)
      refine ⟨_, w₂, _, 0, 0, 10, stepG_load_atomic rfl rfl (by k_ne) rfl H.f_loadU64 (x_loadU64_n L) (x_loadU64_b L) (x_loadU64_x L) .u64 (x_loadU64_f L) rfl (Go.ConcR.WgAt.cellSt hat), .refl _ _, hat, bk3_rA _, ⟨by omega, fun e => by omega⟩, by simp [deafBehind, deafX], hph, fun ft hF HR => ?_⟩
      have hg10b := hg10.set (y := 10) (by omega)
      refine JG.goes 300 _ _ ft hF HR ?_
      walk_nrm
      u_op live_rely hF
      u_c stepG_region_end live_rely hF
      u_c stepG_ret' live_rely hF
      u_leave1 H.f_uLoad live_rely hF
      u_op live_rely hF
      u_op live_rely hF
      u_c stepG_region_end live_rely hF
      u_c stepG_seq live_rely hF
      u_cond true live_rely hF
      u_c stepG_seq live_rely hF
      u_reg live_rely hF
      refine Goes.stop (fun w₁ _ ft hl HR => ?_)
      clear hF
      refine JG.act_at hg10b HR rfl fun w₂ s st sm hb hat hph => ⟨_, w₂, _, st, sm, 11, stepG_mark0 .enable (by simp) rfl rfl (by k_ne) rfl H.f_enable (x_enable_n L) (x_enable_b L) (x_enable_x L) (x_enable_f L), .refl _ _, hat, bk3_markA _ (.inr rfl), ⟨by omega, fun e => by omega⟩, by simp [deafBehind, deafX], hph.bump (by omega), fun ft hF HR => ?_⟩
      have hgA := hg10b.set (y := 11) (by omega)
      refine JG.goes 300 _ _ ft hF HR ?_
      walk_nrm
      u_c stepG_region_end live_rely hF
      u_reg live_rely hF
      u_op live_rely hF
      u_conv H.underlying_tWgP H.room_tWg (Go.ConcN.Gen.WgLive.cell0 hF).choose_spec live_rely hF
      refine Goes.stop (fun w₁ _ ft hl HR => ?_)
      clear hF
      refine JG.acq_at hgA HR rfl (fun w₂ hb => ⟨_, stepG_markAt .acquire (by simp) rfl rfl (by k_ne) rfl H.f_acquire (x_acquire_n L) (x_acquire_b L) (x_acquire_x L) (x_acquire_f L) (ad := ⟨G.wg, 0, none⟩) (by simp [Act.eval]), fun ft hF HR => ?_⟩)
      have hgB := hgA.set (y := 12) (by omega)
      refine JG.goes 300 _ _ ft hF HR ?_
      walk_nrm
      u_c stepG_region_end live_rely hF
      u_c stepG_seq live_rely hF
      u_c stepG_seq live_rely hF
      u_reg live_rely hF
      u_op live_rely hF
      u_c stepG_region_end live_rely hF
      u_cond false live_rely hF
      u_c stepG_skip live_rely hF
      u_c stepG_ret' live_rely hF
      refine Goes.stop (fun w₁ _ ft hl HR => ?_)
      refine (JG.closed P W0 Post G).ctrl rfl rfl (fun w => stepG_leave rfl rfl H.f_wait (v := .tuple #[]) (by simp [results, waitFn]) (by simp [results, waitFn])) ?_
      refine hc _ _ ?_
      simpa [List.set_set] using HR
    · refine ⟨_, w₂, _, 0, 0, 13, stepG_cas_miss (old := 4294967296) (n := 4294967297) rfl rfl (by k_ne) rfl H.f_casU64 (x_casU64_n L) (x_casU64_b L) (x_casU64_x L) .u64 (x_casU64_f L) rfl rfl rfl (Go.ConcR.WgAt.cellSt hat) (Go.ConcR.WgAt.thaw hat 0) (by decide), .refl _ _, hat, bk3_rA _, ⟨by omega, fun e => by omega⟩, by simp [deafBehind, deafX], .out (by omega) (by omega) (by omega), fun ft hF HR => ?_⟩
      have hg13 := hg7.set (y := 13) (by omega)
      refine JG.goes 300 _ _ ft hF HR ?_
      walk_nrm
      u_op live_rely hF
      u_c stepG_region_end live_rely hF
      u_c stepG_ret' live_rely hF
      u_leave1 H.f_uCas live_rely hF
      u_c stepG_region_end live_rely hF
      u_cond false live_rely hF
      u_c stepG_skip live_rely hF
      u_c stepG_inBlock live_rely hF
      u_c stepG_inLoop live_rely hF
      u_c stepG_block live_rely hF
      u_c stepG_seq live_rely hF
      u_reg live_rely hF
      u_op live_rely hF
      u_op live_rely hF
      u_op live_rely hF
      u_call H.f_uLoad (nm_uLoad L) uLoadFn live_rely hF
      u_c stepG_seq live_rely hF
      u_reg live_rely hF
      u_op live_rely hF
      u_c stepG_region_end live_rely hF
      u_c stepG_seq live_rely hF
      u_reg live_rely hF
      u_op live_rely hF
      u_op live_rely hF
      u_op live_rely hF
      refine Goes.stop (fun w₁ _ ft hl HR => ?_)
      clear hF
      refine JG.act_at hg13 HR rfl fun w₂ s st sm hb hat hph => ?_
      obtain ⟨rfl, rfl, rfl⟩ := hph.at_out (by omega)
      refine ⟨_, w₂, _, 0, 0, 8, stepG_load_atomic rfl rfl (by k_ne) rfl H.f_loadU64 (x_loadU64_n L) (x_loadU64_b L) (x_loadU64_x L) .u64 (x_loadU64_f L) rfl (Go.ConcR.WgAt.cellSt hat), .refl _ _, hat, bk3_rA _, ⟨by omega, fun e => by omega⟩, by simp [deafBehind, deafX], .out (by omega) (by omega) (by omega), fun ft hF HR => ?_⟩
      have hg8 := hg13.set (y := 8) (by omega)
      refine JG.goes 300 _ _ ft hF HR ?_
      walk_nrm
      u_op live_rely hF
      u_c stepG_region_end live_rely hF
      u_c stepG_ret' live_rely hF
      u_leave1 H.f_uLoad live_rely hF
      u_op live_rely hF
      u_c stepG_region_end live_rely hF
      u_c stepG_seq live_rely hF
      u_reg live_rely hF
      u_op live_rely hF
      u_op live_rely hF
      u_op live_rely hF
      u_op live_rely hF
      u_c stepG_region_end live_rely hF
      u_c stepG_seq live_rely hF
      u_reg live_rely hF
      u_op live_rely hF
      u_op live_rely hF
      u_op live_rely hF
      u_op live_rely hF
      u_c stepG_region_end live_rely hF
      u_c stepG_seq live_rely hF
      u_c stepG_seq live_rely hF
      u_reg live_rely hF
      u_op live_rely hF
      u_op live_rely hF
      u_c stepG_region_end live_rely hF
      u_cond true live_rely hF
      u_c stepG_seq live_rely hF
      u_cond true live_rely hF
      u_c stepG_seq live_rely hF
      u_reg live_rely hF
      refine Goes.stop (fun w₁ _ ft hl HR => ?_)
      clear hF
      refine JG.act_at hg8 HR rfl fun w₂ s st sm hb hat hph => ⟨_, w₂, _, st, sm, 11, stepG_mark0 .enable (by simp) rfl rfl (by k_ne) rfl H.f_enable (x_enable_n L) (x_enable_b L) (x_enable_x L) (x_enable_f L), .refl _ _, hat, bk3_markA _ (.inr rfl), ⟨by omega, fun e => by omega⟩, by simp [deafBehind, deafX], hph.bump (by omega), fun ft hF HR => ?_⟩
      have hgA := hg8.set (y := 11) (by omega)
      refine JG.goes 300 _ _ ft hF HR ?_
      walk_nrm
      u_c stepG_region_end live_rely hF
      u_reg live_rely hF
      u_op live_rely hF
      u_conv H.underlying_tWgP H.room_tWg (Go.ConcN.Gen.WgLive.cell0 hF).choose_spec live_rely hF
      refine Goes.stop (fun w₁ _ ft hl HR => ?_)
      clear hF
      refine JG.acq_at hgA HR rfl (fun w₂ hb => ⟨_, stepG_markAt .acquire (by simp) rfl rfl (by k_ne) rfl H.f_acquire (x_acquire_n L) (x_acquire_b L) (x_acquire_x L) (x_acquire_f L) (ad := ⟨G.wg, 0, none⟩) (by simp [Act.eval]), fun ft hF HR => ?_⟩)
      have hgB := hgA.set (y := 12) (by omega)
      refine JG.goes 300 _ _ ft hF HR ?_
      walk_nrm
      u_c stepG_region_end live_rely hF
      u_c stepG_seq live_rely hF
      u_c stepG_seq live_rely hF
      u_reg live_rely hF
      u_op live_rely hF
      u_op live_rely hF
      u_op live_rely hF
      u_op live_rely hF
      u_op live_rely hF
      u_op live_rely hF
      u_op live_rely hF
      u_op live_rely hF
      u_skip live_rely hF
      u_skip live_rely hF
      u_op live_rely hF
      u_c stepG_region_end live_rely hF
      u_cond false live_rely hF
      u_c stepG_skip live_rely hF
      u_c stepG_ret' live_rely hF
      refine Goes.stop (fun w₁ _ ft hl HR => ?_)
      refine (JG.closed P W0 Post G).ctrl rfl rfl (fun w => stepG_leave rfl rfl H.f_wait (v := .tuple #[]) (by simp [results, waitFn]) (by simp [results, waitFn])) ?_
      refine hc _ _ ?_
      simpa [List.set_set] using HR
  · refine ⟨_, w₂, _, 0, 0, 8, stepG_load_atomic rfl rfl (by k_ne) rfl H.f_loadU64 (x_loadU64_n L) (x_loadU64_b L) (x_loadU64_x L) .u64 (x_loadU64_f L) rfl (Go.ConcR.WgAt.cellSt hat), .refl _ _, hat, bk3_rA _, ⟨by omega, fun e => by omega⟩, by simp [deafBehind, deafX], .out (by omega) (by omega) (by omega), fun ft hF HR => ?_⟩
    have hg8 := hg6.set (y := 8) (by omega)
    refine JG.goes 300 _ _ ft hF HR ?_
    walk_nrm
    u_op live_rely hF
    u_c stepG_region_end live_rely hF
    u_c stepG_ret' live_rely hF
    u_leave1 H.f_uLoad live_rely hF
    u_op live_rely hF
    u_c stepG_region_end live_rely hF
    u_c stepG_seq live_rely hF
    u_reg live_rely hF
    u_op live_rely hF
    u_op live_rely hF
    u_op live_rely hF
    u_op live_rely hF
    u_c stepG_region_end live_rely hF
    u_c stepG_seq live_rely hF
    u_reg live_rely hF
    u_op live_rely hF
    u_op live_rely hF
    u_op live_rely hF
    u_op live_rely hF
    u_c stepG_region_end live_rely hF
    u_c stepG_seq live_rely hF
    u_c stepG_seq live_rely hF
    u_reg live_rely hF
    u_op live_rely hF
    u_op live_rely hF
    u_c stepG_region_end live_rely hF
    u_cond true live_rely hF
    u_c stepG_seq live_rely hF
    u_cond true live_rely hF
    u_c stepG_seq live_rely hF
    u_reg live_rely hF
    refine Goes.stop (fun w₁ _ ft hl HR => ?_)
    clear hF
    refine JG.act_at hg8 HR rfl fun w₂ s st sm hb hat hph => ⟨_, w₂, _, st, sm, 11, stepG_mark0 .enable (by simp) rfl rfl (by k_ne) rfl H.f_enable (x_enable_n L) (x_enable_b L) (x_enable_x L) (x_enable_f L), .refl _ _, hat, bk3_markA _ (.inr rfl), ⟨by omega, fun e => by omega⟩, by simp [deafBehind, deafX], hph.bump (by omega), fun ft hF HR => ?_⟩
    have hgA := hg8.set (y := 11) (by omega)
    refine JG.goes 300 _ _ ft hF HR ?_
    walk_nrm
    u_c stepG_region_end live_rely hF
    u_reg live_rely hF
    u_op live_rely hF
    u_conv H.underlying_tWgP H.room_tWg (Go.ConcN.Gen.WgLive.cell0 hF).choose_spec live_rely hF
    refine Goes.stop (fun w₁ _ ft hl HR => ?_)
    clear hF
    refine JG.acq_at hgA HR rfl (fun w₂ hb => ⟨_, stepG_markAt .acquire (by simp) rfl rfl (by k_ne) rfl H.f_acquire (x_acquire_n L) (x_acquire_b L) (x_acquire_x L) (x_acquire_f L) (ad := ⟨G.wg, 0, none⟩) (by simp [Act.eval]), fun ft hF HR => ?_⟩)
    have hgB := hgA.set (y := 12) (by omega)
    refine JG.goes 300 _ _ ft hF HR ?_
    walk_nrm
    u_c stepG_region_end live_rely hF
    u_c stepG_seq live_rely hF
    u_c stepG_seq live_rely hF
    u_reg live_rely hF
    u_op live_rely hF
    u_op live_rely hF
    u_op live_rely hF
    u_op live_rely hF
    u_op live_rely hF
    u_op live_rely hF
    u_op live_rely hF
    u_op live_rely hF
    u_skip live_rely hF
    u_skip live_rely hF
    u_op live_rely hF
    u_c stepG_region_end live_rely hF
    u_cond false live_rely hF
    u_c stepG_skip live_rely hF
    u_c stepG_ret' live_rely hF
    refine Goes.stop (fun w₁ _ ft hl HR => ?_)
    refine (JG.closed P W0 Post G).ctrl rfl rfl (fun w => stepG_leave rfl rfl H.f_wait (v := .tuple #[]) (by simp [results, waitFn]) (by simp [results, waitFn])) ?_
    refine hc _ _ ?_
    simpa [List.set_set] using HR
end
end Go.Proofs.Ythnccaajpdnndaa
namespace Go.Proofs.Ythnccaajpdnndaa
open Go.Conc
section
variable {P : Program} {W0 : World} {Post : Value → World → Prop} {T : Crew} {g : Goroutine} {w w₁ w' : World} {ft f' : Foot}
def base0 (P : Program) : Frame := { (default : Frame) with fn := P.funcs.size, defers := [], mode := .panicking [goexitEntry] }
theorem base_catches (P : Program) : (base0 P).catches P = false := by
  have e : (base0 P).todo = [] := rfl
  unfold Frame.catches
  rw [e]
  split
  · rename_i h
    cases h
  · rfl
theorem base_quits (hc : (base0 P).catches P = false) : QuitsD P 1 0 (G (base0 P) []) := by
  refine .inr ⟨rfl, { frame := base0 P, callers := [], status := .finished, dying := none }, #[], by simp, fun w => ?_, rfl, rfl⟩
  have e1 : (base0 P).defers = [] := rfl
  have e2 : (base0 P).mode = .panicking [goexitEntry] := rfl
  simp only [G, stepG, e2, unwind, e1, hc]
  simp [goexitEntry]
theorem quiet_run {α : Type} {s : Go.Sem α} {w : World} {Q : α → World → Prop} (h : RunsTo P (fun _ => False) s w Q) : ∃ v w', s.runT P w #[] = (.ok v w', #[]) ∧ Q v w' := by
  obtain ⟨v, w', es, hr, he, hq⟩ := h #[] (by simp)
  have hes : es = #[] := by
    apply Array.eq_empty_of_size_eq_zero
    cases hs : es.size with
    | zero => rfl
    | succ n => exact (he es[0] (Array.getElem_mem (by omega))).elim
  subst hes
  exact ⟨v, w', hr, hq⟩
variable {b : FB} {a : Act} {cs : List Frame} {ops : Array Oper} {fn : Func}
theorem born_toward {Stop : JT} {d : Deferred} {g : FuncId} {caps : List Value} (hd : d = { target := .fn (.func g) ⟨caps⟩, args := #[] }) (hcl : callable P g = true)
    (h : Toward P Stop (G (Frame.enter P g ⟨caps⟩ .deferred) [base0 P]) w ft) : Toward P Stop (born P d) w ft := by
  subst hd
  refine (Toward.closed P Stop).step rfl fun w₁ h₁ => ?_
  have hrun : RunsTo P (EvOk ft) (invoke (.fn (.func g) ⟨caps⟩) #[]) w₁ fun nx w' => nx = .enter g ⟨caps⟩ ∧ w' = w₁ := by
    unfold invoke
    simp only
    refine callFunc_run hcl ⟨?_, rfl⟩
    congr 1
    apply Array.ext'
    simp
  obtain ⟨nx, w', es, hr, he, rfl, rfl⟩ := hrun #[] (by simp)
  have hes : ∀ e ∈ seen P P.funcs.size es, EvOk ft e := fun e hm => he e (mem_seen hm)
  refine ⟨G (Frame.enter P g ⟨caps⟩ .deferred) [base0 P], w', seen P P.funcs.size es, ?_, rfl, (Stays.refl ft w').guar hes, ?_⟩
  · simp only [stepG, born, unwind, callDeferred, hr]
    simp [GStep.after, G, base0]
  · rw [Foot.ext_self]
    exact h.rely h₁
end
section
variable {P : Program} {main : Bool} {W0 : World} {Post : Value → World → Prop} {T : Crew} {w w₁ w' : World} {ft : Foot} {ρ : Env} {h : List AObj} {FC : Frm} {N : Nat} {f : RG} {b : FB} {a : Act} {cs : List Frame} {K : List Item} {ops : Array Oper} {i : Nat} {rest : List Nat} {o : Oper}
theorem stepG_go (hk : b.kind ≠ .early) (ho : ops[i]? = some o) (hg : gd ops o f.r = some true) (A : ActRel h.length ρ N f a) {x : Operand} {ats : Array TypeId} (hop : o.op = .go { callee := .value x, args := #[], argTypes := ats })
    {g : FuncId} {cap : List Value} (hx : ev f.r x = .func (.func g) ⟨[]⟩ ⟨cap⟩) (w : World) :
    stepG P main (G (b.at a (.inRegion ops (i :: rest) :: K)) cs) w = .spawn (G (b.at (a.put o.dst undef) (.inRegion ops rest :: K)) cs) (born P { target := .fn (.func g) ⟨cap.map (ren ρ)⟩, args := #[] }) w #[] := by
  have hw := gd_wanted A hg
  have hnd : ∀ c, o.op ≠ .defer c := fun c e => by rw [hop] at e; cases e
  have hk' : (b.kind == CallKind.early) = false := by simpa using hk
  obtain ⟨hok, hv⟩ := (ev_rel A.regs x).val (by rw [hx]; simp [unk])
  rw [hx] at hv
  simp only [ren, renFn, renA, renL_eq, List.map_nil] at hv
  have hr : (execOp a.eval o).runT P w #[] = (.ok (.spawn { target := .fn (.func g) ⟨cap.map (ren ρ)⟩, args := #[] }) w, #[]) := by
    have hrun : RunsTo P (fun _ => False) (execOp a.eval o) w fun nx w' => nx = .spawn { target := .fn (.func g) ⟨cap.map (ren ρ)⟩, args := #[] } ∧ w' = w := by
      unfold execOp
      rw [hop]
      simp only [resolve, hv, Deferred.ofValue]
      refine RunsTo.bind (RunsTo.pure (RunsTo.pure ⟨?_, rfl⟩))
      congr 2
      simp
    obtain ⟨v, w', hr, rfl, rfl⟩ := quiet_run hrun
    exact hr
  have hf := FB.finish_at b a ops i rest K undef
  rw [ho] at hf
  simp only [Option.bind_some] at hf
  rw [stepG_op ho hw hnd, ← hf]
  simp only [stepG.apply, hr, if_true]
  simp [FB.at, hk', GStep.after, G, born, seen]
theorem go_step (hk : b.kind ≠ .early) (ho : ops[i]? = some o) (hg : gd ops o f.r = some true) (A : ActRel h.length ρ N f a) {x : Operand} {ats : Array TypeId} (hop : o.op = .go { callee := .value x, args := #[], argTypes := ats })
    {g : FuncId} {cap : List Value} (hx : ev f.r x = .func (.func g) ⟨[]⟩ ⟨cap⟩) (hcl : callable P g = true) {k : Nat} (hkp : k ∉ T.pend) (hown : T.ch T.c = some (0, #[], false))
    (hto : ∀ w₁, RelyW ft w w₁ → Toward P (AtSend P T.c (T.phi k)) (G (Frame.enter P g ⟨cap.map (ren ρ)⟩ .deferred) [base0 P]) w₁ ft.lend)
    (hJ : ∀ w₁, RelyW ft w w₁ → JC P W0 Post (T.more k) (G (b.at (a.put o.dst undef) (.inRegion ops rest :: K)) cs) w₁ ft.lend) :
    JC P W0 Post T (G (b.at a (.inRegion ops (i :: rest) :: K)) cs) w ft :=
  JC.spawn rfl hkp hown fun w₁ h₁ => ⟨_, _, stepG_go hk ho hg A hop hx w₁, born_toward rfl hcl (hto w₁ h₁), hJ w₁ h₁⟩
end
def frzO : AObj → AObj
  | .cells c _ sz => .cells c false sz
  | .map es _ => .map es false
  | _ => .dead
def frz (h : List AObj) : List AObj := h.map frzO
def unchO : AObj → AObj
  | .chan _ => .dead
  | .group _ => .dead
  | o => o
def unch (h : List AObj) : List AObj := h.map unchO
def Chs (ρ : Env) (h : List AObj) (b : Nat) : Prop := ∃ i cap, h[i]? = some (.chan cap) ∧ ρ.blk i = b
open Classical in
/-- All that is ours, but the channels, stays as it is. -/
noncomputable def keepF (ρ : Env) (h : List AObj) (w : World) (ft : Foot) : Frm := ⟨fun b => if ft.rd b ∧ ¬ Chs ρ h b then w.heap[b]? else none, fun _ => False⟩
def lentF (ρ : Env) (h : List AObj) (ft : Foot) : Foot := ⟨fun b => ft.rd b ∧ ¬ Chs ρ h b, fun _ => False, ft.tag⟩
section
variable {ρ ρ' : Env} {h h' g : List AObj} {FC : Frm} {w w' : World} {ft ft' : Foot}
theorem frz_len : (frz h).length = h.length := by simp [frz]
theorem frz_get {i : Nat} {o : AObj} (e : (frz h)[i]? = some o) : ∃ x, h[i]? = some x ∧ frzO x = o := by
  unfold frz at e
  rw [List.getElem?_map] at e
  exact Option.map_eq_some_iff.1 e
theorem frz_wrt (o : AObj) : (frzO o).wrt = false := by cases o <;> rfl
theorem frz_live {o : AObj} (hl : (frzO o).live = true) : o.live = true ∧ ∀ cap, o ≠ .chan cap := by
  cases o <;> first | (cases hl; done) | exact ⟨rfl, fun _ e => by cases e⟩
theorem unch_len : (unch h).length = h.length := by simp [unch]
theorem not_chs (H : HRel ρ h FC w ft) {i : Nat} {o : AObj} (hi : h[i]? = some o) (hl : o.live = true) (hn : ∀ cap, o ≠ .chan cap) : ¬ Chs ρ h (ρ.blk i) := by
  rintro ⟨j, cap, hj, e⟩
  have := H.inj i j _ _ hi hj hl rfl e.symm
  subst this
  rw [hi] at hj
  cases hj
  exact hn cap rfl
theorem frz_orel {n b : Nat} {o : AObj} {x : Option Obj} (ho : ORel n ρ b o x) : ORel n ρ b (frzO o) x := by
  cases o with
  | cells c wr sz =>
    match x, ho with
    | some (.cells c' ty fr), ho =>
      obtain ⟨h1, h2, h3, _⟩ := ho
      exact ⟨fun i v hv => (h1 i v hv).imp (fun e => ⟨e.1, rfl⟩) id, h2, h3, fun e => by cases e⟩
  | map es wr =>
    match x, ho with
    | some (.map es' ty), ho => exact ho
  | _ => trivial
theorem frz_rel (H : HRel ρ h FC w ft) : HRel ρ (frz h) (keepF ρ h w ft) w (lentF ρ h ft) where
  obj := fun i o hi => by
    obtain ⟨x, hx, rfl⟩ := frz_get hi
    rw [frz_len]
    exact frz_orel (H.obj i x hx)
  inj := fun i j o o' hi hj l l' e => by
    obtain ⟨x, hx, rfl⟩ := frz_get hi
    obtain ⟨y, hy, rfl⟩ := frz_get hj
    exact H.inj i j x y hx hy (frz_live l).1 (frz_live l').1 e
  rd := fun i o hi l => by
    obtain ⟨x, hx, rfl⟩ := frz_get hi
    exact ⟨H.rd i x hx (frz_live l).1, not_chs H hx (frz_live l).1 (frz_live l).2⟩
  wr := fun i o hi l => by
    obtain ⟨x, hx, rfl⟩ := frz_get hi
    rw [frz_wrt] at l
    cases l
  lt := fun b hb => H.lt b hb.1
  sub := fun _ hb => hb.elim
  kept := fun b o hb => by
    unfold keepF at hb
    simp only at hb
    split at hb
    · rename_i hc
      refine ⟨hb, hc, fun i oi hi l => ?_⟩
      obtain ⟨x, hx, rfl⟩ := frz_get hi
      rw [frz_wrt] at l
      cases l
    · cases hb
  keptW := fun _ hb => hb.elim
  tag := fun i x hi => by
    obtain ⟨y, _, e⟩ := frz_get hi
    cases y <;> cases e
theorem lend_rel (H : HRel ρ h FC w ft) (hn : ∀ o ∈ h, o.wrt = false) (hw : ∀ b, ¬ FC.wr b) : HRel ρ h FC w ft.lend where
  obj := H.obj
  inj := H.inj
  rd := H.rd
  wr := fun i o hi l => by rw [hn o (List.mem_of_getElem? hi)] at l; cases l
  lt := H.lt
  sub := fun _ hb => hb.elim
  kept := H.kept
  keptW := fun b hb => (hw b hb).elim
  tag := H.tag
end
end Go.Proofs.Ythnccaajpdnndaa
