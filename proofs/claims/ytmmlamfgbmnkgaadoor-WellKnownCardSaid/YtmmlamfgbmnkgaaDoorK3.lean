/- Parts of the proof, 3. No conditions. -/
import Derived.Test.YtmmlamfgbmnkgaaDoorK2
import Derived.Conc.TokenTrace
import Derived.Conc.Own2
namespace Go.Proofs.YtmmlamfgbmnkgaaDoor
open Go.Conc
def Crew.less (T : Crew) (k : Nat) : Crew := { T with pend := T.pend.erase k }
def meas (gs : Array Goroutine) (st : Nat → WS) : Nat → Goroutine × WS := fun i => if i = 0 then (default, .quit 0) else (gs.getD i default, st i)
section
variable {P : Program} {W0 : World} {Post : Value → World → Prop} {T : Crew} {g g0 : Goroutine} {w w₁ w' : World} {ft : Foot} {gs gs' : Array Goroutine} {t : Trace} {st st' : Nat → WS} {ix : Nat → Nat} {i k : Nat} {sl : Option (Nat × Nat)}
theorem meas_acc (I : Inv P W0 T ft gs w t st ix) : Acc (Less (WLt P) gs.size) (meas gs st) := by
 refine less_acc _ _ _ fun j hj => ?_
 by_cases h0 : j = 0
 ·have e : meas gs st j = (default, .quit 0) := if_pos h0
  rw [e]
  exact acc_quit P _ _
 ·have e : meas gs st j = (gs.getD j default, st j) := if_neg h0
  rw [e]
  clear e
  have hg : gs[j]? = some gs[j] := Array.getElem?_eq_getElem hj
  have hd : gs.getD j default = gs[j] := by rw [Array.getD_eq_getD_getElem?, hg]; rfl
  rw [hd]
  by_cases hp : ∃ k ∈ T.pend, ix k = j
  ·obtain ⟨k, hk, rfl⟩ := hp
   obtain ⟨y, h1, _, h3⟩ := I.pnd k hk
   rw [hg] at h1
   cases h1
   rcases h3 with ⟨wi, fi, e, W⟩ | ⟨e, _⟩
   ·rw [e]
    exact acc_way (atSend_halts P _ _) W.way
   ·rw [e]
    exact acc_park P _
  ·obtain ⟨n, e, _⟩ := I.old j gs[j] (by omega) hg fun k hk e => hp ⟨k, hk, e⟩
   rw [e]
   exact acc_quit P _ _
theorem meas_less (hi : i < gs.size) (h0 : 0 < i) (_hs : gs'.size = gs.size) {x y : Goroutine} {a b : WS} (hx : gs[i]? = some x) (hy : gs'[i]? = some y) (ha : st i = a) (hb : st' i = b) (hr : WLt P (y, b) (x, a))
  (ho : ∀ j, 0 < j → j ≠ i → gs'[j]? = gs[j]? ∧ st' j = st j) : Less (WLt P) gs.size (meas gs' st') (meas gs st) := by
 refine ⟨i, hi, ?_, fun j hj => ?_⟩
 ·have h0' : ¬ i = 0 := by omega
  unfold meas
  rw [if_neg h0', if_neg h0', Array.getD_eq_getD_getElem?, Array.getD_eq_getD_getElem?, hx, hy, ha, hb]
  exact hr
 ·by_cases hj0 : j = 0
  ·have e1 : meas gs' st' j = (default, .quit 0) := if_pos hj0
   have e2 : meas gs st j = (default, .quit 0) := if_pos hj0
   rw [e1, e2]
  ·obtain ⟨e1, e2⟩ := ho j (by omega) hj
   have x1 : meas gs' st' j = (gs'.getD j default, st' j) := if_neg hj0
   have x2 : meas gs st j = (gs.getD j default, st j) := if_neg hj0
   rw [x1, x2, Array.getD_eq_getD_getElem?, Array.getD_eq_getD_getElem?, e1, e2]
theorem Inv.still (I : Inv P W0 T ft gs w t st ix) {x g' : Goroutine} (hc : ∀ b y, T.ch b = some y → ∃ s r tm, w'.heap[b]? = some (.chan y.1 y.2.1 y.2.2 s r tm)) : ∀ (j : Nat) (y : Goroutine), 0 < j → gs[j]? = some y → woken P x g' w' y = y := by
 intro j y hj hy
 by_cases hp : ∃ k ∈ T.pend, ix k = j
 ·obtain ⟨k, hk, rfl⟩ := hp
  obtain ⟨z, h1, _, h3⟩ := I.pnd k hk
  rw [hy] at h1
  cases h1
  have hown := I.own (List.ne_nil_of_mem hk)
  exact pend_still (t := t) (i := ix k) (ft := ft) (w := w) hown (hc _ _ hown) (h3.imp (fun ⟨a, b, _, c⟩ => ⟨a, b, c⟩) fun h => h.2)
 ·obtain ⟨n, _, hq⟩ := I.old j y hj hy fun k hk e => hp ⟨k, hk, e⟩
  exact woken_quitsD hq
theorem moved_same (I : Inv P W0 T ft gs w t st ix) {x g' : Goroutine} (hc : ∀ b y, T.ch b = some y → ∃ s r tm, w'.heap[b]? = some (.chan y.1 y.2.1 y.2.2 s r tm)) {j : Nat} (h0 : 0 < j) (hj : j ≠ i) : ((gs.map (woken P x g' w')).setIfInBounds i g')[j]? = gs[j]? := by
 rw [Array.getElem?_setIfInBounds_ne (Ne.symm hj), Array.getElem?_map]
 cases e : gs[j]? with
 | none => rfl
 | some y => rw [Option.map_some, I.still hc j y h0 e]
theorem park_put {a : WS} (h : a ≠ .park) : ∀ j, putAt st i a j = .park → st j = .park := fun j e => by
 by_cases hj : j = i
 ·subst hj
  rw [putAt_self] at e
  exact absurd e h
 ·rwa [putAt_ne _ _ hj] at e
theorem Inv.other (I : Inv P W0 T ft gs w t st ix) (hm : MainOk T g0) (h0 : gs[0]? = some g0) (hpos : 0 < i) {x : Goroutine} (hi : gs[i]? = some x) (hrun : x.status = .running) :
  (∃ gs' w' ops st', runT P (crowd gs w sl) i = (.next (crowd gs' w' sl), ops) ∧ gs'.size = gs.size ∧ gs'[0]? = some g0 ∧ RelyW ft w w' ∧ Inv P W0 T ft gs' w' (t ++ ops) st' ix ∧ Less (WLt P) gs.size (meas gs' st') (meas gs st) ∧ ∀ j, st' j = .park → st j = .park) ∨
  (∃ k wi fi, k ∈ T.pend ∧ ix k = i ∧ st i = .way wi fi ∧ AtSend P T.c (T.phi k) x w fi) := by
 have hi0 : (i == 0) = false := by simp; omega
 have hlt : i < gs.size := (Array.getElem?_eq_some_iff.1 hi).1
 by_cases hp : ∃ k ∈ T.pend, ix k = i
 ·obtain ⟨k, hk, rfl⟩ := hp
  obtain ⟨y, h1, _, h3⟩ := I.pnd k hk
  rw [hi] at h1
  cases h1
  rcases h3 with ⟨wi, fi, e, W⟩ | ⟨_, g₂, v, z, rfl, _⟩
  ·cases hw : W.way with
   | stop _ hs => exact .inr ⟨k, wi, fi, hk, rfl, e, hs w W.rely⟩
   | step _ h2 h3 =>
    obtain ⟨g', w', es, hgo, hr', hgu⟩ := h2 w W.rely
    have hto := h3 w g' w' es W.rely hgo
    have hI := I.walk hk hi e W hgu hto
    have hch := hI.chan
    have hrel : RelyW ft w w' := ⟨fun b hb => hgu.heap b (I.lt b hb) fun hwr => W.d1 b hwr hb, hgu.size, hgu.tape, hgu.os, hgu.output⟩
    refine .inl ⟨_, w', _, _, runT_crowd_go (P := P) (sl := sl) hi (by rw [hi0]; exact hgo), by simp, ?_, hrel, hI, ?_, park_put (by simp)⟩
    ·exact moved_put (by omega) h0 (main_still hm fun h => hch _ _ h)
    ·exact meas_less hlt hpos (by simp) hi (moved_own hi) e (putAt_self _ _ _) (.step W.rely hgo) fun j hj hji => ⟨moved_same I hch hj hji, putAt_ne _ _ hji⟩
  ·cases hrun
 ·have hn : ∀ k ∈ T.pend, ix k ≠ i := fun k hk e => hp ⟨k, hk, e⟩
  obtain ⟨n, e, hq⟩ := I.old i x hpos hi hn
  cases n with
  | zero => rw [hq.1] at hrun; cases hrun
  | succ m =>
   rcases hq with ⟨hf, _⟩ | ⟨_, g', es, hmu, hst, hq'⟩
   ·rw [hf] at hrun; cases hrun
   have hI := I.quit hpos hi hn hmu hq'
   refine .inl ⟨_, w, _, _, runT_crowd_go (P := P) (sl := sl) hi (by rw [hi0]; exact hst w), by simp, ?_, RelyW.refl _ _, hI, ?_, park_put (by simp)⟩
   ·exact moved_put (by omega) h0 (main_still hm fun h => I.chan _ _ h)
   ·exact meas_less hlt hpos (by simp) hi (moved_own hi) e (putAt_self _ _ _) (.less (Nat.lt_succ_self m)) fun j hj hji => ⟨moved_same I I.chan hj hji, putAt_ne _ _ hji⟩
theorem Inv.awake (I : Inv P W0 T ft gs w t st ix) (h0 : gs[0]? = some g0) (hm : MainOk T g0) : ∀ g ∈ gs, awake g := by
 intro y hy
 obtain ⟨j, hj, rfl⟩ := Array.mem_iff_getElem.1 hy
 have hg : gs[j]? = some gs[j] := Array.getElem?_eq_getElem hj
 rcases Nat.eq_zero_or_pos j with rfl | hpos
 ·have : gs[0] = g0 := by rw [hg] at h0; exact Option.some.inj h0
  rw [this]
  rcases hm with h | ⟨g₂, z, sh, rfl, _⟩
  ·exact awake_of (.inl h)
  ·exact awake_of (.inr (.inl rfl))
 ·by_cases hp : ∃ k ∈ T.pend, ix k = j
  ·obtain ⟨k, hk, rfl⟩ := hp
   obtain ⟨z, h1, _, h3⟩ := I.pnd k hk
   rw [hg] at h1
   cases h1
   rcases h3 with ⟨_, _, _, W⟩ | ⟨_, g₂, v, z, e, _⟩
   ·exact awake_of (.inl W.way.running)
   ·rw [e]
    exact awake_of (.inr (.inl rfl))
  ·obtain ⟨n, _, hq⟩ := I.old j _ hpos hg fun k hk e => hp ⟨k, hk, e⟩
   exact awake_of (hq.status.elim .inl fun x => .inr (.inr x))
theorem Inv.noRecv (I : Inv P W0 T ft gs w t st ix) {j : Nat} {y : Goroutine} (hj : 0 < j) (hy : gs[j]? = some y) (c : Nat) : offersAt y c false = [] := by
 by_cases hp : ∃ k ∈ T.pend, ix k = j
 ·obtain ⟨k, hk, rfl⟩ := hp
  obtain ⟨z, h1, _, h3⟩ := I.pnd k hk
  rw [hy] at h1
  cases h1
  rcases h3 with ⟨_, _, _, W⟩ | ⟨_, g₂, v, z, rfl, _⟩
  ·exact offersAt_of_not_blocked (by rw [W.way.running]; simp) _ _
  ·exact offersAt_parked_send' _ _ _ _ _ _
 ·obtain ⟨n, _, hq⟩ := I.old j _ hj hy fun k hk e => hp ⟨k, hk, e⟩
  exact offersAt_of_not_blocked (by rcases hq.status with h | h <;> rw [h] <;> simp) _ _
theorem Inv.parks (I : Inv P W0 T ft gs w t st ix) (hk : k ∈ T.pend) {g₂ : Goroutine} {v z : Value} (hv : T.phi k v) (hq : ∃ n, QuitsD P n 0 (Conc.served g₂ undef)) :
  Inv P W0 T ft (gs.setIfInBounds (ix k) (parked g₂ #[scase T.c v z] .send)) w t (putAt st (ix k) .park) ix := by
 have hlt := I.ixr k hk
 refine { base := I.base, lt := I.lt, sub := I.sub, chan := I.chan, cnt := I.cnt, chft := I.chft, own := I.own, nd := I.nd, ixr := fun l hl => by simpa using I.ixr l hl, inj := I.inj, pnd := fun l hl => ?_, old := fun j y hj hy hnj => ?_, disj := fun a ha b hb hab wa fa wb fb e1 e2 => ?_, above := fun j hj => I.above j (by simpa using hj), hears := I.hears, clean := I.clean, known := I.known, done := I.done, seen := I.seen }
 ·by_cases hlk : l = k
  ·subst hlk
   obtain ⟨_, _, h2, _⟩ := I.pnd l hl
   exact ⟨_, Array.getElem?_setIfInBounds_self_of_lt hlt.2, h2, .inr ⟨putAt_self _ _ _, g₂, v, z, rfl, hv, hq⟩⟩
  ·have hne : ix k ≠ ix l := fun e => hlk (I.inj k hk l hl e).symm
   obtain ⟨y, h1, h2, h3⟩ := I.pnd l hl
   exact ⟨y, by rw [Array.getElem?_setIfInBounds_ne hne]; exact h1, h2, by rw [putAt_ne _ _ (Ne.symm hne)]; exact h3⟩
 ·have hne : ix k ≠ j := hnj k hk
  rw [Array.getElem?_setIfInBounds_ne hne] at hy
  rw [putAt_ne _ _ (Ne.symm hne)]
  exact I.old j y hj hy hnj
 ·by_cases hak : ix a = ix k
  ·rw [hak, putAt_self] at e1; cases e1
  ·by_cases hbk : ix b = ix k
   ·rw [hbk, putAt_self] at e2; cases e2
   ·rw [putAt_ne _ _ hak] at e1
    rw [putAt_ne _ _ hbk] at e2
    exact I.disj a ha b hb hab wa fa wb fb e1 e2
end
section
variable {P : Program} {W0 : World} {Post : Value → World → Prop} {T : Crew} {g g0 : Goroutine} {w w₁ w' : World} {ft : Foot} {gs gs' : Array Goroutine} {t : Trace} {st st' : Nat → WS} {ix : Nat → Nat} {i k : Nat} {sl : Option (Nat × Nat)}
theorem evs_nil (t : Trace) (i : Nat) (fn : FuncId) (pos : String) : t ++ MemOp.ofEvents i fn pos #[] = t := by
 rw [ofEvents_eq]
 simp
theorem JC.main (hrun : g.status = .running) (h : ∀ gs w₁ sl t st ix, RelyW ft w w₁ → gs[0]? = some g → Inv P W0 T ft gs w₁ t st ix → ∃ m' ops, runT P (crowd gs w₁ sl) 0 = (.next m', ops) ∧ Ends P Post m' (t ++ ops)) : JC P W0 Post T g w ft := by
 intro gs w₁ sl t st ix hrel h0 I
 have hacc := meas_acc I
 generalize hM : meas gs st = M at hacc
 generalize hn : gs.size = n at hacc
 induction hacc generalizing gs w₁ sl t st with
 | intro M _ ih =>
  obtain ⟨i, x, d, sl', hi, hx, hst⟩ := crowd_pick (P := P) (w := w₁) (sl := sl) (I.awake h0 (.inl hrun)) ⟨0, g, h0, hrun⟩
  rcases Nat.eq_zero_or_pos i with rfl | hpos
  ·obtain rfl : x = g := by rw [h0] at hi; exact (Option.some.inj hi).symm
   obtain ⟨m', ops, hr, he⟩ := h gs (w₁.at d) sl' t st ix (hrel.trans (relyW_at ft w₁ d)) h0 (I.at d)
   exact Ends.next (hst.trans hr) he
  ·have hi0 : (i == 0) = false := by simp; omega
   rcases (I.at d).other (sl := sl') (.inl hrun) h0 hpos hi hx with ⟨gs', w', ops, st', hr, hs, h0', hrel', I', hl, _⟩ | ⟨k, wi, fi, hk, rfl, e, g₂, v, z, hgo, hv, hq⟩
   ·subst hM hn
    exact Ends.next (hst.trans hr) (ih _ hl gs' w' sl' _ st' ((hrel.trans (relyW_at ft w₁ d)).trans hrel') h0' I' rfl hs)
   ·subst hM hn
    have hown := I.own (List.ne_nil_of_mem hk)
    obtain ⟨s, r, tm, hc⟩ := I.chan _ _ hown
    have hr := crowd_waits (P := P) (sl := sl') (gs := gs) (w := w₁.at d) hi (show stepG P (ix k == 0) x (w₁.at d) = _ from by rw [hi0]; exact hgo) fun cc hcc => by
     obtain rfl : cc = scase T.c v z := by simpa using hcc
     refine ways_send_none (w₁ := w₁.at d) hc (Nat.zero_le _) (partners_nil fun j y hy => ?_)
     rcases getElem?_stand _ _ _ _ hy with ⟨_, rfl⟩ | ⟨_, hy⟩
     ·rfl
     ·rcases Nat.eq_zero_or_pos j with rfl | hj
      ·rw [h0] at hy
       cases hy
       exact offersAt_of_not_blocked (by rw [hrun]; simp) _ _
      ·exact I.noRecv hj hy _
    refine Ends.next (hst.trans hr) ?_
    rw [evs_nil]
    have hlt := I.ixr k hk
    refine ih _ ?_ (gs.setIfInBounds (ix k) (parked g₂ #[scase T.c v z] .send)) (w₁.at d) sl' t (putAt st (ix k) .park) (hrel.trans (relyW_at ft w₁ d)) (by rw [Array.getElem?_setIfInBounds_ne (by omega)]; exact h0) ((I.at d).parks hk hv hq) rfl (by simp)
    exact meas_less hlt.2 hpos (by simp) hi (Array.getElem?_setIfInBounds_self_of_lt hlt.2) e (putAt_self _ _ _) .park fun j hj hji => ⟨Array.getElem?_setIfInBounds_ne (Ne.symm hji), putAt_ne _ _ hji⟩
theorem Inv.main (I : Inv P W0 T ft gs w t st ix) (_h0 : gs[0]? = some g) {g' : Goroutine} {es : Array Event} (hgu : GuarW ft w w' es) :
  Inv P W0 T (ft.ext w.heap.size w'.heap.size) ((gs.map (woken P g g' w')).setIfInBounds 0 g') w' (t ++ MemOp.ofEvents 0 g.frame.fn g.frame.place es) st ix := by
 have hsz := hgu.size
 have hdf := fun j => deaf_evs (t := t) (i := 0) (fn := g.frame.fn) (pos := g.frame.place) hgu.evs I.lt j
 have heap : ∀ b y, T.ch b = some y → w'.heap[b]? = w.heap[b]? := fun b y hb => by
  obtain ⟨s, r, tm, e⟩ := I.chan b y hb
  exact hgu.heap b (Array.getElem?_eq_some_iff.1 e).1 fun hw => I.chft b y hb (I.sub b hw)
 have hch : ∀ b y, T.ch b = some y → ∃ s r tm, w'.heap[b]? = some (.chan y.1 y.2.1 y.2.2 s r tm) := fun b y hb => by
  rw [heap b y hb]
  exact I.chan b y hb
 refine { base := ⟨hgu.tape.trans I.base.tape, hgu.os.trans I.base.os, hgu.output.trans I.base.output, Nat.le_trans I.base.size hsz⟩, lt := fun b hb => ?_, sub := fun b hb => ?_, chan := hch, cnt := fun b y s r tm hb hw => I.cnt b y s r tm hb (by rw [← heap b y hb]; exact hw), chft := fun b y hb hr => ?_, own := I.own, nd := I.nd, ixr := fun l hl => by simpa using I.ixr l hl, inj := I.inj, pnd := fun l hl => ?_, old := fun j y hj hy hnj => ?_, disj := I.disj, above := fun j hj => ?_, hears := by rw [hdf]; exact I.hears, clean := fun said => I.known.noRace (I.clean said) hgu.evs, known := I.known.own hgu.evs I.seen, done := fun j a ha hm => ?_, seen := ?_ }
 ·rcases hb with hb | hb
  ·exact Nat.lt_of_lt_of_le (I.lt b hb) hsz
  ·exact hb.2
 ·rcases hb with hb | hb
  ·exact .inl (I.sub b hb)
  ·exact .inr hb
 ·rcases hr with hr | hr
  ·exact I.chft b y hb hr
  ·obtain ⟨s, r, tm, e⟩ := I.chan b y hb
   have hlt : b < w.heap.size := (Array.getElem?_eq_some_iff.1 e).1
   omega
 ·obtain ⟨y, h1, h2, h3⟩ := I.pnd l hl
  have hpos := (I.ixr l hl).1
  refine ⟨y, moved_put (by omega) h1 (I.still hch _ _ hpos h1), by rw [hdf]; exact h2, h3.imp (fun ⟨wl, fl, e, V⟩ => ⟨wl, fl, e, ?_⟩) id⟩
  have heq : ∀ b, fl.rd b → w'.heap[b]? = w.heap[b]? := fun b hb => hgu.heap b (V.lt b hb) fun hw => V.d2 b hw hb
  refine ⟨V.way, V.rely.trans ⟨heq, hsz, hgu.tape, hgu.os, hgu.output⟩, fun b hb => Nat.lt_of_lt_of_le (V.lt b hb) hsz, V.sub, V.ch, fun b hb hr => ?_, fun b hb hr => ?_, V.know.other hgu.evs V.d2 V.d1⟩
  ·rcases hr with hr | hr
   ·exact V.d1 b hb hr
   ·have := V.lt b (V.sub b hb)
    omega
  ·rcases hb with hb | hb
   ·exact V.d2 b hb hr
   ·have := V.lt b hr
    omega
 ·obtain ⟨z, hz, rfl⟩ := moved_get (by omega) hy
  obtain ⟨n, e, hqz⟩ := I.old j z hj hz hnj
  refine ⟨n, e, ?_⟩
  rw [woken_quitsD hqz, hdf]
  exact hqz
 ·rw [hdf]
  exact I.above j (by simpa using hj)
 ·rcases touch_app ha with ⟨_, h⟩ | ⟨op, hop, hg, h⟩
  ·exact (I.done j a h hm).imp (·.app _) fun ⟨l, hl, e⟩ => ⟨l, hl, g_app e⟩
  ·have := knows_own hg
   rw [mem_g hop] at this
   exact .inl this
 ·exact seen_app (fun op hop => MemAct.low_mono hsz (I.seen op hop)) fun op hop => MemAct.low_mono hsz (low_events hgu.evs I.lt op hop)
theorem JC.closed (P : Program) (W0 : World) (Post : Value → World → Prop) (T : Crew) : Closed P true (JC P W0 Post T) where
 rely := fun h hr gs w₂ sl t st ix hrel h0 I => h gs w₂ sl t st ix (hr.trans hrel) h0 I
 step := fun hrun h => JC.main hrun fun gs w₁ sl t st ix hrel h0 I => by
  obtain ⟨g', w', es, hgo, hr', hgu, hJ⟩ := h w₁ hrel
  refine ⟨_, _, runT_crowd_go (P := P) (sl := sl) (i := 0) h0 (show stepG P (0 == 0) _ w₁ = _ from hgo), ?_⟩
  exact hJ _ w' sl _ st ix (RelyW.refl _ _) (moved_own h0) (I.main h0 hgu)
theorem JC.last {f' : Foot} (hp : T.pend = []) (hrd : ∀ b, f'.rd b → ft.rd b ∨ (T.ch b).isSome = true) (hsub : ∀ b, f'.wr b → f'.rd b)
  (h : ∀ w₂, RelyW ft w w₂ → (∀ b, (T.ch b).isSome = true → b < w₂.heap.size) → J1 P W0 Post g w₂ f') : JC P W0 Post T g w ft := by
 intro gs w₁ sl t st ix hrel h0 I
 have hchl : ∀ b, (T.ch b).isSome = true → b < w₁.heap.size := fun b hb => by
  obtain ⟨x, hx⟩ := Option.isSome_iff_exists.1 hb
  obtain ⟨s, r, tm, e⟩ := I.chan b x hx
  exact (Array.getElem?_eq_some_iff.1 e).1
 refine h w₁ hrel hchl gs w₁ sl t (fun i => match st i with | .quit n => n | _ => 0) (fun b hb => (hrd b hb).elim (I.lt b) (hchl b)) hsub (RelyW.refl _ _) I.base h0 ⟨fun j y hj hy => ?_, I.above⟩ ?_
 ·obtain ⟨n, e, hq⟩ := I.old j y hj hy (by rw [hp]; simp)
  rw [e]
  exact hq
 ·have kn : ∀ i a, touchAt t i = some a → a.loc.isMemory = true → Knows t 0 i := fun i a ha hm => by
   rcases I.done i a ha hm with h | ⟨k, hk, _⟩
   ·exact h
   ·rw [hp] at hk
    cases hk
  refine ⟨I.clean, fun i a ha hm => .inl (kn i a ha hm), fun i x hx hne hc => ?_, I.hears, I.seen⟩
  obtain ⟨a, ha, hm, _⟩ := hc
  obtain ⟨q, z, h1, h2, h3⟩ := kn i a ha hm
  rcases h3 with rfl | h3
  ·unfold Trace.g? at hx
   rw [h1] at hx
   simp at hx
   omega
  ·exact ⟨q, by unfold Trace.g?; rw [h1]; simp [h2], h3⟩
end
def Crew.more (T : Crew) (k : Nat) : Crew := { T with pend := T.pend ++ [k] }
def Foot.lend (ft : Foot) : Foot := ⟨ft.rd, fun _ => False, ft.tag⟩
section
variable {P : Program} {W0 : World} {Post : Value → World → Prop} {T : Crew} {g g0 : Goroutine} {w w₁ w' : World} {ft : Foot} {gs gs' : Array Goroutine} {t : Trace} {st st' : Nat → WS} {ix : Nat → Nat} {i k : Nat} {sl : Option (Nat × Nat)}
def hired (c : Nat) (f0 : FuncId) (p0 : String) (f1 : FuncId) (p1 : String) : Trace := #[{ g := 0, fn := f0, pos := p0, act := .go c }, { g := c, fn := f1, pos := p1, act := .start }]
theorem hired_quiet (c : Nat) (f0 : FuncId) (p0 : String) (f1 : FuncId) (p1 : String) (g : Nat) : ∀ op ∈ hired c f0 p0 f1 p1, ∀ d, deafStep g d op = d := by
 intro op hop d
 simp only [hired, List.mem_toArray, List.mem_cons, List.not_mem_nil, or_false] at hop
 rcases hop with rfl | rfl <;> rfl
theorem hired_mute (c : Nat) (f0 : FuncId) (p0 : String) (f1 : FuncId) (p1 : String) : ∀ op ∈ hired c f0 p0 f1 p1, op.act.touch? = none := by
 intro op hop
 simp only [hired, List.mem_toArray, List.mem_cons, List.not_mem_nil, or_false] at hop
 rcases hop with rfl | rfl <;> rfl
theorem hired_low (c : Nat) (f0 : FuncId) (p0 : String) (f1 : FuncId) (p1 : String) (n : Nat) : ∀ op ∈ hired c f0 p0 f1 p1, op.act.low n := by
 intro op hop
 simp only [hired, List.mem_toArray, List.mem_cons, List.not_mem_nil, or_false] at hop
 rcases hop with rfl | rfl <;> trivial
theorem Inv.hire (I : Inv P W0 T ft gs w t st ix) (hlt0 : 0 < gs.size) (hk : k ∉ T.pend) (hown : T.ch T.c = some (0, #[], false)) {g' child : Goroutine} (hto : Toward P (AtSend P T.c (T.phi k)) child w ft.lend) (f0 : FuncId) (p0 : String) (f1 : FuncId) (p1 : String) :
  Inv P W0 (T.more k) ft.lend ((gs.setIfInBounds 0 g').push child) w (t ++ hired gs.size f0 p0 f1 p1) (putAt st gs.size (.way w ft.lend)) (putAt ix k gs.size) := by
 have hd := fun j => Deaf_quiet (t := t) (hired_quiet gs.size f0 p0 f1 p1 j)
 have hmu := hired_mute gs.size f0 p0 f1 p1
 have hix : ∀ l ∈ T.pend, putAt ix k gs.size l = ix l := fun l hl => putAt_ne _ _ fun e => hk (e ▸ hl)
 have hmem : ∀ {l}, l ∈ (T.more k).pend → l ∈ T.pend ∨ l = k := fun hl => by simpa [Crew.more] using hl
 have hget : ∀ l ∈ T.pend, ((gs.setIfInBounds 0 g').push child)[ix l]? = gs[ix l]? := fun l hl => by
  have := I.ixr l hl
  rw [Array.getElem?_push_lt (by simpa using this.2), Array.getElem_setIfInBounds (by simpa using this.2), if_neg (by omega), Array.getElem?_eq_getElem this.2]
 have hst : ∀ l ∈ T.pend, putAt st gs.size (.way w ft.lend) (ix l) = st (ix l) := fun l hl => putAt_ne _ _ (by have := I.ixr l hl; omega)
 have hkn : putAt ix k gs.size k = gs.size := putAt_self _ _ _
 have e0 : (t ++ hired gs.size f0 p0 f1 p1)[t.size]? = some { g := 0, fn := f0, pos := p0, act := .go gs.size } := by simp [hired]
 have e1 : (t ++ hired gs.size f0 p0 f1 p1)[t.size + 1]? = some { g := gs.size, fn := f1, pos := p1, act := .start } := by simp [hired]
 have edge : HappensBefore (t ++ hired gs.size f0 p0 f1 p1) t.size (t.size + 1) :=
  Relation.TransGen.single (.inr ⟨.spawn (act?_of e0) (act?_of e1) (g?_of e1), ⟨0, g?_of e0, by rw [deaf_old (Nat.le_refl _)]; exact I.hears⟩, ⟨gs.size, g?_of e1, by rw [deaf_quiet (hired_quiet gs.size f0 p0 f1 p1 gs.size) 1 (by simp [hired])]; exact I.above _ (Nat.le_refl _)⟩⟩)
 refine { base := I.base, lt := I.lt, sub := fun _ h => h.elim, chan := I.chan, cnt := I.cnt, chft := I.chft, own := fun _ => hown, nd := ?_, ixr := fun l hl => ?_, inj := fun a ha b hb e => ?_, pnd := fun l hl => ?_, old := fun j y hj hy hnj => ?_, disj := fun a ha b hb hab wa fa wb fb x1 x2 => ?_, above := fun j hj => ?_, hears := by rw [hd]; exact I.hears, clean := fun said => noRace_appendMute (I.clean said) hmu, known := (I.known.less (f' := ft.lend) (fun _ h => h) (fun _ h => h.elim)).mute hmu, done := fun j a ha hm => ?_, seen := seen_app I.seen (hired_low _ _ _ _ _ _) }
 ·show (T.pend ++ [k]).Nodup
  rw [List.nodup_append]
  exact ⟨I.nd, by simp, fun a ha b hb => by simp at hb; subst hb; exact fun e => hk (e ▸ ha)⟩
 ·rcases hmem hl with h | rfl
  ·rw [hix l h]
   have := I.ixr l h
   exact ⟨this.1, by simp; omega⟩
  ·rw [hkn]
   exact ⟨hlt0, by simp⟩
 ·rcases hmem ha with h | rfl <;> rcases hmem hb with h' | rfl
  ·rw [hix a h, hix b h'] at e
   exact I.inj a h b h' e
  ·rw [hix a h, hkn] at e
   have := I.ixr a h
   omega
  ·rw [hix b h', hkn] at e
   have := I.ixr b h'
   omega
  ·rfl
 ·rcases hmem hl with h | rfl
  ·rw [hix l h, hget l h, hst l h, hd]
   obtain ⟨y, h1, h2, h3⟩ := I.pnd l h
   exact ⟨y, h1, h2, h3.imp (fun ⟨wl, fl, e, V⟩ => ⟨wl, fl, e, V.way, V.rely, V.lt, V.sub, V.ch, V.d1, fun _ h => h.elim, V.know.mute hmu⟩) id⟩
  ·rw [hkn, hd, putAt_self]
   refine ⟨child, by rw [Array.getElem?_push, if_pos (by simp)], I.above _ (Nat.le_refl _), .inl ⟨w, _, rfl, hto, RelyW.refl _ _, I.lt, fun _ h => h.elim, I.chft, fun _ h => h.elim, fun _ h => h.elim, fun j a ha hm => ?_⟩⟩
   rcases touch_app ha with ⟨_, h⟩ | ⟨op, hop, _, h⟩
   ·rcases I.known j a h hm with hh | hh
    ·exact .inl ⟨t.size + 1, _, e1, rfl, .inr ((hh.hb_new (Nat.le_refl _) e0 rfl).trans edge)⟩
    ·exact .inr fun b hb => ⟨fun h => h.elim, (hh b hb).2⟩
   ·rw [hmu op hop] at h; cases h
 ·have hjs : j ≠ gs.size := fun e => hnj k (by simp [Crew.more]) (by rw [hkn]; exact e.symm)
  have hlt : j < gs.size := by
   have := (Array.getElem?_eq_some_iff.1 hy).1
   simp at this
   omega
  rw [Array.getElem?_push_lt (by simpa using hlt), Array.getElem_setIfInBounds (by simpa using hlt), if_neg (by omega), ← Array.getElem?_eq_getElem hlt] at hy
  obtain ⟨n, e, hq⟩ := I.old j y hj hy fun l hl e => hnj l (by simp [Crew.more, hl]) (by rw [hix l hl]; exact e)
  exact ⟨n, by rw [putAt_ne _ _ hjs]; exact e, by rw [hd]; exact hq⟩
 ·rcases hmem ha with h | rfl <;> rcases hmem hb with h' | rfl
  ·rw [hix a h, hst a h] at x1
   rw [hix b h', hst b h'] at x2
   exact I.disj a h b h' hab wa fa wb fb x1 x2
  ·rw [hix a h, hst a h] at x1
   rw [hkn, putAt_self] at x2
   cases x2
   obtain ⟨y, _, _, h3⟩ := I.pnd a h
   rcases h3 with ⟨wl, fl, e, V⟩ | ⟨e, _⟩
   ·rw [e] at x1
    cases x1
    exact V.d1
   ·rw [e] at x1
    cases x1
  ·rw [hkn, putAt_self] at x1
   cases x1
   exact fun _ h => h.elim
  ·exact absurd rfl hab
 ·rw [hd]
  exact I.above j (by simp at hj; omega)
 ·rcases done_mute (ix := ix) I.done hmu j a ha hm with h | ⟨l, hl, e⟩
  ·exact .inl h
  ·exact .inr ⟨l, by simp [Crew.more, hl], by rw [hix l hl]; exact e⟩
theorem JC.spawn (hrun : g.status = .running) (hk : k ∉ T.pend) (hown : T.ch T.c = some (0, #[], false))
  (h : ∀ w₁, RelyW ft w w₁ → ∃ g' child, stepG P true g w₁ = .spawn g' child w₁ #[] ∧ Toward P (AtSend P T.c (T.phi k)) child w₁ ft.lend ∧ JC P W0 Post (T.more k) g' w₁ ft.lend) : JC P W0 Post T g w ft :=
 JC.main hrun fun gs w₁ sl t st ix hrel h0 I => by
  obtain ⟨g', child, hgo, hto, hJ⟩ := h w₁ hrel
  have hlt0 : 0 < gs.size := (Array.getElem?_eq_some_iff.1 h0).1
  refine ⟨_, _, runT_crowd_spawn (P := P) (sl := sl) (i := 0) h0 (show stepG P (0 == 0) _ w₁ = _ from hgo), ?_⟩
  have e : t ++ ((MemOp.ofEvents 0 g.frame.fn g.frame.place #[]).push { g := 0, fn := g.frame.fn, pos := g.frame.place, act := .go gs.size } |>.push { g := gs.size, fn := child.frame.fn, pos := g.frame.place, act := .start }) = t ++ hired gs.size g.frame.fn g.frame.place child.frame.fn g.frame.place := by
   rw [ofEvents_eq]
   simp [hired]
  rw [e]
  refine hJ _ w₁ sl _ _ _ (RelyW.refl _ _) ?_ (I.hire hlt0 hk hown hto _ _ _ _)
  rw [Array.getElem?_push_lt (by simpa using hlt0), Array.getElem_setIfInBounds (by simpa using hlt0)]
  simp
end
section
variable {P : Program} {W0 : World} {Post : Value → World → Prop} {T : Crew} {g g0 : Goroutine} {w w₁ w' : World} {ft : Foot} {gs gs' : Array Goroutine} {t : Trace} {st st' : Nat → WS} {ix : Nat → Nat} {i k : Nat} {sl : Option (Nat × Nat)}
theorem mem_less {l : Nat} (h : l ∈ (T.less k).pend) : l ∈ T.pend := List.mem_of_mem_erase h
theorem ne_less {l : Nat} (hn : T.pend.Nodup) (h : l ∈ (T.less k).pend) : l ≠ k := fun e => by
 subst e
 exact (hn.not_mem_erase) h
theorem less_mem {l : Nat} (h : l ∈ T.pend) (hne : l ≠ k) : l ∈ (T.less k).pend := (List.mem_erase_of_ne hne).2 h
theorem passed_heap (w : World) (c s r : Nat) (tm : Bool) (b : Nat) : (w.setChan c 0 #[] false s r tm).heap[b]? = if b = c ∧ c < w.heap.size then some (.chan 0 #[] false s r tm) else w.heap[b]? := by
 unfold World.setChan
 by_cases h : c = b
 ·subst h
  by_cases hl : c < w.heap.size
  ·simp [hl]
  ·simp [hl]
 ·rw [if_neg (fun e => h e.1.symm)]
  simp [Array.getElem?_setIfInBounds_ne h]
theorem Inv.handed (I : Inv P W0 T ft gs w t st ix) (hk : k ∈ T.pend) {s r : Nat} {tm : Bool} (hc : w.heap[T.c]? = some (.chan 0 #[] false s r tm)) (hs : gs'.size = gs.size) {y : Goroutine} {n : Nat} (hy : gs'[ix k]? = some y) (hq : QuitsD P n 0 y)
  (ho : ∀ j, 0 < j → j ≠ ix k → gs'[j]? = gs[j]?) (d : Nat) (fh : FuncId) (ph : String) (fj : FuncId) (pj : String) :
  Inv P W0 (T.less k) ft gs' ((w.at d).setChan T.c 0 #[] false (s + 1) (r + 1) tm) (t ++ met (ix k) 0 fh ph fj pj T.c s 0) (putAt st (ix k) (.quit n)) ix := by
 have hown := I.own (List.ne_nil_of_mem hk)
 have hsr : s = r := by have := I.cnt _ _ s r tm hown hc; simpa using this
 have hclt : T.c < w.heap.size := (Array.getElem?_eq_some_iff.1 hc).1
 have hd := fun j => Deaf_quiet (t := t) (met_quiet (ix k) 0 fh ph fj pj T.c s 0 j)
 have hmu := met_mute (ix k) 0 fh ph fj pj T.c s 0
 have hpas := fun b => passed_heap (w.at d) T.c (s + 1) (r + 1) tm b
 have hpos := (I.ixr k hk).1
 have e0 : (t ++ met (ix k) 0 fh ph fj pj T.c s 0)[t.size]? = some { g := ix k, fn := fh, pos := ph, act := .send T.c s } := by simp [met]
 have e3 : (t ++ met (ix k) 0 fh ph fj pj T.c s 0)[t.size + 3]? = some { g := 0, fn := fj, pos := pj, act := .recvDone T.c s } := by simp [met]
 have hdk : Deaf t (ix k) = 0 := by
  obtain ⟨_, _, h2, _⟩ := I.pnd k hk
  exact h2
 have edge : HappensBefore (t ++ met (ix k) 0 fh ph fj pj T.c s 0) t.size (t.size + 3) :=
  Relation.TransGen.single (.inr ⟨.handOver (act?_of e0) (act?_of e3), ⟨ix k, g?_of e0, by rw [deaf_old (Nat.le_refl _)]; exact hdk⟩, ⟨0, g?_of e3, by rw [deaf_quiet (met_quiet (ix k) 0 fh ph fj pj T.c s 0 0) 3 (by simp [met])]; exact I.hears⟩⟩)
 have heap : ∀ b, b ≠ T.c → ((w.at d).setChan T.c 0 #[] false (s + 1) (r + 1) tm).heap[b]? = w.heap[b]? := fun b hb => by
  rw [hpas, if_neg (fun e => hb e.1)]
  rfl
 have rel : ∀ {f : Foot}, ¬ f.rd T.c → RelyW f w ((w.at d).setChan T.c 0 #[] false (s + 1) (r + 1) tm) := fun hn =>
  ⟨fun b hb => heap b fun e => hn (e ▸ hb), by simp [World.setChan, World.at], rfl, rfl, rfl⟩
 have hsz : ((w.at d).setChan T.c 0 #[] false (s + 1) (r + 1) tm).heap.size = w.heap.size := by simp [World.setChan, World.at]
 have hst : ∀ l ∈ (T.less k).pend, putAt st (ix k) (.quit n) (ix l) = st (ix l) := fun l hl => putAt_ne _ _ fun e => ne_less I.nd hl (I.inj l (mem_less hl) k hk e)
 refine { base := ⟨I.base.tape, I.base.os, I.base.output, by rw [hsz]; exact I.base.size⟩, lt := fun b hb => by rw [hsz]; exact I.lt b hb, sub := I.sub, chan := fun b x hb => ?_, cnt := fun b x s' r' tm' hb hw => ?_, chft := I.chft, own := fun _ => hown, nd := I.nd.erase _, ixr := fun l hl => by rw [hs]; exact I.ixr l (mem_less hl), inj := fun a ha b hb e => I.inj a (mem_less ha) b (mem_less hb) e, pnd := fun l hl => ?_, old := fun j z hj hz hnj => ?_, disj := fun a ha b hb hab wa fa wb fb x1 x2 => ?_, above := fun j hj => by rw [hd]; exact I.above j (by omega), hears := by rw [hd]; exact I.hears, clean := fun said => noRace_appendMute (I.clean said) hmu, known := I.known.mute hmu, done := fun j a ha hm => ?_, seen := ?_ }
 ·by_cases hbc : b = T.c
  ·subst hbc
   rw [show (T.less k).ch T.c = T.ch T.c from rfl, hown] at hb
   cases hb
   exact ⟨_, _, _, by rw [hpas, if_pos ⟨rfl, hclt⟩]⟩
  ·rw [heap b hbc]
   exact I.chan b x hb
 ·by_cases hbc : b = T.c
  ·subst hbc
   rw [show (T.less k).ch T.c = T.ch T.c from rfl, hown] at hb
   cases hb
   rw [hpas, if_pos ⟨rfl, hclt⟩] at hw
   simp only [Option.some.injEq, Obj.chan.injEq] at hw
   obtain ⟨_, _, _, rfl, rfl, _⟩ := hw
   simp [hsr]
  ·rw [heap b hbc] at hw
   exact I.cnt b x s' r' tm' hb hw
 ·obtain ⟨z, h1, h2, h3⟩ := I.pnd l (mem_less hl)
  have hne : ix l ≠ ix k := fun e => ne_less I.nd hl (I.inj l (mem_less hl) k hk e)
  refine ⟨z, by rw [ho _ (I.ixr l (mem_less hl)).1 hne]; exact h1, by rw [hd]; exact h2, ?_⟩
  rw [hst l hl]
  refine h3.imp (fun ⟨wl, fl, e, V⟩ => ⟨wl, fl, e, V.way, V.rely.trans (rel (V.ch _ _ hown)), fun b hb => by rw [hsz]; exact V.lt b hb, V.sub, V.ch, V.d1, V.d2, V.know.mute hmu⟩) id
 ·by_cases hjk : j = ix k
  ·subst hjk
   rw [hy] at hz
   cases hz
   exact ⟨n, putAt_self _ _ _, by rw [hd, hdk]; exact hq⟩
  ·rw [ho j hj hjk] at hz
   rw [putAt_ne _ _ hjk, hd]
   exact I.old j z hj hz fun l hl e => by
    by_cases hlk : l = k
    ·subst hlk
     exact hjk e.symm
    ·exact hnj l (less_mem hl hlk) e
 ·rw [hst a ha] at x1
  rw [hst b hb] at x2
  exact I.disj a (mem_less ha) b (mem_less hb) hab wa fa wb fb x1 x2
 ·rcases touch_app ha with ⟨_, h⟩ | ⟨op, hop, _, h⟩
  ·rcases I.done j a h hm with h | ⟨l, hl, e⟩
   ·exact .inl (h.app _)
   ·by_cases hlk : l = k
    ·subst hlk
     obtain ⟨z, hz, hzg⟩ := Option.map_eq_some_iff.1 e
     have hkn : Knows t (ix l) j := by
      have := knows_own hz
      rwa [hzg] at this
     exact .inl ⟨t.size + 3, _, e3, rfl, .inr ((hkn.hb_new (Nat.le_refl _) e0 rfl).trans edge)⟩
    ·exact .inr ⟨l, less_mem hl hlk, g_app e⟩
  ·rw [hmu op hop] at h; cases h
 ·rw [hsz]
  refine seen_app I.seen fun op hop => ?_
  simp only [met, List.mem_toArray, List.mem_cons, List.not_mem_nil, or_false] at hop
  rcases hop with rfl | rfl | rfl | rfl <;> exact hclt
theorem passed_rely {f : Foot} {c s r d : Nat} {tm : Bool} (hn : ¬ f.rd c) : RelyW f w ((w.at d).setChan c 0 #[] false s r tm) :=
 ⟨fun b hb => by
  have hne : b ≠ c := fun e => hn (e ▸ hb)
  rw [passed_heap, if_neg (fun e => hne e.1)]
  rfl, by simp [World.setChan, World.at], rfl, rfl, rfl⟩
theorem evs_front (u : Trace) (i : Nat) (fn : FuncId) (pos : String) : MemOp.ofEvents i fn pos #[] ++ u = u := by
 rw [ofEvents_eq]
 simp
theorem Inv.front (I : Inv P W0 T ft gs w t st ix) (hs : gs'.size = gs.size) (ho : ∀ j, 0 < j → gs'[j]? = gs[j]?) : Inv P W0 T ft gs' w t st ix where
 base := I.base
 lt := I.lt
 sub := I.sub
 chan := I.chan
 cnt := I.cnt
 chft := I.chft
 own := I.own
 nd := I.nd
 ixr := fun k hk => by rw [hs]; exact I.ixr k hk
 inj := I.inj
 pnd := fun k hk => by
  rw [ho _ (I.ixr k hk).1]
  exact I.pnd k hk
 old := fun i g hi hg hn => I.old i g hi (by rw [← ho i hi]; exact hg) hn
 disj := I.disj
 above := fun j hj => I.above j (by omega)
 hears := I.hears
 clean := I.clean
 known := I.known
 done := I.done
 seen := I.seen
theorem finish_recv {g₂ : Goroutine} {cs : Array CommCase} {ok : Bool} {v : Value} : g₂.finishComm P cs (.recv ok) 0 v true = Conc.served g₂ (recvd ok v true) := finishComm_recv P g₂ cs ok 0 v true
theorem park_ends {g₂ : Goroutine} {z : Value} {ok : Bool} (hp : T.pend ≠ []) (hN : ∀ k ∈ T.pend, ∀ v, T.phi k v → JC P W0 Post (T.less k) (Conc.served g₂ (recvd ok v true)) w ft) (h0 : gs[0]? = some (parked g₂ #[rcase T.c z] (.recv ok))) (hrel : RelyW ft w w₁)
  (I : Inv P W0 T ft gs w₁ t st ix) (hnp : ∀ k ∈ T.pend, st (ix k) ≠ .park) : Ends P Post (crowd gs w₁ sl) t := by
 have hown := I.own hp
 have hm : MainOk T (parked g₂ #[rcase T.c z] (.recv ok)) := .inr ⟨g₂, z, _, rfl, hown⟩
 have hacc := meas_acc I
 generalize hM : meas gs st = M at hacc
 generalize hn : gs.size = n at hacc
 induction hacc generalizing gs w₁ sl t st with
 | intro M _ ih =>
  obtain ⟨l, hl⟩ := List.exists_mem_of_ne_nil _ hp
  obtain ⟨y, hy, _, h3⟩ := I.pnd l hl
  have hyr : y.status = .running := by
   rcases h3 with ⟨_, _, _, V⟩ | ⟨e, _⟩
   ·exact V.way.running
   ·exact absurd e (hnp l hl)
  obtain ⟨i, x, d, sl', hi, hx, hst⟩ := crowd_pick (P := P) (w := w₁) (sl := sl) (I.awake h0 hm) ⟨ix l, y, hy, hyr⟩
  have hpos : 0 < i := by
   rcases Nat.eq_zero_or_pos i with rfl | h
   ·rw [h0] at hi
    cases hi
    cases hx
   ·exact h
  have hi0 : (i == 0) = false := by simp; omega
  rcases (I.at d).other (sl := sl') hm h0 hpos hi hx with ⟨gs', w', ops, st', hr, hs, h0', hrel', I', hl', hpk⟩ | ⟨k, wi, fi, hk, rfl, e, gk, v, zk, hgo, hv, n, hq⟩
  ·subst hM hn
   exact Ends.next (hst.trans hr) (ih _ hl' h0' ((hrel.trans (relyW_at ft w₁ d)).trans hrel') I' (fun k hk e => hnp k hk (hpk _ e)) rfl hs)
  ·obtain ⟨s, r, tm, hc⟩ := I.chan _ _ hown
   have hlt := I.ixr k hk
   have hmem : ∀ j b, (j, b) ∈ partners (gs.setIfInBounds (ix k) ph) T.c false → j = 0 ∧ b = 0 := fun j b hjb => by
    obtain ⟨y, hy, hb⟩ := mem_partners.1 hjb
    rcases getElem?_stand _ _ _ _ hy with ⟨_, rfl⟩ | ⟨_, hy⟩
    ·cases hb
    ·rcases Nat.eq_zero_or_pos j with rfl | hj
     ·rw [h0] at hy
      cases hy
      rw [offersAt_parked_recv, if_pos rfl] at hb
      exact ⟨rfl, by simpa using hb⟩
     ·rw [I.noRecv hj hy] at hb
      cases hb
   have h0k : (gs.setIfInBounds (ix k) ph)[0]? = some (parked g₂ #[rcase T.c z] (.recv ok)) := by rw [Array.getElem?_setIfInBounds_ne (by omega)]; exact h0
   obtain ⟨j, gj, zj, shj, d2, hij, hgj, hr⟩ := crowd_send_meets_some (P := P) (sl := sl') (gs := gs) (w := w₁.at d) (w₁ := w₁.at d) hi (show stepG P (ix k == 0) x (w₁.at d) = _ from by rw [hi0]; exact hgo) (show (w₁.at d).heap[T.c]? = _ from hc)
    (fun e => by
     have : (0, 0) ∈ partners (gs.setIfInBounds (ix k) ph) T.c false := mem_partners.2 ⟨_, h0k, by rw [offersAt_parked_recv, if_pos rfl]; simp⟩
     rw [e] at this
     cases this)
    (fun j b hjb => by
     obtain ⟨rfl, rfl⟩ := hmem j b hjb
     exact ⟨rfl, by omega, g₂, z, _, h0⟩)
   have hj0 : j = 0 := by
    rcases Nat.eq_zero_or_pos j with h | h
    ·exact h
    ·have := I.noRecv h hgj T.c
     rw [offersAt_parked_recv, if_pos rfl] at this
     cases this
   subst hj0
   rw [h0] at hgj
   have hpe : parked g₂ #[rcase T.c z] (.recv ok) = parked gj #[rcase T.c zj] shj := Option.some.inj hgj
   have hoff := congrArg Goroutine.offers hpe
   simp only [parked, rcase, Option.some.injEq, Prod.mk.injEq] at hoff
   obtain ⟨ho1, rfl⟩ := hoff
   have hz : z = zj := by simpa using ho1
   subst hz
   have hgeq : gj.finishComm P #[rcase T.c z] (.recv ok) 0 v true = Conc.served g₂ (recvd ok v true) := by
    rw [← finish_recv (P := P) (cs := #[rcase T.c z]), ← finishComm_parked P gj _ #[rcase T.c z] _ (.recv ok), ← hpe, finishComm_parked]
   have hsr : s = r := by have := I.cnt _ _ s r tm hown hc; simpa using this
   subst hsr
   subst hM hn
   rw [hgeq, finishComm_send] at hr
   refine Ends.next (hst.trans hr) ?_
   rw [evs_front]
   exact hN k hk v hv _ _ sl' _ _ ix (hrel.trans ((relyW_at ft w₁ d).trans (passed_rely (I.chft _ _ hown)))) (by rw [Array.getElem?_setIfInBounds_ne (by omega), Array.getElem?_setIfInBounds_self_of_lt (by omega)])
    ((I.at d).handed (n := n) (y := Conc.served gk undef) hk hc (by simp) (Array.getElem?_setIfInBounds_self_of_lt (by simpa using hlt.2)) hq
     (fun j h1 h2 => by rw [Array.getElem?_setIfInBounds_ne (Ne.symm h2), Array.getElem?_setIfInBounds_ne (by omega)]) d2 gk.frame.fn gk.frame.place gj.frame.fn gj.frame.place)
theorem Inv.sends (I : Inv P W0 T ft gs w t st ix) {j b : Nat} {y : Goroutine} (hj : 0 < j) (hy : gs[j]? = some y) (hb : b ∈ offersAt y T.c true) : ∃ k ∈ T.pend, ix k = j ∧ b = 0 ∧ ParkOk P T k y := by
 by_cases hp : ∃ k ∈ T.pend, ix k = j
 ·obtain ⟨k, hk, rfl⟩ := hp
  obtain ⟨z, h1, _, h3⟩ := I.pnd k hk
  rw [hy] at h1
  cases h1
  rcases h3 with ⟨_, _, _, W⟩ | ⟨_, hpk⟩
  ·rw [offersAt_of_not_blocked (by rw [W.way.running]; simp)] at hb
   cases hb
  ·refine ⟨k, hk, rfl, ?_, hpk⟩
   obtain ⟨g₂, v, z, rfl, _⟩ := hpk
   rw [offersAt_parked_send, if_pos rfl] at hb
   simpa using hb
 ·obtain ⟨n, _, hq⟩ := I.old j _ hj hy fun k hk e => hp ⟨k, hk, e⟩
  rw [offersAt_of_not_blocked (by rcases hq.status with h | h <;> rw [h] <;> simp)] at hb
  cases hb
theorem JC.recv (hrun : g.status = .running) (hp : T.pend ≠ []) {ok : Bool}
  (h : ∀ w₁, RelyW ft w w₁ → ∃ g₂ z, stepG P true g w₁ = .comm g₂ #[rcase T.c z] true (.recv ok) w₁ #[] ∧ ∀ k ∈ T.pend, ∀ v, T.phi k v → JC P W0 Post (T.less k) (Conc.served g₂ (recvd ok v true)) w₁ ft) : JC P W0 Post T g w ft :=
 JC.main hrun fun gs w₁ sl t st ix hrel h0 I => by
  obtain ⟨g₂, z, hgo, hN⟩ := h w₁ hrel
  have hown := I.own hp
  obtain ⟨s, r, tm, hc⟩ := I.chan _ _ hown
  have hlt0 : 0 < gs.size := (Array.getElem?_eq_some_iff.1 h0).1
  have hsr : s = r := by have := I.cnt _ _ s r tm hown hc; simpa using this
  subst hsr
  by_cases hpk : ∃ k ∈ T.pend, st (ix k) = .park
  ·obtain ⟨k0, hk0, e0⟩ := hpk
   obtain ⟨y0, hy0, _, h3⟩ := I.pnd k0 hk0
   have hpar : ParkOk P T k0 y0 := by
    rcases h3 with ⟨_, _, e, _⟩ | ⟨_, hpk⟩
    ·rw [e0] at e; cases e
    ·exact hpk
   have hpos0 := (I.ixr k0 hk0).1
   obtain ⟨j, gj, vj, zj, shj, d, hij, hgj, hr⟩ := crowd_recv_meets_some (P := P) (sl := sl) (gs := gs) (w := w₁) (w₁ := w₁) (i := 0) h0 (show stepG P (0 == 0) _ w₁ = _ from hgo) hc
    (fun e => by
     obtain ⟨gp, vp, zp, rfl, _⟩ := hpar
     have : (ix k0, 0) ∈ partners (gs.setIfInBounds 0 ph) T.c true := mem_partners.2 ⟨_, by rw [Array.getElem?_setIfInBounds_ne (by omega)]; exact hy0, by rw [offersAt_parked_send, if_pos rfl]; simp⟩
     rw [e] at this
     cases this)
    (fun j b hjb => by
     obtain ⟨y, hy, hb⟩ := mem_partners.1 hjb
     rcases getElem?_stand _ _ _ _ hy with ⟨_, rfl⟩ | ⟨hj0, hy⟩
     ·cases hb
     ·obtain ⟨k, hk, rfl, rfl, gp, vp, zp, rfl, _⟩ := I.sends (by omega) hy hb
      exact ⟨rfl, hj0, gp, vp, zp, _, hy⟩)
   obtain ⟨k, hk, rfl, _, gp, vp, zp, hpe, hv, n, hq⟩ := I.sends (b := 0) (Nat.pos_of_ne_zero hij) hgj (by rw [offersAt_parked_send, if_pos rfl]; simp)
   have hoff := congrArg Goroutine.offers hpe
   simp only [parked, scase, Option.some.injEq, Prod.mk.injEq] at hoff
   obtain ⟨ho1, rfl⟩ := hoff
   have hz : vj = vp ∧ zj = zp := by simpa using ho1
   obtain ⟨rfl, rfl⟩ := hz
   have hgeq : gj.finishComm P #[scase T.c vj zj] .send 0 undef false = Conc.served gp undef := by
    rw [← finishComm_send P gp #[scase T.c vj zj] 0 undef false, ← finishComm_parked P gj _ #[scase T.c vj zj] _ .send, hpe, finishComm_parked]
   refine ⟨_, _, hr, ?_⟩
   rw [hgeq, finish_recv, evs_front]
   have hlt := I.ixr k hk
   exact hN k hk vj hv _ _ sl _ _ ix (passed_rely (I.chft _ _ hown)) (Array.getElem?_setIfInBounds_self_of_lt (by simpa using hlt0))
    (I.handed (n := n) (y := Conc.served gp undef) hk hc (by simp) (by rw [Array.getElem?_setIfInBounds_ne (by omega)]; exact Array.getElem?_setIfInBounds_self_of_lt hlt.2) hq
     (fun j h1 h2 => by rw [Array.getElem?_setIfInBounds_ne (by omega), Array.getElem?_setIfInBounds_ne (Ne.symm h2)]) d gj.frame.fn gj.frame.place g₂.frame.fn g₂.frame.place)
  ·have hr := crowd_waits (P := P) (sl := sl) (gs := gs) (w := w₁) (i := 0) h0 (show stepG P (0 == 0) _ w₁ = _ from hgo) fun cc hcc => by
    obtain rfl : cc = rcase T.c z := by simpa using hcc
    refine ways_recv_none hc (partners_nil fun j y hy => ?_)
    rcases getElem?_stand _ _ _ _ hy with ⟨_, rfl⟩ | ⟨hj0, hy⟩
    ·rfl
    ·cases e : offersAt y T.c true with
     | nil => rfl
     | cons b l =>
      obtain ⟨k, hk, rfl, rfl, gp, vp, zp, rfl, _⟩ := I.sends (b := b) (by omega) hy (by rw [e]; simp)
      exfalso
      obtain ⟨z', h1, _, h3⟩ := I.pnd k hk
      rw [hy] at h1
      cases h1
      rcases h3 with ⟨_, _, _, W⟩ | ⟨e', _⟩
      ·have := W.way.running
       cases this
      ·exact hpk ⟨k, hk, e'⟩
   refine ⟨_, _, hr, ?_⟩
   rw [evs_nil]
   have h0' : (gs.setIfInBounds 0 (parked g₂ #[rcase T.c z] (.recv ok)))[0]? = some (parked g₂ #[rcase T.c z] (.recv ok)) := Array.getElem?_setIfInBounds_self_of_lt hlt0
   refine park_ends hp hN h0' (RelyW.refl _ _) (I.front (by simp) fun j hj => Array.getElem?_setIfInBounds_ne (by omega)) fun k hk e => hpk ⟨k, hk, e⟩
end
section
variable {P : Program} {W0 : World} {Post : Value → World → Prop} {T : Crew} {g : Goroutine} {w w₁ w' : World} {ft f' : Foot}
theorem J1.crew (hp : T.pend = []) (hch : ∀ b x, T.ch b = some x → ft.rd b ∧ x.2 = (#[], false) ∧ w.heap[b]? = some (.chan x.1 #[] false 0 0 false))
  (hrd : ∀ b, f'.rd b → ft.rd b ∧ T.ch b = none) (hwr : ∀ b, f'.wr b → ft.wr b ∧ f'.rd b) (h : JC P W0 Post T g w f') : J1 P W0 Post g w ft := by
 intro gs w₁ sl t q hbd hsub hrel hbase h0 hL hP
 have heap : ∀ b x, T.ch b = some x → w₁.heap[b]? = some (.chan x.1 x.2.1 x.2.2 0 0 false) := fun b x hb => by
  obtain ⟨h1, h2, h3⟩ := hch b x hb
  rw [hrel.heap b h1, h3, h2]
 have no : ∀ k, k ∉ T.pend := fun k hk => by rw [hp] at hk; cases hk
 refine h gs w₁ sl t (fun i => .quit (q i)) (fun _ => 0) ⟨fun b hb => hrel.heap b (hrd b hb).1, hrel.size, hrel.tape, hrel.os, hrel.output⟩ h0
  { base := hbase, lt := fun b hb => hbd b (hrd b hb).1, sub := fun b hb => (hwr b hb).2, chan := fun b x hb => ⟨0, 0, false, heap b x hb⟩, cnt := fun b x s r tm hb hw => ?_, chft := fun b x hb hr => ?_, own := fun hne => absurd hp hne, nd := by rw [hp]; exact List.nodup_nil, ixr := fun k hk => absurd hk (no k), inj := fun k hk => absurd hk (no k), pnd := fun k hk => absurd hk (no k), old := fun i y hi hy _ => ⟨q i, rfl, hL.old i y hi hy⟩, disj := fun k hk => absurd hk (no k), above := hL.above, hears := hP.hears, clean := hP.clean, known := fun i a ha hm => .inl ((hP.known i a ha hm).resolve_right fun x => x.1), done := fun i a ha hm => .inl ((hP.known i a ha hm).resolve_right fun x => x.1), seen := hP.seen }
 ·rw [heap b x hb] at hw
  obtain ⟨_, h2, _⟩ := hch b x hb
  simp only [Option.some.injEq, Obj.chan.injEq] at hw
  obtain ⟨_, _, _, rfl, rfl, _⟩ := hw
  rw [h2]
  rfl
 ·have := (hrd b hr).2
  rw [hb] at this
  cases this
def base0 (P : Program) : Frame := { (default : Frame) with fn := P.funcs.size, defers := [], mode := .panicking [goexitEntry] }
theorem base_catches (P : Program) : (base0 P).catches P = false := by
 have e : (base0 P).todo = [] := rfl
 unfold Frame.catches
 rw [e]
 split
 ·rename_i h
  cases h
 ·rfl
theorem base_quits (hc : (base0 P).catches P = false) : QuitsD P 1 0 (G (base0 P) []) := by
 refine .inr ⟨rfl, { frame := base0 P, callers := [], status := .finished, dying := none }, #[], by simp, fun w => ?_, rfl, rfl⟩
 have e1 : (base0 P).defers = [] := rfl
 have e2 : (base0 P).mode = .panicking [goexitEntry] := rfl
 simp only [G, stepG, e2, unwind, e1, hc]
 simp [goexitEntry]
theorem quiet_run {α : Type} {s : Go.Sem α} {w : World} {Q : α → World → Prop} (h : RunsTo P (fun _ => False) s w Q) : ∃ v w', s.runT P w #[] = (.ok v w', #[]) ∧ Q v w' := by
 obtain ⟨v, w', es, hr, he, hq⟩ := h #[] (by simp)
 have hes : es = #[] := by
  apply Array.eq_empty_of_size_eq_zero
  cases hs : es.size with
  | zero => rfl
  | succ n => exact (he es[0] (Array.getElem_mem (by omega))).elim
 subst hes
 exact ⟨v, w', hr, hq⟩
variable {b : FB} {a : Act} {cs : List Frame} {ops : Array Oper} {fn : Func}
theorem worker_quits (hk : b.kind = .deferred) (hr : b.ro = none) (hbd : b.dfs = []) (hd : a.defers = []) (hf : P.funcs[b.fn]? = some fn) (hres : fn.results = #[]) (hc : (base0 P).catches P = false) :
  QuitsD P 4 0 (G (b.at a [.inRegion ops []]) [base0 P]) := by
 obtain ⟨bf, bk, br, bd⟩ := b
 simp only at hk hr hf hbd
 subst hk hr hbd
 refine .ctl (g' := G (FB.at ⟨bf, .deferred, none, []⟩ a []) [base0 P]) rfl (fun w => by simp [G, stepG, stepG.exec, FB.at]) ?_
 refine .ctl (g' := G { FB.at ⟨bf, .deferred, none, []⟩ a [] with mode := .returning } [base0 P]) rfl (fun w => by simp [G, stepG, stepG.exec, FB.at]) ?_
 refine .ctl (g' := G (base0 P) []) rfl (fun w => ?_) (base_quits hc)
 have he : (results fn a.tmps).runT P w #[] = (.ok (.tuple #[]) w, #[]) := by
  have hrun : RunsTo P (fun _ => False) (results fn a.tmps) w fun v w' => v = .tuple #[] ∧ w' = w := by
   unfold results
   rw [hres, Array.mapM_eq_mapM_toList]
   exact RunsTo.bind (RunsTo.map (RunsTo.pure (RunsTo.pure ⟨by simp, rfl⟩)))
  obtain ⟨v, w', hr, rfl, rfl⟩ := quiet_run hrun
  exact hr
 simp only [G, stepG, FB.at, unwind, hd, hf, he, List.append_nil]
 simp [doReturn, base0, goexitEntry, GStep.after, seen]
theorem born_toward {Stop : JT} {d : Deferred} {g : FuncId} {caps : List Value} (hd : d = { target := .fn (.func g) ⟨caps⟩, args := #[] }) (hcl : callable P g = true)
  (h : Toward P Stop (G (Frame.enter P g ⟨caps⟩ .deferred) [base0 P]) w ft) : Toward P Stop (born P d) w ft := by
 subst hd
 refine (Toward.closed P Stop).step rfl fun w₁ h₁ => ?_
 have hrun : RunsTo P (EvOk ft) (invoke (.fn (.func g) ⟨caps⟩) #[]) w₁ fun nx w' => nx = .enter g ⟨caps⟩ ∧ w' = w₁ := by
  unfold invoke
  simp only
  refine callFunc_run hcl ⟨?_, rfl⟩
  congr 1
  apply Array.ext'
  simp
 obtain ⟨nx, w', es, hr, he, rfl, rfl⟩ := hrun #[] (by simp)
 have hes : ∀ e ∈ seen P P.funcs.size es, EvOk ft e := fun e hm => he e (mem_seen hm)
 refine ⟨G (Frame.enter P g ⟨caps⟩ .deferred) [base0 P], w', seen P P.funcs.size es, ?_, rfl, (Stays.refl ft w').guar hes, ?_⟩
 ·simp only [stepG, born, unwind, callDeferred, hr]
  simp [GStep.after, G, base0]
 ·rw [Foot.ext_self]
  exact h.rely h₁
end
section
variable {P : Program} {main : Bool} {W0 : World} {Post : Value → World → Prop} {T : Crew} {w w₁ w' : World} {ft : Foot} {ρ : Env} {h : List AObj} {FC : Frm} {N : Nat} {f : RG} {b : FB} {a : Act} {cs : List Frame} {K : List Item} {ops : Array Oper} {i : Nat} {rest : List Nat} {o : Oper}
theorem stepG_go (hk : b.kind ≠ .early) (ho : ops[i]? = some o) (hg : gd ops o f.r = some true) (A : ActRel h.length ρ N f a) {x : Operand} {ats : Array TypeId} (hop : o.op = .go { callee := .value x, args := #[], argTypes := ats })
  {g : FuncId} {cap : List Value} (hx : ev f.r x = .func (.func g) ⟨[]⟩ ⟨cap⟩) (w : World) :
  stepG P main (G (b.at a (.inRegion ops (i :: rest) :: K)) cs) w = .spawn (G (b.at (a.put o.dst undef) (.inRegion ops rest :: K)) cs) (born P { target := .fn (.func g) ⟨cap.map (ren ρ)⟩, args := #[] }) w #[] := by
 have hw := gd_wanted A hg
 have hnd : ∀ c, o.op ≠ .defer c := fun c e => by rw [hop] at e; cases e
 have hk' : (b.kind == CallKind.early) = false := by simpa using hk
 obtain ⟨hok, hv⟩ := (ev_rel A.regs x).val (by rw [hx]; simp [unk])
 rw [hx] at hv
 simp only [ren, renFn, renA, renL_eq, List.map_nil] at hv
 have hr : (execOp a.eval o).runT P w #[] = (.ok (.spawn { target := .fn (.func g) ⟨cap.map (ren ρ)⟩, args := #[] }) w, #[]) := by
  have hrun : RunsTo P (fun _ => False) (execOp a.eval o) w fun nx w' => nx = .spawn { target := .fn (.func g) ⟨cap.map (ren ρ)⟩, args := #[] } ∧ w' = w := by
   unfold execOp
   rw [hop]
   simp only [resolve, hv, Deferred.ofValue]
   refine RunsTo.bind (RunsTo.pure (RunsTo.pure ⟨?_, rfl⟩))
   congr 2
   simp
  obtain ⟨v, w', hr, rfl, rfl⟩ := quiet_run hrun
  exact hr
 have hf := FB.finish_at b a ops i rest K undef
 rw [ho] at hf
 simp only [Option.bind_some] at hf
 rw [stepG_op ho hw hnd, ← hf]
 simp only [stepG.apply, hr, if_true]
 simp [FB.at, hk', GStep.after, G, born, seen]
theorem stepG_recv (hk : b.kind ≠ .early) (ho : ops[i]? = some o) (hg : gd ops o f.r = some true) (A : ActRel h.length ρ N f a) {x : Operand} {t : TypeId} {ok : Bool} (hop : o.op = .recv t x ok)
  {dir : ChanDir} {e : TypeId} (hu : P.underlying t = some (.chan dir e)) {ie : TypeInfo} (hi : P.info? e = some ie) {z : Value} (hz : ie.zero = some z) {c : Nat} (hx : ev f.r x = .chan (some c)) (w : World) :
  stepG P main (G (b.at a (.inRegion ops (i :: rest) :: K)) cs) w = .comm (G (b.at a (.inRegion ops (i :: rest) :: K)) cs) #[rcase (ρ.blk c) z] true (.recv ok) w #[] := by
 have hw := gd_wanted A hg
 have hnd : ∀ c, o.op ≠ .defer c := fun c e => by rw [hop] at e; cases e
 have hk' : (b.kind == CallKind.early) = false := by simpa using hk
 obtain ⟨hok, hv⟩ := (ev_rel A.regs x).val (by rw [hx]; simp [unk])
 rw [hx] at hv
 simp only [ren] at hv
 have hrun : RunsTo P (fun _ => False) (execOp a.eval o) w fun nx w' => nx = .comm #[rcase (ρ.blk c) z] true (.recv ok) ∧ w' = w := by
  unfold execOp
  rw [hop]
  simp only
  refine RunsTo.bind (RunsTo.underlying hu ?_)
  simp only
  refine RunsTo.bind (RunsTo.zeroValue hi hz (RunsTo.pure ⟨?_, rfl⟩))
  rw [hv]
  rfl
 obtain ⟨nx, w', hr, rfl, rfl⟩ := quiet_run hrun
 rw [stepG_op ho hw hnd]
 simp only [stepG.apply, hr, if_true]
 simp [FB.at, hk', GStep.after, G, seen]
theorem stepG_send (hk : b.kind ≠ .early) (ho : ops[i]? = some o) (hg : gd ops o f.r = some true) (A : ActRel h.length ρ N f a) {x y : Operand} (hop : o.op = .send x y) {c : Nat} (hx : ev f.r x = .chan (some c)) {v : Value} (hy : ev f.r y = v) (hv : v ≠ unk) (w : World) :
  stepG P main (G (b.at a (.inRegion ops (i :: rest) :: K)) cs) w = .comm (G (b.at a (.inRegion ops (i :: rest) :: K)) cs) #[scase (ρ.blk c) (ren ρ v) (.tuple #[])] true .send w #[] := by
 have hw := gd_wanted A hg
 have hnd : ∀ c, o.op ≠ .defer c := fun c e => by rw [hop] at e; cases e
 have hk' : (b.kind == CallKind.early) = false := by simpa using hk
 have hxv := ((ev_rel A.regs x).val (by rw [hx]; simp [unk])).2
 have hyv := ((ev_rel A.regs y).val (by rw [hy]; exact hv)).2
 rw [hx] at hxv
 rw [hy] at hyv
 simp only [ren] at hxv
 have hr : (execOp a.eval o).runT P w #[] = (.ok (.comm #[scase (ρ.blk c) (ren ρ v) (.tuple #[])] true .send) w, #[]) := by
  unfold execOp
  rw [hop]
  simp only [hxv, hyv]
  rfl
 rw [stepG_op ho hw hnd]
 simp only [stepG.apply, hr, if_true]
 simp [FB.at, hk', GStep.after, G, seen]
theorem served_at (v : Value) : Conc.served (G (b.at a (.inRegion ops (i :: rest) :: K)) cs) v = G (b.at (a.put ((ops[i]?).bind (·.dst)) v) (.inRegion ops rest :: K)) cs := by
 rw [← FB.finish_at]
 rfl
theorem go_step (hk : b.kind ≠ .early) (ho : ops[i]? = some o) (hg : gd ops o f.r = some true) (A : ActRel h.length ρ N f a) {x : Operand} {ats : Array TypeId} (hop : o.op = .go { callee := .value x, args := #[], argTypes := ats })
  {g : FuncId} {cap : List Value} (hx : ev f.r x = .func (.func g) ⟨[]⟩ ⟨cap⟩) (hcl : callable P g = true) {k : Nat} (hkp : k ∉ T.pend) (hown : T.ch T.c = some (0, #[], false))
  (hto : ∀ w₁, RelyW ft w w₁ → Toward P (AtSend P T.c (T.phi k)) (G (Frame.enter P g ⟨cap.map (ren ρ)⟩ .deferred) [base0 P]) w₁ ft.lend)
  (hJ : ∀ w₁, RelyW ft w w₁ → JC P W0 Post (T.more k) (G (b.at (a.put o.dst undef) (.inRegion ops rest :: K)) cs) w₁ ft.lend) :
  JC P W0 Post T (G (b.at a (.inRegion ops (i :: rest) :: K)) cs) w ft :=
 JC.spawn rfl hkp hown fun w₁ h₁ => ⟨_, _, stepG_go hk ho hg A hop hx w₁, born_toward rfl hcl (hto w₁ h₁), hJ w₁ h₁⟩
theorem recv_step (hk : b.kind ≠ .early) (ho : ops[i]? = some o) (hg : gd ops o f.r = some true) (A : ActRel h.length ρ N f a) {x : Operand} {t : TypeId} {ok : Bool} (hop : o.op = .recv t x ok)
  {dir : ChanDir} {e : TypeId} (hu : P.underlying t = some (.chan dir e)) {ie : TypeInfo} (hi : P.info? e = some ie) {z : Value} (hz : ie.zero = some z) {c : Nat} (hx : ev f.r x = .chan (some c)) (hc : ρ.blk c = T.c) (hp : T.pend ≠ [])
  (hN : ∀ k ∈ T.pend, ∀ v, T.phi k v → ∀ w₁, RelyW ft w w₁ → JC P W0 Post (T.less k) (G (b.at (a.put o.dst (recvd ok v true)) (.inRegion ops rest :: K)) cs) w₁ ft) :
  JC P W0 Post T (G (b.at a (.inRegion ops (i :: rest) :: K)) cs) w ft :=
 JC.recv rfl hp fun w₁ h₁ => ⟨_, z, by rw [← hc]; exact stepG_recv hk ho hg A hop hu hi hz hx w₁, fun k hk v hv => by
  rw [served_at, ho]
  exact hN k hk v hv w₁ h₁⟩
theorem send_stop (hk : b.kind = .deferred) (hr : b.ro = none) (hbd : b.dfs = []) (ho : ops[i]? = some o) (hg : gd ops o f.r = some true) (A : ActRel h.length ρ N f a) (hds : f.ds = []) {x y : Operand} (hop : o.op = .send x y) (hdst : o.dst = none) {c : Nat} (hx : ev f.r x = .chan (some c)) (hc : ρ.blk c = T.c) {v : Value} (hy : ev f.r y = v) (hv : v ≠ unk)
  {k : Nat} (hphi : T.phi k (ren ρ v)) {fn : Func} (hf : P.funcs[b.fn]? = some fn) (hres : fn.results = #[]) (hca : (base0 P).catches P = false) :
  Toward P (AtSend P T.c (T.phi k)) (G (b.at a [.inRegion ops [i]]) [base0 P]) w ft :=
 .stop rfl fun w₁ _ => ⟨_, _, _, by rw [← hc]; exact stepG_send (by rw [hk]; simp) ho hg A hop hx hy hv w₁, hphi, 4, by
  rw [served_at, ho]
  simp only [Option.bind_some, hdst]
  exact worker_quits hk hr hbd (by simp [Act.put, A.defers, hds]) hf hres hca⟩
end
def frzO : AObj → AObj
 | .cells c _ sz => .cells c false sz
 | .map es _ => .map es false
 | _ => .dead
def frz (h : List AObj) : List AObj := h.map frzO
def unchO : AObj → AObj
 | .chan _ => .dead
 | .group _ => .dead
 | o => o
def unch (h : List AObj) : List AObj := h.map unchO
def Chs (ρ : Env) (h : List AObj) (b : Nat) : Prop := ∃ i cap, h[i]? = some (.chan cap) ∧ ρ.blk i = b
open Classical in
noncomputable def keepF (ρ : Env) (h : List AObj) (w : World) (ft : Foot) : Frm := ⟨fun b => if ft.rd b ∧ ¬ Chs ρ h b then w.heap[b]? else none, fun _ => False⟩
def lentF (ρ : Env) (h : List AObj) (ft : Foot) : Foot := ⟨fun b => ft.rd b ∧ ¬ Chs ρ h b, fun _ => False, ft.tag⟩
section
variable {ρ ρ' : Env} {h h' g : List AObj} {FC : Frm} {w w' : World} {ft ft' : Foot}
theorem frz_len : (frz h).length = h.length := by simp [frz]
theorem frz_get {i : Nat} {o : AObj} (e : (frz h)[i]? = some o) : ∃ x, h[i]? = some x ∧ frzO x = o := by
 unfold frz at e
 rw [List.getElem?_map] at e
 exact Option.map_eq_some_iff.1 e
theorem frz_wrt (o : AObj) : (frzO o).wrt = false := by cases o <;> rfl
theorem frz_live {o : AObj} (hl : (frzO o).live = true) : o.live = true ∧ ∀ cap, o ≠ .chan cap := by
 cases o <;> first | (cases hl; done) | exact ⟨rfl, fun _ e => by cases e⟩
theorem unch_len : (unch h).length = h.length := by simp [unch]
theorem not_chs (H : HRel ρ h FC w ft) {i : Nat} {o : AObj} (hi : h[i]? = some o) (hl : o.live = true) (hn : ∀ cap, o ≠ .chan cap) : ¬ Chs ρ h (ρ.blk i) := by
 rintro ⟨j, cap, hj, e⟩
 have := H.inj i j _ _ hi hj hl rfl e.symm
 subst this
 rw [hi] at hj
 cases hj
 exact hn cap rfl
theorem frz_orel {n b : Nat} {o : AObj} {x : Option Obj} (ho : ORel n ρ b o x) : ORel n ρ b (frzO o) x := by
 cases o with
 | cells c wr sz =>
  match x, ho with
  | some (.cells c' ty fr), ho =>
   obtain ⟨h1, h2, h3, _⟩ := ho
   exact ⟨fun i v hv => (h1 i v hv).imp (fun e => ⟨e.1, rfl⟩) id, h2, h3, fun e => by cases e⟩
 | map es wr =>
  match x, ho with
  | some (.map es' ty), ho => exact ho
 | _ => trivial
theorem frz_rel (H : HRel ρ h FC w ft) : HRel ρ (frz h) (keepF ρ h w ft) w (lentF ρ h ft) where
 obj := fun i o hi => by
  obtain ⟨x, hx, rfl⟩ := frz_get hi
  rw [frz_len]
  exact frz_orel (H.obj i x hx)
 inj := fun i j o o' hi hj l l' e => by
  obtain ⟨x, hx, rfl⟩ := frz_get hi
  obtain ⟨y, hy, rfl⟩ := frz_get hj
  exact H.inj i j x y hx hy (frz_live l).1 (frz_live l').1 e
 rd := fun i o hi l => by
  obtain ⟨x, hx, rfl⟩ := frz_get hi
  exact ⟨H.rd i x hx (frz_live l).1, not_chs H hx (frz_live l).1 (frz_live l).2⟩
 wr := fun i o hi l => by
  obtain ⟨x, hx, rfl⟩ := frz_get hi
  rw [frz_wrt] at l
  cases l
 lt := fun b hb => H.lt b hb.1
 sub := fun _ hb => hb.elim
 kept := fun b o hb => by
  unfold keepF at hb
  simp only at hb
  split at hb
  ·rename_i hc
   refine ⟨hb, hc, fun i oi hi l => ?_⟩
   obtain ⟨x, hx, rfl⟩ := frz_get hi
   rw [frz_wrt] at l
   cases l
  ·cases hb
 keptW := fun _ hb => hb.elim
 tag := fun i x hi => by
  obtain ⟨y, _, e⟩ := frz_get hi
  cases y <;> cases e
theorem lend_rel (H : HRel ρ h FC w ft) (hn : ∀ o ∈ h, o.wrt = false) (hw : ∀ b, ¬ FC.wr b) : HRel ρ h FC w ft.lend where
 obj := H.obj
 inj := H.inj
 rd := H.rd
 wr := fun i o hi l => by rw [hn o (List.mem_of_getElem? hi)] at l; cases l
 lt := H.lt
 sub := fun _ hb => hb.elim
 kept := H.kept
 keptW := fun b hb => (hw b hb).elim
 tag := H.tag
def thawF (ρ : Env) (h : List AObj) (ft ft' : Foot) : Foot := ⟨fun b => ft'.rd b ∨ Chs ρ h b, fun b => ft.wr b ∨ ft'.wr b, ft'.tag⟩
theorem keep_ob (_H : HRel ρ h FC w ft) {b : Nat} (hr : ft.rd b) (hc : ¬ Chs ρ h b) : (keepF ρ h w ft).ob b = w.heap[b]? := if_pos ⟨hr, hc⟩
theorem thaw_rel (H : HRel ρ h FC w ft) (H' : HRel ρ' (frz h ++ g) (keepF ρ h w ft) w' ft') (hu : Env.upto h.length ρ ρ') (hg : ∀ o ∈ g, o.live = true → o.wrt = true) (hs : ∀ b, Chs ρ h b → b < w'.heap.size) :
  HRel ρ' (unch h ++ g) FC w' (thawF ρ h ft ft') ∧ (∀ b, (thawF ρ h ft ft').wr b → (thawF ρ h ft ft').rd b) := by
 have stay : ∀ b, ft.rd b → ¬ Chs ρ h b → w'.heap[b]? = w.heap[b]? ∧ ft'.rd b ∧ ∀ (a : Nat) (oa : AObj), (frz h ++ g)[a]? = some oa → oa.wrt = true → ρ'.blk a ≠ b := fun b hr hc => by
  have hlt := H.lt b hr
  have := H'.kept b w.heap[b] (by rw [keep_ob H hr hc, Array.getElem?_eq_getElem hlt])
  exact ⟨by rw [this.1, Array.getElem?_eq_getElem hlt], this.2⟩
 have hblk : ∀ i o, h[i]? = some o → ρ'.blk i = ρ.blk i := fun i o hi => (hu i (List.getElem?_eq_some_iff.1 hi).1).1
 -- what is met in the heap
 have get : ∀ {i : Nat} {o : AObj}, (unch h ++ g)[i]? = some o → (∃ x, h[i]? = some x ∧ unchO x = o) ∨ (h.length ≤ i ∧ g[i - h.length]? = some o ∧ (frz h ++ g)[i]? = some o) := fun {i o} e => by
  rw [List.getElem?_append] at e
  split at e
  ·unfold unch at e
   rw [List.getElem?_map] at e
   exact .inl (Option.map_eq_some_iff.1 e)
  ·rename_i hge
   rw [unch_len] at hge e
   exact .inr ⟨by omega, e, by rw [List.getElem?_append_right (by rw [frz_len]; omega), frz_len]; exact e⟩
 have live : ∀ {x : AObj}, (unchO x).live = true → x.live = true ∧ (∀ cap, x ≠ .chan cap) ∧ unchO x = x := fun {x} l => by
  cases x <;> first | (cases l; done) | exact ⟨rfl, (fun _ e => by cases e), rfl⟩
 have wlive : ∀ {o : AObj}, o.wrt = true → o.live = true := fun {o} l => by cases o <;> first | (cases l; done) | rfl
 have old : ∀ {i : Nat} {x : AObj}, h[i]? = some x → (unchO x).live = true → ft.rd (ρ.blk i) ∧ ¬ Chs ρ h (ρ.blk i) := fun {i x} hx l => by
  obtain ⟨l1, l2, _⟩ := live l
  exact ⟨H.rd i x hx l1, not_chs H hx l1 l2⟩
 have hsub : ∀ b, (thawF ρ h ft ft').wr b → (thawF ρ h ft ft').rd b := fun b hb => by
  rcases hb with hb | hb
  ·by_cases hc : Chs ρ h b
   ·exact .inr hc
   ·exact .inl (stay b (H.sub b hb) hc).2.1
  ·exact .inl (H'.sub b hb)
 refine ⟨⟨fun i o hi => ?_, fun i j o o' hi hj l l' e => ?_, fun i o hi l => ?_, fun i o hi l => ?_, fun b hb => hb.elim (H'.lt b) (hs b), hsub, fun b o hb => ?_, fun b hb => .inl (H.keptW b hb), fun i x hi => (by
  rcases get hi with ⟨y, _, e⟩ | ⟨_, _, hfi⟩
  ·cases y <;> cases e
  ·exact H'.tag i x hfi)⟩, hsub⟩
 ·rcases get hi with ⟨x, hx, rfl⟩ | ⟨hge, hgi, hfi⟩
  ·by_cases l : (unchO x).live = true
   ·obtain ⟨o1, o2⟩ := old hx l
    obtain ⟨_, _, e⟩ := live l
    rw [e, hblk i x hx, (stay _ o1 o2).1]
    have := (H.obj i x hx).congr (m := (unch h ++ g).length) hu (by rw [List.length_append, unch_len]; omega) (List.getElem?_eq_some_iff.1 hx).1
    exact this
   ·cases hx' : unchO x <;> rw [hx'] at l <;> first | trivial | exact absurd rfl l
  ·have := H'.obj i o hfi
   rw [List.length_append, frz_len] at this
   rw [List.length_append, unch_len]
   exact this
 ·rcases get hi with ⟨x, hx, rfl⟩ | ⟨hge, hgi, hfi⟩ <;> rcases get hj with ⟨y, hy, rfl⟩ | ⟨hge', hgj, hfj⟩
  ·rw [hblk i x hx, hblk j y hy] at e
   exact H.inj i j x y hx hy (live l).1 (live l').1 e
  ·exfalso
   obtain ⟨o1, o2⟩ := old hx l
   refine (stay _ o1 o2).2.2 j o' hfj (hg o' (List.mem_of_getElem? hgj) l') ?_
   rw [← e, hblk i x hx]
  ·exfalso
   obtain ⟨o1, o2⟩ := old hy l'
   refine (stay _ o1 o2).2.2 i o hfi (hg o (List.mem_of_getElem? hgi) l) ?_
   rw [e, hblk j y hy]
  ·exact H'.inj i j o o' hfi hfj l l' e
 ·rcases get hi with ⟨x, hx, rfl⟩ | ⟨hge, hgi, hfi⟩
  ·obtain ⟨o1, o2⟩ := old hx l
   rw [hblk i x hx]
   exact .inl (stay _ o1 o2).2.1
  ·exact .inl (H'.rd i o hfi l)
 ·rcases get hi with ⟨x, hx, rfl⟩ | ⟨hge, hgi, hfi⟩
  ·obtain ⟨_, _, e⟩ := live (wlive l)
   rw [e] at l
   rw [hblk i x hx]
   exact .inl (H.wr i x hx l)
  ·exact .inr (H'.wr i o hfi l)
 ·obtain ⟨a1, a2, a3⟩ := H.kept b o hb
  have hc : ¬ Chs ρ h b := fun ⟨i, cap, hi, e⟩ => a3 i _ hi rfl e
  obtain ⟨s1, s2, s3⟩ := stay b a2 hc
  refine ⟨by rw [s1]; exact a1, .inl s2, fun i oi hi l => ?_⟩
  rcases get hi with ⟨x, hx, rfl⟩ | ⟨hge, hgi, hfi⟩
  ·obtain ⟨_, _, e⟩ := live (wlive l)
   rw [e] at l
   rw [hblk i x hx]
   exact a3 i x hx l
  ·exact s3 i oi hfi l
end
def At (J : JT) (N : Nat) (b : FB) (cs : List Frame) (FC : Frm) (ρ0 : Env) (m : Nat) (k : List Item) (f : RG) (h : List AObj) : Prop :=
 ∀ (a : Act) (ρ : Env) (w : World) (ft : Foot), ActRel h.length ρ N f a → HRel ρ h FC w ft → Env.upto m ρ0 ρ → m ≤ h.length → J (G (b.at a k) cs) w ft
section
variable {P : Program} {main : Bool} {J : JT} {N m n1 : Nat} {fn : FuncId} {b : FB} {cs : List Frame} {FC : Frm} {ρ0 : Env} {k : List Item} {f : RG} {h : List AObj} {Q : QT} {c x y : Code} {ops : Array Oper} {i : Nat} {rest : List Nat} {o : Oper}
theorem At.ctrl (hJ : Closed P main J) {k' : List Item} (hst : ∀ a w, stepG P main (G (b.at a k) cs) w = .go (G (b.at a k') cs) w #[]) (h' : At J N b cs FC ρ0 m k' f h) : At J N b cs FC ρ0 m k f h :=
 fun a ρ w ft A H hu hm => hJ.ctrl rfl rfl (hst a) (h' a ρ w ft A H hu hm)
theorem At.seq (hJ : Closed P main J) (h' : At J N b cs FC ρ0 m (.code x :: .code y :: k) f h) : At J N b cs FC ρ0 m (.code (.seq x y) :: k) f h :=
 At.ctrl hJ (fun a w => by simp [G, stepG, stepG.exec, FB.at]) h'
theorem At.block (hJ : Closed P main J) {id : Nat} (h' : At J N b cs FC ρ0 m (.code c :: .inBlock id :: k) f h) : At J N b cs FC ρ0 m (.code (.block id c) :: k) f h :=
 At.ctrl hJ (fun a w => by simp [G, stepG, stepG.exec, FB.at]) h'
theorem At.inBlock (hJ : Closed P main J) {id : Nat} (h' : At J N b cs FC ρ0 m k f h) : At J N b cs FC ρ0 m (.inBlock id :: k) f h :=
 At.ctrl hJ (fun a w => by simp [G, stepG, stepG.exec, FB.at]) h'
theorem At.loop (hJ : Closed P main J) (h' : At J N b cs FC ρ0 m (.code c :: .inLoop c :: k) f h) : At J N b cs FC ρ0 m (.code (.loop c) :: k) f h :=
 At.ctrl hJ (fun a w => by simp [G, stepG, stepG.exec, FB.at]) h'
theorem At.inLoop (hJ : Closed P main J) (h' : At J N b cs FC ρ0 m (.code c :: .inLoop c :: k) f h) : At J N b cs FC ρ0 m (.inLoop c :: k) f h :=
 At.ctrl hJ (fun a w => by simp [G, stepG, stepG.exec, FB.at]) h'
theorem At.region (hJ : Closed P main J) {id : Nat} (h' : At J N b cs FC ρ0 m (.inRegion ops (List.range ops.size) :: k) f h) : At J N b cs FC ρ0 m (.code (.region id ops false) :: k) f h :=
 At.ctrl hJ (fun a w => by simp [G, stepG, stepG.exec, FB.at]) h'
theorem At.ops_nil (hJ : Closed P main J) (h' : At J N b cs FC ρ0 m k f h) : At J N b cs FC ρ0 m (.inRegion ops [] :: k) f h :=
 At.ctrl hJ (fun a w => by simp [G, stepG, stepG.exec, FB.at]) h'
theorem At.piece (hb : b.tag = fn) (hk : b.kind ≠ .early) (hs : Sem J N n1 fn c f h Q) (h1 : m ≤ n1) (h2 : n1 ≤ h.length) (hq : ∀ e f' h', Q e f' h' → (e = .normal ∧ At J N b cs FC ρ0 m k f' h') ∨ ∃ id k', e = .exit id ∧ exitTo id k = some k' ∧ At J N b cs FC ρ0 m k' f' h') : At J N b cs FC ρ0 m (.code c :: k) f h := by
 intro a ρ w ft A H hu hm
 refine hs b a k cs (fun _ _ _ _ => False) ρ FC w ft hb hk (fun _ _ _ _ _ hf _ => hf.elim) A H h2 fun e f' h' ρ' w' ft' a' q A' H' hu' hl' => ?_
 have up : Env.upto m ρ0 ρ' := Env.upto_trans hu (Env.upto_le hu' h1)
 rcases hq e f' h' q with ⟨rfl, hat⟩ | ⟨id, k', rfl, hex, hat⟩
 ·exact hat a' ρ' w' ft' A' H' up (Nat.le_trans h1 hl')
 ·unfold AfterJ
  simp only [hex]
  exact hat a' ρ' w' ft' A' H' up (Nat.le_trans h1 hl')
theorem At.op (hJ : Closed P main J) (hk : b.kind ≠ .early) (ho : ops[i]? = some o) (hd : dstOk N o = true) (hg : gd ops o f.r = some true) (hop : opW P (Good P J) o f.r h fun v h' => h.length ≤ h'.length → At J N b cs FC ρ0 m (.inRegion ops rest :: k) (f.putO o.dst v) h') :
  At J N b cs FC ρ0 m (.inRegion ops (i :: rest) :: k) f h := fun _a _ρ _w _ft A H hu hm =>
 step_any hJ hk ho hg (dstOk_lt hd) A H hop fun _v _h' ρ' w' ft' a' hK A' H' hu' hl' => hK hl' a' ρ' w' ft' A' H' (Env.upto_trans hu (Env.upto_le hu' hm)) (Nat.le_trans hm hl')
theorem At.drop {g : List AObj} {f' : RG} (ok : heapOk h) (hf : ∀ t, f'.r t = unk ∨ (f'.r t = f.r t ∧ VOk h.length (f'.r t))) (hd : f'.ds = f.ds) (hds : ∀ b ∈ f.ds, b < h.length) (hm' : m ≤ h.length) (h' : At J N b cs FC ρ0 m k f' h) : At J N b cs FC ρ0 m k f (h ++ g) := by
 intro a ρ w ft A H hu hm
 have gc := gc_drop (g := g) ok (Nat.le_refl h.length)
 have hcomp : ρ.comp id = ρ := rfl
 have H2 := gc.rel H
 rw [hcomp] at H2
 refine h' a ρ w ft ⟨fun t => ?_, A.size, by rw [hd]; exact A.defers, by rw [hd]; exact hds⟩ H2 hu hm'
 rcases hf t with e | ⟨e, hv⟩
 ·exact .inl e
 ·rcases A.regs t with e2 | ⟨_, e2⟩
  ·exact .inl (e.trans e2)
  ·exact .inr ⟨hv, by rw [e2, e]⟩
end
section
variable {P : Program} {W0 : World} {Post : Value → World → Prop} {T : Crew} {N m : Nat} {b : FB} {cs : List Frame} {FC : Frm} {ρ0 : Env} {K : List Item} {f : RG} {h : List AObj} {ops : Array Oper} {i : Nat} {rest : List Nat} {o : Oper}
theorem At.go (hk : b.kind ≠ .early) (ho : ops[i]? = some o) (hg : gd ops o f.r = some true) {x : Operand} {ats : Array TypeId} (hop : o.op = .go { callee := .value x, args := #[], argTypes := ats }) (hdst : o.dst = none)
  {g : FuncId} {cap : List Value} (hx : ev f.r x = .func (.func g) ⟨[]⟩ ⟨cap⟩) (hcl : callable P g = true) {k : Nat} (hkp : k ∉ T.pend) (hown : T.ch T.c = some (0, #[], false))
  {h0 hd : List AObj} (hh : h = h0 ++ hd) (hn : ∀ o ∈ h0, o.wrt = false) (hw : ∀ b, ¬ FC.wr b) (ok : heapOk h0) (hm0 : m ≤ h0.length)
  (hto : ∀ (ρ : Env) (w : World) (ft : Foot), HRel ρ (frz h) (keepF ρ h w ft) w ft.lend → Env.upto m ρ0 ρ → Toward P (AtSend P T.c (T.phi k)) (G (Frame.enter P g ⟨cap.map (ren ρ)⟩ .deferred) [base0 P]) w ft.lend)
  (hnc : ∀ cap, .chan cap ∉ h)
  {f' : RG} (hf : ∀ t, f'.r t = unk ∨ (f'.r t = f.r t ∧ VOk h0.length (f'.r t))) (hfd : f'.ds = f.ds) (hds : ∀ b ∈ f.ds, b < h0.length)
  (hJ : At (JC P W0 Post (T.more k)) N b cs FC ρ0 m (.inRegion ops rest :: K) f' h0) :
  At (JC P W0 Post T) N b cs FC ρ0 m (.inRegion ops (i :: rest) :: K) f h := by
 intro a ρ w ft A H hu hm
 have nc : ∀ b, ¬ Chs ρ h b := fun b ⟨j, cap, hj, _⟩ => hnc cap (List.mem_of_getElem? hj)
 refine go_step hk ho hg A hop hx hcl hkp hown (fun w₁ h₁ => ?_) fun w₁ h₁ => ?_
 ·have hlf : lentF ρ h ft = ft.lend := by
   unfold lentF Foot.lend
   simp only [Foot.mk.injEq, and_true]
   funext b
   simp [nc b]
  have hfr := frz_rel (H.rely h₁)
  rw [hlf] at hfr
  exact hto ρ w₁ ft hfr hu
 ·subst hh
  have gc := gc_drop (g := hd) ok (Nat.le_refl h0.length)
  have H2 := gc.rel (H.rely h₁)
  rw [show ρ.comp id = ρ from rfl] at H2
  refine hJ _ ρ w₁ ft.lend ⟨fun t => ?_, by simp [Act.put, hdst, A.size], by simp [Act.put, hdst, hfd, A.defers], by rw [hfd]; exact hds⟩ (lend_rel H2 hn hw) hu hm0
  simp only [Act.put, hdst]
  rcases hf t with e | ⟨e, hv⟩
  ·exact .inl e
  ·rcases A.regs t with e2 | ⟨_, e2⟩
   ·exact .inl (e.trans e2)
   ·exact .inr ⟨hv, by rw [e2, e]⟩
theorem At.recv (hk : b.kind ≠ .early) (ho : ops[i]? = some o) (hd : dstOk N o = true) (hg : gd ops o f.r = some true) {x : Operand} {t : TypeId} {ok : Bool} (hop : o.op = .recv t x ok)
  {dir : ChanDir} {e : TypeId} (hu : P.underlying t = some (.chan dir e)) {ie : TypeInfo} (hi : P.info? e = some ie) {z : Value} (hz : ie.zero = some z) {c : Nat} (hx : ev f.r x = .chan (some c)) (hcm : c < m) (hc : ρ0.blk c = T.c) (hp : T.pend ≠ [])
  (hN : ∀ k ∈ T.pend, ∀ v, T.phi k v → ∃ v0, v = v0 ∧ VOk 0 v0 ∧ At (JC P W0 Post (T.less k)) N b cs FC ρ0 m (.inRegion ops rest :: K) (f.putO o.dst (recvd ok v0 true)) h) :
  At (JC P W0 Post T) N b cs FC ρ0 m (.inRegion ops (i :: rest) :: K) f h := by
 intro a ρ w ft A H hu' hm
 refine recv_step hk ho hg A hop hu hi hz hx (by rw [(hu' c hcm).1]; exact hc) hp fun k hkm v hv w₁ h₁ => ?_
 obtain ⟨v0, rfl, hv0, hat⟩ := hN k hkm v hv
 refine hat _ ρ w₁ ft (act_put A (dstOk_lt hd) (.inr ?_)) (H.rely h₁) hu' hm
 have h0 : VOk 0 (recvd ok v true) := by
  unfold recvd
  cases ok
  ·exact hv0
  ·simp [VOk, AOk, LOk, hv0]
 exact ⟨VOk.mono (Nat.zero_le _) _ h0, (ren0 _ h0).symm⟩
end
def lastOk (ops ops' : Array Oper) (last : Nat) : Nat → Array Bool → Array Bool → Bool
 | 0, L, L' => (Region.ready .any ops L == [last]) && (Region.ready .any ops' L').isEmpty
 | n + 1, L, L' => (Region.ready .any ops L == Region.ready .any ops' L') && !(Region.ready .any ops L).isEmpty && (Region.ready .any ops L).all fun i => lastOk ops ops' last n (L.setIfInBounds i true) (L'.setIfInBounds i true)
section
variable {P : Program} {main : Bool} {J : JT} {N m : Nat} {b : FB} {cs : List Frame} {FC : Frm} {ρ0 : Env} {k : List Item} {f : RG} {h : List AObj} {ops ops' : Array Oper} {last : Nat}
theorem At.orders (hJ : Closed P main J) (hk : b.kind ≠ .early) (hsame : ∀ (i : Nat) (o : Oper), ops'[i]? = some o → ops[i]? = some o ∧ ∀ r, gd ops' o r = gd ops o r) {S : List AObj → Prop} {K : RG → List AObj → Prop}
  (hK : ∀ f h, K f h → At J N b cs FC ρ0 m (.inRegion ops [last] :: k) f h) : ∀ (n t : Nat) (L L' : Array Bool) (f : RG) (h : List AObj), lastOk ops ops' last n L L' = true → AnyH P (Good P J) N ops' S n L' f h K → At J N b cs FC ρ0 m (.inRegion ops (Region.linearise.go .any ops (n + 1) t L []) :: k) f h := by
 intro n
 induction n with
 | zero =>
  intro t L L' f h hc hA
  unfold lastOk at hc
  have hr : Region.ready .any ops L = [last] := by simp at hc; exact hc.1
  have e : Region.linearise.go .any ops (0 + 1) t L [] = [last] := by
   simp only [Region.linearise.go]
   change (match (Region.ready .any ops L)[t % (Region.ready .any ops L).length]? with
    | some i => [i].reverse
    | none => [].reverse) = [last]
   rw [hr]
   simp [Nat.mod_one]
  rw [e]
  exact hK f h hA.2
 | succ n ih =>
  intro t L L' f h hc hA
  obtain ⟨_, h₁⟩ := hA
  unfold lastOk at hc
  simp only [Bool.and_eq_true, beq_iff_eq, Bool.not_eq_true', List.all_eq_true] at hc
  obtain ⟨⟨hr, hne⟩, hall⟩ := hc
  rw [Region.linearise.go]
  change At J N b cs FC ρ0 m (.inRegion ops (match (Region.ready .any ops L)[t % (Region.ready .any ops L).length]? with
   | some i => Region.linearise.go .any ops (n + 1) (t / (Region.ready .any ops L).length) (L.setIfInBounds i true) [i]
   | none => [].reverse) :: k) f h
  cases hi : (Region.ready .any ops L)[t % (Region.ready .any ops L).length]? with
  | none =>
   exfalso
   have hpos : 0 < (Region.ready .any ops L).length := by
    cases hr2 : Region.ready .any ops L with
    | nil => rw [hr2] at hne; cases hne
    | cons x xs => simp
   have := Nat.mod_lt t hpos
   rw [List.getElem?_eq_none_iff] at hi
   omega
  | some i =>
   simp only []
   rw [linearise_go_acc, List.reverse_singleton, List.singleton_append]
   have hm := List.mem_of_getElem? hi
   have hm' : i ∈ Region.ready .any ops' L' := by rw [← hr]; exact hm
   have hm2 := hm'
   rw [mem_ready] at hm2
   obtain ⟨_, o, ho', _⟩ := hm2
   obtain ⟨ho, hgd⟩ := hsame i o ho'
   obtain ⟨hN, K', hK', hsub⟩ := h₁ i hm' o ho'
   intro a ρ w ft A H hu hm0
   unfold opG at hK'
   rw [hgd] at hK'
   split at hK'
   ·rename_i hg
    exact step_any hJ hk ho hg hN A H hK' fun v h' ρ' w' ft' a' kk A' H' hu' hl' => ih _ _ _ _ _ (hall i hm) (hsub v h' kk).2 a' ρ' w' ft' A' H' (Env.upto_trans hu (Env.upto_le hu' hm0)) (Nat.le_trans hm0 hl')
   ·rename_i hg
    refine step_skip hJ ho hg A ?_
    exact ih _ _ _ _ _ (hall i hm) (hsub _ _ hK').2 _ ρ w ft (act_put A hN (vrel_undef _ _)) H hu hm0
   ·exact hK'.elim
theorem At.draw (hJ : Closed P main J) (hm : P.follows .mixedOrders = true) (hk : b.kind ≠ .early) (hsame : ∀ (i : Nat) (o : Oper), ops'[i]? = some o → ops[i]? = some o ∧ ∀ r, gd ops' o r = gd ops o r) {K : RG → List AObj → Prop} {id n : Nat} (hn : ops.size = n + 1) (_hn' : ops'.size = n)
  (hl : lastOk ops ops' last n (Array.replicate (n + 1) false) (Array.replicate n false) = true) {p : Plan} (hp : planOk P ops' p n (Array.replicate n false) none = true) {B : Option (List Nat)}
  (hq : planW P (Good P J) N ops' B h p true [] f h K) (hB : B ≠ none)
  (hK : ∀ f h, K f h → At J N b cs FC ρ0 m (.inRegion ops [last] :: k) f h) : At J N b cs FC ρ0 m (.code (.region id ops true) :: k) f h := by
 have hA : AnyH P (Good P J) N ops' (SameB B h) n (Array.replicate n false) f h K := by
  refine anyW_sound _ _ true [] f h down_init (fun j b e => by cases e) (fun _ => ?_) ?_
  ·cases B with
   | none => exact absurd rfl hB
   | some B => exact fun _ _ => rfl
  ·have := planW_eq (C := Good P J) (P := P) (N := N) (B := B) (h0 := h) (K := K) p n (Array.replicate n false) none true [] f h hp
   simp only [planT] at this
   rw [← this]
   exact hq
 intro a ρ w ft A H hu hm0
 refine hJ.step rfl fun w₁ h₁ => ⟨G (b.at a (.inRegion ops (Region.schedule (P.follows .mixedOrders) ops (w₁.tape w₁.drawn (.order b.fn id))) :: k)) cs, { w₁ with drawn := w₁.drawn + 1 }, #[], ?_, rfl, (Stays.drawn ft w₁ _).guar (by simp), ?_⟩
 ·simp [G, stepG, stepG.exec, FB.at, choose, Go.Sem.run, Question.forced, Question.cut]
 ·rw [show ({ w₁ with drawn := w₁.drawn + 1 } : World).heap = w₁.heap from rfl, Foot.ext_self]
  have H₁ := (H.rely h₁).of_drawn (w₁.drawn + 1)
  simp only [Region.schedule, hm, Bool.true_or, if_true]
  have := At.orders hJ hk hsame hK n (w₁.tape w₁.drawn (.order b.fn id)) _ _ f h hl hA a ρ _ ft A H₁ hu hm0
  rw [← hn] at this
  exact this
theorem At.enter {g : FuncId} {fn : Func} (hf : P.funcs[g]? = some fn) {c : Code} (hb : fn.body = some c) {args : List Value} (ha : args.length ≤ fn.ntmps) (hv : ∀ v ∈ args, VOk h.length v) {ρ : Env} {w : World} {ft : Foot} (H : HRel ρ h FC w ft)
  (hA : At J fn.ntmps ⟨g, .deferred, none, []⟩ cs FC ρ h.length [.code c] ⟨regs args, []⟩ h) : J (G (Frame.enter P g ⟨args.map (ren ρ)⟩ .deferred) cs) w ft := by
 have he : Frame.enter P g ⟨args.map (ren ρ)⟩ .deferred = FB.at ⟨g, .deferred, none, []⟩ ⟨⟨args.map (ren ρ)⟩ ++ Array.replicate (fn.ntmps - args.length) undef, []⟩ [.code c] := by
  simp [Frame.enter, FB.at, hf, hb]
 rw [he]
 refine hA _ ρ w ft ⟨fun t => ?_, by simp; omega, rfl, by simp⟩ H (fun _ _ => ⟨rfl, rfl⟩) (Nat.le_refl _)
 have ht : ((⟨args.map (ren ρ)⟩ : Array Value) ++ Array.replicate (fn.ntmps - args.length) undef).getD t undef = (args.map (ren ρ)).getD t undef := by
  rw [Array.getD_eq_getD_getElem?, List.getD_eq_getElem?_getD]
  by_cases hx : t < args.length
  ·rw [Array.getElem?_append_left (by simpa using hx)]
   simp
  ·rw [Array.getElem?_append_right (by simp; omega), List.getElem?_eq_none (by simp; omega)]
   simp only [Array.getElem?_replicate]
   split <;> rfl
 rw [ht]
 by_cases hx : t < args.length
 ·refine .inr ?_
  show VOk h.length (regs args t) ∧ _
  have e1 : regs args t = args[t] := by simp [regs, List.getD_eq_getElem?_getD, List.getElem?_eq_getElem hx]
  rw [e1]
  refine ⟨hv _ (List.getElem_mem hx), ?_⟩
  show _ = ren ρ (regs args t)
  rw [e1]
  simp [List.getD_eq_getElem?_getD, List.getElem?_eq_getElem hx]
 ·refine .inl ?_
  show regs args t = unk
  simp [regs, List.getD_eq_getElem?_getD, List.getElem?_eq_none (Nat.le_of_not_lt hx)]
end
end Go.Proofs.YtmmlamfgbmnkgaaDoor
namespace Go.Proofs.YtmmlamfgbmnkgaaDoor
open Go.Conc Go.Proofs.Tryd
set_option maxRecDepth 100000
set_option maxHeartbeats 4000000
set_option linter.unusedVariables false
section
variable {main : Bool} {J : JT} {n0 : Nat} {h : List AObj} {K : Value → List AObj → Prop}
theorem at60 : prog.funcs[60]? = some f60 := by kernel_rfl
theorem body60 : f60.body = some (codeOf f60) := by kernel_rfl
def pl60 : Plans := []
def ct60 : Cuts := .go
theorem pok60 : plansOk prog pl60 (codeOf f60) = true := by kernel_rfl
theorem e60 {a0 a1 : Value} : W prog J 19 h.length 60 (codeOf f60) (RG.mk (regs [a0, a1]) []) h (RetQ prog [.tmp 4] h.length K) =
(aLenS a0 fun v1 =>
Sem J 19 h.length 60 (subC [1, 0, 1, 0] (codeOf f60)) (RG.p (RG.p (RG.p (RG.p (RG.mk (regs [a0, a1]) []) 4 (vint 0)) 6 a0) 7 v1) 8 (vint 0)) h (contX pl60 prog J 19 h.length 60 ct60 [1, 0, 1, 0] (codeOf f60) [] (RetQ prog [.tmp 4] h.length K))) := top_eq pok60 ct60 (by kernel_rfl)
theorem g60 (hJ : Closed prog main J) {a0 a1 : Value} (hs : heapOk h → W prog J 19 h.length 60 (codeOf f60) (RG.mk (regs [a0, a1]) []) h (RetQ prog [.tmp 4] h.length K)) : Good prog J 60 [a0, a1] h K :=
 good_of_W hJ mixed at60 body60 (by kernel_rfl) (Nat.le_of_ble_eq_true rfl) hs
theorem s60_1 {f : RG} {nx0 : RG → List AObj → Prop} : W prog J 19 n0 60 (subC [1, 0, 1, 0, 0] (codeOf f60)) f h (thenK nx0 (contX pl60 prog J 19 n0 60 ct60 [1, 0, 1, 0] (codeOf f60) [] (RetQ prog [.tmp 4] n0 K))) =
(aBin prog .lss 3 (f.r 8) (f.r 7) fun v1 =>
cnd v1
(aIdx 1 (f.r 0) (f.r 8) fun v2 =>
aLoad false 1 v2 h fun v3 =>
aBin prog .eql 3 (f.r 1) v3 fun v4 =>
cnd v4
(retL n0 K f.ds [(f.r 8)] h)
(aBin prog .add 3 (f.r 8) (vint 1) fun v5 =>
nx0 (RG.p (RG.p (RG.p (RG.p (RG.p (RG.p (RG.p (RG.p (RG.p (RG.p (RG.p f 9 v1) 10 (f.r 8)) 5 (f.r 8)) 11 (f.r 1)) 12 (f.r 0)) 13 (f.r 8)) 14 v2) 15 v3) 16 v4) 18 v5) 8 v5) h))
(retL n0 K f.ds [(vint (-1))] h)) := sub_eq pok60 ct60 (by kernel_rfl)
theorem l60_1 (hJ : Closed prog main J) {S : Type} (μ : S → Nat) (I : S → RG → List AObj → Prop) (hI : ∀ s f h, I s f h → heapOk h → n0 ≤ h.length → W prog J 19 n0 60 (subC [1, 0, 1, 0, 0] (codeOf f60)) f h (thenK (Nx n0 μ I s) (contX pl60 prog J 19 n0 60 ct60 [1, 0, 1, 0] (codeOf f60) [] (RetQ prog [.tmp 4] n0 K))))
 {s : S} {f : RG} (hi : Gets n0 I s f h) : Sem J 19 n0 60 (subC [1, 0, 1, 0] (codeOf f60)) f h (contX pl60 prog J 19 n0 60 ct60 [1, 0, 1, 0] (codeOf f60) [] (RetQ prog [.tmp 4] n0 K)) :=
 loop_rule hJ mixed (b := subC [1, 0, 1, 0, 0] (codeOf f60)) (by kernel_rfl) μ I hI hi
theorem at51 : prog.funcs[51]? = some f51 := by kernel_rfl
theorem body51 : f51.body = some (codeOf f51) := by kernel_rfl
def pl51 : Plans := []
def ct51 : Cuts := .go
theorem pok51 : plansOk prog pl51 (codeOf f51) = true := by kernel_rfl
theorem e51 {a0 a1 : Value} : W prog J 9 h.length 51 (codeOf f51) (RG.mk (regs [a0, a1]) []) h (RetQ prog [.tmp 4] h.length K) =
(Good prog J 60 [a0, a1] h fun v1 h2 =>
aBin prog .geq 3 v1 (vint 0) fun v3 =>
retL h.length K [] [v3] h2) := top_eq pok51 ct51 (by kernel_rfl)
theorem g51 (hJ : Closed prog main J) {a0 a1 : Value} (hs : heapOk h → W prog J 9 h.length 51 (codeOf f51) (RG.mk (regs [a0, a1]) []) h (RetQ prog [.tmp 4] h.length K)) : Good prog J 51 [a0, a1] h K :=
 good_of_W hJ mixed at51 body51 (by kernel_rfl) (Nat.le_of_ble_eq_true rfl) hs
theorem at50 : prog.funcs[50]? = some f50 := by kernel_rfl
theorem body50 : f50.body = some (codeOf f50) := by kernel_rfl
def pl50 : Plans := []
def ct50 : Cuts := .go
theorem pok50 : plansOk prog pl50 (codeOf f50) = true := by kernel_rfl
theorem e50 {a0 : Value} : W prog J 8 h.length 50 (codeOf f50) (RG.mk (regs [a0]) []) h (RetQ prog [.tmp 2] h.length K) =
(aBin prog .eql 33 a0 (Value.slice none 0 0) fun v1 =>
cnd v1
(retL h.length K [] [(Value.slice none 0 0)] h)
((((0 * 1 : Nat) ≤ 16777216 ∧ (0 : Nat) ≤ 16777216 ∧ List.length [(vint 0)] = 1) ∧ aFill (zrep [(vint 0)] 0) [] fun c2 =>
aNewS 0 c2 h fun v3 h4 =>
((List.length [(vint 0)] = 1 ∧ 0 < (1 : Nat) ∧ 0 < (8 : Nat) ∧ (8 : Nat) ≤ 1024) ∧ aApp 1 v3 a0 h4 fun v5 h6 =>
retL h.length K [] [v5] h6)))) := top_eq pok50 ct50 (by kernel_rfl)
theorem g50 (hJ : Closed prog main J) {a0 : Value} (hs : heapOk h → W prog J 8 h.length 50 (codeOf f50) (RG.mk (regs [a0]) []) h (RetQ prog [.tmp 2] h.length K)) : Good prog J 50 [a0] h K :=
 good_of_W hJ mixed at50 body50 (by kernel_rfl) (Nat.le_of_ble_eq_true rfl) hs
theorem at39 : prog.funcs[39]? = some f39 := by kernel_rfl
theorem body39 : f39.body = some (codeOf f39) := by kernel_rfl
def pl39 : Plans := []
def ct39 : Cuts := .go
theorem pok39 : plansOk prog pl39 (codeOf f39) = true := by kernel_rfl
theorem e39 {a0 a1 : Value} : W prog J 32 h.length 39 (codeOf f39) (RG.mk (regs [a0, a1]) []) h (RetQ prog [.tmp 4] h.length K) =
(aLenS a1 fun v1 =>
aBin prog .eql 3 v1 a0 fun v2 =>
cnd v2
((((1 * 1 : Nat) ≤ 16777216 ∧ (1 : Nat) ≤ 16777216 ∧ List.length [(Value.slice none 0 0)] = 1) ∧ aFill (zrep [(Value.slice none 0 0)] 1) [(0, 1, a1)] fun c3 =>
aNewS 1 c3 h fun v4 h5 =>
retL h.length K [] [v4] h5))
(Sem J 32 h.length 39 (subC [1, 1, 1, 0, 1, 0] (codeOf f39)) (RG.p (RG.p (RG.p (RG.p (RG.p (RG.p (RG.p (RG.p (RG.mk (regs [a0, a1]) []) 4 (Value.slice none 0 0)) 7 a1) 8 v1) 9 a0) 10 v2) 5 (Value.slice none 0 0)) 13 a0) 14 (vint 0)) h (contX pl39 prog J 32 h.length 39 ct39 [1, 1, 1, 0, 1, 0] (codeOf f39) [] (RetQ prog [.tmp 4] h.length K)))) := top_eq pok39 ct39 (by kernel_rfl)
theorem g39 (hJ : Closed prog main J) {a0 a1 : Value} (hs : heapOk h → W prog J 32 h.length 39 (codeOf f39) (RG.mk (regs [a0, a1]) []) h (RetQ prog [.tmp 4] h.length K)) : Good prog J 39 [a0, a1] h K :=
 good_of_W hJ mixed at39 body39 (by kernel_rfl) (Nat.le_of_ble_eq_true rfl) hs
theorem s39_1 {f : RG} {nx0 : RG → List AObj → Prop} : W prog J 32 n0 39 (subC [1, 1, 1, 0, 1, 0, 0] (codeOf f39)) f h (thenK nx0 (contX pl39 prog J 32 n0 39 ct39 [1, 1, 1, 0, 1, 0] (codeOf f39) [] (RetQ prog [.tmp 4] n0 K))) =
(aBin prog .lss 3 (f.r 14) (f.r 13) fun v1 =>
cnd v1
(Good prog J 51 [(f.r 1), (f.r 14)] h fun v2 h3 =>
aUn .not v2 fun v4 =>
cnd v4
(Good prog J 50 [(f.r 1)] h3 fun v5 h6 =>
(((1 * 1 : Nat) ≤ 16777216 ∧ (1 : Nat) ≤ 16777216 ∧ List.length [(vint 0)] = 1) ∧ aFill (zrep [(vint 0)] 1) [(0, 1, (f.r 14))] fun c7 =>
aNewS 1 c7 h6 fun v8 h9 =>
((List.length [(vint 0)] = 1 ∧ 0 < (1 : Nat) ∧ 0 < (8 : Nat) ∧ (8 : Nat) ≤ 1024) ∧ aApp 1 v5 v8 h9 fun v10 h11 =>
Good prog J 39 [(f.r 0), v10] h11 fun v12 h13 =>
((List.length [(Value.slice none 0 0)] = 1 ∧ 0 < (1 : Nat) ∧ 0 < (24 : Nat) ∧ (24 : Nat) ≤ 1024) ∧ aApp 1 (f.r 5) v12 h13 fun v14 h15 =>
aBin prog .add 3 (f.r 14) (vint 1) fun v16 =>
nx0 (RG.p (RG.p (RG.p (RG.p (RG.p (RG.p (RG.p (RG.p (RG.p (RG.p (RG.p (RG.p (RG.p (RG.p (RG.p (RG.p (RG.p (RG.p (RG.p f 15 v1) 16 (f.r 14)) 6 (f.r 14)) 17 (f.r 1)) 18 (f.r 14)) 19 v2) 20 v4) 21 (f.r 5)) 22 (f.r 0)) 23 (f.r 1)) 24 v5) 25 (f.r 14)) 26 v8) 27 v10) 28 v12) 29 v14) 5 v14) 30 v16) 14 v16) h15))))
(aBin prog .add 3 (f.r 14) (vint 1) fun v17 =>
nx0 (RG.p (RG.p (RG.p (RG.p (RG.p (RG.p (RG.p (RG.p (RG.p f 15 v1) 16 (f.r 14)) 6 (f.r 14)) 17 (f.r 1)) 18 (f.r 14)) 19 v2) 20 v4) 30 v17) 14 v17) h3))
(retL n0 K f.ds [(f.r 5)] h)) := sub_eq pok39 ct39 (by kernel_rfl)
theorem l39_1 (hJ : Closed prog main J) {S : Type} (μ : S → Nat) (I : S → RG → List AObj → Prop) (hI : ∀ s f h, I s f h → heapOk h → n0 ≤ h.length → W prog J 32 n0 39 (subC [1, 1, 1, 0, 1, 0, 0] (codeOf f39)) f h (thenK (Nx n0 μ I s) (contX pl39 prog J 32 n0 39 ct39 [1, 1, 1, 0, 1, 0] (codeOf f39) [] (RetQ prog [.tmp 4] n0 K))))
 {s : S} {f : RG} (hi : Gets n0 I s f h) : Sem J 32 n0 39 (subC [1, 1, 1, 0, 1, 0] (codeOf f39)) f h (contX pl39 prog J 32 n0 39 ct39 [1, 1, 1, 0, 1, 0] (codeOf f39) [] (RetQ prog [.tmp 4] n0 K)) :=
 loop_rule hJ mixed (b := subC [1, 1, 1, 0, 1, 0, 0] (codeOf f39)) (by kernel_rfl) μ I hI hi
end
section
variable {main : Bool} {J : JT} {n0 : Nat} {h : List AObj} {K : Value → List AObj → Prop}
theorem at43 : prog.funcs[43]? = some f43 := by kernel_rfl
theorem body43 : f43.body = some (codeOf f43) := by kernel_rfl
def pl43 : Plans := []
def ct43 : Cuts := .go
theorem pok43 : plansOk prog pl43 (codeOf f43) = true := by kernel_rfl
theorem e43 {a0 : Value} : W prog J 17 h.length 43 (codeOf f43) (RG.mk (regs [a0]) []) h (RetQ prog [.cell 2 83] h.length K) =
(aBox a0 h fun v1 h2 =>
aAlloc [(vint 0), (vint 0), (vint 0)] h2 fun v3 h4 =>
aOff v1 0 fun v5 =>
aOff v5 1 fun v6 =>
aLoad false 1 v6 h4 fun v7 =>
aOff v1 0 fun v8 =>
aOff v8 0 fun v9 =>
aLoad false 1 v9 h4 fun v10 =>
aOff v1 0 fun v11 =>
aOff v11 2 fun v12 =>
aLoad false 1 v12 h4 fun v13 =>
aBin prog .add 3 v10 v13 fun v14 =>
aMin v7 [v14] fun v15 =>
aOff v1 0 fun v16 =>
aOff v16 0 fun v17 =>
aStore 1 v17 v15 h4 fun h18 =>
aLoad true 3 v1 h18 fun v19 =>
aStore 3 v3 v19 h18 fun h20 =>
RetQ prog [.cell 2 83] h.length K .ret (RG.p (RG.p (RG.p (RG.p (RG.p (RG.p (RG.p (RG.p (RG.p (RG.p (RG.p (RG.p (RG.p (RG.p (RG.p (RG.p (RG.mk (regs [a0]) []) 1 v1) 2 v3) 3 v5) 4 v6) 5 v7) 6 v8) 7 v9) 8 v10) 9 v11) 10 v12) 11 v13) 12 v14) 13 v15) 14 v16) 15 v17) 16 v19) h20) := top_eq pok43 ct43 (by kernel_rfl)
theorem g43 (hJ : Closed prog main J) {a0 : Value} (hs : heapOk h → W prog J 17 h.length 43 (codeOf f43) (RG.mk (regs [a0]) []) h (RetQ prog [.cell 2 83] h.length K)) : Good prog J 43 [a0] h K :=
 good_of_W hJ mixed at43 body43 (by kernel_rfl) (Nat.le_of_ble_eq_true rfl) hs
theorem at45 : prog.funcs[45]? = some f45 := by kernel_rfl
theorem body45 : f45.body = some (codeOf f45) := by kernel_rfl
def pl45 : Plans := []
def ct45 : Cuts := .go
theorem pok45 : plansOk prog pl45 (codeOf f45) = true := by kernel_rfl
theorem e45 {a0 a1 : Value} : W prog J 25 h.length 45 (codeOf f45) (RG.mk (regs [a0, a1]) []) h (RetQ prog [.cell 4 83, .tmp 5] h.length K) =
(aBox a0 h fun v1 h2 =>
aAlloc [(vint 0), (vint 0), (vint 0)] h2 fun v3 h4 =>
aOff v1 0 fun v5 =>
aOff v5 0 fun v6 =>
aLoad false 1 v6 h4 fun v7 =>
aBin prog .lss 3 v7 a1 fun v8 =>
aOff v1 0 fun v9 =>
aOff v9 0 fun v10 =>
aLoad false 1 v10 h4 fun v11 =>
aOff v1 0 fun v12 =>
aOff v12 0 fun v13 =>
aLoad false 1 v13 h4 fun v14 =>
aMin v14 [a1] fun v15 =>
aBin prog .sub 3 v11 v15 fun v16 =>
aOff v1 0 fun v17 =>
aOff v17 0 fun v18 =>
aStore 1 v18 v16 h4 fun h19 =>
aLoad true 3 v1 h19 fun v20 =>
aStore 3 v3 v20 h19 fun h21 =>
RetQ prog [.cell 4 83, .tmp 5] h.length K .ret (RG.p (RG.p (RG.p (RG.p (RG.p (RG.p (RG.p (RG.p (RG.p (RG.p (RG.p (RG.p (RG.p (RG.p (RG.p (RG.p (RG.p (RG.p (RG.p (RG.p (RG.p (RG.p (RG.p (RG.mk (regs [a0, a1]) []) 2 v1) 4 v3) 5 (Value.bool false)) 7 v5) 8 v6) 9 v7) 10 a1) 11 v8) 6 v8) 12 v9) 13 v10) 14 v11) 15 v12) 16 v13) 17 v14) 18 a1) 19 v15) 20 v16) 21 v17) 22 v18) 23 v20) 24 v8) 5 v8) h21) := top_eq pok45 ct45 (by kernel_rfl)
theorem g45 (hJ : Closed prog main J) {a0 a1 : Value} (hs : heapOk h → W prog J 25 h.length 45 (codeOf f45) (RG.mk (regs [a0, a1]) []) h (RetQ prog [.cell 4 83, .tmp 5] h.length K)) : Good prog J 45 [a0, a1] h K :=
 good_of_W hJ mixed at45 body45 (by kernel_rfl) (Nat.le_of_ble_eq_true rfl) hs
theorem at41 : prog.funcs[41]? = some f41 := by kernel_rfl
theorem body41 : f41.body = some (codeOf f41) := by kernel_rfl
def pl41 : Plans := [(6, true, .take 0 (.take 1 (.take 2 (.take 3 (.take 4 (.take 5 (.take 6 (.take 7 (.take 8 (.take 9 (.take 10 (.take 11 (.take 12 (.take 13 (.take 14 (.take 15 (.take 16 (.take 17 (.fin))))))))))))))))))),
 (7, false, .take 0 (.take 1 (.take 2 (.take 3 (.take 4 (.take 5 (.take 6 (.last 7 true (.take 8 (.take 9 (.take 10 (.last 11 false (.fin)))))))))))))]
def ct41 : Cuts := .bin (.go) (.bin (.go) (.bin (.go) (.un (.un (.bin (.un (.bin (.go) (.bin (.go) (.bin (.bin (.go) (.cut (.go))) (.bin (.go) (.bin (.go) (.cut (.go)))))))) (.go))))))
theorem pok41 : plansOk prog pl41 (codeOf f41) = true := by kernel_rfl
theorem e41 {a0 a1 a2 : Value} : W prog J 86 h.length 41 (codeOf f41) (RG.mk (regs [a0, a1, a2]) []) h (RetQ prog [.tmp 6] h.length K) =
(aBox a0 h fun v1 h2 =>
aOff v1 0 fun v3 =>
aLoad true 3 v3 h2 fun v4 =>
aFill [(vint 0), (vint 0), (vint 0)] [(0, 3, v4)] fun c5 =>
aAlloc [(vint 0), (vint 0), (vint 0)] h2 fun v6 h7 =>
aStore 3 v6 (Value.agg ⟨c5⟩) h7 fun h8 =>
Sem J 86 h.length 41 (subC [1, 1, 1, 0] (codeOf f41)) (RG.p (RG.p (RG.p (RG.p (RG.p (RG.p (RG.p (RG.p (RG.p (RG.mk (regs [a0, a1, a2]) []) 3 v1) 6 (vint 0)) 13 v3) 14 v4) 15 (Value.agg ⟨c5⟩)) 7 v6) 8 (vint 0)) 9 (vint 0)) 10 (vint 0)) h8 (contX pl41 prog J 86 h.length 41 ct41 [1, 1, 1, 0] (codeOf f41) [] (RetQ prog [.tmp 6] h.length K))) := top_eq pok41 ct41 (by kernel_rfl)
theorem g41 (hJ : Closed prog main J) {a0 a1 a2 : Value} (hs : heapOk h → W prog J 86 h.length 41 (codeOf f41) (RG.mk (regs [a0, a1, a2]) []) h (RetQ prog [.tmp 6] h.length K)) : Good prog J 41 [a0, a1, a2] h K :=
 good_of_W hJ mixed at41 body41 (by kernel_rfl) (Nat.le_of_ble_eq_true rfl) hs
theorem s41_1 {f : RG} {nx0 : RG → List AObj → Prop} : W prog J 86 n0 41 (subC [1, 1, 1, 0, 0] (codeOf f41)) f h (thenK nx0 (contX pl41 prog J 86 n0 41 ct41 [1, 1, 1, 0] (codeOf f41) [] (RetQ prog [.tmp 6] n0 K))) =
(aIdx 1 (f.r 2) (f.r 9) fun v1 =>
aLoad false 1 v1 h fun v2 =>
aOff (f.r 7) 0 fun v3 =>
aOff v3 0 fun v4 =>
aLoad false 1 v4 h fun v5 =>
aIdx 1 (f.r 1) v2 fun v6 =>
aLoad false 1 v6 h fun v7 =>
aBin prog .geq 3 (f.r 10) v7 fun v8 =>
cnd v8
(aOff (f.r 7) 0 fun v9 =>
aOff v9 0 fun v10 =>
aLoad false 1 v10 h fun v11 =>
aOff (f.r 3) 3 fun v12 =>
aLoad false 1 v12 h fun v13 =>
aIdx 2 v13 v2 fun v14 =>
aOff v14 0 fun v15 =>
aLoad false 1 v15 h fun v16 =>
aBin prog .geq 3 v11 v16 fun v17 =>
Hold (W prog J 86 n0 41 (subC [1, 1, 1, 0, 0, 0, 0, 1, 1, 0, 1] (codeOf f41)) (RG.p (RG.p (RG.p (RG.p (RG.p (RG.p (RG.p (RG.p (RG.p (RG.p (RG.p (RG.p (RG.p (RG.p (RG.p (RG.p (RG.p (RG.p (RG.p (RG.p (RG.p (RG.p (RG.p (RG.p (RG.p (RG.p (RG.p (RG.p f 18 (f.r 2)) 19 (f.r 9)) 20 v1) 21 v2) 11 v2) 22 v3) 23 v4) 24 v5) 12 v5) 25 (f.r 10)) 26 (f.r 1)) 27 v2) 28 v6) 29 v7) 30 v8) 31 v8) 31 (Value.bool true)) 32 v9) 33 v10) 34 v11) 35 v12) 36 v13) 37 v2) 38 v14) 39 v15) 40 v16) 41 v17) 42 v17) h (contX pl41 prog J 86 n0 41 ct41 [1, 1, 1, 0, 0, 0, 0, 1, 1, 0, 1] (codeOf f41) [nx0] (RetQ prog [.tmp 6] n0 K))))
(Hold (W prog J 86 n0 41 (subC [1, 1, 1, 0, 0, 0, 0, 1, 1, 0, 1] (codeOf f41)) (RG.p (RG.p (RG.p (RG.p (RG.p (RG.p (RG.p (RG.p (RG.p (RG.p (RG.p (RG.p (RG.p (RG.p (RG.p (RG.p (RG.p (RG.p (RG.p (RG.p (RG.p (RG.p (RG.p (RG.p (RG.p (RG.p (RG.p (RG.p f 18 (f.r 2)) 19 (f.r 9)) 20 v1) 21 v2) 11 v2) 22 v3) 23 v4) 24 v5) 12 v5) 25 (f.r 10)) 26 (f.r 1)) 27 v2) 28 v6) 29 v7) 30 v8) 31 v8) 31 (Value.bool false)) 32 undef) 33 undef) 34 undef) 35 undef) 36 undef) 37 undef) 38 undef) 39 undef) 40 undef) 41 undef) 42 (Value.bool false)) h (contX pl41 prog J 86 n0 41 ct41 [1, 1, 1, 0, 0, 0, 0, 1, 1, 0, 1] (codeOf f41) [nx0] (RetQ prog [.tmp 6] n0 K))))) := sub_eq pok41 ct41 (by kernel_rfl)
theorem l41_1 (hJ : Closed prog main J) {S : Type} (μ : S → Nat) (I : S → RG → List AObj → Prop) (hI : ∀ s f h, I s f h → heapOk h → n0 ≤ h.length → W prog J 86 n0 41 (subC [1, 1, 1, 0, 0] (codeOf f41)) f h (thenK (Nx n0 μ I s) (contX pl41 prog J 86 n0 41 ct41 [1, 1, 1, 0] (codeOf f41) [] (RetQ prog [.tmp 6] n0 K))))
 {s : S} {f : RG} (hi : Gets n0 I s f h) : Sem J 86 n0 41 (subC [1, 1, 1, 0] (codeOf f41)) f h (contX pl41 prog J 86 n0 41 ct41 [1, 1, 1, 0] (codeOf f41) [] (RetQ prog [.tmp 6] n0 K)) :=
 loop_rule hJ mixed (b := subC [1, 1, 1, 0, 0] (codeOf f41)) (by kernel_rfl) μ I hI hi
theorem s41_2 {f : RG} {nx0 : RG → List AObj → Prop} : W prog J 86 n0 41 (subC [1, 1, 1, 0, 0, 0, 0, 1, 1, 0, 1] (codeOf f41)) f h (contX pl41 prog J 86 n0 41 ct41 [1, 1, 1, 0, 0, 0, 0, 1, 1, 0, 1] (codeOf f41) [nx0] (RetQ prog [.tmp 6] n0 K)) =
(cnd (f.r 42)
((∃ B, aLoad true 3 (f.r 7) h fun v1 =>
RdOk (some B) (ptrBlk (f.r 7)) ∧ (aOff (f.r 3) 3 fun v2 =>
aLoad false 1 v2 h fun v3 =>
RdOk (some B) (ptrBlk v2) ∧ (aIdx 2 v3 (f.r 11) fun v4 =>
aOff v4 0 fun v5 =>
aLoad false 1 v5 h fun v6 =>
RdOk (some B) (ptrBlk v5) ∧ (Good prog J 45 [v1, v6] h fun v7 h8 =>
SameB (some B) h h8 ∧ (aExt v7 0 fun v9 =>
aExt v7 1 fun v10 =>
aStore 3 (f.r 7) v9 h8 fun h11 =>
aIdx 1 (f.r 1) (f.r 11) fun v12 =>
aLoad false 1 v12 h11 fun v13 =>
aBin prog .sub 3 (f.r 10) v13 fun v14 =>
aBin prog .add 3 (f.r 8) v14 fun v15 =>
aBin prog .add 3 (f.r 9) (vint 1) fun v16 =>
aLenS (f.r 2) fun v17 =>
aBin prog .eql 3 v16 v17 fun v18 =>
cnd v18
(retL n0 K f.ds [v15] h11)
(aLoad true 3 (f.r 7) h11 fun v19 =>
Good prog J 43 [v19] h11 fun v20 h21 =>
aStore 3 (f.r 7) v20 h21 fun h22 =>
aBin prog .add 3 (f.r 10) (vint 1) fun v23 =>
nx0 (RG.p (RG.p (RG.p (RG.p (RG.p (RG.p (RG.p (RG.p (RG.p (RG.p (RG.p (RG.p (RG.p (RG.p (RG.p (RG.p (RG.p (RG.p (RG.p (RG.p (RG.p (RG.p (RG.p (RG.p (RG.p (RG.p (RG.p (RG.p (RG.p (RG.p (RG.p (RG.p f 44 v1) 45 v2) 46 v3) 47 (f.r 11)) 48 v4) 49 v5) 50 v6) 51 v7) 43 v7) 52 v9) 53 v10) 54 (f.r 8)) 55 (f.r 10)) 56 (f.r 1)) 57 (f.r 11)) 58 v12) 59 v13) 60 v14) 61 v15) 8 v15) 62 (f.r 9)) 63 v16) 9 v16) 64 v16) 65 (f.r 2)) 66 v17) 67 v18) 69 v19) 70 v20) 16 (f.r 10)) 17 v23) 10 v23) h22)))))))
(aLoad true 3 (f.r 7) h fun v24 =>
Good prog J 43 [v24] h fun v25 h26 =>
aStore 3 (f.r 7) v25 h26 fun h27 =>
aOff (f.r 7) 0 fun v28 =>
aOff v28 0 fun v29 =>
aLoad false 1 v29 h27 fun v30 =>
aBin prog .eql 3 v30 (f.r 12) fun v31 =>
cnd v31
(aIdx 1 (f.r 1) (f.r 11) fun v32 =>
aLoad false 1 v32 h27 fun v33 =>
aBin prog .geq 3 (f.r 10) v33 fun v34 =>
Hold (W prog J 86 n0 41 (subC [1, 1, 1, 0, 0, 0, 0, 1, 1, 1, 1, 1] (codeOf f41)) (RG.p (RG.p (RG.p (RG.p (RG.p (RG.p (RG.p (RG.p (RG.p (RG.p (RG.p (RG.p (RG.p (RG.p (RG.p (RG.p f 71 v24) 72 v25) 73 v28) 74 v29) 75 v30) 76 (f.r 12)) 77 v31) 78 v31) 78 (Value.bool true)) 79 (f.r 10)) 80 (f.r 1)) 81 (f.r 11)) 82 v32) 83 v33) 84 v34) 85 v34) h27 (contX pl41 prog J 86 n0 41 ct41 [1, 1, 1, 0, 0, 0, 0, 1, 1, 1, 1, 1] (codeOf f41) [nx0] (RetQ prog [.tmp 6] n0 K))))
(Hold (W prog J 86 n0 41 (subC [1, 1, 1, 0, 0, 0, 0, 1, 1, 1, 1, 1] (codeOf f41)) (RG.p (RG.p (RG.p (RG.p (RG.p (RG.p (RG.p (RG.p (RG.p (RG.p (RG.p (RG.p (RG.p (RG.p (RG.p (RG.p f 71 v24) 72 v25) 73 v28) 74 v29) 75 v30) 76 (f.r 12)) 77 v31) 78 v31) 78 (Value.bool false)) 79 undef) 80 undef) 81 undef) 82 undef) 83 undef) 84 undef) 85 (Value.bool false)) h27 (contX pl41 prog J 86 n0 41 ct41 [1, 1, 1, 0, 0, 0, 0, 1, 1, 1, 1, 1] (codeOf f41) [nx0] (RetQ prog [.tmp 6] n0 K)))))) := sub_eq pok41 ct41 (by kernel_rfl)
theorem s41_3 {f : RG} {nx0 : RG → List AObj → Prop} : W prog J 86 n0 41 (subC [1, 1, 1, 0, 0, 0, 0, 1, 1, 1, 1, 1] (codeOf f41)) f h (contX pl41 prog J 86 n0 41 ct41 [1, 1, 1, 0, 0, 0, 0, 1, 1, 1, 1, 1] (codeOf f41) [nx0] (RetQ prog [.tmp 6] n0 K)) =
(cnd (f.r 85)
(retL n0 K f.ds [(vint (-1))] h)
(aBin prog .add 3 (f.r 10) (vint 1) fun v1 =>
nx0 (RG.p (RG.p (RG.p f 16 (f.r 10)) 17 v1) 10 v1) h)) := sub_eq pok41 ct41 (by kernel_rfl)
end
section
variable {main : Bool} {J : JT} {n0 : Nat} {h : List AObj} {K : Value → List AObj → Prop}
theorem at25 : prog.funcs[25]? = some f25 := by kernel_rfl
theorem body25 : f25.body = some (codeOf f25) := by kernel_rfl
def pl25 : Plans := []
def ct25 : Cuts := .go
theorem pok25 : plansOk prog pl25 (codeOf f25) = true := by kernel_rfl
theorem e25 {a0 a1 a2 : Value} : W prog J 15 h.length 25 (codeOf f25) (RG.mk (regs [a0, a1, a2]) []) h (RetQ prog [.tmp 6] h.length K) =
(aBin prog .leq 3 a1 a0 fun v1 =>
cnd v1
(aBin prog .leq 3 a0 a2 fun v2 =>
retL h.length K [] [v2] h)
(retL h.length K [] [(Value.bool false)] h)) := top_eq pok25 ct25 (by kernel_rfl)
theorem g25 (hJ : Closed prog main J) {a0 a1 a2 : Value} (hs : heapOk h → W prog J 15 h.length 25 (codeOf f25) (RG.mk (regs [a0, a1, a2]) []) h (RetQ prog [.tmp 6] h.length K)) : Good prog J 25 [a0, a1, a2] h K :=
 good_of_W hJ mixed at25 body25 (by kernel_rfl) (Nat.le_of_ble_eq_true rfl) hs
theorem at24 : prog.funcs[24]? = some f24 := by kernel_rfl
theorem body24 : f24.body = some (codeOf f24) := by kernel_rfl
def pl24 : Plans := []
def ct24 : Cuts := .go
theorem pok24 : plansOk prog pl24 (codeOf f24) = true := by kernel_rfl
theorem e24 {a0 a1 a2 : Value} : W prog J 15 h.length 24 (codeOf f24) (RG.mk (regs [a0, a1, a2]) []) h (RetQ prog [.tmp 6] h.length K) =
(aBin prog .lss 3 a0 a1 fun v1 =>
cnd v1
(retL h.length K [] [(vint 7)] h)
(aBin prog .gtr 3 a0 a2 fun v2 =>
cnd v2
(retL h.length K [] [(vint 6)] h)
(retL h.length K [] [(vint 0)] h))) := top_eq pok24 ct24 (by kernel_rfl)
theorem g24 (hJ : Closed prog main J) {a0 a1 a2 : Value} (hs : heapOk h → W prog J 15 h.length 24 (codeOf f24) (RG.mk (regs [a0, a1, a2]) []) h (RetQ prog [.tmp 6] h.length K)) : Good prog J 24 [a0, a1, a2] h K :=
 good_of_W hJ mixed at24 body24 (by kernel_rfl) (Nat.le_of_ble_eq_true rfl) hs
theorem at23 : prog.funcs[23]? = some f23 := by kernel_rfl
theorem body23 : f23.body = some (codeOf f23) := by kernel_rfl
def pl23 : Plans := []
def ct23 : Cuts := .bin (.go) (.bin (.bin (.go) (.cut (.go))) (.go))
theorem pok23 : plansOk prog pl23 (codeOf f23) = true := by kernel_rfl
theorem e23 {a0 : Value} : W prog J 18 h.length 23 (codeOf f23) (RG.mk (regs [a0]) []) h (RetQ prog [.tmp 2] h.length K) =
(aBox a0 h fun v1 h2 =>
aOff v1 1 fun v3 =>
aLoad false 1 v3 h2 fun v4 =>
Good prog J 25 [v4, (vint 1), (vint 40)] h2 fun v5 h6 =>
cnd v5
(aOff v1 0 fun v7 =>
aLoad false 1 v7 h6 fun v8 =>
aOff v1 1 fun v9 =>
aLoad false 1 v9 h6 fun v10 =>
Good prog J 25 [v8, (vint 0), v10] h6 fun v11 h12 =>
cnd v11
(aOff v1 2 fun v13 =>
aLoad false 1 v13 h12 fun v14 =>
Good prog J 25 [v14, (vint 0), (vint 20)] h12 fun v15 h16 =>
Hold (W prog J 18 h.length 23 (subC [1, 0, 1] (codeOf f23)) (RG.p (RG.p (RG.p (RG.p (RG.p (RG.p (RG.p (RG.p (RG.p (RG.p (RG.p (RG.p (RG.p (RG.p (RG.p (RG.p (RG.p (RG.p (RG.p (RG.mk (regs [a0]) []) 1 v1) 2 (vint 0)) 3 v3) 4 v4) 5 v5) 6 v5) 6 (Value.bool true)) 7 v7) 8 v8) 9 v9) 10 v10) 11 v11) 12 v11) 13 v11) 13 (Value.bool true)) 14 v13) 15 v14) 16 v15) 17 v15) h16 (contX pl23 prog J 18 h.length 23 ct23 [1, 0, 1] (codeOf f23) [] (RetQ prog [.tmp 2] h.length K))))
(Hold (W prog J 18 h.length 23 (subC [1, 0, 1] (codeOf f23)) (RG.p (RG.p (RG.p (RG.p (RG.p (RG.p (RG.p (RG.p (RG.p (RG.p (RG.p (RG.p (RG.p (RG.p (RG.p (RG.p (RG.p (RG.p (RG.p (RG.mk (regs [a0]) []) 1 v1) 2 (vint 0)) 3 v3) 4 v4) 5 v5) 6 v5) 6 (Value.bool true)) 7 v7) 8 v8) 9 v9) 10 v10) 11 v11) 12 v11) 13 v11) 13 (Value.bool false)) 14 undef) 15 undef) 16 undef) 17 (Value.bool false)) h12 (contX pl23 prog J 18 h.length 23 ct23 [1, 0, 1] (codeOf f23) [] (RetQ prog [.tmp 2] h.length K)))))
(Hold (W prog J 18 h.length 23 (subC [1, 0, 1] (codeOf f23)) (RG.p (RG.p (RG.p (RG.p (RG.p (RG.p (RG.p (RG.p (RG.p (RG.p (RG.p (RG.p (RG.p (RG.p (RG.p (RG.p (RG.p (RG.p (RG.p (RG.mk (regs [a0]) []) 1 v1) 2 (vint 0)) 3 v3) 4 v4) 5 v5) 6 v5) 6 (Value.bool false)) 7 undef) 8 undef) 9 undef) 10 undef) 11 undef) 12 (Value.bool false)) 13 (Value.bool false)) 13 (Value.bool false)) 14 undef) 15 undef) 16 undef) 17 (Value.bool false)) h6 (contX pl23 prog J 18 h.length 23 ct23 [1, 0, 1] (codeOf f23) [] (RetQ prog [.tmp 2] h.length K))))) := top_eq pok23 ct23 (by kernel_rfl)
theorem g23 (hJ : Closed prog main J) {a0 : Value} (hs : heapOk h → W prog J 18 h.length 23 (codeOf f23) (RG.mk (regs [a0]) []) h (RetQ prog [.tmp 2] h.length K)) : Good prog J 23 [a0] h K :=
 good_of_W hJ mixed at23 body23 (by kernel_rfl) (Nat.le_of_ble_eq_true rfl) hs
theorem s23_1 {f : RG} : W prog J 18 n0 23 (subC [1, 0, 1] (codeOf f23)) f h (contX pl23 prog J 18 n0 23 ct23 [1, 0, 1] (codeOf f23) [] (RetQ prog [.tmp 2] n0 K)) =
(cnd (f.r 17)
(retL n0 K f.ds [(vint 0)] h)
(retL n0 K f.ds [(vint 1)] h)) := sub_eq pok23 ct23 (by kernel_rfl)
theorem at6 : prog.funcs[6]? = some f6 := by kernel_rfl
theorem body6 : f6.body = some (codeOf f6) := by kernel_rfl
def pl6 : Plans := []
def ct6 : Cuts := .bin (.go) (.bin (.go) (.bin (.go) (.bin (.bin (.go) (.un (.un (.bin (.go) (.bin (.go) (.bin (.un (.bin (.go) (.bin (.go) (.cut (.go))))) (.go))))))) (.go))))
theorem pok6 : plansOk prog pl6 (codeOf f6) = true := by kernel_rfl
theorem e6 {a0 : Value} : W prog J 38 h.length 6 (codeOf f6) (RG.mk (regs [a0]) []) h (RetQ prog [.tmp 2] h.length K) =
(aBox a0 h fun v1 h2 =>
aOff v1 0 fun v3 =>
aLoad true 3 v3 h2 fun v4 =>
Good prog J 23 [v4] h2 fun v5 h6 =>
aBin prog .neq 31 v5 (vint 0) fun v7 =>
cnd v7
(retL h.length K [] [v5] h6)
(aOff v1 3 fun v8 =>
aLoad false 1 v8 h6 fun v9 =>
aLenS v9 fun v10 =>
Good prog J 24 [v10, (vint 1), (vint 3)] h6 fun v11 h12 =>
aBin prog .neq 31 v11 (vint 0) fun v13 =>
cnd v13
(retL h.length K [] [v11] h12)
(aOff v1 3 fun v14 =>
aLoad false 1 v14 h12 fun v15 =>
aLenS v15 fun v16 =>
Sem J 38 h.length 6 (subC [1, 1, 1, 0, 1, 0] (codeOf f6)) (RG.p (RG.p (RG.p (RG.p (RG.p (RG.p (RG.p (RG.p (RG.p (RG.p (RG.p (RG.p (RG.p (RG.p (RG.p (RG.p (RG.p (RG.p (RG.p (RG.mk (regs [a0]) []) 1 v1) 2 (vint 0)) 7 v3) 8 v4) 9 v5) 3 v5) 10 v5) 11 v7) 13 v8) 14 v9) 15 v10) 16 v11) 4 v11) 17 v11) 18 v13) 20 v14) 21 v15) 22 v16) 23 (vint 0)) h12 (contX pl6 prog J 38 h.length 6 ct6 [1, 1, 1, 0, 1, 0] (codeOf f6) [] (RetQ prog [.tmp 2] h.length K))))) := top_eq pok6 ct6 (by kernel_rfl)
theorem g6 (hJ : Closed prog main J) {a0 : Value} (hs : heapOk h → W prog J 38 h.length 6 (codeOf f6) (RG.mk (regs [a0]) []) h (RetQ prog [.tmp 2] h.length K)) : Good prog J 6 [a0] h K :=
 good_of_W hJ mixed at6 body6 (by kernel_rfl) (Nat.le_of_ble_eq_true rfl) hs
theorem s6_1 {f : RG} {nx0 : RG → List AObj → Prop} : W prog J 38 n0 6 (subC [1, 1, 1, 0, 1, 0, 0] (codeOf f6)) f h (thenK nx0 (contX pl6 prog J 38 n0 6 ct6 [1, 1, 1, 0, 1, 0] (codeOf f6) [] (RetQ prog [.tmp 2] n0 K))) =
(aBin prog .lss 3 (f.r 23) (f.r 22) fun v1 =>
cnd v1
(aIdx 2 (f.r 21) (f.r 23) fun v2 =>
aLoad true 2 v2 h fun v3 =>
aAlloc [(vint 0), (vint 0)] h fun v4 h5 =>
aStore 2 v4 v3 h5 fun h6 =>
aOff v4 0 fun v7 =>
aLoad false 1 v7 h6 fun v8 =>
Good prog J 25 [v8, (vint 1), (vint 40)] h6 fun v9 h10 =>
aUn .not v9 fun v11 =>
cnd v11
(Hold (W prog J 38 n0 6 (subC [1, 1, 1, 0, 1, 0, 0, 1, 1, 0, 0, 1, 1] (codeOf f6)) (RG.p (RG.p (RG.p (RG.p (RG.p (RG.p (RG.p (RG.p (RG.p (RG.p (RG.p (RG.p (RG.p (RG.p (RG.p f 24 v1) 25 v2) 26 v3) 6 v4) 27 v7) 28 v8) 29 v9) 30 v11) 31 v11) 31 (Value.bool true)) 32 undef) 33 undef) 34 undef) 35 undef) 36 (Value.bool true)) h10 (contX pl6 prog J 38 n0 6 ct6 [1, 1, 1, 0, 1, 0, 0, 1, 1, 0, 0, 1, 1] (codeOf f6) [nx0] (RetQ prog [.tmp 2] n0 K))))
(aOff v4 1 fun v12 =>
aLoad false 1 v12 h10 fun v13 =>
Good prog J 25 [v13, (vint 1), (vint 8)] h10 fun v14 h15 =>
aUn .not v14 fun v16 =>
Hold (W prog J 38 n0 6 (subC [1, 1, 1, 0, 1, 0, 0, 1, 1, 0, 0, 1, 1] (codeOf f6)) (RG.p (RG.p (RG.p (RG.p (RG.p (RG.p (RG.p (RG.p (RG.p (RG.p (RG.p (RG.p (RG.p (RG.p (RG.p f 24 v1) 25 v2) 26 v3) 6 v4) 27 v7) 28 v8) 29 v9) 30 v11) 31 v11) 31 (Value.bool false)) 32 v12) 33 v13) 34 v14) 35 v16) 36 v16) h15 (contX pl6 prog J 38 n0 6 ct6 [1, 1, 1, 0, 1, 0, 0, 1, 1, 0, 0, 1, 1] (codeOf f6) [nx0] (RetQ prog [.tmp 2] n0 K)))))
(retL n0 K f.ds [(vint 0)] h)) := sub_eq pok6 ct6 (by kernel_rfl)
theorem l6_1 (hJ : Closed prog main J) {S : Type} (μ : S → Nat) (I : S → RG → List AObj → Prop) (hI : ∀ s f h, I s f h → heapOk h → n0 ≤ h.length → W prog J 38 n0 6 (subC [1, 1, 1, 0, 1, 0, 0] (codeOf f6)) f h (thenK (Nx n0 μ I s) (contX pl6 prog J 38 n0 6 ct6 [1, 1, 1, 0, 1, 0] (codeOf f6) [] (RetQ prog [.tmp 2] n0 K))))
 {s : S} {f : RG} (hi : Gets n0 I s f h) : Sem J 38 n0 6 (subC [1, 1, 1, 0, 1, 0] (codeOf f6)) f h (contX pl6 prog J 38 n0 6 ct6 [1, 1, 1, 0, 1, 0] (codeOf f6) [] (RetQ prog [.tmp 2] n0 K)) :=
 loop_rule hJ mixed (b := subC [1, 1, 1, 0, 1, 0, 0] (codeOf f6)) (by kernel_rfl) μ I hI hi
theorem s6_2 {f : RG} {nx0 : RG → List AObj → Prop} : W prog J 38 n0 6 (subC [1, 1, 1, 0, 1, 0, 0, 1, 1, 0, 0, 1, 1] (codeOf f6)) f h (contX pl6 prog J 38 n0 6 ct6 [1, 1, 1, 0, 1, 0, 0, 1, 1, 0, 0, 1, 1] (codeOf f6) [nx0] (RetQ prog [.tmp 2] n0 K)) =
(cnd (f.r 36)
(retL n0 K f.ds [(vint 1)] h)
(aBin prog .add 3 (f.r 23) (vint 1) fun v1 =>
nx0 (RG.p (RG.p f 37 v1) 23 v1) h)) := sub_eq pok6 ct6 (by kernel_rfl)
end
end Go.Proofs.YtmmlamfgbmnkgaaDoor
namespace Go.Proofs.YtmmlamfgbmnkgaaDoor
open Go.Conc
section
variable {P : Program} {t : TypeId} {K : Value → Prop} {H : Value → List AObj → Prop} {HL : List AObj → Prop} {a b : Int} {h g : List AObj} {A B : Prop}
theorem box_agg {cs : List Value} (h1 : cs.all one = true) (hk : H (ptr h.length 0) (h ++ [.cells cs true 0])) : aBox (.agg ⟨cs⟩) h H := ⟨h1, hk⟩
theorem box_one {v : Value} (hc : v.cells = #[v]) (h1 : one v = true) (hk : H (ptr h.length 0) (h ++ [.cells [v] true 0])) : aBox v h H := by
 unfold aBox
 rw [hc]
 exact ⟨by simpa using h1, hk⟩
theorem load_part {b o s : Nat} {cs c : List Value} {wr : Bool} {sz : Nat} (hb : h[b]? = some (.cells cs wr sz)) (hl : o + s ≤ cs.length) (hc : (cs.drop o).take s = c) (hn : kn c = true) (hk : K (.agg ⟨c⟩)) : aLoad true s (ptr b o) h K := by
 simp only [aLoad, hb, cond_true, hc]
 exact ⟨hl, hn, hk⟩
theorem store_agg {b : Nat} {cs c : List Value} {s : Nat} {sz : Nat} (hb : h[b]? = some (.cells cs true sz)) (hl : c.length = s) (hs : cs.length = s) (h1 : c.all one = true) (hk : HL (h.set b (.cells c true sz))) : aStore s (ptr b 0) (.agg ⟨c⟩) h HL := by
 have e : ∀ (c cs : List Value) (pre : List Value), cs.length = c.length → wrAt (pre ++ cs) pre.length c = pre ++ c := by
  intro c
  induction c with
  | nil =>
   intro cs pre h
   have : cs = [] := List.length_eq_zero_iff.1 (by simpa using h)
   subst this
   rfl
  | cons x c ih =>
   intro cs pre h
   cases cs with
   | nil => simp at h
   | cons y cs =>
    unfold wrAt
    have := ih cs (pre ++ [x]) (by simpa using h)
    simp only [List.length_append, List.length_cons, List.length_nil, List.append_assoc, List.cons_append, List.nil_append] at this
    simp only [List.set_append_right _ _ (Nat.le_refl _), Nat.sub_self, List.set_cons_zero]
    exact this
 simp only [aStore, hb, Value.cells]
 refine ⟨by simpa using hl, h1, by omega, ?_⟩
 have := e c cs [] (by omega)
 simp only [List.nil_append, List.length_nil] at this
 rw [this]
 exact hk
theorem resW_cell {rs : List ResultVar} {r : Nat → Value} {x : Nat} {gg : Bool} {s : Nat} {KL : List Value → Prop} (ht : tk P t = some (gg, s)) (hk : aLoad gg s (r x) h fun v => resW P rs r h fun vs => KL (v :: vs)) : resW P (.cell x t :: rs) r h KL := by
 unfold resW
 rw [ht]
 exact hk
theorem resW_tmp {rs : List ResultVar} {r : Nat → Value} {x : Nat} {KL : List Value → Prop} (hn : r x ≠ unk) (hk : resW P rs r h fun vs => KL (r x :: vs)) : resW P (.tmp x :: rs) r h KL := ⟨hn, hk⟩
theorem resW_nil {r : Nat → Value} {KL : List Value → Prop} (hk : KL []) : resW P [] r h KL := hk
theorem resW_imp : ∀ (rs : List ResultVar) {r : Nat → Value} {h : List AObj} {K K' : List Value → Prop}, resW P rs r h K → (∀ vs, K vs → K' vs) → resW P rs r h K'
 | [], r, h, K, K', hx, hk => hk _ hx
 | .tmp t :: rs, r, h, K, K', hx, hk => ⟨hx.1, resW_imp rs hx.2 fun vs => hk _⟩
 | .cell a t :: rs, r, h, K, K', hx, hk => by
  unfold resW at hx ⊢
  split at hx
  ·obtain ⟨v, k1, k2⟩ := pin_aLoad _ hx
   exact k2 (fun v => resW P rs r h fun vs => K' (v :: vs)) (resW_imp rs k1 fun vs => hk _)
  ·exact hx.elim
theorem retQ_drop {rs : List ResultVar} {n0 : Nat} {f : RG} (ds : f.ds = []) (ok : heapOk h) (hn : n0 ≤ h.length) (hr : resW P rs f.r (h ++ g) fun vs => VOk h.length (pack vs) ∧ H (pack vs) h) : RetQ P rs n0 H .ret f (h ++ g) := by
 unfold RetQ
 rw [ds]
 exact resW_imp rs hr fun vs hv => .inr ⟨id, h, pack vs, gc_drop ok hn, (sub_id hv.1).symm, hv.1, hv.2⟩
end
end Go.Proofs.YtmmlamfgbmnkgaaDoor
namespace Go.Proofs.YtmmlamfgbmnkgaaDoor
open Go.Conc Go.Proofs.Tryd
set_option maxRecDepth 100000
set_option maxHeartbeats 4000000
set_option linter.unusedVariables false
section
variable {main : Bool} {J : JT} {n0 : Nat} {h : List AObj} {K : Value → List AObj → Prop}
theorem at9 : prog.funcs[9]? = some f9 := by kernel_rfl
theorem body9 : f9.body = some (codeOf f9) := by kernel_rfl
theorem e9 {a0 a1 : Value} : W prog J 26 h.length 9 (codeOf f9) (RG.mk (regs [a0, a1]) []) h (RetQ prog [.tmp 4] h.length K) =
(aLenS a0 fun v1 =>
aLenS a1 fun v2 =>
aBin prog .neq 3 v1 v2 fun v3 =>
cnd v3
(retL h.length K [] [(Value.bool false)] h)
(Sem J 26 h.length 9 (subC [1, 1, 0, 1, 0] (codeOf f9)) (RG.p (RG.p (RG.p (RG.p (RG.p (RG.p (RG.p (RG.mk (regs [a0, a1]) []) 4 (Value.bool false)) 6 a0) 7 v1) 8 a1) 9 v2) 10 v3) 5 (vint 0)) h (contQ prog J 26 h.length 9 [1, 1, 0, 1, 0] (codeOf f9) [] (RetQ prog [.tmp 4] h.length K)))) := by kernel_rfl
theorem g9 (hJ : Closed prog main J) {a0 a1 : Value} (hs : heapOk h → W prog J 26 h.length 9 (codeOf f9) (RG.mk (regs [a0, a1]) []) h (RetQ prog [.tmp 4] h.length K)) : Good prog J 9 [a0, a1] h K :=
 good_of_W hJ mixed at9 body9 (by kernel_rfl) (Nat.le_of_ble_eq_true rfl) hs
theorem s9_1 {f : RG} {nx0 : RG → List AObj → Prop} : W prog J 26 n0 9 (subC [1, 1, 0, 1, 0, 0] (codeOf f9)) f h (thenK nx0 (contQ prog J 26 n0 9 [1, 1, 0, 1, 0] (codeOf f9) [] (RetQ prog [.tmp 4] n0 K))) =
(aLenS (f.r 0) fun v1 =>
aBin prog .lss 3 (f.r 5) v1 fun v2 =>
cnd v2
(aIdx 1 (f.r 0) (f.r 5) fun v3 =>
aLoad false 1 v3 h fun v4 =>
aIdx 1 (f.r 1) (f.r 5) fun v5 =>
aLoad false 1 v5 h fun v6 =>
aBin prog .neq 3 v4 v6 fun v7 =>
cnd v7
(retL n0 K f.ds [(Value.bool false)] h)
(aBin prog .add 3 (f.r 5) (vint 1) fun v8 =>
nx0 (RG.p (RG.p (RG.p (RG.p (RG.p (RG.p (RG.p (RG.p (RG.p (RG.p (RG.p (RG.p (RG.p (RG.p (RG.p (RG.p f 11 (f.r 5)) 12 (f.r 0)) 13 v1) 14 v2) 17 (f.r 0)) 18 (f.r 5)) 19 v3) 20 v4) 21 (f.r 1)) 22 (f.r 5)) 23 v5) 24 v6) 25 v7) 15 (f.r 5)) 16 v8) 5 v8) h))
(retL n0 K f.ds [(Value.bool true)] h)) := by kernel_rfl
theorem l9_1 (hJ : Closed prog main J) {S : Type} (μ : S → Nat) (I : S → RG → List AObj → Prop) (hI : ∀ s f h, I s f h → heapOk h → n0 ≤ h.length → W prog J 26 n0 9 (subC [1, 1, 0, 1, 0, 0] (codeOf f9)) f h (thenK (Nx n0 μ I s) (contQ prog J 26 n0 9 [1, 1, 0, 1, 0] (codeOf f9) [] (RetQ prog [.tmp 4] n0 K))))
 {s : S} {f : RG} (hi : Gets n0 I s f h) : Sem J 26 n0 9 (subC [1, 1, 0, 1, 0] (codeOf f9)) f h (contQ prog J 26 n0 9 [1, 1, 0, 1, 0] (codeOf f9) [] (RetQ prog [.tmp 4] n0 K)) :=
 loop_rule hJ mixed (b := subC [1, 1, 0, 1, 0, 0] (codeOf f9)) (by kernel_rfl) μ I hI hi
end
end Go.Proofs.YtmmlamfgbmnkgaaDoor
namespace Go.Proofs.YtmmlamfgbmnkgaaDoor
open Go.Conc Go.Proofs.Tryd
section
variable {main : Bool} {J : JT} {h : List AObj} {K : Value → List AObj → Prop}
def Dealt (h : List AObj) (b : Nat) (nv : Value) (k n : Nat) (h' : List AObj) : Prop :=
 ∃ (k' : Nat) (s' : Int), k' ≤ k + n ∧ 0 ≤ s' ∧ s' < 18446744073709551616 ∧ h' = h.set b (.cells [nv, vint k', .int .u64 s'] true 0)
end
end Go.Proofs.YtmmlamfgbmnkgaaDoor
namespace Go.Proofs.YtmmlamfgbmnkgaaDoor
open Go.Conc Go.Proofs.Tryd
section
variable {main : Bool} {J : JT} {h : List AObj} {K : Value → List AObj → Prop}
theorem good9 (hJ : Closed prog main J) {av bv : Value} {xs ys : List Int} (ha : Sli h av 1 xs.length (xs.map vint)) (hb : Sli h bv 1 ys.length (ys.map vint)) (hl : xs.length < 4611686018427387904)
  (hK : K (.bool (decide (xs = ys))) h) : Good prog J 9 [av, bv] h K := by
 refine g9 hJ fun ok => ?_
 rw [e9]
 simp only [sli_len ha, sli_len hb, b_neq, cnd_dec]
 refine ⟨fun hne => retL_same (by simp [unk]) ?_, fun heq => ?_⟩
 ·have : xs ≠ ys := fun e => hne (by rw [e])
  simpa [pack, this] using hK
 ·have hlen : xs.length = ys.length := by omega
  refine l9_1 hJ (fun i => xs.length - i) (fun i f h' => h' = h ∧ f.ds = [] ∧ f.r 0 = av ∧ f.r 1 = bv ∧ f.r 5 = vint (i : Nat) ∧ i ≤ xs.length ∧ xs.take i = ys.take i) ?_ (s := 0) (.inl ⟨rfl, rfl, rfl, rfl, rfl, by omega, by simp⟩)
  rintro i f h' ⟨rfl, hds, h0, h1, h5, hi, ht⟩ _ hn
  rw [s9_1]
  simp only [h0, h1, h5, hds, sli_len ha, b_lss, cnd_dec]
  refine ⟨fun hlt => ?_, fun hge => ?_⟩
  ·have e1 : i < xs.length := by omega
   refine idx_load ha ⟨by omega, by omega⟩ (map_get (by omega)) fun p1 => ?_
   refine idx_load hb ⟨by omega, by omega⟩ (map_get (by omega)) fun p2 => ?_
   simp only [b_neq, cnd_dec, Int.toNat_natCast]
   refine ⟨fun hne => retL_same (by simp [unk]) ?_, fun heq => ?_⟩
   ·have : xs ≠ ys := fun e => hne (by rw [e])
    simpa [pack, this] using hK
   ·rw [b_add (by omega)]
    refine ⟨i + 1, by dsimp only; omega, .inl ⟨rfl, hds, h0, h1, rfl, by omega, ?_⟩⟩
    have heq : xs.getD i 0 = ys.getD i 0 := by simpa using heq
    simp only [List.getD_eq_getElem?_getD, List.getElem?_eq_getElem e1, List.getElem?_eq_getElem (show i < ys.length by omega), Option.getD_some] at heq
    rw [List.take_add_one, List.take_add_one, ht, List.getElem?_eq_getElem e1, List.getElem?_eq_getElem (show i < ys.length by omega), heq]
  ·have : i = xs.length := by omega
   subst this
   rw [List.take_length, hlen, List.take_length] at ht
   refine retL_same (by simp [unk]) ?_
   simpa [pack, ht] using hK
theorem ints_ok (n : Nat) (xs : List Int) : LOk n (xs.map vint) := by
 rw [LOk_iff]
 intro v hv
 obtain ⟨x, _, rfl⟩ := List.mem_map.1 hv
 simp [VOk]
end
end Go.Proofs.YtmmlamfgbmnkgaaDoor
namespace Go.Proofs.YtmmlamfgbmnkgaaDoor
open Go.Conc Go.Proofs.Tryd
section
variable {main : Bool} {J : JT} {h : List AObj} {K : Value → List AObj → Prop}
def HF (h : List AObj) (nv : Value) (k : Nat) (s : Int) (rest : List AObj) : List AObj := h ++ (.cells [nv, vint k, .int .u64 s] true 0 :: rest)
theorem hf_app {h : List AObj} {nv : Value} {k : Nat} {s : Int} {rest g : List AObj} : HF h nv k s rest ++ g = HF h nv k s (rest ++ g) := by
 simp [HF]
theorem hf_dealt {h h' : List AObj} {nv : Value} {k n : Nat} {s : Int} {rest : List AObj} (hd : Dealt (HF h nv k s rest) h.length nv k n h') : ∃ k' s', k' ≤ k + n ∧ 0 ≤ s' ∧ s' < 18446744073709551616 ∧ h' = HF h nv k' s' rest := by
 obtain ⟨k', s', a, b, c, rfl⟩ := hd
 refine ⟨k', s', a, b, c, ?_⟩
 simp [HF]
end
end Go.Proofs.YtmmlamfgbmnkgaaDoor
namespace Go.Proofs.YtmmlamfgbmnkgaaDoor
open Go.Conc Go.Proofs.Tryd
def SliE {α : Type} (h : List AObj) (v : Value) (s : Nat) (enc : α → List Value) (xs : List α) : Prop := Sli h v s xs.length (xs.flatMap enc)
theorem flat_take {α : Type} {enc : α → List Value} {s : Nat} (hen : ∀ x, (enc x).length = s) : ∀ (xs : List α) (i : Nat) (hi : i < xs.length), ((xs.flatMap enc).drop (i * s)).take s = enc xs[i]
 | [], i, hi => by simp at hi
 | x :: xs, 0, hi => by
  simp only [List.flatMap_cons, Nat.zero_mul, List.drop_zero, List.getElem_cons_zero]
  rw [List.take_append_of_le_length (by rw [hen]; exact Nat.le_refl _), List.take_of_length_le (by rw [hen]; exact Nat.le_refl _)]
 | x :: xs, i + 1, hi => by
  simp only [List.flatMap_cons, List.getElem_cons_succ]
  have : (i + 1) * s = (enc x).length + i * s := by rw [hen, Nat.succ_mul, Nat.add_comm]
  rw [this, ← List.drop_drop, List.drop_left]
  exact flat_take hen xs i (by simpa using hi)
section
variable {h g : List AObj} {K : Value → Prop}
theorem sliE_elem {α : Type} {v : Value} {s : Nat} {enc : α → List Value} {xs : List α} (hen : ∀ x, (enc x).length = s) (hpos : 0 < s) (hs : SliE h v s enc xs) {i : Nat} (hi : i < xs.length) :
  ∃ b o cs wr sz, (∀ K : Value → Prop, K (ptr b o) → aIdx s v (vint i) K) ∧ h[b]? = some (.cells cs wr sz) ∧ o + s ≤ cs.length ∧ (cs.drop o).take s = enc xs[i] ∧ kn (enc xs[i]) = true := by
 obtain ⟨base, c, rfl, ⟨hl, hkn⟩, hc⟩ := hs
 have hft := flat_take hen xs i hi
 have hmul : (i + 1) * s ≤ xs.length * s := Nat.mul_le_mul_right s (by omega)
 have hsucc : (i + 1) * s = i * s + s := Nat.succ_mul i s
 rcases hc with ⟨_, h0⟩ | ⟨b, o, rfl, h0 | ⟨cs, wr, sz, hb, hx⟩⟩
 ·omega
 ·omega
 ·rw [← hx] at hl hft
  simp only [List.length_take, List.length_drop] at hl
  refine ⟨b, o + i * s, cs, wr, sz, fun K hK => ?_, hb, by omega, ?_, ?_⟩
  ·rw [idx_ok]
   exact ⟨⟨by omega, by omega⟩, by simpa using hK⟩
  ·rw [← hft, List.drop_take, List.drop_drop, List.take_take]
   congr 1
   omega
  ·have : kn ((xs.flatMap enc).drop (i * s)) = true := by
    unfold kn at hkn ⊢
    rw [List.all_eq_true] at hkn ⊢
    exact fun y hy => hkn y (List.mem_of_mem_drop hy)
   rw [← flat_take hen xs i hi]
   unfold kn at this ⊢
   rw [List.all_eq_true] at this ⊢
   exact fun y hy => this y (List.mem_of_mem_take hy)
theorem part_get {cs e : List Value} {o s j : Nat} {x : Value} (ht : (cs.drop o).take s = e) (hx : e[j]? = some x) : cs[o + j]? = some x := by
 rw [← ht, List.getElem?_take] at hx
 split at hx
 ·rw [List.getElem?_drop] at hx
  exact hx
 ·cases hx
end
end Go.Proofs.YtmmlamfgbmnkgaaDoor
namespace Go.Proofs.YtmmlamfgbmnkgaaDoor
open Go.Conc Go.Proofs.Tryd
set_option maxRecDepth 100000
section
variable {main : Bool} {J : JT} {h A g : List AObj} {K : Value → List AObj → Prop} {KV : Value → Prop} {HL : List AObj → Prop} {H : Value → List AObj → Prop}
theorem a_min {a b : Int} : aMin (vint a) [vint b] KV = KV (vint (min a b)) := by
 show KV (vint (if b < a then b else a)) = _
 congr 2
 split <;> omega
theorem a_max {a b : Int} : aMax (vint a) [vint b] KV = KV (vint (max a b)) := by
 show KV (vint (if b > a then b else a)) = _
 congr 2
 split <;> omega
theorem back_get {i : Nat} : (A ++ g)[A.length + i]? = g[i]? := by
 rw [List.getElem?_append_right (by omega)]
 congr 1
 omega
theorem back_set {i : Nat} {o : AObj} : (A ++ g).set (A.length + i) o = A ++ g.set i o := by
 rw [List.set_append_right _ _ (by omega)]
 congr 2
 omega
def OwnE (n : Nat) (g : List AObj) (s : Nat) (cs : List Value) (len : Nat) (v : Value) (o : Option Nat) : Prop :=
 cs.length = len * s ∧ kn cs = true ∧ ((len = 0 ∧ v = .slice none 0 0 ∧ o = none) ∨ ∃ i c sz, o = some i ∧ v = .slice (some ⟨n + i, 0, none⟩) len c ∧ g[i]? = some (.cells cs true sz) ∧ ((c = fz ∧ sz = s) ∨ c = len))
theorem get_app {i : Nat} {x : AObj} {g' : List AObj} (hx : g[i]? = some x) : (g ++ g')[i]? = some x := by
 rw [List.getElem?_append_left (List.getElem?_eq_some_iff.1 hx).1]
 exact hx
theorem get_set {i j : Nat} {x y : AObj} (hx : g[i]? = some x) (hij : i ≠ j) : (g.set j y)[i]? = some x := by
 rw [List.getElem?_set, if_neg (fun e => hij e.symm)]
 exact hx
theorem ownE_at {n s len : Nat} {cs : List Value} {v : Value} {i : Nat} (ho : OwnE n g s cs len v (some i)) : ∃ sz, g[i]? = some (.cells cs true sz) := by
 obtain ⟨_, _, ⟨_, _, h⟩ | ⟨j, c, sz, h, _, h5, _⟩⟩ := ho
 ·cases h
 ·cases h
  exact ⟨sz, h5⟩
theorem ownE_lt {n s len : Nat} {cs : List Value} {v : Value} {o : Option Nat} (ho : OwnE n g s cs len v o) {i : Nat} (hi : o = some i) : i < g.length := by
 subst hi
 obtain ⟨sz, h⟩ := ownE_at ho
 exact (List.getElem?_eq_some_iff.1 h).1
theorem ownE_sli {s len : Nat} {cs : List Value} {v : Value} {o : Option Nat} (ho : OwnE A.length g s cs len v o) : Sli (A ++ g) v s len cs := by
 obtain ⟨h1, h2, ⟨rfl, rfl, _⟩ | ⟨i, c, sz, rfl, rfl, h5, _⟩⟩ := ho
 ·have : cs = [] := List.length_eq_zero_iff.1 (by omega)
  subst this
  exact sli_nil
 ·refine ⟨_, _, rfl, ⟨h1, h2⟩, .inr ⟨_, _, rfl, .inr ⟨cs, true, sz, ?_, by rw [List.drop_zero, List.take_of_length_le (by omega)]⟩⟩⟩
  rw [back_get]
  exact h5
theorem ownE_val {n s len : Nat} {cs : List Value} {v : Value} {o : Option Nat} (ho : OwnE n g s cs len v o) : v.cells = #[v] ∧ one v = true ∧ kn1 v = true := by
 obtain ⟨_, _, ⟨_, rfl, _⟩ | ⟨_, _, _, _, rfl, _⟩⟩ := ho <;> exact ⟨rfl, rfl, rfl⟩
theorem ownE_more {s len : Nat} {cs e : List Value} {v y : Value} {o : Option Nat} (ho : OwnE A.length g s cs len v o) (hs : 0 < s) (hl : len < 100000) (hy : Sli (A ++ g) y s 1 e)
  (hk : ∀ v' g', OwnE A.length g' s (cs ++ e) (len + 1) v' (some g.length) → (∀ i x, o ≠ some i → g[i]? = some x → g'[i]? = some x) → H v' (A ++ g')) : aApp s v y (A ++ g) H := by
 have hr : room = 1073741824 := rfl
 have hel : e.length = s := by
  have := sli_vlen hy
  omega
 have hek : kn e = true := by
  obtain ⟨_, _, _, ⟨_, h⟩, _⟩ := hy
  exact h
 have new : ∀ g1 : List AObj, g1.length = g.length → (∀ i x, o ≠ some i → g[i]? = some x → g1[i]? = some x) → cs.length = len * s → kn cs = true → H (.slice (some ⟨(A ++ g).length, 0, none⟩) (len + 1) fz) (A ++ (g1 ++ [.cells (cs ++ e) true s])) := by
  intro g1 hg1 hkeep h1 h2
  refine hk _ _ ⟨?_, ?_, .inr ⟨g.length, fz, s, rfl, by simp, by simp [← hg1], .inl ⟨rfl, rfl⟩⟩⟩ fun j x hj hx => get_app (hkeep j x hj hx)
  ·rw [List.length_append, hel, h1, Nat.succ_mul]
  ·unfold kn at *
   rw [List.all_append, h2, hek]
   rfl
 obtain ⟨h1, h2, ⟨rfl, rfl, rfl⟩ | ⟨i, c, sz, rfl, rfl, h5, h6⟩⟩ := ho
 ·have hcs : cs = [] := List.length_eq_zero_iff.1 (by omega)
  subst hcs
  refine app_nil hs hy (by omega) (fun e => absurd e (by omega)) fun _ => ?_
  rw [List.append_assoc]
  exact new g rfl (fun _ _ _ hx => hx) h1 h2
 ·have hlt := (List.getElem?_eq_some_iff.1 h5).1
  have ht : cs.take (len * s) = cs := List.take_of_length_le (by omega)
  rcases h6 with ⟨rfl, rfl⟩ | rfl
  ·refine app_own (cs := cs) (by rw [back_get]; exact h5) (by omega) (by rw [ht]; exact h2) hs hy (by omega) ?_
   rw [back_set, List.append_assoc, ht]
   exact new _ (by simp) (fun j x hj hx => get_set hx fun e => hj (by rw [e])) h1 h2
  ·refine app_copy (cs := cs) (by rw [back_get]; exact h5) (by omega) (by rw [List.drop_zero, ht]; exact h2) (by omega) hs hy (by omega) ?_
   rw [List.append_assoc, List.drop_zero, ht]
   exact new g rfl (fun _ _ _ hx => hx) h1 h2
theorem hfd {nv : Value} {k n : Nat} {s : Int} {rest h' : List AObj} (hd : Dealt (HF h nv k s rest ++ g) h.length nv k n h') : ∃ k' s', k' ≤ k + n ∧ (0 ≤ s' ∧ s' < 18446744073709551616) ∧ h' = HF h nv k' s' rest ++ g := by
 rw [hf_app] at hd
 obtain ⟨k', s', a, b, c, rfl⟩ := hf_dealt hd
 exact ⟨k', s', a, ⟨b, c⟩, by rw [hf_app]⟩
variable {nv : Value} {ns : List Int} {rest : List AObj} {k : Nat} {s : Int}
section
variable {KV : Value → Prop} {a b : Int} {t : TypeId} {h : List AObj}
theorem offI {b o d : Nat} (hk : KV (ptr b (o + d))) : aOff (ptr b o) d KV := hk
theorem fillI {c : List Value} {KL : List Value → Prop} (hk : KL c) : aFill c [] KL := hk
theorem nilI {b o : Nat} (hk : KV (ptr b o)) : aNil (ptr b o) KV := hk
theorem addI (h : -9223372036854775808 ≤ a + b ∧ a + b < 9223372036854775808) (hk : KV (vint (a + b))) : aBin prog .add t (vint a) (vint b) KV := by rw [b_add h]; exact hk
theorem subI (h : -9223372036854775808 ≤ a - b ∧ a - b < 9223372036854775808) (hk : KV (vint (a - b))) : aBin prog .sub t (vint a) (vint b) KV := by rw [b_sub h]; exact hk
theorem mulI (h : -9223372036854775808 ≤ a * b ∧ a * b < 9223372036854775808) (hk : KV (vint (a * b))) : aBin prog .mul t (vint a) (vint b) KV := by rw [b_mul h]; exact hk
theorem minI (hk : KV (vint (min a b))) : aMin (vint a) [vint b] KV := by rw [a_min]; exact hk
theorem maxI (hk : KV (vint (max a b))) : aMax (vint a) [vint b] KV := by rw [a_max]; exact hk
theorem lssI (hk : KV (.bool (decide (a < b)))) : aBin prog .lss t (vint a) (vint b) KV := by rw [b_lss]; exact hk
theorem gtrI (hk : KV (.bool (decide (a > b)))) : aBin prog .gtr t (vint a) (vint b) KV := by rw [b_gtr]; exact hk
theorem geqI (hk : KV (.bool (decide (a ≥ b)))) : aBin prog .geq t (vint a) (vint b) KV := by rw [b_geq]; exact hk
theorem leqI (hk : KV (.bool (decide (a ≤ b)))) : aBin prog .leq t (vint a) (vint b) KV := by rw [b_leq]; exact hk
theorem eqlI (hk : KV (.bool (decide (a = b)))) : aBin prog .eql t (vint a) (vint b) KV := by rw [b_eql]; exact hk
theorem neqI (hk : KV (.bool (decide (a ≠ b)))) : aBin prog .neq t (vint a) (vint b) KV := by rw [b_neq]; exact hk
theorem notI {x : Bool} (hk : KV (.bool (!x))) : aUn .not (.bool x) KV := hk
theorem cndI {p : Prop} [Decidable p] {A B : Prop} (h1 : p → A) (h2 : ¬ p → B) : cnd (.bool (decide p)) A B := cnd_dec.2 ⟨h1, h2⟩
theorem cndN {p : Prop} [Decidable p] {A B : Prop} (h1 : ¬ p → A) (h2 : p → B) : cnd (.bool (!decide p)) A B := cnd_ndec.2 ⟨h1, h2⟩
theorem lenI {v : Value} {s n : Nat} {cells : List Value} (hs : Sli h v s n cells) (hk : KV (vint n)) : aLenS v KV := by rw [sli_len hs]; exact hk
theorem ldI {b o s : Nat} {c : List Value} {wr : Bool} {sz : Nat} {v : Value} (hb : h[b]? = some (.cells c wr sz)) (hv : c[o]? = some v) (hn : kn1 v = true) (hk : KV v) : aLoad false s (ptr b o) h KV := by rw [load_cell hb hv hn]; exact hk
theorem idxI {s b o n c : Nat} {j : Int} (h1 : 0 ≤ j ∧ j < n) (hk : KV (ptr b (o + j.toNat * s))) : aIdx s (.slice (some ⟨b, o, none⟩) n c) (vint j) KV := by rw [idx_ok]; exact ⟨h1, hk⟩
theorem ext0 {a b : Value} (hk : KV a) : aExt (.tuple ⟨[a, b]⟩) 0 KV := hk
theorem ext1 {a b : Value} (hk : KV b) : aExt (.tuple ⟨[a, b]⟩) 1 KV := hk
theorem ext30 {a b c : Value} (hk : KV a) : aExt (.tuple ⟨[a, b, c]⟩) 0 KV := hk
theorem ext31 {a b c : Value} (hk : KV b) : aExt (.tuple ⟨[a, b, c]⟩) 1 KV := hk
theorem ext32 {a b c : Value} (hk : KV c) : aExt (.tuple ⟨[a, b, c]⟩) 2 KV := hk
end
end
end Go.Proofs.YtmmlamfgbmnkgaaDoor
namespace Go.Proofs.YtmmlamfgbmnkgaaDoor
open Go.Conc Go.Proofs.Tryd
set_option maxRecDepth 100000
def SameX (X : List Nat) (h H : List AObj) : Prop := h.length ≤ H.length ∧ ∀ i, i < h.length → i ∉ X → H[i]? = h[i]?
theorem SameX.refl {X : List Nat} {h : List AObj} : SameX X h h := ⟨Nat.le_refl _, fun _ _ _ => rfl⟩
theorem SameX.trans {X : List Nat} {h H H' : List AObj} (a : SameX X h H) (b : SameX X H H') : SameX X h H' :=
 ⟨Nat.le_trans a.1 b.1, fun i hi hx => by rw [b.2 i (Nat.lt_of_lt_of_le hi a.1) hx, a.2 i hi hx]⟩
theorem SameX.app {X : List Nat} {h H g : List AObj} (a : SameX X h H) : SameX X h (H ++ g) :=
 ⟨by have := a.1; simp; omega, fun i hi hx => by rw [List.getElem?_append_left (Nat.lt_of_lt_of_le hi a.1), a.2 i hi hx]⟩
theorem SameX.set {X : List Nat} {h H : List AObj} {i : Nat} {o : AObj} (a : SameX X h H) (hi : i ∈ X ∨ h.length ≤ i) : SameX X h (H.set i o) :=
 ⟨by have := a.1; simp; omega, fun j hj hx => by
  rw [List.getElem?_set, if_neg, a.2 j hj hx]
  rintro rfl
  rcases hi with hi | hi
  ·exact hx hi
  ·omega⟩
theorem SameX.get {X : List Nat} {h H : List AObj} {i : Nat} {o : AObj} (a : SameX X h H) (hx : h[i]? = some o) (hi : i ∉ X) : H[i]? = some o := by
 rw [a.2 i (List.getElem?_eq_some_iff.1 hx).1 hi, hx]
theorem SameX.pre {X : List Nat} {h0 g H : List AObj} (a : SameX X (h0 ++ g) H) (hX : ∀ x ∈ X, h0.length ≤ x) : ∃ g', H = h0 ++ g' := by
 refine ⟨H.drop h0.length, ?_⟩
 have : H.take h0.length = h0 := by
  apply List.ext_getElem?
  intro i
  rw [List.getElem?_take]
  split
  ·rename_i hi
   rw [a.2 i (by simp; omega) (fun hx => by have := hX i hx; omega), List.getElem?_append_left hi]
  ·rename_i hi
   rw [List.getElem?_eq_none (by omega)]
 conv => lhs; rw [← List.take_append_drop h0.length H, this]
end Go.Proofs.YtmmlamfgbmnkgaaDoor
namespace Go.Proofs.YtmmlamfgbmnkgaaDoor
open Go.Conc Go.Proofs.Tryd
set_option maxRecDepth 100000
def OwnX (H : List AObj) (s : Nat) (cs : List Value) (len : Nat) (v : Value) (o : Option Nat) : Prop :=
 cs.length = len * s ∧ kn cs = true ∧ ((len = 0 ∧ v = .slice none 0 0 ∧ o = none) ∨ ∃ i c sz, o = some i ∧ v = .slice (some ⟨i, 0, none⟩) len c ∧ H[i]? = some (.cells cs true sz) ∧ ((c = fz ∧ sz = s) ∨ c = len))
section
variable {h H : List AObj} {K : Value → List AObj → Prop} {KV : Value → Prop} {HL : List AObj → Prop} {n0 : Nat}
theorem SameX.weak {X Y : List Nat} {h H : List AObj} (a : SameX X h H) (hxy : ∀ x ∈ X, x ∈ Y) : SameX Y h H := ⟨a.1, fun i hi hx => a.2 i hi fun hm => hx (hxy i hm)⟩
theorem SameX.weak0 {Y : List Nat} {h H : List AObj} (a : SameX [] h H) : SameX Y h H := a.weak (by simp)
theorem SameX.thru {X Y : List Nat} {h H H' : List AObj} (a : SameX X h H) (b : SameX Y H H') (hy : ∀ y ∈ Y, y ∈ X ∨ h.length ≤ y) : SameX X h H' :=
 ⟨Nat.le_trans a.1 b.1, fun i hi hx => by
  rw [b.2 i (Nat.lt_of_lt_of_le hi a.1) fun hm => ?_, a.2 i hi hx]
  rcases hy i hm with h1 | h1
  ·exact hx h1
  ·omega⟩
theorem SameX.app0 {X : List Nat} {h H : List AObj} (a : SameX X h H) (hX : ∀ x ∈ X, h.length ≤ x) : ∃ g, H = h ++ g := by
 have := SameX.pre (h0 := h) (g := []) (X := X) (H := H) (by simpa using a) hX
 exact this
theorem lt_of_get {i : Nat} {o : AObj} (hx : H[i]? = some o) : i < H.length := (List.getElem?_eq_some_iff.1 hx).1
theorem SameX.sli {X : List Nat} {v : Value} {s n : Nat} {cs : List Value} (a : SameX X h H) (hs : Sli h v s n cs) (hX : ∀ x ∈ X, h.length ≤ x) : Sli H v s n cs := by
 obtain ⟨g, rfl⟩ := a.app0 hX
 exact sli_app hs
theorem qAl {l : List Value} (hk : ∀ H' p, p = H.length → SameX [] H H' → H'[p]? = some (.cells l true 0) → H'.length = p + 1 → K (ptr p 0) H') : aAlloc l H K :=
 hk _ _ rfl SameX.refl.app (by simp) (by simp)
theorem qBox {l : List Value} (h1 : l.all one = true) (hk : ∀ H' p, p = H.length → SameX [] H H' → H'[p]? = some (.cells l true 0) → H'.length = p + 1 → K (ptr p 0) H') : aBox (.agg ⟨l⟩) H K :=
 box_agg h1 (hk _ _ rfl SameX.refl.app (by simp) (by simp))
theorem qBox1 {v : Value} (hc : v.cells = #[v]) (h1 : one v = true) (hk : ∀ H' p, p = H.length → SameX [] H H' → H'[p]? = some (.cells [v] true 0) → H'.length = p + 1 → K (ptr p 0) H') : aBox v H K :=
 box_one hc h1 (hk _ _ rfl SameX.refl.app (by simp) (by simp))
theorem qNew {n : Nat} {l : List Value} (hk : ∀ H' p, p = H.length → SameX [] H H' → H'[p]? = some (.cells l true 0) → H'.length = p + 1 → K (.slice (some ⟨p, 0, none⟩) n n) H') : aNewS n l H K :=
 hk _ _ rfl SameX.refl.app (by simp) (by simp)
theorem qNewM (hk : ∀ H' p, p = H.length → SameX [] H H' → H'[p]? = some (.map [] true) → H'.length = p + 1 → K (.map (some p)) H') : aNewM H K :=
 hk _ _ rfl SameX.refl.app (by simp) (by simp)
theorem qSt {b o : Nat} {c : List Value} {sz : Nat} {v : Value} (hb : H[b]? = some (.cells c true sz)) (ho : o < c.length) (h1 : v.cells = #[v]) (h2 : one v = true) (hk : ∀ H', SameX [b] H H' → H'[b]? = some (.cells (c.set o v) true sz) → H'.length = H.length → HL H') : aStore 1 (ptr b o) v H HL :=
 store_cell hb ho h1 h2 (hk _ (SameX.refl.set (.inl (by simp))) (List.getElem?_set_self (lt_of_get hb)) (by simp))
theorem qStA {b n : Nat} {cs c : List Value} {sz : Nat} (hb : H[b]? = some (.cells cs true sz)) (hl : c.length = n) (hs : cs.length = n) (h1 : c.all one = true) (hk : ∀ H', SameX [b] H H' → H'[b]? = some (.cells c true sz) → H'.length = H.length → HL H') : aStore n (ptr b 0) (.agg ⟨c⟩) H HL :=
 store_agg hb hl hs h1 (hk _ (SameX.refl.set (.inl (by simp))) (List.getElem?_set_self (lt_of_get hb)) (by simp))
theorem ownX_iff {s len : Nat} {cs : List Value} {v : Value} {o : Option Nat} : OwnX H s cs len v o ↔ OwnE 0 H s cs len v o := by
 simp [OwnX, OwnE]
theorem ownX_keep {s len : Nat} {cs : List Value} {v : Value} {o : Option Nat} {H' : List AObj} {X : List Nat} (ho : OwnX H s cs len v o) (a : SameX X H H') (hX : ∀ i, o = some i → i ∉ X) : OwnX H' s cs len v o := by
 obtain ⟨h1, h2, h3 | ⟨i, c, sz, rfl, h4, h5, h6⟩⟩ := ho
 ·exact ⟨h1, h2, .inl h3⟩
 ·exact ⟨h1, h2, .inr ⟨i, c, sz, rfl, h4, a.get h5 (hX i rfl), h6⟩⟩
theorem ownX_sli {s len : Nat} {cs : List Value} {v : Value} {o : Option Nat} (ho : OwnX H s cs len v o) : Sli H v s len cs := by
 have := ownE_sli (A := []) (ownX_iff.1 ho)
 exact this
theorem ownX_val {s len : Nat} {cs : List Value} {v : Value} {o : Option Nat} (ho : OwnX H s cs len v o) : v.cells = #[v] ∧ one v = true ∧ kn1 v = true := ownE_val (ownX_iff.1 ho)
theorem ownX_lt {s len : Nat} {cs : List Value} {v : Value} {o : Option Nat} (ho : OwnX H s cs len v o) : ∀ i, o = some i → i < H.length := fun _ hi => ownE_lt (ownX_iff.1 ho) hi
theorem ownX_new {s n p : Nat} {l : List Value} (hp : H[p]? = some (.cells l true 0)) (hl : l.length = n * s) (hk : kn l = true) : OwnX H s l n (.slice (some ⟨p, 0, none⟩) n n) (some p) :=
 ⟨hl, hk, .inr ⟨p, n, 0, rfl, rfl, hp, .inr rfl⟩⟩
theorem ownX_more {s len : Nat} {cs e : List Value} {v y : Value} {o : Option Nat} (ho : OwnX H s cs len v o) (hs : 0 < s) (hl : len < 100000) (hy : Sli H y s 1 e)
  (hk : ∀ v' H' p, p = H.length → OwnX H' s (cs ++ e) (len + 1) v' (some p) → SameX o.toList H H' → K v' H') : aApp s v y H K := by
 have hlo := ownX_lt ho
 refine ownE_more (A := []) (g := H) (ownX_iff.1 ho) hs hl hy fun v' g' ho' hkeep => hk v' ([] ++ g') _ rfl (ownX_iff.2 ho') ⟨?_, fun i hi hx => ?_⟩
 ·have := ownE_lt ho' rfl
  simp only [List.nil_append]
  omega
 ·have hx' : o ≠ some i := fun e => hx (by rw [e]; simp)
  obtain ⟨x, hxx⟩ : ∃ x, H[i]? = some x := ⟨H[i], List.getElem?_eq_getElem hi⟩
  rw [hxx]
  exact hkeep i x hx' hxx
theorem retX {X : List Nat} {vs : List Value} (ok : heapOk h) (hn : n0 ≤ h.length) (S : SameX X h H) (hX : ∀ x ∈ X, h.length ≤ x) (hv : ∀ v ∈ vs, v ≠ unk) (hw : VOk h.length (pack vs)) (hk : K (pack vs) h) : retL n0 K [] vs H := by
 obtain ⟨g, rfl⟩ := S.app0 hX
 exact retL_drop ok hn hv hw hk
end
end Go.Proofs.YtmmlamfgbmnkgaaDoor
namespace Go.Proofs.YtmmlamfgbmnkgaaDoor
open Go.Conc Go.Proofs.Tryd
set_option maxRecDepth 100000
end Go.Proofs.YtmmlamfgbmnkgaaDoor
namespace Go.Proofs.YtmmlamfgbmnkgaaDoor
open Go.Conc Go.Proofs.Tryd
set_option maxRecDepth 100000
section
variable {main : Bool} {J : JT} {h H : List AObj} {K : Value → List AObj → Prop} {KV : Value → Prop} {n0 : Nat}
theorem appX {s m p : Nat} {y : Value} {ys : List Value} (hp : H[p]? = some (.cells [] true 0)) (hs : 0 < s) (hm : m < 1000000) (hy : Sli H y s m ys)
  (hk : ∀ v' H' p', OwnX H' s ys m v' (some p') → SameX [] H H' → (p' = p ∨ p' = H.length) → K v' H') : aApp s (.slice (some ⟨p, 0, none⟩) 0 0) y H K := by
 have hr : room = 1073741824 := rfl
 have hy' := hy
 have hkn : kn ys = true := by
  obtain ⟨_, _, _, ⟨_, h⟩, _⟩ := hy
  exact h
 have hvl := sli_vlen hy
 by_cases h0 : m = 0
 ·subst h0
  have hys : ys = [] := List.length_eq_zero_iff.1 (by omega)
  subst hys
  obtain ⟨yb, yc, rfl, _⟩ := hy
  refine ⟨by omega, src_sli hy' hs ?_⟩
  simp only [hp]
  have hf : fz = 1180591620717411303424 := rfl
  refine ⟨⟨by simp, by simp [kn]⟩, fun _ => ⟨fun _ => ⟨trivial, by simp, ?_⟩, fun x => absurd x (by simp)⟩, fun x => absurd x (by omega)⟩
  have e : H.set p (.cells (wrAt [] (0 + 0 * s) []) true 0) = H := by
   apply List.ext_getElem?
   intro i
   rw [List.getElem?_set]
   split
   ·rename_i e
    subst e
    have := lt_of_get hp
    rw [if_pos this]
    simpa [wrAt] using hp.symm
   ·rfl
  have := hk (.slice (some ⟨p, 0, none⟩) 0 0) H p ⟨by simp, rfl, .inr ⟨p, 0, 0, rfl, rfl, hp, .inr rfl⟩⟩ SameX.refl (.inl rfl)
  first
  | simpa [wrAt, e] using this
  | (rw [show (wrAt ([] : List Value) (0 + 0 * s) []) = [] from by simp [wrAt]] at e; simpa [wrAt, e] using this)
 ·refine app_copy (n := 0) (m := m) (cs := []) (wr := true) (sz := 0) hp (by simp) (by simp [kn]) (by omega) hs hy' (by omega) ?_
  simp only [Nat.zero_mul, List.drop_nil, List.take_nil, List.nil_append, Nat.zero_add]
  exact hk _ _ H.length ⟨hvl, hkn, .inr ⟨H.length, fz, s, rfl, rfl, by simp, .inl ⟨rfl, rfl⟩⟩⟩ SameX.refl.app (.inr rfl)
end
end Go.Proofs.YtmmlamfgbmnkgaaDoor
namespace Go.Proofs.YtmmlamfgbmnkgaaDoor
open Go.Conc Go.Proofs.Tryd
set_option maxRecDepth 100000
structure Wel where
 now : Int
 holds : Int
 fill : Int
def Wel.cells (w : Wel) : List Value := [vint w.now, vint w.holds, vint w.fill]
def Wel.val (w : Wel) : Value := .agg ⟨w.cells⟩
structure Dro where
 drinks : Int
 every : Int
def Dro.cells (d : Dro) : List Value := [vint d.drinks, vint d.every]
structure Tro where
 well : Wel
 flocks : List Dro
def troCells (t : Tro) (fv : Value) : List Value := [vint t.well.now, vint t.well.holds, vint t.well.fill, fv]
theorem dro_len (d : Dro) : d.cells.length = 2 := rfl
structure TroAt (h : List AObj) (v : Value) (t : Tro) (fv : Value) : Prop where
 val : v = .agg ⟨troCells t fv⟩
 fl : SliE h fv 2 Dro.cells t.flocks
def fewE (n lo hi : Int) : Int := if n < lo then 7 else if n > hi then 6 else 0
def welE (w : Wel) : Int := if (1 ≤ w.holds ∧ w.holds ≤ 40) ∧ (0 ≤ w.now ∧ w.now ≤ w.holds) ∧ (0 ≤ w.fill ∧ w.fill ≤ 20) then 0 else 1
def droOk (d : Dro) : Prop := (1 ≤ d.drinks ∧ d.drinks ≤ 40) ∧ (1 ≤ d.every ∧ d.every ≤ 8)
instance (d : Dro) : Decidable (droOk d) := by unfold droOk; infer_instance
def troE (t : Tro) : Int := if welE t.well ≠ 0 then welE t.well else if fewE t.flocks.length 1 3 ≠ 0 then fewE t.flocks.length 1 3 else if ∀ d ∈ t.flocks, droOk d then 0 else 1
section
variable {main : Bool} {J : JT} {h H : List AObj} {K : Value → List AObj → Prop} {KV : Value → Prop}
theorem sli_val {v : Value} {s n : Nat} {cs : List Value} (hs : Sli h v s n cs) : v.cells = #[v] ∧ one v = true ∧ kn1 v = true := by
 obtain ⟨base, c, rfl, _⟩ := hs
 exact ⟨rfl, rfl, rfl⟩
theorem troAt_same {X : List Nat} {v fv : Value} {t : Tro} (a : TroAt h v t fv) (S : SameX X h H) (hX : ∀ x ∈ X, h.length ≤ x) : TroAt H v t fv := ⟨a.val, S.sli a.fl hX⟩
theorem tro_one {v fv : Value} {t : Tro} (a : TroAt h v t fv) : (troCells t fv).all one = true := by
 have := (sli_val a.fl).2.1
 unfold troCells
 simp only [List.all_cons, List.all_nil, this]
 rfl
theorem tro_kn {v fv : Value} {t : Tro} (a : TroAt h v t fv) : kn (troCells t fv) = true := by
 have := (sli_val a.fl).2.2
 unfold troCells kn
 simp only [List.all_cons, List.all_nil, this]
 rfl
theorem good25 (hJ : Closed prog main J) {n lo hi : Int} (hK : K (.bool (decide (lo ≤ n ∧ n ≤ hi))) h) : Good prog J 25 [vint n, vint lo, vint hi] h K := by
 refine g25 hJ fun ok => ?_
 rw [e25]
 refine leqI (cndI (fun h1 => leqI (retL_same (by simp [unk]) ?_)) fun h1 => retL_same (by simp [unk]) ?_)
 ·simpa [pack, h1] using hK
 ·simpa [pack, h1] using hK
theorem good24 (hJ : Closed prog main J) {n lo hi : Int} (hK : K (vint (fewE n lo hi)) h) : Good prog J 24 [vint n, vint lo, vint hi] h K := by
 refine g24 hJ fun ok => ?_
 rw [e24]
 refine lssI (cndI (fun h1 => retL_same (by simp [unk]) ?_) fun h1 => gtrI (cndI (fun h2 => retL_same (by simp [unk]) ?_) fun h2 => retL_same (by simp [unk]) ?_))
 ·simpa [fewE, h1, pack] using hK
 ·simpa [fewE, h1, h2, pack] using hK
 ·simpa [fewE, h1, h2, pack] using hK
theorem good23 (hJ : Closed prog main J) {w : Wel} (hK : K (vint (welE w)) h) : Good prog J 23 [w.val] h K := by
 refine g23 hJ fun ok => ?_
 rw [e23]
 refine qBox (l := w.cells) rfl fun H1 p1 e1 S1 c1 l1 => ?_
 have fin : ∀ e : Int, welE w = e → retL h.length K [] [vint e] H1 := fun e he => by
  subst he
  exact retX ok (Nat.le_refl _) S1 (by simp) (by simp [unk]) (by simp [pack, VOk]) hK
 refine offI (ldI (v := vint w.holds) c1 rfl rfl (good25 hJ (cndI (fun h1 => ?_) fun h1 => hold.2 ?_)))
 ·refine offI (ldI (v := vint w.now) c1 rfl rfl (offI (ldI (v := vint w.holds) c1 rfl rfl (good25 hJ (cndI (fun h2 => ?_) fun h2 => hold.2 ?_)))))
  ·refine offI (ldI (v := vint w.fill) c1 rfl rfl (good25 hJ (hold.2 ?_)))
   rw [s23_1]
   refine cndI (fun h3 => fin 0 ?_) fun h3 => fin 1 ?_
   ·unfold welE; rw [if_pos ⟨h1, h2, h3⟩]
   ·unfold welE; rw [if_neg fun x => h3 x.2.2]
  ·rw [s23_1]
   exact cnd_false.2 (fin 1 (by unfold welE; rw [if_neg fun x => h2 x.2.1]))
 ·rw [s23_1]
  exact cnd_false.2 (fin 1 (by unfold welE; rw [if_neg fun x => h1 x.1]))
theorem good6 (hJ : Closed prog main J) {v fv : Value} {t : Tro} (ht : TroAt h v t fv) (hK : K (vint (troE t)) h) : Good prog J 6 [v] h K := by
 refine g6 hJ fun ok => ?_
 rw [e6, ht.val]
 refine qBox (tro_one ht) fun H1 p1 e1 S1 c1 l1 => ?_
 have t1 : TroAt H1 (.agg ⟨troCells t fv⟩) t fv := ⟨rfl, S1.sli ht.fl (by simp)⟩
 have kf := (sli_val ht.fl).2.2
 have fin : ∀ {n0 : Nat} {H : List AObj} (e : Int), n0 = h.length → SameX [] h H → heapOk H → troE t = e → retL n0 K [] [vint e] H := fun e hn S okH he => by
  subst he hn
  exact retX ok (Nat.le_refl _) S (by simp) (by simp [unk]) (by simp [pack, VOk]) hK
 have fin1 : ∀ {H : List AObj} (e : Int), SameX [] h H → troE t = e → retL h.length K [] [vint e] H := fun e S he => by
  subst he
  exact retX ok (Nat.le_refl _) S (by simp) (by simp [unk]) (by simp [pack, VOk]) hK
 refine offI (load_part (c := t.well.cells) c1 (by simp [troCells]) rfl rfl (good23 hJ ?_))
 refine neqI (cndI (fun h1 => fin1 _ S1 ?_) fun h1 => ?_)
 ·unfold troE; rw [if_pos h1]
 refine offI (ldI (v := fv) c1 rfl kf (lenI t1.fl (good24 hJ ?_)))
 refine neqI (cndI (fun h2 => fin1 _ S1 ?_) fun h2 => ?_)
 ·unfold troE; rw [if_neg h1, if_pos h2]
 refine offI (ldI (v := fv) c1 rfl kf (lenI t1.fl ?_))
 have hlen : t.flocks.length ≤ 3 := by
  have : fewE t.flocks.length 1 3 = 0 := by simpa using h2
  unfold fewE at this
  split at this
  ·cases this
  ·split at this
   ·cases this
   ·omega
 refine l6_1 hJ (fun i : Nat => t.flocks.length - i) (fun i f H => SameX [] h H ∧ H[p1]? = some (.cells (troCells t fv) true 0) ∧ i ≤ t.flocks.length ∧ (∀ d ∈ t.flocks.take i, droOk d) ∧ f.ds = [] ∧ f.r 21 = fv ∧ f.r 22 = vint t.flocks.length ∧ f.r 23 = vint (i : Nat)) ?_ (s := 0)
  (.inl ⟨S1, c1, by omega, by simp, rfl, rfl, rfl, rfl⟩)
 rintro i f H ⟨S, cp, hi, hd, hds, r21, r22, r23⟩ ok' hn'
 rw [s6_1, r21, r22, r23, hds]
 refine lssI (cndI (fun hlt => ?_) fun hge => fin1 0 S (by
  have : i = t.flocks.length := by omega
  subst this
  rw [List.take_length] at hd
  unfold troE
  rw [if_neg h1, if_neg h2, if_pos hd]))
 have hil : i < t.flocks.length := by omega
 have tS : SliE H fv 2 Dro.cells t.flocks := S.sli ht.fl (by simp)
 obtain ⟨b, o, cs, wr, sz, hidx, hb, hol, hft, hkn⟩ := sliE_elem dro_len (by omega) tS hil
 refine hidx _ (load_part hb hol hft hkn ?_)
 refine qAl fun H2 p2 e2 S2 c2 l2 => qStA (c := t.flocks[i].cells) c2 rfl rfl rfl fun H3 S3 c3 l3 => ?_
 have S13 : SameX [] H H3 := (SameX.refl.trans S2).thru S3 (by simp; omega)
 have hta : ∀ (x : droOk t.flocks[i]), ∀ d ∈ t.flocks.take (i + 1), droOk d := fun x d hm => by
  rw [List.take_add_one, List.getElem?_eq_getElem hil] at hm
  rcases List.mem_append.1 hm with hm | hm
  ·exact hd d hm
  ·have : d = t.flocks[i] := by simpa using hm
   exact this ▸ x
 have hbad : ¬ droOk t.flocks[i] → troE t = 1 := fun x => by
  unfold troE
  rw [if_neg h1, if_neg h2, if_neg fun hall => x (hall _ (List.getElem_mem hil))]
 refine offI (ldI (v := vint t.flocks[i].drinks) c3 rfl rfl (good25 hJ (notI (cndN (fun g1 => hold.2 ?_) fun g1 => ?_))))
 ·rw [s6_2]
  exact cnd_true.2 (by show retL h.length K f.ds [vint 1] H3; rw [hds]; exact fin1 1 (S.trans S13) (hbad fun x => g1 x.1))
 ·refine offI (ldI (v := vint t.flocks[i].every) c3 rfl rfl (good25 hJ (notI (hold.2 ?_))))
  rw [s6_2]
  refine cndN (fun g2 => ?_) fun g2 => ?_
  ·show retL h.length K f.ds [vint 1] H3
   rw [hds]
   exact fin1 1 (S.trans S13) (hbad fun x => g2 x.2)
  ·show aBin prog .add 3 (f.r 23) (vint 1) _
   rw [r23]
   refine addI (by omega) ?_
   exact ⟨i + 1, by dsimp only; omega, .inl ⟨S.trans S13, S13.get cp (by simp), by omega, hta ⟨g1, g2⟩, hds, r21, r22, by show vint _ = vint _; congr 1⟩⟩
end
def Wel.filled (w : Wel) : Wel := { w with now := min w.holds (w.now + w.fill) }
def Wel.drunk (w : Wel) (n : Int) : Wel := { w with now := w.now - min w.now n }
def Wel.sm (w : Wel) : Prop := (-1000000 ≤ w.now ∧ w.now ≤ 1000000) ∧ (-1000000 ≤ w.holds ∧ w.holds ≤ 1000000) ∧ (-1000000 ≤ w.fill ∧ w.fill ≤ 1000000)
section
variable {main : Bool} {J : JT} {h H : List AObj} {K : Value → List AObj → Prop} {KV : Value → Prop}
theorem wel_ok {n : Nat} (w : Wel) : VOk n w.val := by simp [Wel.val, Wel.cells, VOk, AOk, LOk]
theorem good43 (hJ : Closed prog main J) {w : Wel} (hw : w.sm) (hK : K w.filled.val h) : Good prog J 43 [w.val] h K := by
 obtain ⟨_, _, _⟩ := hw
 refine g43 hJ fun ok => ?_
 rw [e43]
 refine qBox (l := w.cells) rfl fun H1 p1 e1 S1 c1 l1 => qAl fun H2 p2 e2 S2 c2 l2 => ?_
 have c1' := S2.get c1 (by simp)
 refine offI (offI (ldI (v := vint w.holds) c1' rfl rfl (offI (offI (ldI (v := vint w.now) c1' rfl rfl (offI (offI (ldI (v := vint w.fill) c1' rfl rfl (addI (by omega) (minI ?_))))))))))
 refine offI (offI (qSt c1' (by simp [Wel.cells]) rfl rfl fun H3 S3 c3 l3 => ?_))
 refine load_part (c := w.filled.cells) c3 (by simp [Wel.cells]) rfl rfl ?_
 have c2' := S3.get c2 (by simp; omega)
 refine qStA (c := w.filled.cells) c2' rfl rfl rfl fun H4 S4 c4 l4 => ?_
 have S : SameX [] h H4 := ((S1.trans S2).thru S3 (by simp; omega)).thru S4 (by simp; omega)
 obtain ⟨g, rfl⟩ := S.app0 (by simp)
 refine retQ_drop rfl ok (Nat.le_refl _) (resW_cell (gg := true) (s := 3) (by kernel_rfl) ?_)
 refine load_part (c := w.filled.cells) c4 (by simp [Wel.cells]) rfl rfl (resW_nil ⟨wel_ok _, hK⟩)
theorem good45 (hJ : Closed prog main J) {w : Wel} {n : Int} (hw : w.sm) (hn : -1000000 ≤ n ∧ n ≤ 1000000) (hK : K (.tuple ⟨[(w.drunk n).val, .bool (decide (w.now < n))]⟩) h) : Good prog J 45 [w.val, vint n] h K := by
 obtain ⟨_, _, _⟩ := hw
 refine g45 hJ fun ok => ?_
 rw [e45]
 refine qBox (l := w.cells) rfl fun H1 p1 e1 S1 c1 l1 => qAl fun H2 p2 e2 S2 c2 l2 => ?_
 have c1' := S2.get c1 (by simp)
 refine offI (offI (ldI (v := vint w.now) c1' rfl rfl (lssI (offI (offI (ldI (v := vint w.now) c1' rfl rfl (offI (offI (ldI (v := vint w.now) c1' rfl rfl (minI (subI (by omega) ?_)))))))))))
 refine offI (offI (qSt c1' (by simp [Wel.cells]) rfl rfl fun H3 S3 c3 l3 => ?_))
 refine load_part (c := (w.drunk n).cells) c3 (by simp [Wel.cells]) rfl rfl ?_
 have c2' := S3.get c2 (by simp; omega)
 refine qStA (c := (w.drunk n).cells) c2' rfl rfl rfl fun H4 S4 c4 l4 => ?_
 have S : SameX [] h H4 := ((S1.trans S2).thru S3 (by simp; omega)).thru S4 (by simp; omega)
 obtain ⟨g, rfl⟩ := S.app0 (by simp)
 refine retQ_drop rfl ok (Nat.le_refl _) (resW_cell (gg := true) (s := 3) (by kernel_rfl) ?_)
 refine load_part (c := (w.drunk n).cells) c4 (by simp [Wel.cells]) rfl rfl (resW_tmp (by intro e; cases e) (resW_nil ⟨?_, hK⟩))
 show VOk h.length (.tuple ⟨[(w.drunk n).val, .bool (decide (w.now < n))]⟩)
 simp [VOk, AOk, LOk, Wel.val, Wel.cells]
end
structure Srv where
 now : Int
 next : Nat
 hour : Nat
 wait : Int
def droAt (t : Tro) (i : Nat) : Dro := t.flocks.getD i ⟨0, 0⟩
def srvStep (t : Tro) (cs : List Int) (os : List Nat) (s : Srv) : Srv ⊕ Int :=
 let who := os.getD s.next 0
 if (s.hour : Int) ≥ cs.getD who 0 ∧ s.now ≥ (droAt t who).drinks then
  if s.next + 1 = os.length then .inr (s.wait + (s.hour - cs.getD who 0))
  else .inl ⟨min t.well.holds (s.now - (droAt t who).drinks + t.well.fill), s.next + 1, s.hour + 1, s.wait + (s.hour - cs.getD who 0)⟩
 else if min t.well.holds (s.now + t.well.fill) = s.now ∧ (s.hour : Int) ≥ cs.getD who 0 then .inr (-1)
  else .inl ⟨min t.well.holds (s.now + t.well.fill), s.next, s.hour + 1, s.wait⟩
def srvRun (t : Tro) (cs : List Int) (os : List Nat) : Nat → Srv → Int
 | 0, _ => -2
 | n + 1, s => match srvStep t cs os s with
  | .inr r => r
  | .inl s' => srvRun t cs os n s'
def srvM (t : Tro) (os : List Nat) (s : Srv) : Nat := (os.length - s.next) * 200 + (49 - s.hour) + (t.well.holds - s.now).toNat
structure SrvIn (t : Tro) (cs : List Int) (os : List Nat) : Prop where
 ok : troE t = 0
 len : cs.length = t.flocks.length
 hours : ∀ c ∈ cs, 0 ≤ c ∧ c ≤ 48
 pos : 0 < os.length
 few : os.length ≤ 3
 who : ∀ o ∈ os, o < t.flocks.length
structure SrvOk (t : Tro) (os : List Nat) (s : Srv) : Prop where
 lo : 0 ≤ s.now
 hi : s.now ≤ t.well.holds
 next : s.next < os.length
theorem troE_well {t : Tro} (h : troE t = 0) : ((1 ≤ t.well.holds ∧ t.well.holds ≤ 40) ∧ (0 ≤ t.well.now ∧ t.well.now ≤ t.well.holds) ∧ (0 ≤ t.well.fill ∧ t.well.fill ≤ 20)) ∧ (1 ≤ t.flocks.length ∧ t.flocks.length ≤ 3) ∧ ∀ d ∈ t.flocks, droOk d := by
 unfold troE at h
 split at h
 ·rename_i x
  exact absurd h x
 ·rename_i x
  split at h
  ·rename_i y
   exact absurd h y
  ·rename_i y
   split at h
   ·rename_i z
    refine ⟨?_, ?_, z⟩
    ·unfold welE at x
     split at x
     ·assumption
     ·exact absurd (by decide) x
    ·unfold fewE at y
     split at y
     ·exact absurd (by decide) y
     ·split at y
      ·exact absurd (by decide) y
      ·omega
   ·cases h
section
variable {t : Tro} {cs : List Int} {os : List Nat} {s s' : Srv}
theorem SrvIn.at_ (I : SrvIn t cs os) (O : SrvOk t os s) : ∃ o, os[s.next]? = some o ∧ os.getD s.next 0 = o ∧ o < t.flocks.length ∧ (∃ c, cs[o]? = some c ∧ cs.getD o 0 = c ∧ 0 ≤ c ∧ c ≤ 48) ∧ (∃ d, t.flocks[o]? = some d ∧ droAt t o = d ∧ 1 ≤ d.drinks ∧ d.drinks ≤ 40) := by
 have h0 := O.next
 have h1 := List.getElem?_eq_getElem O.next
 have h2 := I.who _ (List.getElem_mem O.next)
 have h3 : os[s.next] < cs.length := by rw [I.len]; exact h2
 have h4 := I.hours _ (List.getElem_mem h3)
 have h5 := (troE_well I.ok).2.2 _ (List.getElem_mem h2)
 exact ⟨os[s.next], h1, by rw [List.getD_eq_getElem?_getD, h1]; rfl, h2, ⟨_, List.getElem?_eq_getElem h3, by rw [List.getD_eq_getElem?_getD, List.getElem?_eq_getElem h3, Option.getD_some], h4⟩, ⟨_, List.getElem?_eq_getElem h2, by rw [droAt, List.getD_eq_getElem?_getD, List.getElem?_eq_getElem h2, Option.getD_some], h5.1⟩⟩
theorem srv_next (I : SrvIn t cs os) (O : SrvOk t os s) (hs : srvStep t cs os s = .inl s') : SrvOk t os s' ∧ srvM t os s' < srvM t os s ∧ s'.hour = s.hour + 1 := by
 obtain ⟨w, _, f⟩ := (troE_well I.ok).1
 obtain ⟨o, _, e1, _, ⟨c, _, e2, c1, c2⟩, d, _, e3, d1, d2⟩ := I.at_ O
 have hlo := O.lo
 have hhi := O.hi
 have hne := O.next
 unfold srvStep at hs
 simp only [e1, e2, e3] at hs
 split at hs
 ·rename_i hc
  split at hs
  ·cases hs
  ·rename_i hn
   cases hs
   refine ⟨⟨by dsimp only; omega, by dsimp only; omega, by dsimp only; omega⟩, ?_, rfl⟩
   unfold srvM
   dsimp only
   have : (os.length - s.next) * 200 = (os.length - (s.next + 1)) * 200 + 200 := by omega
   omega
 ·rename_i hc
  split at hs
  ·cases hs
  ·rename_i hn
   cases hs
   refine ⟨⟨by dsimp only; omega, by dsimp only; omega, hne⟩, ?_, rfl⟩
   unfold srvM
   dsimp only
   by_cases hh : (s.hour : Int) ≥ c
   ·have : min t.well.holds (s.now + t.well.fill) ≠ s.now := fun e => hn ⟨e, hh⟩
    omega
   ·omega
theorem srv_fuel (I : SrvIn t cs os) : ∀ (m n k : Nat) (s : Srv), srvM t os s = m → SrvOk t os s → m < n → m < k → srvRun t cs os n s = srvRun t cs os k s := by
 intro m
 induction m using Nat.strongRecOn with
 | ind m ih =>
  intro n k s hm O hn hk
  cases n with
  | zero => omega
  | succ n =>
   cases k with
   | zero => omega
   | succ k =>
    unfold srvRun
    cases hs : srvStep t cs os s with
    | inr r => rfl
    | inl s' =>
     obtain ⟨O', hl, _⟩ := srv_next I O hs
     exact ih _ (by omega) n k s' rfl O' (by omega) (by omega)
def srvFrom (t : Tro) (cs : List Int) (os : List Nat) (s : Srv) : Int := srvRun t cs os (srvM t os s + 1) s
def serveW (t : Tro) (cs : List Int) (os : List Nat) : Int := srvFrom t cs os ⟨t.well.now, 0, 0, 0⟩
theorem srvFrom_inl (I : SrvIn t cs os) (O : SrvOk t os s) (hs : srvStep t cs os s = .inl s') : srvFrom t cs os s = srvFrom t cs os s' := by
 obtain ⟨O', hl, _⟩ := srv_next I O hs
 have : srvFrom t cs os s = srvRun t cs os (srvM t os s) s' := by
  unfold srvFrom
  conv => lhs; unfold srvRun
  rw [hs]
 rw [this]
 exact srv_fuel I _ _ _ s' rfl O' hl (Nat.lt_succ_self _)
theorem srvFrom_inr {r : Int} (hs : srvStep t cs os s = .inr r) : srvFrom t cs os s = r := by
 unfold srvFrom srvRun
 rw [hs]
end
section
variable {main : Bool} {J : JT} {h H : List AObj} {K : Value → List AObj → Prop} {KV : Value → Prop}
theorem sli_num {v : Value} {xs : List Int} (hs : Sli h v 1 xs.length (xs.map vint)) {i : Nat} {x : Int} (hx : xs[i]? = some x) (hk : ∀ p, KV p → True) {K2 : Value → Value → Prop} (hK : ∀ p, K2 p (vint x)) : aIdx 1 v (vint (i : Nat)) fun p => aLoad false 1 p h (K2 p) := by
 have hi : i < xs.length := (List.getElem?_eq_some_iff.1 hx).1
 exact idx_load hs ⟨by omega, by omega⟩ (by rw [Int.toNat_natCast, List.getElem?_map, hx]; rfl) hK
theorem sli_num' {v : Value} {xs : List Int} (hs : Sli h v 1 xs.length (xs.map vint)) {i : Nat} {x : Int} (hx : xs[i]? = some x) {K2 : Value → Value → Prop} (hK : ∀ p, K2 p (vint x)) : aIdx 1 v (vint (i : Nat)) fun p => aLoad false 1 p h (K2 p) :=
 sli_num hs (KV := fun _ => True) hx (fun _ _ => trivial) hK
theorem vext0 {a b : Value} (hk : KV a) : aExt (.tuple ⟨[a, b]⟩) 0 KV := hk
theorem vext1 {a b : Value} (hk : KV b) : aExt (.tuple ⟨[a, b]⟩) 1 KV := hk
structure Reg74 (cv ov : Value) (p3 p7 : Nat) (s : Srv) (f : RG) : Prop where
 ds : f.ds = []
 r1 : f.r 1 = cv
 r2 : f.r 2 = ov
 r3 : f.r 3 = ptr p3 0
 r7 : f.r 7 = ptr p7 0
 r8 : f.r 8 = vint s.wait
 r9 : f.r 9 = vint (s.next : Nat)
 r10 : f.r 10 = vint (s.hour : Nat)
theorem good41 (hJ : Closed prog main J) {v fv cv ov : Value} {t : Tro} {cs : List Int} {os : List Nat} (ht : TroAt h v t fv) (hc : Sli h cv 1 cs.length (cs.map vint)) (ho : Sli h ov 1 (os.map Int.ofNat).length ((os.map Int.ofNat).map vint)) (I : SrvIn t cs os)
  (hK : K (vint (serveW t cs os)) h) : Good prog J 41 [v, cv, ov] h K := by
 obtain ⟨ww, wl, _⟩ := troE_well I.ok
 refine g41 hJ fun ok => ?_
 rw [e41, ht.val]
 refine qBox (tro_one ht) fun H1 p3 e1 S1 c1 l1 => ?_
 refine offI (load_part (c := t.well.cells) c1 (by simp [troCells]) rfl rfl ?_)
 have fill : ∀ {KL : List Value → Prop}, KL t.well.cells → aFill [vint 0, vint 0, vint 0] [(0, 3, .agg ⟨t.well.cells⟩)] KL := fun hk => ⟨rfl, rfl, Nat.le_refl _, hk⟩
 refine fill (qAl fun H2 p7 e2 S2 c2 l2 => qStA (c := t.well.cells) c2 rfl rfl rfl fun H3 S3 c3 l3 => ?_)
 have SH : SameX [] h H3 := (S1.trans S2).thru S3 (by simp; omega)
 have c13 := S3.get (S2.get c1 (by simp)) (by simp; omega)
 have hp7 : h.length ≤ p7 := by omega
 have kf := (sli_val ht.fl).2.2
 let s0 : Srv := ⟨t.well.now, 0, 0, 0⟩
 have O0 : SrvOk t os s0 := ⟨by show 0 ≤ t.well.now; omega, by show t.well.now ≤ _; omega, I.pos⟩
 have m0 : srvM t os s0 ≤ 700 := by
  have := I.few
  show (os.length - 0) * 200 + (49 - 0) + (t.well.holds - t.well.now).toNat ≤ 700
  omega
 refine l41_1 hJ (fun s : Srv => srvM t os s) (fun s f H => SameX [] h H ∧ H[p3]? = some (.cells (troCells t fv) true 0) ∧ H[p7]? = some (.cells ({ t.well with now := s.now } : Wel).cells true 0) ∧ SrvOk t os s ∧ srvFrom t cs os s = serveW t cs os ∧ s.hour + srvM t os s ≤ 700 ∧ (-100000 * (s.next : Int) ≤ s.wait ∧ s.wait ≤ 100000 * (s.next : Int)) ∧ Reg74 cv ov p3 p7 s f) ?_ (s := s0)
  (.inl ⟨SH, c13, c3, O0, rfl, by show 0 + _ ≤ 700; omega, by show -100000 * ((0 : Nat) : Int) ≤ 0 ∧ (0 : Int) ≤ 100000 * ((0 : Nat) : Int); omega, ⟨rfl, rfl, rfl, rfl, rfl, rfl, rfl, rfl⟩⟩)
 rintro s f H ⟨S, cp, cb, O, hF, hM, hW, R⟩ ok' hn'
 obtain ⟨o, o1, o2, o3, ⟨c, x1, x2, x3, x4⟩, d, y1, y2, y3, y4⟩ := I.at_ O
 have hnow := O.lo
 have hnow2 := O.hi
 have hnx := O.next
 have hfew := I.few
 have hcS : Sli H cv 1 cs.length (cs.map vint) := S.sli hc (by simp)
 have hoS : Sli H ov 1 (os.map Int.ofNat).length ((os.map Int.ofNat).map vint) := S.sli ho (by simp)
 have hfS : SliE H fv 2 Dro.cells t.flocks := S.sli ht.fl (by simp)
 have hoi : (os.map Int.ofNat)[s.next]? = some (o : Int) := by rw [List.getElem?_map, o1]; rfl
 rw [s41_1, R.r1, R.r2, R.r3, R.r7, R.r9, R.r10]
 refine sli_num' hoS hoi fun q1 => ?_
 refine offI (offI (ldI (v := vint s.now) cb rfl rfl ?_))
 refine sli_num' hcS x1 fun q2 => ?_
 have hl3 : o < t.flocks.length := o3
 obtain ⟨b, off, fcs, wr, sz, hidx, hb, hol, hft, hkn⟩ := sliE_elem dro_len (by omega) hfS hl3
 have hd : t.flocks[o] = d := by
  rw [List.getElem?_eq_getElem hl3] at y1
  exact Option.some.inj y1
 rw [hd] at hft hkn
 have hdr : fcs[off + 0]? = some (vint d.drinks) := part_get hft rfl
 -- the way on where nobody drinks
 have other : ∀ (F : RG) (g : Bool), ¬ ((s.hour : Int) ≥ c ∧ s.now ≥ d.drinks) → F.r 42 = .bool false → F.r 11 = vint (o : Nat) → F.r 12 = vint s.now → Reg74 cv ov p3 p7 s F →
   W prog J 86 h.length 41 (subC [1, 1, 1, 0, 0, 0, 0, 1, 1, 0, 1] (codeOf f41)) F H (contX pl41 prog J 86 h.length 41 ct41 [1, 1, 1, 0, 0, 0, 0, 1, 1, 0, 1] (codeOf f41) [Nx h.length (fun s : Srv => srvM t os s) (fun s f H => SameX [] h H ∧ H[p3]? = some (.cells (troCells t fv) true 0) ∧ H[p7]? = some (.cells ({ t.well with now := s.now } : Wel).cells true 0) ∧ SrvOk t os s ∧ srvFrom t cs os s = serveW t cs os ∧ s.hour + srvM t os s ≤ 700 ∧ (-100000 * (s.next : Int) ≤ s.wait ∧ s.wait ≤ 100000 * (s.next : Int)) ∧ Reg74 cv ov p3 p7 s f) s] (RetQ prog [.tmp 6] h.length K)) := by
  intro F g hno r42 r11 r12 R'
  rw [s41_2, r42, R'.r7, R'.r1, R'.r10, r11, r12]
  refine cnd_false.2 ?_
  refine load_part (c := ({ t.well with now := s.now } : Wel).cells) cb (Nat.le_refl _) rfl rfl ?_
  refine good43 (w := { t.well with now := s.now }) hJ ⟨by dsimp only; omega, by dsimp only; omega, by dsimp only; omega⟩ ?_
  refine qStA (c := ({ t.well with now := min t.well.holds (s.now + t.well.fill) } : Wel).cells) cb rfl rfl rfl fun H4 S4 c4 l4 => ?_
  have S4h : SameX [] h H4 := S.thru S4 (by simp; omega)
  have hcS4 : Sli H4 cv 1 cs.length (cs.map vint) := S4h.sli hc (by simp)
  have cp4 := S4.get cp (by simp; omega)
  refine offI (offI (ldI (v := vint (min t.well.holds (s.now + t.well.fill))) c4 rfl rfl ?_))
  -- the end, or the next hour
  have fin : ∀ (F2 : RG) (x : Bool), x = decide (min t.well.holds (s.now + t.well.fill) = s.now ∧ (s.hour : Int) ≥ c) → F2.r 85 = .bool x → F2.ds = [] → F2.r 1 = cv → F2.r 2 = ov → F2.r 3 = ptr p3 0 → F2.r 7 = ptr p7 0 → F2.r 8 = vint s.wait → F2.r 9 = vint (s.next : Nat) → F2.r 10 = vint (s.hour : Nat) →
    W prog J 86 h.length 41 (subC [1, 1, 1, 0, 0, 0, 0, 1, 1, 1, 1, 1] (codeOf f41)) F2 H4 (contX pl41 prog J 86 h.length 41 ct41 [1, 1, 1, 0, 0, 0, 0, 1, 1, 1, 1, 1] (codeOf f41) [Nx h.length (fun s : Srv => srvM t os s) (fun s f H => SameX [] h H ∧ H[p3]? = some (.cells (troCells t fv) true 0) ∧ H[p7]? = some (.cells ({ t.well with now := s.now } : Wel).cells true 0) ∧ SrvOk t os s ∧ srvFrom t cs os s = serveW t cs os ∧ s.hour + srvM t os s ≤ 700 ∧ (-100000 * (s.next : Int) ≤ s.wait ∧ s.wait ≤ 100000 * (s.next : Int)) ∧ Reg74 cv ov p3 p7 s f) s] (RetQ prog [.tmp 6] h.length K)) := by
   intro F2 x hx r85 ds q1 q2 q3 q7 q8 q9 q10
   rw [s41_3, r85, ds, q10]
   cases x with
   | true =>
    have hx := of_decide_eq_true hx.symm
    have hs : srvStep t cs os s = .inr (-1) := by
     unfold srvStep
     simp only [o2, x2, y2]
     rw [if_neg hno, if_pos hx]
    have hr := srvFrom_inr hs
    rw [hF] at hr
    refine cnd_true.2 (retX ok (Nat.le_refl _) S4h (by simp) (by simp [unk]) (by simp [pack, VOk]) ?_)
    show K (vint (-1)) h
    rw [← hr]
    exact hK
   | false =>
    have hx := of_decide_eq_false hx.symm
    have hs : srvStep t cs os s = .inl ⟨min t.well.holds (s.now + t.well.fill), s.next, s.hour + 1, s.wait⟩ := by
     unfold srvStep
     simp only [o2, x2, y2]
     rw [if_neg hno, if_neg hx]
    obtain ⟨O', hl, _⟩ := srv_next I O hs
    refine cnd_false.2 (addI (by omega) ?_)
    refine ⟨_, hl, .inl ⟨S4h, cp4, c4, O', by rw [← srvFrom_inl I O hs]; exact hF, by dsimp only; omega, hW, ⟨ds, q1, q2, q3, q7, q8, q9, ?_⟩⟩⟩
    show vint _ = vint _
    congr 1
  refine eqlI (cndI (fun g1 => ?_) fun g1 => hold.2 ?_)
  ·refine sli_num' hcS4 x1 fun q3 => geqI (hold.2 ?_)
   refine fin _ (decide ((s.hour : Int) ≥ c)) ?_ rfl R'.ds R'.r1 R'.r2 R'.r3 R'.r7 R'.r8 R'.r9 R'.r10
   rw [decide_eq_decide]
   exact ⟨fun x => ⟨g1, x⟩, fun x => x.2⟩
  ·refine fin _ false ?_ rfl R'.ds R'.r1 R'.r2 R'.r3 R'.r7 R'.r8 R'.r9 R'.r10
   rw [eq_comm, decide_eq_false_iff_not]
   exact fun x => g1 x.1
 -- the way on where a flock drinks
 have drink : ∀ (F : RG), (s.hour : Int) ≥ c → s.now ≥ d.drinks → F.r 42 = .bool true → F.r 11 = vint (o : Nat) → Reg74 cv ov p3 p7 s F →
   W prog J 86 h.length 41 (subC [1, 1, 1, 0, 0, 0, 0, 1, 1, 0, 1] (codeOf f41)) F H (contX pl41 prog J 86 h.length 41 ct41 [1, 1, 1, 0, 0, 0, 0, 1, 1, 0, 1] (codeOf f41) [Nx h.length (fun s : Srv => srvM t os s) (fun s f H => SameX [] h H ∧ H[p3]? = some (.cells (troCells t fv) true 0) ∧ H[p7]? = some (.cells ({ t.well with now := s.now } : Wel).cells true 0) ∧ SrvOk t os s ∧ srvFrom t cs os s = serveW t cs os ∧ s.hour + srvM t os s ≤ 700 ∧ (-100000 * (s.next : Int) ≤ s.wait ∧ s.wait ≤ 100000 * (s.next : Int)) ∧ Reg74 cv ov p3 p7 s f) s] (RetQ prog [.tmp 6] h.length K)) := by
  intro F g1 g2 r42 r11 R'
  rw [s41_2, r42]
  refine cnd_true.2 ?_
  refine ⟨[p7, p3, b], ?_⟩
  rw [R'.r7, R'.r3, R'.r1, R'.r2, R'.r8, R'.r9, R'.r10, R'.ds, r11]
  refine load_part (c := ({ t.well with now := s.now } : Wel).cells) cb (Nat.le_refl _) rfl rfl ⟨by simp [RdOk, ptrBlk, ptr], ?_⟩
  refine offI (ldI (v := fv) cp rfl kf ⟨by simp [RdOk, ptrBlk, ptr], ?_⟩)
  refine hidx _ (offI (ldI hb hdr rfl ⟨by simp [RdOk, ptrBlk, ptr], ?_⟩))
  refine good45 (w := { t.well with now := s.now }) (n := d.drinks) hJ ⟨by dsimp only; omega, by dsimp only; omega, by dsimp only; omega⟩ (by omega) ?_
  refine ⟨fun _ _ => rfl, ?_⟩
  refine vext0 (vext1 ?_)
  refine qStA (c := (({ t.well with now := s.now } : Wel).drunk d.drinks).cells) cb rfl rfl rfl fun H4 S4 c4 l4 => ?_
  have S4h : SameX [] h H4 := S.thru S4 (by simp; omega)
  have hcS4 : Sli H4 cv 1 cs.length (cs.map vint) := S4h.sli hc (by simp)
  have hoS4 : Sli H4 ov 1 (os.map Int.ofNat).length ((os.map Int.ofNat).map vint) := S4h.sli ho (by simp)
  have cp4 := S4.get cp (by simp; omega)
  have hos : ((os.map Int.ofNat).length : Int) = (os.length : Int) := by rw [List.length_map]
  refine sli_num' hcS4 x1 fun q3 => subI (by omega) (addI (by omega) (addI (by omega) (lenI hoS4 (eqlI ?_))))
  have hm : min s.now d.drinks = d.drinks := by omega
  refine cndI (fun g3 => ?_) fun g3 => ?_
  ·have hs : srvStep t cs os s = .inr (s.wait + (s.hour - c)) := by
    unfold srvStep
    simp only [o2, x2, y2]
    rw [if_pos ⟨g1, g2⟩, if_pos (by omega)]
   have hr := srvFrom_inr hs
   rw [hF] at hr
   refine retX ok (Nat.le_refl _) S4h (by simp) (by simp [unk]) (by simp [pack, VOk]) ?_
   show K (vint (s.wait + (s.hour - c))) h
   rw [← hr]
   exact hK
  ·have hs : srvStep t cs os s = .inl ⟨min t.well.holds (s.now - d.drinks + t.well.fill), s.next + 1, s.hour + 1, s.wait + (s.hour - c)⟩ := by
    unfold srvStep
    simp only [o2, x2, y2]
    rw [if_pos ⟨g1, g2⟩, if_neg (by omega)]
   obtain ⟨O', hl, _⟩ := srv_next I O hs
   refine load_part (c := (({ t.well with now := s.now } : Wel).drunk d.drinks).cells) c4 (Nat.le_refl _) rfl rfl ?_
   refine good43 (w := ({ t.well with now := s.now } : Wel).drunk d.drinks) hJ ⟨by simp only [Wel.drunk]; omega, by simp only [Wel.drunk]; omega, by simp only [Wel.drunk]; omega⟩ ?_
   have hfw : (({ t.well with now := s.now } : Wel).drunk d.drinks).filled = ({ t.well with now := min t.well.holds (s.now - d.drinks + t.well.fill) } : Wel) := by
    simp only [Wel.filled, Wel.drunk]
    rw [hm]
   rw [hfw]
   refine qStA (c := ({ t.well with now := min t.well.holds (s.now - d.drinks + t.well.fill) } : Wel).cells) c4 rfl rfl rfl fun H5 S5 c5 l5 => ?_
   have S5h : SameX [] h H5 := S4h.thru S5 (by simp; omega)
   have cp5 := S5.get cp4 (by simp; omega)
   refine addI (by omega) ?_
   refine ⟨_, hl, .inl ⟨S5h, cp5, c5, O', by rw [← srvFrom_inl I O hs]; exact hF, by dsimp only; omega, by dsimp only; omega, ⟨R'.ds, R'.r1, R'.r2, R'.r3, R'.r7, rfl, ?_, ?_⟩⟩⟩
   ·show vint _ = vint _
    congr 1
   ·show vint _ = vint _
    congr 1
 refine geqI (cndI (fun g1 => ?_) fun g1 => hold.2 (other _ true (fun x => g1 x.1) rfl rfl rfl ⟨R.ds, R.r1, R.r2, R.r3, R.r7, R.r8, R.r9, R.r10⟩))
 refine offI (offI (ldI (v := vint s.now) cb rfl rfl ?_))
 refine offI (ldI (v := fv) cp rfl kf ?_)
 refine hidx _ (offI (ldI hb hdr rfl (geqI (hold.2 ?_))))
 by_cases g2 : s.now ≥ d.drinks
 ·have e2 : decide (s.now ≥ d.drinks) = true := decide_eq_true g2
  rw [e2]
  exact drink _ g1 g2 rfl rfl ⟨R.ds, R.r1, R.r2, R.r3, R.r7, R.r8, R.r9, R.r10⟩
 ·have e2 : decide (s.now ≥ d.drinks) = false := decide_eq_false g2
  rw [e2]
  exact other _ true (fun x => g2 x.2) rfl rfl rfl ⟨R.ds, R.r1, R.r2, R.r3, R.r7, R.r8, R.r9, R.r10⟩
end
section
variable {main : Bool} {J : JT} {h H : List AObj} {K : Value → List AObj → Prop} {KV : Value → Prop} {n0 : Nat}
theorem good60 (hJ : Closed prog main J) {v : Value} {xs : List Int} {x : Int} (hs : Sli h v 1 xs.length (xs.map vint)) (hl : xs.length ≤ 1000) (hK : ∀ r : Int, (r ≥ 0 ↔ x ∈ xs) → K (vint r) h) : Good prog J 60 [v, vint x] h K := by
 refine g60 hJ fun ok => ?_
 rw [e60]
 refine lenI hs ?_
 have fin : ∀ r : Int, (r ≥ 0 ↔ x ∈ xs) → retL h.length K [] [vint r] h := fun r hr =>
  retX ok (Nat.le_refl _) SameX.refl (by simp : ∀ x ∈ ([] : List Nat), h.length ≤ x) (by simp [unk]) (by simp [pack, VOk]) (hK r hr)
 refine l60_1 hJ (fun i : Nat => xs.length - i) (fun i f H => h = H ∧ i ≤ xs.length ∧ (∀ j, j < i → xs[j]? ≠ some x) ∧ f.ds = [] ∧ f.r 0 = v ∧ f.r 1 = vint x ∧ f.r 7 = vint (xs.length : Nat) ∧ f.r 8 = vint (i : Nat)) ?_ (s := 0)
  (.inl ⟨rfl, by omega, by intro j hj; omega, rfl, rfl, rfl, rfl, rfl⟩)
 rintro i f H ⟨e, hi, hne, ds, r0, r1, r7, r8⟩ _ _
 subst e
 rw [s60_1, r0, r1, r7, r8, ds]
 refine lssI (cndI (fun g => ?_) fun g => fin _ ?_)
 ·have hil : i < xs.length := by omega
  have hx := List.getElem?_eq_getElem hil
  refine sli_num' hs hx fun p => eqlI (cndI (fun e => ?_) fun e => addI (by omega) ?_)
  ·refine fin _ ⟨fun _ => ?_, fun _ => by omega⟩
   rw [e]
   exact List.getElem_mem hil
  ·refine ⟨i + 1, by show xs.length - (i + 1) < xs.length - i; omega, .inl ⟨rfl, by omega, fun j hj => ?_, ds, r0, r1, r7, ?_⟩⟩
   ·by_cases hji : j = i
    ·subst hji
     rw [hx]
     exact fun y => e (Option.some.inj y).symm
    ·exact hne j (by omega)
   ·show vint _ = vint _
    congr 1
 ·refine ⟨fun y => absurd y (by decide), fun y => ?_⟩
  obtain ⟨j, hj⟩ := List.mem_iff_getElem?.1 y
  have := (List.getElem?_eq_some_iff.1 hj).1
  exact absurd hj (hne j (by omega))
theorem good51 (hJ : Closed prog main J) {v : Value} {xs : List Int} {x : Int} (hs : Sli h v 1 xs.length (xs.map vint)) (hl : xs.length ≤ 1000) (hK : K (.bool (decide (x ∈ xs))) h) : Good prog J 51 [v, vint x] h K := by
 refine g51 hJ fun ok => ?_
 rw [e51]
 refine good60 hJ hs hl fun r hr => geqI (retX ok (Nat.le_refl _) SameX.refl (by simp : ∀ x ∈ ([] : List Nat), h.length ≤ x) (by simp [unk]) (by simp [pack, VOk]) ?_)
 show K (.bool (decide (r ≥ 0))) h
 rw [decide_eq_decide.2 hr]
 exact hK
theorem ownX_nil {s : Nat} : OwnX H s [] 0 (.slice none 0 0) none := ⟨by simp, rfl, .inl ⟨rfl, rfl, rfl⟩⟩
theorem eqlNil {t e : TypeId} {base : Option Addr} {n c : Nat} (ht : prog.underlying t = some (.slice e)) (hg : prog.eqGuardType prog.depth t = false) (hk : KV (.bool base.isNone)) : aBin prog .eql t (.slice base n c) (.slice none 0 0) KV := by
 show aEq prog false t (.slice base n c) (.slice none 0 0) KV
 have : teq prog 10000 t (.slice base n c) (.slice none 0 0) = some base.isNone := by
  unfold teq
  rw [ht]
  cases base <;> rfl
 unfold aEq
 rw [this]
 exact ⟨hg, by simpa using hk⟩
theorem good50 (hJ : Closed prog main J) {a : Value} {l : List Int} (ha : Sli h a 1 l.length (l.map vint)) (hl : l.length < 1000)
  (hK : ∀ v H o, SameX [] h H → OwnX H 1 (l.map vint) l.length v o → (∀ i, o = some i → h.length ≤ i) → K v H) : Good prog J 50 [a] h K := by
 refine g50 hJ fun ok => ?_
 rw [e50]
 obtain ⟨base, c, rfl, hlk, hh⟩ := id ha
 refine eqlNil (e := 3) (by kernel_rfl) (by kernel_rfl) (cnd_bool.2 ⟨fun hb => ?_, fun hb => ?_⟩)
 ·refine retL_same (by simp [unk]) ?_
  have h0 : l.length = 0 := by
   rcases hh with ⟨_, h0⟩ | ⟨b, o, hb2, _⟩
   ·exact h0
   ·rw [hb2] at hb
    cases hb
  have hl0 : l = [] := List.length_eq_zero_iff.1 h0
  subst hl0
  exact hK _ _ none SameX.refl ownX_nil (by simp)
 ·refine ⟨by decide, fillI (qNew fun H1 p1 e1 S1 c1 l1 => ⟨by decide, appX c1 (by omega) (by omega) (S1.sli ha (by simp)) fun v H2 p2 O S2 hp2 => retL_same ?_ (hK v H2 (some p2) (S1.trans S2) O ?_)⟩)⟩
  ·intro x hx
   simp at hx
   subst hx
   intro e
   have := (ownX_val O).2.2
   rw [e] at this
   exact absurd this (by decide)
  ·intro i hi
   cases hi
   have := S1.1
   omega
theorem ownX_app {s len m : Nat} {cs e : List Value} {v y : Value} {o : Option Nat} (ho : OwnX H s cs len v o) (hs : 0 < s) (hl : len + m < 1000) (hm : 0 < m) (hy : Sli H y s m e)
  (hk : ∀ v' H' p, p = H.length → OwnX H' s (cs ++ e) (len + m) v' (some p) → SameX o.toList H H' → H'.length = p + 1 → K v' H') : aApp s v y H K := by
 have hr : room = 1073741824 := rfl
 have hel := sli_vlen hy
 have hek : kn e = true := by
  obtain ⟨_, _, _, ⟨_, h⟩, _⟩ := hy
  exact h
 have new : ∀ H1 : List AObj, H1.length = H.length → SameX o.toList H H1 → cs.length = len * s → kn cs = true → K (.slice (some ⟨H.length, 0, none⟩) (len + m) fz) (H1 ++ [.cells (cs ++ e) true s]) := by
  intro H1 hH1 S h1 h2
  refine hk _ _ H.length rfl ⟨?_, ?_, .inr ⟨H.length, fz, s, rfl, rfl, by simp [← hH1], .inl ⟨rfl, rfl⟩⟩⟩ ?_ (by simp [hH1])
  ·rw [List.length_append, hel, h1, Nat.add_mul]
  ·unfold kn at *
   rw [List.all_append, h2, hek]
   rfl
  ·exact S.app
 obtain ⟨h1, h2, ⟨rfl, rfl, rfl⟩ | ⟨i, c, sz, rfl, rfl, h5, h6⟩⟩ := ho
 ·have hcs : cs = [] := List.length_eq_zero_iff.1 (by omega)
  subst hcs
  refine app_nil hs hy (by omega) (fun e => absurd e (by omega)) fun _ => ?_
  have := new H rfl SameX.refl h1 h2
  simpa using this
 ·have hlt := (List.getElem?_eq_some_iff.1 h5).1
  have ht : cs.take (len * s) = cs := List.take_of_length_le (by omega)
  rcases h6 with ⟨rfl, rfl⟩ | rfl
  ·refine app_own (cs := cs) h5 (by omega) (by rw [ht]; exact h2) hs hy (by omega) ?_
   rw [ht]
   exact new _ (by simp) (SameX.refl.set (.inl (by simp))) h1 h2
  ·refine app_copy (cs := cs) h5 (by omega) (by rw [List.drop_zero, ht]; exact h2) (by omega) hs hy (by omega) ?_
   rw [List.drop_zero, ht]
   exact new H rfl SameX.refl h1 h2
end
def nvs (os : List Nat) : List Value := (os.map Int.ofNat).map vint
theorem nvs_len (os : List Nat) : (nvs os).length = os.length := by simp [nvs]
def perms (n : Nat) : Nat → List Nat → List (List Nat)
 | 0, so => [so]
 | k + 1, so => ((List.range n).filter fun i => decide (i ∉ so)).flatMap fun i => perms n k (so ++ [i])
def permsTo (n k : Nat) (so : List Nat) (i : Nat) : List (List Nat) := ((List.range i).filter fun i => decide (i ∉ so)).flatMap fun i => perms n k (so ++ [i])
theorem permsTo_in {n k i : Nat} {so : List Nat} (h : i ∈ so) : permsTo n k so (i + 1) = permsTo n k so i := by
 unfold permsTo
 rw [List.range_succ, List.filter_append]
 simp [h]
theorem permsTo_out {n k i : Nat} {so : List Nat} (h : i ∉ so) : permsTo n k so (i + 1) = permsTo n k so i ++ perms n k (so ++ [i]) := by
 unfold permsTo
 rw [List.range_succ, List.filter_append]
 simp [h]
theorem len_flat {α β : Type} (f : α → List β) (c : Nat) : ∀ l : List α, (∀ x, (f x).length ≤ c) → (l.flatMap f).length ≤ l.length * c
 | [], _ => by simp
 | x :: l, h => by
  have := len_flat f c l h
  have := h x
  rw [List.flatMap_cons, List.length_append, List.length_cons, Nat.succ_mul]
  omega
theorem perms_few {n : Nat} (hn : n ≤ 3) : ∀ (k : Nat) (so : List Nat), (perms n k so).length ≤ 3 ^ k
 | 0, so => by simp [perms]
 | k + 1, so => by
  have h1 := len_flat (fun i => perms n k (so ++ [i])) (3 ^ k) ((List.range n).filter fun i => decide (i ∉ so)) fun i => perms_few hn k _
  have h2 := List.length_filter_le (fun i => decide (i ∉ so)) (List.range n)
  rw [List.length_range] at h2
  have h3 := Nat.mul_le_mul_right (3 ^ k) (Nat.le_trans h2 hn)
  rw [Nat.pow_succ]
  unfold perms
  omega
theorem permsTo_few {n : Nat} (hn : n ≤ 3) (k : Nat) (so : List Nat) {i : Nat} (hi : i ≤ n) : (permsTo n k so i).length ≤ 3 * 3 ^ k := by
 have h1 := len_flat (fun i => perms n k (so ++ [i])) (3 ^ k) ((List.range i).filter fun i => decide (i ∉ so)) fun i => perms_few hn k _
 have h2 := List.length_filter_le (fun i => decide (i ∉ so)) (List.range i)
 rw [List.length_range] at h2
 have h3 := Nat.mul_le_mul_right (3 ^ k) (Nat.le_trans h2 (Nat.le_trans hi hn))
 unfold permsTo
 omega
theorem free : ∀ (n : Nat) (so : List Nat), so.length < n → ∃ i, i < n ∧ i ∉ so
 | 0, so, h => by omega
 | n + 1, so, h => by
  by_cases hm : n ∈ so
  ·have hl := List.length_erase_of_mem hm
   obtain ⟨i, hi, hx⟩ := free n (so.erase n) (by have := List.length_pos_of_mem hm; omega)
   exact ⟨i, by omega, fun y => hx ((List.mem_erase_of_ne (by omega)).2 y)⟩
  ·exact ⟨n, by omega, hm⟩
theorem perms_some (n : Nat) : ∀ (k : Nat) (so : List Nat), so.length + k = n → ∃ x, x ∈ perms n k so
 | 0, so, _ => ⟨so, by simp [perms]⟩
 | k + 1, so, h => by
  obtain ⟨i, hi, hx⟩ := free n so (by omega)
  obtain ⟨y, hy⟩ := perms_some n k (so ++ [i]) (by rw [List.length_append, List.length_singleton]; omega)
  exact ⟨y, List.mem_flatMap.2 ⟨i, List.mem_filter.2 ⟨List.mem_range.2 hi, by simpa using hx⟩, hy⟩⟩
def Ele (H : List AObj) (lo : Nat) (o : Option Nat) (c : Value) (os : List Nat) : Prop :=
 ∃ b off cap cs wr sz, c = .slice (some ⟨b, off, none⟩) os.length cap ∧ lo ≤ b ∧ H[b]? = some (.cells cs wr sz) ∧ (cs.drop off).take os.length = nvs os ∧ some b ≠ o
def Eles (H : List AObj) (lo : Nat) (o : Option Nat) (cs : List Value) (oss : List (List Nat)) : Prop := ∀ (j : Nat) (os : List Nat), oss[j]? = some os → ∃ c, cs[j]? = some c ∧ Ele H lo o c os
theorem nvs_kn (os : List Nat) : kn (nvs os) = true := by
 unfold kn nvs
 rw [List.all_eq_true]
 intro x hx
 obtain ⟨y, _, rfl⟩ := List.mem_map.1 hx
 rfl
theorem Ele.sli {H : List AObj} {lo : Nat} {o : Option Nat} {c : Value} {os : List Nat} (a : Ele H lo o c os) : Sli H c 1 os.length (nvs os) := by
 obtain ⟨b, off, cap, cs, wr, sz, rfl, _, hb, ht, _⟩ := a
 exact ⟨_, _, rfl, ⟨by rw [nvs_len]; omega, nvs_kn os⟩, .inr ⟨b, off, rfl, .inr ⟨cs, wr, sz, hb, by rw [Nat.mul_one]; exact ht⟩⟩⟩
theorem Eles.keep {H H' : List AObj} {lo lo' : Nat} {o o' : Option Nat} {X : List Nat} {cs : List Value} {oss : List (List Nat)} (a : Eles H lo o cs oss) (S : SameX X H H') (hX : ∀ b, lo ≤ b → b < H.length → b ∈ X → some b = o) (hlo : lo' ≤ lo) (ho : ∀ b, lo ≤ b → b < H.length → some b = o' → some b = o) : Eles H' lo' o' cs oss := by
 intro j os hj
 obtain ⟨c, hc, b, off, cap, cs1, wr, sz, e, h1, hb, ht, hn⟩ := a j os hj
 exact ⟨c, hc, b, off, cap, cs1, wr, sz, e, by omega, S.get hb fun hm => hn (hX b h1 (lt_of_get hb) hm), ht, fun y => hn (ho b h1 (lt_of_get hb) y)⟩
theorem Eles.append {H : List AObj} {lo : Nat} {o : Option Nat} {cs cs' : List Value} {oss oss' : List (List Nat)} (a : Eles H lo o cs oss) (b : Eles H lo o cs' oss') (hl : cs.length = oss.length) : Eles H lo o (cs ++ cs') (oss ++ oss') := by
 intro j os hj
 by_cases h : j < oss.length
 ·rw [List.getElem?_append_left h] at hj
  obtain ⟨c, hc, x⟩ := a j os hj
  exact ⟨c, by rw [List.getElem?_append_left (by omega)]; exact hc, x⟩
 ·rw [List.getElem?_append_right (by omega)] at hj
  obtain ⟨c, hc, x⟩ := b _ os hj
  exact ⟨c, by rw [List.getElem?_append_right (by omega), hl]; exact hc, x⟩
section
variable {main : Bool} {J : JT}
theorem good39 (hJ : Closed prog main J) {n : Nat} (hn : 1 ≤ n ∧ n ≤ 3) : ∀ (k : Nat) {h : List AObj} {K : Value → List AObj → Prop} {sv : Value} {so : List Nat} {lo : Nat} (_ : so.length + k = n) (_ : Sli h sv 1 (so.map Int.ofNat).length ((so.map Int.ofNat).map vint)) (_ : lo ≤ h.length) (_ : so = [] ∨ Ele h lo none sv so)
  (_ : ∀ v H cs o, SameX [] h H → OwnX H 1 cs (perms n k so).length v o → (∀ i, o = some i → h.length ≤ i) → Eles H lo o cs (perms n k so) → K v H), Good prog J 39 [vint (n : Nat), sv] h K
 | 0, h, K, sv, so, lo, hk, hs, hlo, he, hK => by
  refine g39 hJ fun ok => ?_
  rw [e39]
  refine lenI hs (eqlI (cndI (fun _ => ?_) fun g => absurd g (by rw [List.length_map]; simp; omega)))
  obtain ⟨b, off, cap, cs, wr, sz, rfl, h1, hb, ht, hne⟩ := he.resolve_left (by rintro rfl; simp at hk; omega)
  refine ⟨by decide, ?_⟩
  refine ⟨rfl, rfl, Nat.le_refl _, fillI (qNew fun H1 p1 e1 S1 c1 l1 => retL_same (by simp [unk]) ?_)⟩
  have c1 : H1[p1]? = some (.cells [.slice (some ⟨b, off, none⟩) so.length cap] true 0) := c1
  refine hK _ _ _ (some p1) S1 (ownX_new c1 (by simp [zrep, perms]) (by rfl)) (fun i hi => by cases hi; omega) ?_
  intro j os hj
  have hj0 : j = 0 ∧ os = so := by
   cases j with
   | zero => simp [perms] at hj; exact ⟨rfl, hj.symm⟩
   | succ j => simp [perms] at hj
  obtain ⟨rfl, rfl⟩ := hj0
  exact ⟨_, rfl, b, off, cap, cs, wr, sz, rfl, h1, S1.get hb (by simp), ht, by have := lt_of_get hb; intro e; cases e; omega⟩
 | k + 1, h, K, sv, so, lo, hk, hs, hlo, he, hK => by
  refine g39 hJ fun ok => ?_
  rw [e39]
  refine lenI hs (eqlI (cndI (fun g => absurd g (by rw [List.length_map]; omega)) fun _ => ?_))
  have h3 : 3 * 3 ^ k ≤ 27 := by
   have : k ≤ 2 := by omega
   have := Nat.pow_le_pow_right (n := 3) (by omega) this
   omega
  refine l39_1 hJ (fun i : Nat => n - i) (fun i f H => SameX [] h H ∧ i ≤ n ∧ (∃ cs o, OwnX H 1 cs (permsTo n k so i).length (f.r 5) o ∧ (∀ p, o = some p → h.length ≤ p) ∧ Eles H lo o cs (permsTo n k so i)) ∧ f.ds = [] ∧ f.r 0 = vint (n : Nat) ∧ f.r 1 = sv ∧ f.r 13 = vint (n : Nat) ∧ f.r 14 = vint (i : Nat)) ?_ (s := 0)
   (.inl ⟨SameX.refl, by omega, ⟨[], none, ownX_nil, by simp, by intro j os hj; simp [permsTo] at hj⟩, rfl, rfl, rfl, rfl, rfl⟩)
  rintro i f H ⟨S, hi, ⟨cs, o, O, of_, E⟩, ds, r0, r1, r13, r14⟩ ok' hn'
  rw [s39_1, r0, r1, r13, r14, ds]
  refine lssI (cndI (fun g => ?_) fun g => ?_)
  ·have hsH : Sli H sv 1 (so.map Int.ofNat).length ((so.map Int.ofNat).map vint) := S.sli hs (by simp)
   have hsl : (so.map Int.ofNat).length = so.length := by rw [List.length_map]
   have hil : i < n := by omega
   refine good51 hJ hsH (by omega) (notI (cndN (fun hno => ?_) fun hin => ?_))
   ·have hno' : i ∉ so := fun y => hno (List.mem_map.2 ⟨i, y, rfl⟩)
    refine good50 hJ hsH (by omega) fun v5 H6 o5 S6 O5 of5 => ?_
    refine ⟨by decide, ?_⟩
    refine ⟨rfl, rfl, Nat.le_refl _, fillI (qNew fun H9 p8 e8 S9 c8 l8 => ⟨by decide, ?_⟩)⟩
    have c8 : H9[p8]? = some (.cells [vint (i : Nat)] true 0) := c8
    refine ownX_app (ownX_keep O5 S9 (by simp)) (by omega) (by omega) (by omega) (ownX_sli (ownX_new c8 rfl rfl)) fun v10 H11 p10 e10 O10 S11 l11 => ?_
    have eqv : (so.map Int.ofNat).map vint ++ [vint (i : Nat)] = nvs (so ++ [i]) := by simp [nvs]
    have hso' : (so ++ [i]).length = so.length + 1 := by simp
    have SS : SameX [] H H11 := (S6.trans S9).thru S11 (by
     intro x hx
     have := of5 x (by cases o5 <;> simp_all)
     omega)
    rw [eqv, hsl] at O10
    have OL := ownX_lt O10 _ rfl
    refine good39 hJ hn k (so := so ++ [i]) (lo := p10) (by rw [hso']; omega) (by
      have := ownX_sli O10
      unfold nvs at this
      rw [List.length_map, hso']
      exact this) (by omega) (.inr ?_) fun v12 H13 cs' o' S13 O13 of13 E13 => ?_
    ·obtain ⟨_, _, ⟨h0, _⟩ | ⟨q, c, sz, hq, hv, hget, _⟩⟩ := O10
     ·omega
     ·cases hq
      exact ⟨p10, 0, c, _, true, sz, by rw [hv, hso'], Nat.le_refl _, hget, by rw [List.drop_zero, List.take_of_length_le (by rw [nvs_len]; omega)], by simp⟩
    ·have S0 : SameX [] H H13 := SS.trans S13
     have O' := ownX_keep O S0 (by simp)
     have hb : p10 ≥ H.length := by
      have := S6.1
      have := S9.1
      omega
     have pos : 0 < (perms n k (so ++ [i])).length := by
      obtain ⟨x, hx⟩ := perms_some n k (so ++ [i]) (by rw [hso']; omega)
      exact List.length_pos_of_mem hx
     have f1 := permsTo_few hn.2 k so (i := i) hi
     have f2 := perms_few hn.2 k (so ++ [i])
     refine ⟨by decide, ownX_app O' (by omega) (by omega) pos (ownX_sli O13) fun v14 H15 p14 e14 O15 S15 l15 => addI (by omega) ?_⟩
     have olt : ∀ q, o = some q → q < H.length := ownX_lt O
     have S1 : SameX [] h H15 := (S.trans S0).thru S15 (by
      intro x hx
      exact .inr (of_ x (by cases o <;> simp_all)))
     refine ⟨i + 1, by show n - (i + 1) < n - i; omega, .inl ⟨S1, by omega, ⟨cs ++ cs', some p14, ?_, ?_, ?_⟩, ds, r0, r1, r13, ?_⟩⟩
     ·rw [permsTo_out hno', List.length_append]
      exact O15
     ·intro q hq
      cases hq
      have := S.1
      have := S0.1
      omega
     ·rw [permsTo_out hno']
      have A : Eles H15 lo (some p14) cs (permsTo n k so i) := by
       refine Eles.keep (E.keep S0 (by simp) (Nat.le_refl _) (fun _ _ _ y => y)) S15 (fun b _ _ hm => by cases o <;> simp_all) (Nat.le_refl _) fun b _ hlt e => ?_
       cases e
       omega
      have B : Eles H15 lo (some p14) cs' (perms n k (so ++ [i])) := by
       refine E13.keep S15 (fun b hlo' _ hm => ?_) (by have := S.1; omega) fun b _ hlt e => ?_
       ·have := olt b (by cases o <;> simp_all)
        omega
       ·cases e
        omega
      refine A.append B ?_
      have := O.1
      omega
     ·show vint _ = vint _
      congr 1
   ·have hin' : i ∈ so := by
     obtain ⟨j, hj, e⟩ := List.mem_map.1 hin
     have : j = i := Int.ofNat.inj e
     rwa [← this]
    refine addI (by omega) ⟨i + 1, by show n - (i + 1) < n - i; omega, .inl ⟨S, by omega, ⟨cs, o, ?_, of_, ?_⟩, ds, r0, r1, r13, ?_⟩⟩
    ·rw [permsTo_in hin']
     exact O
    ·rw [permsTo_in hin']
     exact E
    ·show vint _ = vint _
     congr 1
  ·have hin : i = n := by omega
   subst hin
   refine retL_same ?_ (hK _ _ cs o S O of_ E)
   intro x hx
   simp at hx
   subst hx
   intro e
   have := (ownX_val O).2.2
   rw [e] at this
   exact absurd this (by decide)
end
noncomputable def pre73 : Array Oper := ops40_1.pop
def plan73 : Plan := .take 0 (.take 1 (.take 2 (.take 3 (.take 4 (.last 5 true (.take 6 .fin))))))
theorem last73 : lastOk ops40_1 pre73 7 7 (Array.replicate 8 false) (Array.replicate 7 false) = true := by kernel_rfl
theorem plan73_ok : planOk prog pre73 plan73 7 (Array.replicate 7 false) none = true := by kernel_rfl
section
variable {main : Bool} {J : JT} {h h' H : List AObj} {K : RG → List AObj → Prop} {f : RG} {B : List Nat}
theorem w73 : planW prog (Good prog J) 12 pre73 (some B) h plan73 true [] f h K =
(aLoad false 1 (f.r 0) h fun v1 =>
RdOk (some B) (ptrBlk (f.r 0)) ∧ (aLoad false 1 (f.r 1) h fun v2 =>
RdOk (some B) (ptrBlk (f.r 1)) ∧ (aLoad true 4 (f.r 2) h fun v3 =>
RdOk (some B) (ptrBlk (f.r 2)) ∧ (aLoad false 1 (f.r 3) h fun v4 =>
RdOk (some B) (ptrBlk (f.r 3)) ∧ (aLoad false 1 (f.r 4) h fun v5 =>
RdOk (some B) (ptrBlk (f.r 4)) ∧ (Good prog J 41 [v3, v4, v5] h fun v6 h7 =>
SameB (some B) h h7 ∧ (aFill [(vint 0), (vint 0)] [(0, 1, v2), (1, 1, v6)] fun c8 =>
K (RG.p (RG.p (RG.p (RG.p (RG.p (RG.p (RG.p f 5 v1) 6 v2) 7 v3) 8 v4) 9 v5) 10 v6) 11 (.agg ⟨c8⟩)) h7))))))) := by kernel_rfl
theorem same73 : ∀ (i : Nat) (o : Oper), pre73[i]? = some o → ops40_1[i]? = some o ∧ ∀ r, gd pre73 o r = gd ops40_1 o r := by
 intro i o hi
 have hz : pre73.size = 7 := by kernel_rfl
 have hlt : i < 7 := by
  have := (Array.getElem?_eq_some_iff.1 hi).1
  omega
 have hall : (List.range 7).all (fun j => (opGet pre73 j).guard.isNone) = true := by kernel_rfl
 have hg : (opGet pre73 i).guard = none := by
  have := List.all_eq_true.1 hall i (List.mem_range.2 hlt)
  simpa using this
 have ho : o = opGet pre73 i := by
  unfold opGet
  rw [Array.getD_eq_getD_getElem?, hi]
  rfl
 refine ⟨?_, fun r => ?_⟩
 ·unfold pre73 at hi
  rw [Array.getElem?_pop] at hi
  split at hi
  ·exact hi
  ·cases hi
 ·unfold gd
  rw [ho, hg]
def serveV (i : Nat) (t : Tro) (cs : List Int) (os : List Nat) : Value := .agg ⟨[vint (i : Nat), vint (serveW t cs os)]⟩
theorem work73 {ρ : Env} {FC : Frm} {w : World} {ft : Foot} (R : HRel ρ h FC w ft) {b0 b1 b2 b3 b4 c i : Nat} {fv cv ov : Value} {wr0 wr1 wr2 wr3 wr4 : Bool} {t : Tro} {cs : List Int} {os : List Nat}
  (h0 : h[b0]? = some (.cells [.chan (some c)] wr0 0)) (h1 : h[b1]? = some (.cells [vint (i : Nat)] wr1 0)) (h2 : h[b2]? = some (.cells (troCells t fv) wr2 0)) (h3 : h[b3]? = some (.cells [cv] wr3 0)) (h4 : h[b4]? = some (.cells [ov] wr4 0))
  (ht : SliE h fv 2 Dro.cells t.flocks) (hc : Sli h cv 1 cs.length (cs.map vint)) (ho : Sli h ov 1 (os.map Int.ofNat).length ((os.map Int.ofNat).map vint)) (I : SrvIn t cs os)
  {T : Crew} (hlt : c < h.length) (hcT : ρ.blk c = T.c) {k : Nat} (hphi : T.phi k (serveV i t cs os)) :
  Toward prog (AtSend prog T.c (T.phi k)) (G (Frame.enter prog 40 ⟨[ptr b0 0, ptr b1 0, ptr b2 0, ptr b3 0, ptr b4 0].map (ren ρ)⟩ .deferred) [base0 prog]) w ft := by
 have hJ := Toward.closed prog (AtSend prog T.c (T.phi k))
 have vp : ∀ {b : Nat} {x : AObj}, h[b]? = some x → VOk h.length (ptr b 0) := fun hb => by
  have := lt_of_get hb
  simp [VOk, ptr, AddrOk, this]
 refine At.enter (fn := f40) (args := [ptr b0 0, ptr b1 0, ptr b2 0, ptr b3 0, ptr b4 0]) at40 body40 (Nat.le_of_ble_eq_true rfl) ?_ R ?_
 ·intro v hv
  simp only [List.mem_cons, List.not_mem_nil, or_false] at hv
  rcases hv with rfl | rfl | rfl | rfl | rfl
  ·exact vp h0
  ·exact vp h1
  ·exact vp h2
  ·exact vp h3
  ·exact vp h4
 have e : codeOf f40 = .region 0 ops40_1 true := r40_1
 rw [e]
 have kf := (sli_val ht).2.2
 have kc := (sli_val hc).2.2
 have ko := (sli_val ho).2.2
 refine At.draw hJ mixed (by simp) same73 (n := 7) z40_1 (by kernel_rfl) last73 plan73_ok (B := some [b0, b1, b2, b3, b4]) (K := fun f h' => h' = h ∧ f.ds = [] ∧ f.r 5 = .chan (some c) ∧ f.r 11 = serveV i t cs os) ?_ (by simp) ?_
 ·rw [show f40.ntmps = 12 from by kernel_rfl, w73]
  refine ldI h0 rfl rfl ⟨by simp [RdOk, ptrBlk, regs], ?_⟩
  refine ldI h1 rfl rfl ⟨by simp [RdOk, ptrBlk, regs], ?_⟩
  refine load_part (c := troCells t fv) h2 (by simp [troCells]) rfl (by simp [kn, troCells, kf]; exact ⟨rfl, rfl, rfl⟩) ⟨by simp [RdOk, ptrBlk, regs], ?_⟩
  refine ldI h3 rfl kc ⟨by simp [RdOk, ptrBlk, regs], ?_⟩
  refine ldI h4 rfl ko ⟨by simp [RdOk, ptrBlk, regs], ?_⟩
  refine good41 hJ (fv := fv) ⟨rfl, ht⟩ hc ho I ⟨fun _ _ => rfl, ?_⟩
  exact ⟨rfl, rfl, by decide, rfl, rfl, Nat.le_refl 2, rfl, rfl, rfl, rfl⟩
 ·rintro f h' ⟨rfl, ds, r5, r11⟩
  intro a ρ' w' ft' A H' hu hm
  obtain ⟨o1, o2, o3, o4, o5⟩ := o40_1_7 (J := fun _ _ _ => True)
  refine send_stop rfl rfl rfl o1 (o4 _) A ds o5 o2 r5 (by rw [(hu c hlt).1]; exact hcT) (v := serveV i t cs os) r11 (by simp [serveV, unk]) (by
   have : ren ρ' (serveV i t cs os) = serveV i t cs os := by simp [serveV, ren, renA, renL]
   rw [this]
   exact hphi) at40 (by kernel_rfl) (base_catches _)
end
def pickTo (ws : List Int) : Nat → Int
 | 0 => -1
 | i + 1 => if ws.getD i 0 ≥ 0 ∧ (pickTo ws i < 0 ∨ ws.getD i 0 < ws.getD (pickTo ws i).toNat 0) then i else pickTo ws i
theorem pickTo_lt (ws : List Int) : ∀ i, -1 ≤ pickTo ws i ∧ pickTo ws i < i
 | 0 => by simp [pickTo]
 | i + 1 => by
  have := pickTo_lt ws i
  unfold pickTo
  split <;> omega
section
variable {main : Bool} {J : JT} {h : List AObj} {K : Value → List AObj → Prop} {n0 : Nat}
theorem tail26 (hJ : Closed prog main J) {f : RG} {wv ov : Value} {ws : List Int} {m : Nat} {cells : List Value} (ok : heapOk h) (hn : n0 ≤ h.length) (hl : ws.length ≤ 1000) (hm : m = ws.length) (hw : Sli h wv 1 ws.length (ws.map vint)) (ho : Sli h ov 1 m cells)
  (ds : f.ds = []) (r15 : f.r 15 = wv) (r11 : f.r 11 = ov)
  (hK0 : pickTo ws ws.length < 0 → retL n0 K [] [.slice none 0 0, vint 0, vint 11] h)
  (hK1 : ∀ (i : Nat) (c : Value), pickTo ws ws.length = i → cells[i]? = some c → retL n0 K [] [c, vint (ws.getD i 0), vint 0] h) :
  Sem J 109 n0 17 (subC [1, 1, 1, 1, 1, 1, 1, 1, 1] (codeOf f17)) f h (RetQ prog [.tmp 4, .tmp 5, .tmp 6] n0 K) := by
 have hc : contX pl17t prog J 109 n0 17 ct17t [1, 1, 1, 1, 1, 1, 1, 1, 1] (codeOf f17) [] (RetQ prog [.tmp 4, .tmp 5, .tmp 6] n0 K) = RetQ prog [.tmp 4, .tmp 5, .tmp 6] n0 K := by kernel_rfl
 rw [← hc]
 refine W_sound hJ mixed _ ?_
 rw [s17t_1, r15]
 refine lenI hw ?_
 refine l17t_2 hJ (fun i : Nat => ws.length - i) (fun i f H => h = H ∧ i ≤ ws.length ∧ f.ds = [] ∧ f.r 15 = wv ∧ f.r 11 = ov ∧ f.r 17 = vint (pickTo ws i) ∧ f.r 76 = wv ∧ f.r 77 = vint (ws.length : Nat) ∧ f.r 78 = vint (i : Nat)) ?_ (s := 0)
  (.inl ⟨rfl, by omega, ds, r15, r11, rfl, rfl, rfl, rfl⟩)
 rintro i f H ⟨e, hi, ds, r15, r11, r17, r76, r77, r78⟩ _ _
 subst e
 have hp := pickTo_lt ws i
 rw [s17t_2, r15, r11, r17, r76, r77, r78, ds]
 refine lssI (cndI (fun g => ?_) fun g => ?_)
 ·have hil : i < ws.length := by omega
  have hx := List.getElem?_eq_getElem hil
  have gx : ws.getD i 0 = ws[i] := by rw [List.getD_eq_getElem?_getD, hx]; rfl
  have fin : ∀ (F : RG) (x : Bool), x = decide (ws.getD i 0 ≥ 0 ∧ (pickTo ws i < 0 ∨ ws.getD i 0 < ws.getD (pickTo ws i).toNat 0)) → F.r 96 = .bool x → F.ds = [] → F.r 15 = wv → F.r 11 = ov → F.r 17 = vint (pickTo ws i) → F.r 18 = vint (i : Nat) → F.r 76 = wv → F.r 77 = vint (ws.length : Nat) → F.r 78 = vint (i : Nat) →
    W prog J 109 n0 17 (subC [1, 1, 1, 1, 1, 1, 1, 1, 1, 1, 0, 1, 0, 0, 1, 1, 0, 0, 1, 1] (codeOf f17)) F h (contX pl17t prog J 109 n0 17 ct17t [1, 1, 1, 1, 1, 1, 1, 1, 1, 1, 0, 1, 0, 0, 1, 1, 0, 0, 1, 1] (codeOf f17) [Nx n0 (fun i : Nat => ws.length - i) (fun i f H => h = H ∧ i ≤ ws.length ∧ f.ds = [] ∧ f.r 15 = wv ∧ f.r 11 = ov ∧ f.r 17 = vint (pickTo ws i) ∧ f.r 76 = wv ∧ f.r 77 = vint (ws.length : Nat) ∧ f.r 78 = vint (i : Nat)) i] (RetQ prog [.tmp 4, .tmp 5, .tmp 6] n0 K)) := by
   intro F x hx r96 ds q15 q11 q17 q18 q76 q77 q78
   rw [s17t_3, r96, q78, q18]
   cases x with
   | true =>
    have hx := of_decide_eq_true hx.symm
    refine cnd_true.2 (addI (by omega) ⟨i + 1, by show ws.length - (i + 1) < ws.length - i; omega, .inl ⟨rfl, by omega, ds, q15, q11, ?_, q76, q77, ?_⟩⟩)
    ·show vint (i : Nat) = _
     have : pickTo ws (i + 1) = i := by unfold pickTo; rw [if_pos hx]
     rw [this]
    ·show vint _ = vint _
     congr 1
   | false =>
    have hx := of_decide_eq_false hx.symm
    refine cnd_false.2 (addI (by omega) ⟨i + 1, by show ws.length - (i + 1) < ws.length - i; omega, .inl ⟨rfl, by omega, ds, q15, q11, ?_, q76, q77, ?_⟩⟩)
    ·have : pickTo ws (i + 1) = pickTo ws i := by conv => lhs; unfold pickTo; rw [if_neg hx]
     rw [this]
     exact q17
    ·show vint _ = vint _
     congr 1
  refine sli_num' hw hx fun p => geqI (cndI (fun g1 => lssI (cndI (fun g2 => hold.2 ?_) fun g2 => ?_)) fun g1 => hold.2 ?_)
  ·refine fin _ true ?_ rfl ds r15 r11 r17 rfl r76 r77 r78
   rw [eq_comm, decide_eq_true_eq, gx]
   exact ⟨g1, .inl g2⟩
  ·obtain ⟨b, hb⟩ : ∃ b : Nat, pickTo ws i = b := ⟨(pickTo ws i).toNat, by omega⟩
   have hbl : b < ws.length := by omega
   have hy := List.getElem?_eq_getElem hbl
   have gy : ws.getD (pickTo ws i).toNat 0 = ws[b] := by rw [hb, Int.toNat_natCast, List.getD_eq_getElem?_getD, hy]; rfl
   rw [hb]
   refine sli_num' hw hy fun q => lssI (hold.2 ?_)
   refine fin _ (decide (ws[i] < ws[b])) ?_ rfl ds r15 r11 (by show f.r 17 = _; exact r17) rfl r76 r77 r78
   rw [decide_eq_decide, gx, gy]
   exact ⟨fun y => ⟨g1, .inr y⟩, fun y => y.2.resolve_left g2⟩
  ·refine fin _ false ?_ rfl ds r15 r11 r17 rfl r76 r77 r78
   rw [eq_comm, decide_eq_false_iff_not, gx]
   exact fun y => g1 y.1
 ·have hin : i = ws.length := by omega
  subst hin
  refine lssI (cndI (fun g2 => hK0 g2) fun g2 => ?_)
  obtain ⟨b, hb⟩ : ∃ b : Nat, pickTo ws ws.length = b := ⟨(pickTo ws ws.length).toNat, by omega⟩
  have hbl : b < ws.length := by omega
  have hcl : cells.length = m := by have := sli_vlen ho; omega
  have hcb := List.getElem?_eq_getElem (l := cells) (i := b) (by omega)
  have hy := List.getElem?_eq_getElem hbl
  have gy : ws.getD b 0 = ws[b] := by rw [List.getD_eq_getElem?_getD, hy]; rfl
  rw [hb]
  refine idx_load ho ⟨by omega, by omega⟩ (by rw [Int.toNat_natCast]; exact hcb) fun p => ?_
  refine sli_num' hw hy fun q => ?_
  rw [← gy]
  exact hK1 b _ hb hcb
end
def servE (t : Tro) (cs : List Int) : Int := if troE t ≠ 0 then troE t else if fewE cs.length t.flocks.length t.flocks.length ≠ 0 then fewE cs.length t.flocks.length t.flocks.length else if ∀ c ∈ cs, 0 ≤ c ∧ c ≤ 48 then 0 else 1
theorem servE_ok {t : Tro} {cs : List Int} (h : servE t cs = 0) : troE t = 0 ∧ cs.length = t.flocks.length ∧ ∀ c ∈ cs, 0 ≤ c ∧ c ≤ 48 := by
 unfold servE at h
 split at h
 ·rename_i x
  exact absurd h x
 ·rename_i x
  split at h
  ·rename_i y
   exact absurd h y
  ·rename_i y
   split at h
   ·rename_i z
    refine ⟨by omega, ?_, z⟩
    have y : fewE cs.length t.flocks.length t.flocks.length = 0 := by omega
    unfold fewE at y
    split at y
    ·cases y
    ·split at y
     ·cases y
     ·omega
   ·cases h
def allOf26 (cs : List Int) : List (List Nat) := perms cs.length cs.length []
structure Mid26 (h H : List AObj) (f : RG) (t : Tro) (fv cv ov : Value) (cs : List Int) (p2 p3 pc p12 : Nat) (cells : List Value) (o : Option Nat) : Prop where
 S : SameX [] h H
 lo2 : h.length ≤ p2
 lo3 : h.length ≤ p3
 loc : h.length ≤ pc
 lo12 : h.length ≤ p12
 ds : f.ds = []
 r2 : f.r 2 = ptr p2 0
 h2 : H[p2]? = some (.cells (troCells t fv) true 0)
 r3 : f.r 3 = ptr p3 0
 h3 : H[p3]? = some (.cells [cv] true 0)
 r11 : f.r 11 = ov
 own : OwnX H 1 cells (allOf26 cs).length ov o
 low : ∀ i, o = some i → h.length ≤ i
 eles : Eles H h.length o cells (allOf26 cs)
 r12 : f.r 12 = ptr p12 0
 h12 : H[p12]? = some (.cells [.chan (some pc)] true 0)
 hc : H[pc]? = some (.chan 0)
section
variable {main : Bool} {J : JT} {h : List AObj} {K : Value → List AObj → Prop} {Sx : RG → List AObj → Prop}
theorem front26 (hJ : Closed prog main J) {a0 cv fv : Value} {t : Tro} {cs : List Int} (ok : heapOk h) (ht : TroAt h a0 t fv) (hc : Sli h cv 1 cs.length (cs.map vint)) (hl : cs.length ≤ 1000)
  (hE : servE t cs ≠ 0 → K (.tuple ⟨[.slice none 0 0, vint 0, vint (servE t cs)]⟩) h)
  (hS : servE t cs = 0 → ∀ f H ov p2 p3 pc p12 cells o, Mid26 h H f t fv cv ov cs p2 p3 pc p12 cells o → Sx f H) :
  W prog J 109 h.length 17 (trunc 6 (codeOf f17)) (RG.mk (regs [a0, cv]) []) h (thenK Sx (RetQ prog [.tmp 4, .tmp 5, .tmp 6] h.length K)) := by
 rw [e17, ht.val]
 have kc := sli_val hc
 refine qBox (tro_one ht) fun H1 p2 e1 S1 c1 l1 => qBox1 kc.1 kc.2.1 fun H2 p3 e2 S2 c2 l2 => ?_
 have c1' := S2.get c1 (by simp)
 have S : SameX [] h H2 := S1.trans S2
 have t2 : TroAt H2 (.agg ⟨troCells t fv⟩) t fv := ⟨rfl, S.sli ht.fl (by simp)⟩
 have kf := (sli_val ht.fl).2.2
 have hc2 : Sli H2 cv 1 cs.length (cs.map vint) := S.sli hc (by simp)
 have fin : ∀ (e : Int) (n0 : Nat), n0 = h.length → servE t cs = e → e ≠ 0 → retL n0 K [] [.slice none 0 0, vint 0, vint e] H2 := fun e n0 hn he h0 => by
  subst he hn
  exact retX ok (Nat.le_refl _) S (by simp) (by simp [unk]) (by simp [pack, VOk, AOk, LOk]) (hE h0)
 refine load_part (c := troCells t fv) c1' (by simp [troCells]) rfl (by simp [kn, troCells, kf]; exact ⟨rfl, rfl, rfl⟩) (good6 hJ t2 ?_)
 refine neqI (cndI (fun g1 => fin _ _ rfl (by unfold servE; rw [if_pos g1]) g1) fun g1 => ?_)
 refine ldI c2 rfl kc.2.2 (lenI hc2 (offI (ldI (v := fv) c1' rfl kf (lenI t2.fl (offI (ldI (v := fv) c1' rfl kf (lenI t2.fl (good24 hJ ?_))))))))
 refine neqI (cndI (fun g2 => fin _ _ rfl (by unfold servE; rw [if_neg g1, if_pos g2]) g2) fun g2 => ?_)
 refine ldI c2 rfl kc.2.2 (lenI hc2 ?_)
 refine l17_1 hJ (fun i : Nat => cs.length - i) (fun i f H => H2 = H ∧ i ≤ cs.length ∧ (∀ c ∈ cs.take i, 0 ≤ c ∧ c ≤ 48) ∧ f.ds = [] ∧ f.r 2 = ptr p2 0 ∧ f.r 3 = ptr p3 0 ∧ f.r 37 = cv ∧ f.r 38 = vint (cs.length : Nat) ∧ f.r 39 = vint (i : Nat)) ?_ (s := 0)
  (.inl ⟨rfl, by omega, by simp, rfl, rfl, rfl, rfl, rfl, rfl⟩)
 rintro i f H ⟨e, hi, hd, ds, r2, r3, r37, r38, r39⟩ _ _
 subst e
 rw [s17_1, ds, r3, r37, r38, r39]
 refine lssI (cndI (fun g => ?_) fun g => ?_)
 ·have hil : i < cs.length := by omega
  have hx := List.getElem?_eq_getElem hil
  refine sli_num' hc2 hx fun q => good25 hJ (notI (cndN (fun g3 => ?_) fun g3 => addI (by omega) ?_))
  ·refine fin 1 _ rfl ?_ (by omega)
   unfold servE
   rw [if_neg g1, if_neg g2, if_neg fun y => g3 (y _ (List.getElem_mem hil))]
  ·refine ⟨i + 1, by show cs.length - (i + 1) < cs.length - i; omega, .inl ⟨rfl, by omega, ?_, ds, r2, r3, r37, r38, ?_⟩⟩
   ·intro c hcm
    rw [List.take_add_one, hx] at hcm
    rcases List.mem_append.1 hcm with y | y
    ·exact hd c y
    ·simp at y
     subst y
     exact g3
   ·show vint _ = vint _
    congr 1
 ·have hin : i = cs.length := by omega
  subst hin
  rw [List.take_length] at hd
  have hs : servE t cs = 0 := by
   unfold servE
   rw [if_neg g1, if_neg g2, if_pos hd]
  obtain ⟨ok0, hlen, _⟩ := servE_ok hs
  have wl := (troE_well ok0).2.1
  refine ldI c2 rfl kc.2.2 (lenI hc2 ?_)
  refine good39 hJ (n := cs.length) (by omega) cs.length (so := []) (lo := H2.length) (by simp) ⟨none, 0, rfl, ⟨rfl, rfl⟩, .inl ⟨rfl, rfl⟩⟩ (Nat.le_refl _) (.inl rfl) fun v H3 cells o S3 O3 of3 E3 => ?_
  refine ⟨by decide, ⟨by omega, by omega⟩, ?_⟩
  refine qAl fun H5 p12 e5 S5 c5 l5 => ?_
  have Sc : SameX [] H3 (H3 ++ [.chan (Int.toNat 0)]) := SameX.refl.app
  refine qSt c5 (by simp) rfl rfl fun H6 S6 c6 l6 => ?_
  have hcc : (H3 ++ [AObj.chan (Int.toNat 0)])[H3.length]? = some (.chan 0) := by simp
  have S46 : SameX [p12] H3 H6 := ((Sc.trans S5).weak (by simp)).trans S6
  have e5' : p12 = H3.length + 1 := by rw [e5]; simp
  have S26 : SameX [p12] H2 H6 := (S3.weak (by simp)).trans S46
  have l3 := S3.1
  have l2' := S.1
  have op : ∀ q, o = some q → q < H3.length := ownX_lt O3
  refine hS hs _ H6 v p2 p3 H3.length p12 cells o ⟨?_, by omega, by omega, by omega, by omega, ds, r2, S26.get c1' (by simp; omega), r3, S26.get c2 (by simp; omega), rfl, ownX_keep O3 S46 (by intro q hq; have := op q hq; simp; omega), fun q hq => by have := of3 q hq; omega, ?_, rfl, c6, S6.get (S5.get hcc (by simp)) (by simp; omega)⟩
  ·exact (S.trans S3).thru S46 (by intro x hx; rw [List.mem_singleton.1 hx]; exact .inr (by omega))
  ·exact E3.keep S46 (fun b hb hb2 hm => by
    have := List.mem_singleton.1 hm
    omega) (by omega) fun _ _ _ y => y
end
theorem shape26 : subC [1, 1, 1, 1, 1, 1] (codeOf f17) = .seq (.seq (subC [1, 1, 1, 1, 1, 1, 0, 0] (codeOf f17)) (.block 2 (.loop (subC [1, 1, 1, 1, 1, 1, 0, 1, 0, 0] (codeOf f17))))) (subC [1, 1, 1, 1, 1, 1, 1] (codeOf f17)) := by kernel_rfl
theorem round26 : subC [1, 1, 1, 1, 1, 1, 0, 1, 0, 0] (codeOf f17) = .seq (subC [1, 1, 1, 1, 1, 1, 0, 1, 0, 0, 0] (codeOf f17)) (.seq (subC [1, 1, 1, 1, 1, 1, 0, 1, 0, 0, 1, 0] (codeOf f17)) (.seq (.block 3 (.seq (subC [1, 1, 1, 1, 1, 1, 0, 1, 0, 0, 1, 1, 0, 0, 0] (codeOf f17)) (.region 18 ops17_1 false))) (subC [1, 1, 1, 1, 1, 1, 0, 1, 0, 0, 1, 1, 1] (codeOf f17)))) := by kernel_rfl
theorem shape26b : subC [1, 1, 1, 1, 1, 1, 1] (codeOf f17) = .seq (subC [1, 1, 1, 1, 1, 1, 1, 0] (codeOf f17)) (subC [1, 1, 1, 1, 1, 1, 1, 1] (codeOf f17)) := by kernel_rfl
def R26 (ov : Value) (p2 p3 p12 n i : Nat) : RG := (((((((RG.mk (fun _ => unk) []).p 2 (ptr p2 0)).p 3 (ptr p3 0)).p 11 ov).p 12 (ptr p12 0)).p 51 ov).p 52 (vint (n : Nat))).p 53 (vint (i : Nat))
theorem r26_cases (ov : Value) (p2 p3 p12 n i t : Nat) : (R26 ov p2 p3 p12 n i).r t = unk ∨ t = 2 ∨ t = 3 ∨ t = 11 ∨ t = 12 ∨ t = 51 ∨ t = 52 ∨ t = 53 := by
 by_cases h : t = 2 ∨ t = 3 ∨ t = 11 ∨ t = 12 ∨ t = 51 ∨ t = 52 ∨ t = 53
 ·exact .inr h
 ·refine .inl ?_
  simp only [not_or] at h
  obtain ⟨h1, h2, h3, h4, h5, h6, h7⟩ := h
  simp [R26, RG.p, beq_eq_false_iff_ne.2 h1, beq_eq_false_iff_ne.2 h2, beq_eq_false_iff_ne.2 h3, beq_eq_false_iff_ne.2 h4, beq_eq_false_iff_ne.2 h5, beq_eq_false_iff_ne.2 h6, beq_eq_false_iff_ne.2 h7]
theorem At.weak {J : JT} {N m : Nat} {b : FB} {cs : List Frame} {FC : Frm} {ρ0 : Env} {k : List Item} {f f' : RG} {h : List AObj} (ok : heapOk h) (hf : ∀ t, f'.r t = unk ∨ (f'.r t = f.r t ∧ VOk h.length (f'.r t))) (hd : f'.ds = f.ds) (hds : f.ds = []) (hm' : m ≤ h.length) (h' : At J N b cs FC ρ0 m k f' h) : At J N b cs FC ρ0 m k f h := by
 have := At.drop (g := []) (f := f) ok hf hd (by rw [hds]; simp) hm' h'
 simpa using this
theorem frz_at {h : List AObj} {i : Nat} {c : List Value} {wr : Bool} {sz : Nat} (hb : h[i]? = some (.cells c wr sz)) : (frz h)[i]? = some (.cells c false sz) := by
 unfold frz
 rw [List.getElem?_map, hb]
 rfl
theorem frz_sli {h : List AObj} {v : Value} {s n : Nat} {cs : List Value} (hs : Sli h v s n cs) : Sli (frz h) v s n cs := by
 obtain ⟨base, c, rfl, hk, hh⟩ := hs
 refine ⟨base, c, rfl, hk, hh.imp id ?_⟩
 rintro ⟨b, o, e, h0⟩
 exact ⟨b, o, e, h0.imp id fun ⟨cs, wr, sz, hb, ht⟩ => ⟨cs, false, sz, frz_at hb, ht⟩⟩
theorem two_more {h H : List AObj} {x y : AObj} (S : SameX [] h H) (hl : H.length = h.length + 2) (hx : H[h.length]? = some x) (hy : H[h.length + 1]? = some y) : H = h ++ [x, y] := by
 obtain ⟨g, rfl⟩ := S.app0 (by simp)
 rw [List.length_append] at hl
 have h2 : g.length = 2 := by omega
 obtain ⟨a, b, rfl⟩ : ∃ a b, g = [a, b] := by
  cases g with
  | nil => simp at h2
  | cons a g => cases g with
   | nil => simp at h2
   | cons b g => cases g with
    | nil => exact ⟨a, b, rfl⟩
    | cons c g => simp at h2
 rw [List.getElem?_append_right (Nat.le_refl _)] at hx
 rw [List.getElem?_append_right (by omega)] at hy
 simp at hx hy
 rw [hx, hy]
structure Lent (hz : List AObj) (t : Tro) (fv cv ov : Value) (cs : List Int) (p2 p3 pc p12 lo : Nat) (cells : List Value) (o : Option Nat) (oss : List (List Nat)) : Prop where
 ok : heapOk hz
 nw : ∀ x ∈ hz, x.wrt = false
 nc : ∀ cap, .chan cap ∉ hz
 h2 : hz[p2]? = some (.cells (troCells t fv) false 0)
 h3 : hz[p3]? = some (.cells [cv] false 0)
 h12 : hz[p12]? = some (.cells [.chan (some pc)] false 0)
 hpc : pc < hz.length
 fl : SliE hz fv 2 Dro.cells t.flocks
 cv : Sli hz cv 1 cs.length (cs.map vint)
 os : Sli hz ov 1 oss.length cells
 ovk : VOk hz.length ov
 eles : Eles hz lo o cells oss
 rt : ∀ x ∈ oss, SrvIn t cs x
 few : oss.length ≤ 1000
theorem Lent.regs {hz : List AObj} {t : Tro} {fv cv ov : Value} {cs : List Int} {p2 p3 pc p12 lo n i : Nat} {cells : List Value} {o : Option Nat} {oss : List (List Nat)} (L : Lent hz t fv cv ov cs p2 p3 pc p12 lo cells o oss) {f : RG}
  (e2 : f.r 2 = ptr p2 0) (e3 : f.r 3 = ptr p3 0) (e11 : f.r 11 = ov) (e12 : f.r 12 = ptr p12 0) (ez51 : f.r 51 = ov) (ez52 : f.r 52 = vint (n : Nat)) (ez53 : f.r 53 = vint (i : Nat)) :
  ∀ t, (R26 ov p2 p3 p12 n i).r t = unk ∨ ((R26 ov p2 p3 p12 n i).r t = f.r t ∧ VOk hz.length ((R26 ov p2 p3 p12 n i).r t)) := by
 have vp : ∀ {b : Nat} {x : AObj}, hz[b]? = some x → VOk hz.length (ptr b 0) := fun hb => by
  have := lt_of_get hb
  simp [VOk, ptr, AddrOk, this]
 intro t
 rcases r26_cases ov p2 p3 p12 n i t with h | rfl | rfl | rfl | rfl | rfl | rfl | rfl
 ·exact .inl h
 ·exact .inr ⟨e2.symm, vp L.h2⟩
 ·exact .inr ⟨e3.symm, vp L.h3⟩
 ·exact .inr ⟨e11.symm, L.ovk⟩
 ·exact .inr ⟨e12.symm, vp L.h12⟩
 ·exact .inr ⟨ez51.symm, L.ovk⟩
 ·refine .inr ⟨ez52.symm, ?_⟩
  show VOk hz.length (vint (n : Nat))
  simp [VOk]
 ·refine .inr ⟨ez53.symm, ?_⟩
  show VOk hz.length (vint (i : Nat))
  simp [VOk]
def phi26 (t : Tro) (cs : List Int) (oss : List (List Nat)) (k : Nat) (v : Value) : Prop := ∃ os, oss[k]? = some os ∧ v = serveV k t cs os
def crew26 (ch : Nat → Option (Nat × Array Value × Bool)) (c : Nat) (t : Tro) (cs : List Int) (oss : List (List Nat)) (pend : List Nat) : Crew := ⟨ch, c, pend, phi26 t cs oss⟩
section
variable {ch : Nat → Option (Nat × Array Value × Bool)} {W0 : World} {Post : Value → World → Prop} {b : FB} {fs : List Frame} {FC : Frm} {ρ0 : Env} {m : Nat} {k2 : List Item} {hz : List AObj} {t : Tro} {fv cv ov : Value} {cs : List Int} {p2 p3 pc p12 lo : Nat} {cells : List Value} {o : Option Nat} {oss : List (List Nat)}
theorem hire26 (hk : b.kind ≠ .early) (hown : ch (ρ0.blk pc) = some (0, #[], false)) (L : Lent hz t fv cv ov cs p2 p3 pc p12 lo cells o oss) (hm : m ≤ hz.length) (hpm : pc < m) (hw : ∀ b, ¬ FC.wr b)
  (hdone : At (JC prog W0 Post (crew26 ch (ρ0.blk pc) t cs oss (List.range oss.length))) 109 b fs FC ρ0 m k2 (R26 ov p2 p3 p12 oss.length oss.length) hz) :
  ∀ (d i : Nat), d = oss.length - i → i ≤ oss.length → At (JC prog W0 Post (crew26 ch (ρ0.blk pc) t cs oss (List.range i))) 109 b fs FC ρ0 m (.code (subC [1, 1, 1, 1, 1, 1, 0, 1, 0, 0] (codeOf f17)) :: .inLoop (subC [1, 1, 1, 1, 1, 1, 0, 1, 0, 0] (codeOf f17)) :: .inBlock 2 :: k2) (R26 ov p2 p3 p12 oss.length i) hz := by
 intro d
 induction d with
 | zero =>
  intro i hd hi
  have hin : i = oss.length := by omega
  subst hin
  have hJ := JC.closed prog W0 Post (crew26 ch (ρ0.blk pc) t cs oss (List.range oss.length))
  rw [round26]
  refine At.seq hJ (At.piece (Q := fun e f' h' => e = .normal ∧ f' = (R26 ov p2 p3 p12 oss.length oss.length).p 54 (.bool false) ∧ h' = hz) rfl hk (W_sound hJ mixed _ ?_) hm (Nat.le_refl _) ?_)
  ·rw [q17_2]
   refine lssI ⟨rfl, ?_, rfl⟩
   simp
  rintro e f' h' ⟨rfl, rfl, rfl⟩
  refine .inl ⟨rfl, At.seq hJ (At.piece (Q := fun e f' h1 => e = .exit 2 ∧ f' = (R26 ov p2 p3 p12 oss.length oss.length).p 54 (.bool false) ∧ h1 = h') rfl hk (W_sound hJ mixed _ ?_) hm (Nat.le_refl _) ?_)⟩
  ·rw [q17_3]
   exact cnd_false.2 ⟨rfl, rfl, rfl⟩
  rintro e f1 h1 ⟨rfl, rfl, rfl⟩
  refine .inr ⟨2, k2, rfl, by simp [exitTo], ?_⟩
  exact At.weak L.ok (L.regs rfl rfl rfl rfl rfl rfl rfl) rfl rfl hm hdone
 | succ d ih =>
  intro i hd hi
  have hil : i < oss.length := by omega
  have hJ := JC.closed prog W0 Post (crew26 ch (ρ0.blk pc) t cs oss (List.range i))
  have hJ2 := JC.closed prog W0 Post (crew26 ch (ρ0.blk pc) t cs oss (List.range i ++ [i]))
  rw [round26]
  refine At.seq hJ (At.piece (Q := fun e f' h' => e = .normal ∧ f' = (R26 ov p2 p3 p12 oss.length i).p 54 (.bool true) ∧ h' = hz) rfl hk (W_sound hJ mixed _ ?_) hm (Nat.le_refl _) ?_)
  ·rw [q17_2]
   refine lssI ⟨rfl, ?_, rfl⟩
   have : ((i : Int) < (oss.length : Int)) := by omega
   simp [this]
  rintro e f' h' ⟨rfl, rfl, rfl⟩
  refine .inl ⟨rfl, At.seq hJ (At.piece (Q := fun e f' h1 => e = .normal ∧ f' = (R26 ov p2 p3 p12 oss.length i).p 54 (.bool true) ∧ h1 = h') rfl hk (W_sound hJ mixed _ ?_) hm (Nat.le_refl _) ?_)⟩
  ·rw [q17_3]
   exact cnd_true.2 ⟨rfl, rfl, rfl⟩
  rintro e f1 hz ⟨rfl, rfl, rfl⟩
  obtain ⟨os, hos⟩ : ∃ os, oss[i]? = some os := ⟨_, List.getElem?_eq_getElem hil⟩
  obtain ⟨c, hc, E⟩ := L.eles i os hos
  have I := L.rt os (List.mem_of_getElem? hos)
  refine .inl ⟨rfl, At.seq hJ (At.block hJ (At.seq hJ (At.piece (Q := fun e f' h' => e = .normal ∧ f'.ds = [] ∧ (f'.r 2 = ptr p2 0 ∧ f'.r 3 = ptr p3 0 ∧ f'.r 11 = ov ∧ f'.r 12 = ptr p12 0 ∧ f'.r 51 = ov ∧ f'.r 52 = vint (oss.length : Nat) ∧ f'.r 53 = vint (i : Nat)) ∧ f'.r 13 = ptr hz.length 0 ∧ f'.r 14 = ptr (hz.length + 1) 0 ∧ h' = hz ++ [.cells [vint (i : Nat)] true 0, .cells [c] true 0]) rfl hk (W_sound hJ mixed _ ?_) hm (Nat.le_refl _) ?_)))⟩
  ·rw [q17_4]
   refine idx_load L.os ⟨by show (0 : Int) ≤ (i : Nat); omega, by show ((i : Nat) : Int) < _; omega⟩ (by rw [Int.toNat_natCast]; exact hc) fun p => ?_
   refine qAl fun H1 p13 e1 S1 c1 l1 => qAl fun H2 p14 e2 S2 c2 l2 => ?_
   refine qSt (S2.get c1 (by simp)) (by simp) rfl rfl fun H3 S3 c3 l3 => qSt (S3.get c2 (by simp; omega)) (by simp) (sli_val E.sli).1 (sli_val E.sli).2.1 fun H4 S4 c4 l4 => ?_
   have SS : SameX [] hz H4 := ((S1.trans S2).thru S3 (by intro x hx; rw [List.mem_singleton.1 hx]; exact .inr (by omega))).thru S4 (by intro x hx; rw [List.mem_singleton.1 hx]; exact .inr (by omega))
   have c3' := S4.get c3 (by simp; omega)
   have e2' : p14 = hz.length + 1 := by omega
   subst e1 e2'
   exact ⟨rfl, rfl, ⟨rfl, rfl, rfl, rfl, rfl, rfl, rfl⟩, rfl, rfl, two_more SS (by omega) c3' c4⟩
  rintro e f h' ⟨rfl, ds, ⟨r2, r3, r11, r12, r51, r52, r53⟩, r13, r14, rfl⟩
  refine .inl ⟨rfl, At.region hJ ?_⟩
  rw [show List.range ops17_1.size = [0, 1] from by rw [z17_1]; rfl]
  obtain ⟨o1, o2, o3, o4, o5⟩ := o17_1_0 (J := JC prog W0 Post (crew26 ch (ρ0.blk pc) t cs oss (List.range i)))
  obtain ⟨x1, x2, x3, x4, x5⟩ := o17_1_1 (J := JC prog W0 Post (crew26 ch (ρ0.blk pc) t cs oss (List.range i)))
  refine At.op hJ hk o1 o3 (o4 _) ?_
  rw [o5, r12, r13, r2, r3, r14, o2]
  refine ⟨rfl, fun _ => ?_⟩
  have fz : ∀ {q : Nat} {l : List Value} {wr : Bool} {sz : Nat}, (hz ++ [.cells [vint (i : Nat)] true 0, .cells [c] true 0])[q]? = some (.cells l wr sz) → (frz (hz ++ [.cells [vint (i : Nat)] true 0, .cells [c] true 0]))[q]? = some (.cells l false sz) := frz_at
  have ga : (hz ++ [.cells [vint (i : Nat)] true 0, .cells [c] true 0])[hz.length]? = some (.cells [vint (i : Nat)] true 0) := by simp
  have gb : (hz ++ [.cells [vint (i : Nat)] true 0, .cells [c] true 0])[hz.length + 1]? = some (.cells [c] true 0) := by simp
  refine At.go hk x1 (x4 _) x5 x2 (g := 40) (cap := [ptr p12 0, ptr hz.length 0, ptr p2 0, ptr p3 0, ptr (hz.length + 1) 0]) rfl (by kernel_rfl) (k := i) (by show i ∉ List.range i; simp) hown rfl L.nw hw L.ok hm (fun ρ w ft R hu => ?_) (fun cap hcm => ?_) (f' := R26 ov p2 p3 p12 oss.length i) (L.regs r2 r3 r11 r12 r51 r52 r53) ds.symm (by show ∀ x ∈ f.ds, _; rw [ds]; simp) ?_
  ·exact work73 (T := crew26 ch (ρ0.blk pc) t cs oss (List.range i)) R (fz (get_app L.h12)) (fz ga) (fz (get_app L.h2)) (fz (get_app L.h3)) (fz gb) (frz_sli (sli_app L.fl)) (frz_sli (sli_app L.cv)) (by
    have := frz_sli (sli_app (g := [.cells [vint (i : Nat)] true 0, .cells [c] true 0]) E.sli)
    rw [List.length_map]
    exact this) I (by rw [frz_len, List.length_append]; have := L.hpc; omega) (hu pc hpm).1 (k := i) ⟨os, hos, rfl⟩
  ·rcases List.mem_append.1 hcm with y | y
   ·exact L.nc cap y
   ·simp at y
  ·refine At.ops_nil hJ2 (At.inBlock hJ2 (At.piece (Q := fun e f' h' => e = .normal ∧ f' = ((R26 ov p2 p3 p12 oss.length i).p 59 (vint (i + 1 : Nat))).p 53 (vint (i + 1 : Nat)) ∧ h' = hz) rfl hk (W_sound hJ2 mixed _ ?_) hm (Nat.le_refl _) ?_))
   ·rw [q17_5]
    have hf := L.few
    refine addI (by omega) ⟨rfl, ?_, rfl⟩
    rfl
   rintro e f1 h1 ⟨rfl, rfl, rfl⟩
   refine .inl ⟨rfl, At.inLoop hJ2 ?_⟩
   have := ih (i + 1) (by omega) (by omega)
   rw [List.range_succ] at this
   exact At.weak L.ok (L.regs rfl rfl rfl rfl rfl rfl rfl) rfl rfl hm this
end
theorem shape26c : subC [1, 1, 1, 1, 1, 1, 1, 1] (codeOf f17) = .seq (.seq (subC [1, 1, 1, 1, 1, 1, 1, 1, 0, 0] (codeOf f17)) (.block 4 (.loop (subC [1, 1, 1, 1, 1, 1, 1, 1, 0, 1, 0, 0] (codeOf f17))))) (subC [1, 1, 1, 1, 1, 1, 1, 1, 1] (codeOf f17)) := by kernel_rfl
theorem round26b : subC [1, 1, 1, 1, 1, 1, 1, 1, 0, 1, 0, 0] (codeOf f17) = .seq (subC [1, 1, 1, 1, 1, 1, 1, 1, 0, 1, 0, 0, 0] (codeOf f17)) (.seq (subC [1, 1, 1, 1, 1, 1, 1, 1, 0, 1, 0, 0, 1, 0] (codeOf f17)) (.seq (.block 5 (.seq (.region 23 ops17_2 false) (subC [1, 1, 1, 1, 1, 1, 1, 1, 0, 1, 0, 0, 1, 1, 0, 0, 1] (codeOf f17)))) (subC [1, 1, 1, 1, 1, 1, 1, 1, 0, 1, 0, 0, 1, 1, 1] (codeOf f17)))) := by kernel_rfl
def Q26 (ov wv : Value) (p12 n j : Nat) : RG := (((((RG.mk (fun _ => unk) []).p 11 ov).p 12 (ptr p12 0)).p 15 wv).p 64 (vint (n : Nat))).p 65 (vint (j : Nat))
theorem q26_cases (ov wv : Value) (p12 n j t : Nat) : (Q26 ov wv p12 n j).r t = unk ∨ t = 11 ∨ t = 12 ∨ t = 15 ∨ t = 64 ∨ t = 65 := by
 by_cases h : t = 11 ∨ t = 12 ∨ t = 15 ∨ t = 64 ∨ t = 65
 ·exact .inr h
 ·refine .inl ?_
  simp only [not_or] at h
  obtain ⟨h1, h2, h3, h4, h5⟩ := h
  simp [Q26, RG.p, beq_eq_false_iff_ne.2 h1, beq_eq_false_iff_ne.2 h2, beq_eq_false_iff_ne.2 h3, beq_eq_false_iff_ne.2 h4, beq_eq_false_iff_ne.2 h5]
theorem At.forget {J : JT} {N m : Nat} {b : FB} {cs : List Frame} {FC : Frm} {ρ0 : Env} {k : List Item} {f f' : RG} {h : List AObj} (hf : ∀ t, f'.r t = unk ∨ f'.r t = f.r t) (hd : f'.ds = f.ds) (h' : At J N b cs FC ρ0 m k f' h) : At J N b cs FC ρ0 m k f h := by
 intro a ρ w ft A H hu hm
 refine h' a ρ w ft ⟨fun t => ?_, A.size, by rw [hd]; exact A.defers, by rw [hd]; exact A.ok⟩ H hu hm
 rcases hf t with e | e
 ·exact .inl e
 ·rw [e]
  exact A.regs t
theorem q26_forget {ov wv : Value} {p12 n j : Nat} {f : RG} (e11 : f.r 11 = ov) (e12 : f.r 12 = ptr p12 0) (e15 : f.r 15 = wv) (ez64 : f.r 64 = vint (n : Nat)) (ez65 : f.r 65 = vint (j : Nat)) : ∀ t, (Q26 ov wv p12 n j).r t = unk ∨ (Q26 ov wv p12 n j).r t = f.r t := by
 intro t
 rcases q26_cases ov wv p12 n j t with h | rfl | rfl | rfl | rfl | rfl
 ·exact .inl h
 ·exact .inr e11.symm
 ·exact .inr e12.symm
 ·exact .inr e15.symm
 ·exact .inr ez64.symm
 ·exact .inr ez65.symm
structure Came (hz H : List AObj) (ws : List Value) : Prop where
 S : SameX [] hz H
 at_ : H[hz.length]? = some (.cells ws true 0)
 wr : ∀ i o, hz.length ≤ i → H[i]? = some o → o.wrt = true
theorem Came.more {hz H H' : List AObj} {ws ws' : List Value} {p : Nat} {l : List Value} (C : Came hz H ws) (hp : p = H.length) (S : SameX [] H H') (hl : H'.length = p + 1) (hat : H'[p]? = some (.cells l true 0)) : Came hz H' ws := by
 refine ⟨C.S.trans S, S.get C.at_ (by simp), fun i o hi ho => ?_⟩
 by_cases h : i < H.length
 ·rw [S.2 i h (by simp)] at ho
  exact C.wr i o hi ho
 ·have := lt_of_get ho
  have : i = p := by omega
  subst this
  rw [hat] at ho
  cases ho
  rfl
theorem Came.put {hz H H' : List AObj} {ws ws' l : List Value} {p : Nat} {sz : Nat} (C : Came hz H ws) (hp : hz.length ≤ p) (S : SameX [p] H H') (hl : H'.length = H.length) (hat : H'[p]? = some (.cells l true sz)) (hw : H'[hz.length]? = some (.cells ws' true 0)) : Came hz H' ws' := by
 refine ⟨C.S.thru S (by intro x hx; rw [List.mem_singleton.1 hx]; exact .inr hp), hw, fun i o hi ho => ?_⟩
 by_cases h : i = p
 ·subst h
  rw [hat] at ho
  cases ho
  rfl
 ·have := lt_of_get ho
  rw [S.2 i (by omega) (by simpa using h)] at ho
  exact C.wr i o hi ho
section
variable {ch : Nat → Option (Nat × Array Value × Bool)} {W0 : World} {Post : Value → World → Prop} {b : FB} {fs : List Frame} {FC : Frm} {ρ0 : Env} {m : Nat} {k3 : List Item} {hz : List AObj} {t : Tro} {fv cv ov : Value} {cs : List Int} {p2 p3 pc p12 lo : Nat} {cells : List Value} {o : Option Nat} {oss : List (List Nat)}
theorem recv26 (hk : b.kind ≠ .early) (L : Lent hz t fv cv ov cs p2 p3 pc p12 lo cells o oss) (hm : m ≤ hz.length) (hpm : pc < m) {wv : Value} (hwv : wv = .slice (some ⟨hz.length, 0, none⟩) oss.length oss.length)
  (hdone : ∀ H, Came hz H ((oss.map (serveW t cs)).map vint) → At (JC prog W0 Post (crew26 ch (ρ0.blk pc) t cs oss [])) 109 b fs FC ρ0 m k3 (Q26 ov wv p12 oss.length oss.length) H) :
  ∀ (d j : Nat) (pend : List Nat) (ws : List Value) (H : List AObj), d = oss.length - j → pend.length + j = oss.length → pend.Nodup → (∀ k ∈ pend, k < oss.length) → ws.length = oss.length → (∀ k os, oss[k]? = some os → k ∉ pend → ws[k]? = some (vint (serveW t cs os))) → Came hz H ws →
   At (JC prog W0 Post (crew26 ch (ρ0.blk pc) t cs oss pend)) 109 b fs FC ρ0 m (.code (subC [1, 1, 1, 1, 1, 1, 1, 1, 0, 1, 0, 0] (codeOf f17)) :: .inLoop (subC [1, 1, 1, 1, 1, 1, 1, 1, 0, 1, 0, 0] (codeOf f17)) :: .inBlock 4 :: k3) (Q26 ov wv p12 oss.length j) H := by
 intro d
 induction d with
 | zero =>
  intro j pend ws H hd hpj hnd hlt hwl hws C
  have hp : pend = [] := List.length_eq_zero_iff.1 (by omega)
  subst hp
  have hj : j = oss.length := by simpa using hpj
  subst hj
  have hmH : m ≤ H.length := Nat.le_trans hm C.S.1
  have hJ := JC.closed prog W0 Post (crew26 ch (ρ0.blk pc) t cs oss [])
  rw [round26b]
  refine At.seq hJ (At.piece (Q := fun e f' h' => e = .normal ∧ f' = (Q26 ov wv p12 oss.length oss.length).p 66 (.bool false) ∧ h' = H) rfl hk (W_sound hJ mixed _ ?_) hmH (Nat.le_refl _) ?_)
  ·rw [q17_8]
   refine lssI ⟨rfl, ?_, rfl⟩
   simp
  rintro e f' h' ⟨rfl, rfl, rfl⟩
  refine .inl ⟨rfl, At.seq hJ (At.piece (Q := fun e f' h1 => e = .exit 4 ∧ f' = (Q26 ov wv p12 oss.length oss.length).p 66 (.bool false) ∧ h1 = h') rfl hk (W_sound hJ mixed _ ?_) hmH (Nat.le_refl _) ?_)⟩
  ·rw [q17_9]
   exact cnd_false.2 ⟨rfl, rfl, rfl⟩
  rintro e f1 h1 ⟨rfl, rfl, rfl⟩
  refine .inr ⟨4, k3, rfl, by simp [exitTo], ?_⟩
  refine At.forget (q26_forget rfl rfl rfl rfl rfl) rfl (hdone h1 ?_)
  have : ws = (oss.map (serveW t cs)).map vint := by
   apply List.ext_getElem?
   intro k
   by_cases hk : k < oss.length
   ·have h0 := List.getElem?_eq_getElem hk
    rw [hws k _ h0 (by simp)]
    simp [h0]
   ·rw [List.getElem?_eq_none (by omega), List.getElem?_eq_none (by simp; omega)]
  rw [← this]
  exact C
 | succ d ih =>
  intro j pend ws H hd hpj hnd hlt hwl hws C
  have hmH : m ≤ H.length := Nat.le_trans hm C.S.1
  have hJ := JC.closed prog W0 Post (crew26 ch (ρ0.blk pc) t cs oss pend)
  rw [round26b]
  refine At.seq hJ (At.piece (Q := fun e f' h' => e = .normal ∧ f' = (Q26 ov wv p12 oss.length j).p 66 (.bool true) ∧ h' = H) rfl hk (W_sound hJ mixed _ ?_) hmH (Nat.le_refl _) ?_)
  ·rw [q17_8]
   refine lssI ⟨rfl, ?_, rfl⟩
   have : ((j : Int) < (oss.length : Int)) := by omega
   simp [this]
  rintro e f' h' ⟨rfl, rfl, rfl⟩
  refine .inl ⟨rfl, At.seq hJ (At.piece (Q := fun e f' h1 => e = .normal ∧ f' = (Q26 ov wv p12 oss.length j).p 66 (.bool true) ∧ h1 = h') rfl hk (W_sound hJ mixed _ ?_) hmH (Nat.le_refl _) ?_)⟩
  ·rw [q17_9]
   exact cnd_true.2 ⟨rfl, rfl, rfl⟩
  rintro e f1 H ⟨rfl, rfl, rfl⟩
  refine .inl ⟨rfl, At.seq hJ (At.block hJ (At.seq hJ (At.region hJ ?_)))⟩
  rw [show List.range ops17_2.size = [0, 1, 2, 3] from by rw [z17_2]; rfl]
  obtain ⟨o1, o2, o3, o4, o5⟩ := o17_2_0 (J := JC prog W0 Post (crew26 ch (ρ0.blk pc) t cs oss pend))
  obtain ⟨x1, x2, x3, x4, x5⟩ := o17_2_1 (J := JC prog W0 Post (crew26 ch (ρ0.blk pc) t cs oss pend))
  refine At.op hJ hk o1 o3 (o4 _) ?_
  rw [o5, o2]
  refine ldI (C.S.get L.h12 (by simp)) rfl rfl fun _ => ?_
  have hpne : pend ≠ [] := by rintro rfl; simp at hpj; omega
  refine At.recv hk x1 x3 (x4 _) x5 (dir := .both) (e := 80) (by kernel_rfl) (ie := (prog.info? 80).getD default) (by kernel_rfl) (z := .agg ⟨[vint 0, vint 0]⟩) (by kernel_rfl) (c := pc) rfl hpm rfl hpne fun k hkp v hv => ?_
  obtain ⟨os, hos, rfl⟩ := hv
  refine ⟨_, rfl, by simp [serveV, VOk, AOk, LOk], ?_⟩
  have hJ2 := JC.closed prog W0 Post (crew26 ch (ρ0.blk pc) t cs oss (pend.erase k))
  obtain ⟨y1, y2, y3, y4, y5⟩ := o17_2_2 (J := JC prog W0 Post (crew26 ch (ρ0.blk pc) t cs oss (pend.erase k)))
  obtain ⟨z1, z2, z3, z4, z5⟩ := o17_2_3 (J := JC prog W0 Post (crew26 ch (ρ0.blk pc) t cs oss (pend.erase k)))
  show At (JC prog W0 Post (crew26 ch (ρ0.blk pc) t cs oss (pend.erase k))) 109 b fs FC ρ0 m _ _ H
  rw [x2]
  refine At.op hJ2 hk y1 y3 (y4 _) ?_
  rw [y5, y2]
  refine qAl fun H1 p e1 S1 c1 l1 _ => ?_
  have C1 := C.more (ws' := ws) e1 S1 l1 c1
  refine At.op hJ2 hk z1 z3 (z4 _) ?_
  rw [z5, z2]
  have hkl := hlt k hkp
  refine qStA (c := [vint (k : Nat), vint (serveW t cs os)]) c1 rfl rfl rfl fun H2 S2 c2 l2 _ => ?_
  have hzl := C.S.1
  have hzp := lt_of_get C.at_
  have C2 : Came hz H2 ws := C1.put (by omega) S2 l2 c2 (S2.get C1.at_ (by simp; omega))
  refine At.ops_nil hJ2 (At.piece (Q := fun e f' h' => e = .normal ∧ f'.ds = [] ∧ (f'.r 11 = ov ∧ f'.r 12 = ptr p12 0 ∧ f'.r 15 = wv ∧ f'.r 64 = vint (oss.length : Nat) ∧ f'.r 65 = vint (j : Nat)) ∧ Came hz h' (ws.set k (vint (serveW t cs os)))) rfl hk (W_sound hJ2 mixed _ ?_) (Nat.le_trans hm C2.S.1) (Nat.le_refl _) ?_)
  ·rw [q17_10]
   refine offI (ldI (v := vint (k : Nat)) c2 rfl rfl (offI (ldI (v := vint (serveW t cs os)) c2 rfl rfl ?_)))
   show aIdx 1 wv (vint (k : Nat)) _
   rw [hwv]
   refine idxI ⟨by omega, by omega⟩ ?_
   have e0 : 0 + ((k : Nat) : Int).toNat * 1 = k := by simp
   rw [e0]
   refine qSt C2.at_ (by omega) rfl rfl fun H3 S3 c3 l3 => ⟨rfl, rfl, ⟨rfl, rfl, hwv ▸ rfl, rfl, rfl⟩, C2.put (Nat.le_refl _) S3 l3 c3 c3⟩
  rintro e f H3 ⟨rfl, ds, ⟨r11, r12, r15, r64, r65⟩, C3⟩
  have hm3 : m ≤ H3.length := Nat.le_trans hm C3.S.1
  refine .inl ⟨rfl, At.inBlock hJ2 (At.piece (Q := fun e f' h' => e = .normal ∧ f'.ds = [] ∧ (f'.r 11 = ov ∧ f'.r 12 = ptr p12 0 ∧ f'.r 15 = wv ∧ f'.r 64 = vint (oss.length : Nat) ∧ f'.r 65 = vint (j + 1 : Nat)) ∧ h' = H3) rfl hk (W_sound hJ2 mixed _ ?_) hm3 (Nat.le_refl _) ?_)⟩
  ·rw [q17_11, r65]
   have hf := L.few
   refine addI (by omega) ⟨rfl, ds, ⟨r11, r12, r15, r64, ?_⟩, rfl⟩
   rfl
  rintro e f1 h1 ⟨rfl, ds, ⟨r11, r12, r15, r64, r65⟩, rfl⟩
  refine .inl ⟨rfl, At.inLoop hJ2 (At.forget (q26_forget r11 r12 r15 r64 r65) ds.symm ?_)⟩
  have hkp' : k ∈ pend := hkp
  have hel := List.length_erase_of_mem hkp'
  have hpos := List.length_pos_of_mem hkp'
  refine ih (j + 1) (pend.erase k) _ h1 (by omega) (by omega) (hnd.erase k) (fun l hl => hlt l (List.mem_of_mem_erase hl)) (by simpa using hwl) (fun l os2 hl hn => ?_) C3
  by_cases hlk : l = k
  ·subst hlk
   rw [hos] at hl
   cases hl
   rw [List.getElem?_set_self (by omega)]
  ·rw [List.getElem?_set_ne (Ne.symm hlk)]
   exact hws l os2 hl fun y => hn ((List.mem_erase_of_ne hlk).2 y)
end
end Go.Proofs.YtmmlamfgbmnkgaaDoor
