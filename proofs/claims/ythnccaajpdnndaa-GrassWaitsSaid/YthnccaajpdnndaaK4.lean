/- Parts of the proof, 4. No conditions. -/
import Derived.Test.YthnccaajpdnndaaK3
import Derived.Test.YthnccaajpdnndaaK2
import Derived.Test.YthnccaajpdnndaaProg
import Derived.Conc.WgGenN2
import Derived.Conc.Own2
set_option linter.unusedSimpArgs false
set_option linter.unusedVariables false
namespace Go.Proofs.Ythnccaajpdnndaa
open Go.Conc
open Go.ConcR (Bk stA smA rd wr mk)
inductive KLt (P : Program) (G : Grp) : Goroutine × WkS → Goroutine × WkS → Prop where
 | step {g g' : Goroutine} {w w₁ w' : World} {ft : Foot} {es : Array Event} {b' : Bool} : RelyW ft w w₁ → stepG P false g w₁ = .go g' w' es → TW P (AtDone P G) b' g' w' (ft.ext w₁.heap.size w'.heap.size) → KLt P G (g', .way w' (ft.ext w₁.heap.size w'.heap.size) b') (g, .way w ft false)
 | sit {g g' : Goroutine} {w : World} {ft fi : Foot} {b : Bool} {s m : Nat} {v : Value} : KLt P G (g', .sit s m v fi) (g, .way w ft b)
 | less {g g' : Goroutine} {fi fi' : Foot} {s m s' m' : Nat} {v v' : Value} : s' < s ∨ (s' = s ∧ m' < m) → KLt P G (g', .sit s' m' v' fi') (g, .sit s m v fi)
 | out {g g' : Goroutine} {fi fi' : Foot} {s m n : Nat} {v : Value} : KLt P G (g', .gone n fi') (g, .sit s m v fi)
 | quit {g g' : Goroutine} {fi fi' : Foot} {n n' : Nat} : n' < n → KLt P G (g', .gone n' fi') (g, .gone n fi)
section
variable {P : Program} {G : Grp}
theorem kacc_gone : ∀ (n : Nat) (g : Goroutine) (fi : Foot), Acc (KLt P G) (g, .gone n fi) := by
 intro n
 induction n using Nat.strongRecOn with
 | ind n ih =>
  intro g fi
  refine ⟨_, fun y hy => ?_⟩
  cases hy with
  | quit h => exact ih _ h _ _
theorem kacc_sit : ∀ (s m : Nat) (v : Value) (g : Goroutine) (fi : Foot), Acc (KLt P G) (g, .sit s m v fi) := by
 intro s
 induction s using Nat.strongRecOn with
 | ind s ihs =>
  intro m
  induction m using Nat.strongRecOn with
  | ind m ihm =>
   intro v g fi
   refine ⟨_, fun y hy => ?_⟩
   cases hy with
   | less h =>
    rcases h with h | ⟨rfl, h⟩
    ·exact ihs _ h _ _ _ _
    ·exact ihm _ h _ _ _
   | out => exact kacc_gone _ _ _
theorem kacc_stop (g : Goroutine) (w : World) (ft : Foot) : Acc (KLt P G) (g, .way w ft true) :=
 ⟨_, fun y hy => by cases hy with | sit => exact kacc_sit _ _ _ _ _⟩
theorem kacc_way {g : Goroutine} {w : World} {ft : Foot} (h : Toward P (AtDone P G) g w ft) : ∀ b, TW P (AtDone P G) b g w ft → Acc (KLt P G) (g, .way w ft b) := by
 induction h with
 | stop h1 h2 =>
  intro b hb
  cases b with
  | true => exact kacc_stop _ _ _
  | false => exact absurd h2 hb.2.1
 | step h1 h2 _ ih =>
  intro b hb
  cases b with
  | true => exact kacc_stop _ _ _
  | false =>
   refine ⟨_, fun y hy => ?_⟩
   cases hy with
   | step hr hs ht => exact ih _ _ _ _ hr hs _ ht
   | sit => exact kacc_sit _ _ _ _ _
theorem TW.toward {Stop : JT} {b : Bool} {g : Goroutine} {w : World} {ft : Foot} (h : TW P Stop b g w ft) : Toward P Stop g w ft := by
 cases b with
 | true => exact .stop h.1 h.2
 | false => exact .step h.1 h.2.2.1 h.2.2.2
def noFoot : Foot := ⟨fun _ => False, fun _ => False, 0⟩
def measG (gs : Array Goroutine) (i : Nat) (q : Nat → Nat) (ws : WkS) : Nat → Goroutine × WkS := fun j =>
 if j = 0 then (default, .gone 0 noFoot) else match ws with
  | .none => (default, .gone (q j) noFoot)
  | ws => if j = i then (gs.getD j default, ws) else (default, .gone (q j) noFoot)
theorem measG_wk {gs : Array Goroutine} {i : Nat} {q : Nat → Nat} {ws : WkS} (h0 : 0 < i) (hne : ws ≠ .none) {g : Goroutine} (hg : gs[i]? = some g) : measG gs i q ws i = (g, ws) := by
 have h : ¬ i = 0 := by omega
 unfold measG
 rw [if_neg h, Array.getD_eq_getD_getElem?, hg]
 cases ws <;> first | exact absurd rfl hne | simp
theorem measG_other {gs : Array Goroutine} {i j : Nat} {q : Nat → Nat} {ws : WkS} (h0 : j ≠ 0) (hji : ws = .none ∨ j ≠ i) : measG gs i q ws j = (default, .gone (q j) noFoot) := by
 unfold measG
 rw [if_neg h0]
 cases ws <;> first | rfl | exact if_neg (hji.resolve_left (by simp))
theorem measG_zero {gs : Array Goroutine} {i : Nat} {q : Nat → Nat} {ws : WkS} : measG gs i q ws 0 = (default, .gone 0 noFoot) := if_pos rfl
end
section
variable {P : Program} {W0 : World} {Post : Value → World → Prop} {G : Grp} {g : Goroutine} {w w₁ w' : World} {ft : Foot} {gs gs' : Array Goroutine} {t : Trace} {i r : Nat} {q q' : Nat → Nat} {ws ws' : WkS} {S : Nat → Prop}
theorem GInv.acc (I : GInv P W0 G ft gs w t i r q ws S) : Acc (Less (KLt P G) gs.size) (measG gs i q ws) := by
 refine less_acc _ _ _ fun j _ => ?_
 by_cases h0 : j = 0
 ·subst h0
  rw [measG_zero]
  exact kacc_gone _ _ _
 by_cases hji : ws = .none ∨ j ≠ i
 ·rw [measG_other h0 hji]
  exact kacc_gone _ _ _
 ·have hn : ws ≠ .none := fun e => hji (.inl e)
  obtain rfl : j = i := by
   by_cases e : j = i
   ·exact e
   ·exact absurd (.inr e) hji
  cases ws with
  | none => exact absurd rfl hn
  | way wi fi b =>
   obtain ⟨g, h1, _, h3, _⟩ := I.wk
   rw [measG_wk I.ipos hn h1]
   exact kacc_way h3.toward b h3
  | sit s m v fi =>
   obtain ⟨_, _, g, h1, _⟩ := I.wk
   rw [measG_wk I.ipos hn h1]
   exact kacc_sit _ _ _ _ _
  | gone n fi =>
   obtain ⟨g, h1, _⟩ := I.wk
   rw [measG_wk I.ipos hn h1]
   exact kacc_gone _ _ _
theorem measG_less (h0 : 0 < i) (hlt : i < gs.size) (hne : ws ≠ .none) (hne' : ws' ≠ .none) {x y : Goroutine} (hx : gs[i]? = some x) (hy : gs'[i]? = some y) (h : KLt P G (y, ws') (x, ws)) : Less (KLt P G) gs.size (measG gs' i q ws') (measG gs i q ws) := by
 refine ⟨i, hlt, ?_, fun j hj => ?_⟩
 ·rw [measG_wk h0 hne hx, measG_wk h0 hne' hy]
  exact h
 ·by_cases hj0 : j = 0
  ·subst hj0
   rw [measG_zero, measG_zero]
  ·rw [measG_other hj0 (.inr hj), measG_other hj0 (.inr hj)]
theorem measG_quit {j m n : Nat} (h0 : 0 < j) (hlt : j < gs.size) (hji : ws = .none ∨ j ≠ i) (hq : q j = n) (hm : m < n) (hg : ws ≠ .none → gs'[i]? = gs[i]?) : Less (KLt P G) gs.size (measG gs' i (putAt q j m) ws) (measG gs i q ws) := by
 refine ⟨j, hlt, ?_, fun k hk => ?_⟩
 ·rw [measG_other (by omega) hji, measG_other (by omega) hji, putAt_self, hq]
  exact .quit hm
 ·by_cases hk0 : k = 0
  ·subst hk0
   rw [measG_zero, measG_zero]
  ·by_cases hki : ws = .none ∨ k ≠ i
   ·rw [measG_other hk0 hki, measG_other hk0 hki, putAt_ne _ _ hk]
   ·have hn : ws ≠ .none := fun e => hki (.inl e)
    obtain rfl : k = i := by
     by_cases e : k = i
     ·exact e
     ·exact absurd (.inr e) hki
    have e := hg hn
    unfold measG
    rw [if_neg hk0, if_neg hk0, Array.getD_eq_getD_getElem?, Array.getD_eq_getD_getElem?, e]
    cases ws <;> first | exact absurd rfl hn | simp
theorem GInv.at (I : GInv P W0 G ft gs w t i r q ws S) (d : Nat) : GInv P W0 G ft gs (w.at d) t i r q ws S where
 base := ⟨I.base.tape, I.base.os, I.base.output, I.base.size⟩
 lt := I.lt
 sub := I.sub
 nwg := I.nwg
 tagw := I.tagw
 grp := I.grp
 hears := I.hears
 ipos := I.ipos
 wk := by
  have h := I.wk
  have own : ∀ {fi}, OwnF G ft fi w t S → OwnF G ft fi (w.at d) t S := fun O => ⟨O.lt, O.sub, O.grp, O.d1, O.d2, O.sh, O.nr⟩
  cases ws with
  | none => trivial
  | way wi fi b =>
   obtain ⟨g, h1, h2, h3, h4, h5, h6⟩ := h
   exact ⟨g, h1, h2, h3, h4.trans (relyW_at fi w d), own h5, h6⟩
  | sit s m v fi =>
   obtain ⟨a, b, g, h1, h2, h3, h4, h5, h6⟩ := h
   exact ⟨a, b, g, h1, h2.rely (@ConcN.RW.at ⟨0⟩ _ _ _ _ _ _ w d), own h3, h4, G.keep w _ _ (fun _ _ => rfl) h5, h6⟩
  | gone n fi =>
   obtain ⟨g, h1, h2, h3, h4, h5⟩ := h
   exact ⟨g, h1, h2, own h3, G.keep w _ _ (fun _ _ => rfl) h4, h5⟩
 old := I.old
 above := I.above
 clean := I.clean
 known := I.known
 done := I.done
 over := I.over
 quiet := I.quiet
 late := I.late
 seen := I.seen
 shun := I.shun
 norel := I.norel
 acq := I.acq
theorem GInv.stage {s m : Nat} {v : Value} {fi : Foot} (I : GInv P W0 G ft gs w t i r q (.sit s m v fi) S) (h6 : s ≤ 6) {x g' : Goroutine} {es : Array Event} (hx : gs[i]? = some x) (A : Aside G.wg w w') {st' sm' : Int} (hat : G.at_ w' st' sm') (hbk : ∀ e ∈ es, Bk G.wg e)
  (hd : ∀ j e, es[j]? = some e → (MemAct.ofEvent e).touch? = none ∨ 0 < deafBehind (Deaf t i) (es.extract 0 j)) (hph : Phase (ft.tag % 32) ws'.stage st' sm')
  (hws : (∃ s' m', ws' = .sit s' m' v fi ∧ 2 ≤ s' ∧ s' ≤ 6 ∧ G.sit P v s' m' (deafBehind (Deaf t i) es) g' w') ∨ ∃ n, ws' = .gone n fi ∧ QuitsD P n (deafBehind (Deaf t i) es) g') :
  GInv P W0 G ft ((gs.map (woken P x g' w')).setIfInBounds i g') w' (t ++ MemOp.ofEvents i x.frame.fn x.frame.place es) i r q ws' S := by
 obtain ⟨h2, _, y, h1, hsit, O, hF, hphi, hrel⟩ := I.wk
 have hrel' := ConcN.RelBy.book (hrel h6) rfl x.frame.fn x.frame.place hbk hd
 have hst : ws'.stage ≤ 6 := by
  rcases hws with ⟨s', m', rfl, _, h, _⟩ | ⟨n, rfl, _⟩
  ·exact h
  ·show 1 ≤ 6
   omega
 have hne' : ws' ≠ .none := by rcases hws with ⟨s', m', rfl, _⟩ | ⟨n, rfl, _⟩ <;> simp
 have O' : OwnF G ft fi w' (t ++ MemOp.ofEvents i x.frame.fn x.frame.place es) S := O.app (Nat.le_of_eq A.size.symm) (bk_norel hbk)
 have hphi' : G.phi w' fi := G.keep _ _ _ (fun b hb => A.block b fun e => O.grp (e ▸ hb)) hphi
 refine I.turn (by simp) hne' hx A.size A.tape A.os A.output (fun e he => .inl (hbk e he)) (.inl ⟨rfl, fun _ => h6⟩) (fun _ => rfl) hat hph ?_
 rcases hws with ⟨s', m', rfl, a, b, c⟩ | ⟨n, rfl, c⟩
 ·exact ⟨a, by omega, g', moved_own hx, by rw [Deaf_own]; exact .inr ⟨b, c⟩, O', hF, hphi', fun _ => hrel'⟩
 ·exact ⟨g', moved_own hx, by rw [Deaf_own]; exact c, O', hphi', hrel'⟩
theorem GInv.arrive {wi : World} {fi : Foot} (I : GInv P W0 G ft gs w t i r q (.way wi fi true) S) : ∃ m v, GInv P W0 G ft gs w t i r q (.sit 7 m v fi) S := by
 obtain ⟨y, h1, hdf, h3, hr, O, hkn⟩ := I.wk
 obtain ⟨_, hF, hphi, v, hv, hall⟩ := h3.2 w hr
 obtain ⟨st, sm, hat, hph⟩ := I.grp
 obtain ⟨m, hg⟩ := hall w ⟨st, sm, hat⟩ hv
 refine ⟨m, v, { base := I.base, lt := I.lt, sub := I.sub, nwg := I.nwg, tagw := I.tagw, grp := ⟨st, sm, hat, ?_⟩, hears := I.hears, ipos := I.ipos, wk := ⟨by omega, by omega, y, h1, .inl ⟨rfl, hdf, hg⟩, O, hF, hphi, fun e => by omega⟩, old := fun j g hj hg hn => I.old j g hj hg (.inr (hn.resolve_left (by simp))), above := I.above, clean := I.clean, known := I.known, done := fun j a ha hm => (I.done j a ha hm).imp id fun h => h.imp (fun h => ⟨by simp, h.2⟩) id, over := fun j x h1 h2 h3 => (I.over j x h1 h2 h3).imp id fun h => ⟨by simp, h.2⟩, quiet := fun j a ha hb hk => ⟨(I.quiet j a ha hb hk).1, fun hp _ => (I.quiet j a ha hb hk).2 hp (by simp)⟩, late := fun _ _ _ _ _ h => ?_, seen := I.seen, shun := I.shun, norel := I.norel, acq := I.acq }⟩
 ·have h8 : WkS.stage (.way wi fi true) = 8 := rfl
  rw [h8] at hph
  generalize ft.tag % 32 = x at hph
  show Phase x 7 st sm
  cases hph with
  | run a b _ _ => exact .run a b (by omega) (by omega)
  | reg _ _ => exact .reg (by omega) (by omega)
  | low h => omega
 ·have : (7 : Nat) ≤ 6 := h
  omega
theorem GInv.seven {m : Nat} {v : Value} {fi : Foot} (I : GInv P W0 G ft gs w t i r q (.sit 7 m v fi) S) {x : Goroutine} (hx : gs[i]? = some x) : ∃ g' es r' s' m', stepG P false x w = .go g' w es ∧ ((s' = 7 ∧ m' < m) ∨ s' = 6) ∧
  GInv P W0 G ft ((gs.map (woken P x g' w)).setIfInBounds i g') w (t ++ MemOp.ofEvents i x.frame.fn x.frame.place es) i r' q (.sit s' m' v fi) S := by
 letI pl : ConcR.Payload := ⟨0⟩
 obtain ⟨_, _, y, h1, hs, O, hF, hphi, _⟩ := I.wk
 rw [hx] at h1
 cases h1
 obtain ⟨_, hdf, hgo⟩ := hs.resolve_right fun h => by omega
 obtain ⟨st, sm, hat, hph⟩ := I.grp
 have hph : Phase (ft.tag % 32) 7 st sm := hph
 rcases Goes.cases hgo with hstop | ⟨m', rfl, hstep⟩
 ·obtain ⟨_, g', hst, m', hs'⟩ := hstop w (ConcN.RW.refl w)
  have hbk : ∀ e ∈ #[Go.ConcR.mk (.releaseMerge (stA G.wg))], Bk2 G.wg e := fun e he => .inr (by simpa using he)
  have hph' : Phase (ft.tag % 32) 6 st sm := by
   generalize hx : ft.tag % 32 = x at hph
   cases hph with
   | run a b _ _ => exact .run a b (by omega) (by omega)
   | reg _ _ => exact .reg (by omega) (by omega)
   | low h => omega
  refine ⟨g', _, t.size, 6, m', hst, .inr rfl, I.turn (by simp) (by simp) hx rfl rfl rfl rfl hbk (.inr rfl) (fun h12 => ?_) hat hph' ⟨by omega, by omega, g', moved_own hx, ?_, O.app (Nat.le_refl _) (bk2_norel hbk), hF, hphi, fun _ => ConcN.RelBy.new hdf _ _⟩⟩
  ·exfalso
   rw [h12] at hph
   cases hph with
   | run _ h _ _ => omega
  ·rw [Deaf_own, hdf]
   exact .inr ⟨by omega, hs'⟩
 ·obtain ⟨g', w', es, hst, ⟨rfl, rfl⟩, hg'⟩ := hstep w (ConcN.RW.refl w)
  refine ⟨g', #[], r, 7, m', hst, .inl ⟨rfl, by omega⟩, I.turn (by simp) (by simp) hx rfl rfl rfl rfl (by simp) (.inl ⟨rfl, fun h => h⟩) (fun _ => rfl) hat hph ⟨by omega, by omega, g', moved_own hx, ?_, O.app (Nat.le_refl _) (bk_norel (Wg := 0) (by simp)), hF, hphi, fun e => by omega⟩⟩
  rw [Deaf_own, hdf]
  exact .inl ⟨rfl, rfl, hg'⟩
end
end Go.Proofs.Ythnccaajpdnndaa
namespace Go.Proofs.Ythnccaajpdnndaa
open Go.Conc
open Go.ConcR (Bk stA smA rd wr mk KK)
section
variable {x s : Nat} {st sm : Int}
theorem Phase.counted (h : Phase x s st sm) (h5 : 5 ≤ s) (h8 : s ≤ 8) : sm = 0 ∧ ((5 ≤ x ∧ x ≤ 7 ∧ st = 4294967296) ∨ (x = 9 ∧ st = 4294967297)) := by
 cases h with
 | opened _ => omega
 | added _ => omega
 | run a b _ _ => exact ⟨rfl, .inl ⟨a, b, rfl⟩⟩
 | out _ _ _ => omega
 | reg _ _ => exact ⟨rfl, .inr ⟨rfl, rfl⟩⟩
 | low h => omega
 | last => omega
 | freed => omega
theorem Phase.lows (h : Phase x s st sm) (h3 : s = 4 ∨ s = 3) : x = 9 ∧ st = 1 ∧ sm = 0 := by
 cases h with
 | opened _ => omega
 | added _ => omega
 | run a b _ _ => omega
 | out _ _ _ => omega
 | reg _ _ => omega
 | low h => exact ⟨rfl, rfl, rfl⟩
 | last => omega
 | freed => omega
theorem Phase.two (h : Phase x 2 st sm) : x = 9 ∧ st = 0 ∧ sm = 0 := by
 cases h with
 | run a b _ _ => omega
 | reg _ _ => omega
 | low h => omega
 | last => exact ⟨rfl, rfl, rfl⟩
theorem Phase.same {s' : Nat} (h : Phase x s st sm) (h5 : 5 ≤ s) (h8 : s ≤ 8) (h5' : 5 ≤ s') (h8' : s' ≤ 8) : Phase x s' st sm := by
 obtain ⟨rfl, ⟨a, b, rfl⟩ | ⟨rfl, rfl⟩⟩ := h.counted h5 h8
 ·exact .run a b h5' h8'
 ·exact .reg h5' h8'
end
section
variable {P : Program} {W0 : World} {Post : Value → World → Prop} {G : Grp} {g g0 : Goroutine} {w w₁ w' : World} {ft : Foot} {gs gs' : Array Goroutine} {t : Trace} {i r : Nat} {q q' : Nat → Nat} {ws ws' : WkS} {S : Nat → Prop} {sl : Option (Nat × Nat)}
theorem rely_aside (A : Aside G.wg w w') (hn : ¬ ft.rd G.wg) : RelyW ft w w' := ⟨fun b hb => A.block b fun e => hn (e ▸ hb), Nat.le_of_eq A.size.symm, A.tape, A.os, A.output⟩
def Moves (P : Program) (W0 : World) (G : Grp) (ft : Foot) (gs : Array Goroutine) (w : World) (t : Trace) (i : Nat) (q : Nat → Nat) (ws : WkS) (S : Nat → Prop) (j : Nat) (x : Goroutine) : Prop :=
 ∃ (g' : Goroutine) (w' : World) (es : Array Event) (r' : Nat) (q' : Nat → Nat) (ws' : WkS), stepG P false x w = .go g' w' es ∧ RelyW ft w w' ∧
  GInv P W0 G ft ((gs.map (woken P x g' w')).setIfInBounds j g') w' (t ++ MemOp.ofEvents j x.frame.fn x.frame.place es) i r' q' ws' S ∧
  Less (KLt P G) gs.size (measG ((gs.map (woken P x g' w')).setIfInBounds j g') i q' ws') (measG gs i q ws) ∧ (ft.tag % 32 = 9 → ws.stage ≠ 1 → ws'.stage = 1 → mayWake P x = true ∧ g'.status = .running)
theorem bk_rw2 (wg : Nat) : ∀ e ∈ #[rd (stA wg), wr (stA wg)], Bk wg e := by
 intro e he
 simp at he
 rcases he with rfl | rfl <;> exact ConcN.bk_cell _ _ rfl
theorem df_rw2 (wg : Nat) : ∀ j e, (#[rd (stA wg), wr (stA wg)] : Array Event)[j]? = some e → (MemAct.ofEvent e).touch? = none ∨ 0 < deafBehind 1 ((#[rd (stA wg), wr (stA wg)] : Array Event).extract 0 j) := by
 intro j e he
 match j, he with
 | 0, _ => exact .inr (by simp [deafBehind])
 | 1, _ => exact .inr (by simp [deafBehind, rd])
 | j + 2, he => simp at he
set_option maxHeartbeats 1600000 in
theorem GInv.sits {s m : Nat} {v : Value} {fi : Foot} (I : GInv P W0 G ft gs w t i r q (.sit s m v fi) S) (h6 : s ≤ 6) {x : Goroutine} (hx : gs[i]? = some x) (_hrun : x.status = .running) : Moves P W0 G ft gs w t i q (.sit s m v fi) S i x := by
 letI pl : ConcR.Payload := ⟨0⟩
 obtain ⟨h2, _, y, h1, hsit, O, hF, hphi, hrel⟩ := I.wk
 have hsit := (hsit.resolve_left fun h => by omega).2
 rw [hx] at h1
 cases h1
 obtain ⟨st, sm, hat, hph⟩ := I.grp
 have hph : Phase (ft.tag % 32) s st sm := hph
 have hlt : i < gs.size := (Array.getElem?_eq_some_iff.1 hx).1
 -- from a step to the move
 have fin : ∀ {g' : Goroutine} {w' : World} {es : Array Event} {st' sm' : Int} {ws' : WkS}, stepG P false x w = .go g' w' es → Aside G.wg w w' → G.at_ w' st' sm' → (∀ e ∈ es, Bk G.wg e) →
   (∀ j e, es[j]? = some e → (MemAct.ofEvent e).touch? = none ∨ 0 < deafBehind (Deaf t i) (es.extract 0 j)) → Phase (ft.tag % 32) ws'.stage st' sm' →
   ((∃ s' m', ws' = .sit s' m' v fi ∧ 2 ≤ s' ∧ s' ≤ 6 ∧ G.sit P v s' m' (deafBehind (Deaf t i) es) g' w' ∧ (s' < s ∨ (s' = s ∧ m' < m))) ∨ ∃ n, ws' = .gone n fi ∧ QuitsD P n (deafBehind (Deaf t i) es) g' ∧ (ft.tag % 32 = 9 → mayWake P x = true ∧ g'.status = .running)) → Moves P W0 G ft gs w t i q (.sit s m v fi) S i x := by
  intro g' w' es st' sm' ws' hgo A hat' hbk hd hph' hws
  have hI := I.stage h6 hx A hat' hbk hd hph' (hws.imp (fun ⟨s', m', a, b, c, d, _⟩ => ⟨s', m', a, b, c, d⟩) fun ⟨n, a, b, _⟩ => ⟨n, a, b⟩)
  refine ⟨g', w', es, r, q, ws', hgo, rely_aside A I.nwg, hI, ?_, ?_⟩
  ·rcases hws with ⟨s', m', rfl, _, _, _, hl⟩ | ⟨n, rfl, _⟩
   ·exact measG_less I.ipos hlt (by simp) (by simp) hx (moved_own hx) (.less hl)
   ·exact measG_less I.ipos hlt (by simp) (by simp) hx (moved_own hx) .out
  ·intro h9 _ h1'
   rcases hws with ⟨s', m', rfl, h2', _⟩ | ⟨n, rfl, _, hw⟩
   ·have : s' = 1 := h1'
    omega
   ·exact hw h9
 generalize hdd : Deaf t i = d at hsit fin
 have idle : ∀ {g' : Goroutine} {m' : Nat}, stepG P false x w = .go g' w #[] → G.sit P v s m' d g' w → m' + 1 = m → Moves P W0 G ft gs w t i q (.sit s m v fi) S i x := fun {g' m'} hgo hs hm =>
  fin hgo (.refl _ _) hat (by simp) (by simp) (ws' := .sit s m' v fi) hph (.inl ⟨s, m', rfl, h2, h6, by simpa [deafBehind] using hs, .inr ⟨rfl, by omega⟩⟩)
 have one : ∀ (e : Event) (j : Nat) (x : Event), (#[e] : Array Event)[j]? = some x → x = e := fun e j x h => by
  cases j with
  | zero => simpa using h.symm
  | succ j => simp at h
 cases hsit with
 | k1 h =>
  rcases Goes.cases h with hstop | ⟨m', rfl, hstep⟩
  ·obtain ⟨_, g', hgo, m₂, hk⟩ := hstop w (ConcN.RW.refl w)
   refine fin hgo (.refl _ _) hat (fun e he => by simp at he; subst he; exact .inl rfl) (fun j e he => .inl (by rw [one _ j e he]; rfl)) (ws' := .sit 5 m₂ v fi) (show Phase (ft.tag % 32) 5 st sm from hph.same (by omega) (by omega) (by omega) (by omega)) (.inl ⟨5, m₂, rfl, by omega, by omega, ?_, .inl (by omega)⟩)
   exact .d1 hk
  ·obtain ⟨g', w', es, hgo, ⟨rfl, rfl⟩, hg'⟩ := hstep w (ConcN.RW.refl w)
   exact idle hgo (.k1 hg') rfl
 | d1 h =>
  rcases Goes.cases h with hstop | ⟨m', rfl, hstep⟩
  ·obtain ⟨_, hall⟩ := hstop w (ConcN.RW.refl w)
   obtain ⟨rfl, hc⟩ := hph.counted (by omega) (by omega)
   rcases hc with ⟨x5, x7, rfl⟩ | ⟨x9, rfl⟩
   ·obtain ⟨g', hgo, _, hq⟩ := hall 0 0 (by omega) (by omega) (by
     have e : ((0 : Nat) + 1 : Int) * KK + ((0 : Nat) : Int) = 4294967296 := by decide
     rw [e]
     exact hat)
    obtain ⟨n, hq⟩ := hq (by simp)
    refine fin hgo (aside_setCell w (stA G.wg) _) (st' := 0) (sm' := 0) (Go.ConcR.WgAt.setSt hat _) (bk_rw2 _) (df_rw2 _) (ws' := .gone n fi) (.out x5 (by omega) (by omega)) (.inr ⟨n, rfl, ?_, fun e => by omega⟩)
    exact hq
   ·obtain ⟨g', hgo, hl, _⟩ := hall 0 1 (by omega) (by omega) (by
     have e : ((0 : Nat) + 1 : Int) * KK + ((1 : Nat) : Int) = 4294967297 := by decide
     rw [e]
     exact hat)
    obtain ⟨m₂, hk⟩ := hl ⟨rfl, rfl⟩
    refine fin hgo (aside_setCell w (stA G.wg) _) (st' := 1) (sm' := 0) (Go.ConcR.WgAt.setSt hat _) (bk_rw2 _) (df_rw2 _) (ws' := .sit 4 m₂ v fi) (by rw [x9]; exact .low (.inl rfl)) (.inl ⟨4, m₂, rfl, by omega, by omega, ?_, .inl (by omega)⟩)
    exact .d2 hk
  ·obtain ⟨g', w', es, hgo, ⟨rfl, rfl⟩, hg'⟩ := hstep w (ConcN.RW.refl w)
   exact idle hgo (.d1 hg') rfl
 | d2 h =>
  rcases Goes.cases h with hstop | ⟨m', rfl, hstep⟩
  ·obtain ⟨_, hall⟩ := hstop w (ConcN.RW.refl w)
   obtain ⟨x9, rfl, rfl⟩ := hph.lows (.inl rfl)
   obtain ⟨g', hgo, m₂, hk⟩ := hall hat
   refine fin hgo (.refl _ _) hat (fun e he => by simp at he; subst he; exact ConcN.bk_cell _ _ rfl) (fun j e he => ?_) (ws' := .sit 3 m₂ v fi) (by rw [x9]; exact .low (.inr rfl)) (.inl ⟨3, m₂, rfl, by omega, by omega, ?_, .inl (by omega)⟩)
   ·match j, he with
    | 0, _ => exact .inr (by simp [deafBehind])
    | j + 1, he => simp at he
   ·exact .d3 hk
  ·obtain ⟨g', w', es, hgo, ⟨rfl, rfl⟩, hg'⟩ := hstep w (ConcN.RW.refl w)
   exact idle hgo (.d2 hg') rfl
 | d3 h =>
  rcases Goes.cases h with hstop | ⟨m', rfl, hstep⟩
  ·obtain ⟨_, hall⟩ := hstop w (ConcN.RW.refl w)
   obtain ⟨x9, rfl, rfl⟩ := hph.lows (.inr rfl)
   obtain ⟨g', hgo, m₂, hk⟩ := hall hat
   refine fin hgo (aside_setCell w (stA G.wg) _) (st' := 0) (sm' := 0) (Go.ConcR.WgAt.setSt hat _) (fun e he => by simp at he; subst he; exact ConcN.bk_cell _ _ rfl) (fun j e he => ?_) (ws' := .sit 2 m₂ v fi) (by rw [x9]; exact .last) (.inl ⟨2, m₂, rfl, by omega, by omega, ?_, .inl (by omega)⟩)
   ·match j, he with
    | 0, _ => exact .inr (by simp [deafBehind])
    | j + 1, he => simp at he
   ·exact .d4 hk
  ·obtain ⟨g', w', es, hgo, ⟨rfl, rfl⟩, hg'⟩ := hstep w (ConcN.RW.refl w)
   exact idle hgo (.d3 hg') rfl
 | d4 h =>
  rcases Goes.cases h with hstop | ⟨m', rfl, hstep⟩
  ·obtain ⟨_, hmw, hall⟩ := hstop w (ConcN.RW.refl w)
   obtain ⟨x9, rfl, rfl⟩ := hph.two
   obtain ⟨g', hgo, n, hq⟩ := hall hat
   have hrun' : g'.status = .running := by
    cases n with
    | zero => exact absurd hq.2 (by decide)
    | succ n => exact hq.elim (fun x => absurd x.2 (by decide)) (fun x => x.1)
   refine fin hgo (aside_setCell w (smA G.wg) _) (st' := 0) (sm' := 1) (Go.ConcR.WgAt.setSm hat _) (fun e he => ?_) (fun j e he => ?_) (ws' := .gone n fi) (by rw [x9]; exact .freed) (.inr ⟨n, rfl, ?_, fun _ => ⟨hmw, hrun'⟩⟩)
   ·simp [semEvents] at he
    rcases he with rfl | rfl | rfl | rfl
    ·exact .inl rfl
    ·exact ConcN.bk_cell _ _ rfl
    ·exact ConcN.bk_cell _ _ rfl
    ·exact .inr (.inl rfl)
   ·match j, he with
    | 0, he => simp [semEvents] at he; subst he; exact .inl rfl
    | 1, _ => exact .inr (by simp [deafBehind, semEvents])
    | 2, _ => exact .inr (by simp [deafBehind, semEvents])
    | 3, he => simp [semEvents] at he; subst he; exact .inl rfl
    | j + 4, he => simp [semEvents] at he
   ·simpa [deafBehind, semEvents] using hq
  ·obtain ⟨g', w', es, hgo, ⟨rfl, rfl⟩, hg'⟩ := hstep w (ConcN.RW.refl w)
   exact idle hgo (.d4 hg') rfl
 | r0 h => omega
 | quit h => omega
theorem GInv.other (I : GInv P W0 G ft gs w t i r q ws S) {j : Nat} {x : Goroutine} (hpos : 0 < j) (hx : gs[j]? = some x) (hrun : x.status = .running) : Moves P W0 G ft gs w t i q ws S j x := by
 have hlt : j < gs.size := (Array.getElem?_eq_some_iff.1 hx).1
 by_cases hji : ws = .none ∨ j ≠ i
 ·have hq := I.old j x hpos hx hji
  cases hqj : q j with
  | zero => rw [hqj] at hq; rw [hq.1] at hrun; cases hrun
  | succ m =>
   rw [hqj] at hq
   rcases hq with ⟨hf, _⟩ | ⟨_, g', es, hmu, hst, hq'⟩
   ·rw [hf] at hrun; cases hrun
   have hI := I.quit hpos hx hji hmu hq'
   refine ⟨g', w, es, r, putAt q j m, ws, hst w, RelyW.refl _ _, hI, measG_quit hpos hlt hji hqj (Nat.lt_succ_self m) fun hn => ?_, fun _ h1 h2 => absurd h2 h1⟩
   have hne := hji.resolve_left hn
   cases ws with
   | none => exact absurd rfl hn
   | way wi fi b =>
    obtain ⟨y, h1, _, h3, _⟩ := I.wk
    rw [h1]
    exact moved_put hne h1 (woken_run h3.1)
   | sit s m v fi =>
    obtain ⟨_, _, y, h1, h3, _⟩ := I.wk
    rw [h1]
    exact moved_put hne h1 (h3.woken _ _ _)
   | gone n fi =>
    obtain ⟨y, h1, h3, _⟩ := I.wk
    rw [h1]
    exact moved_put hne h1 (woken_quitsD h3)
 ·have hn : ws ≠ .none := fun e => hji (.inl e)
  obtain rfl : j = i := by
   by_cases e : j = i
   ·exact e
   ·exact absurd (.inr e) hji
  cases ws with
  | none => exact absurd rfl hn
  | way wi fi b =>
   obtain ⟨y, h1, hdf, h3, hr, O, hkn⟩ := I.wk
   rw [hx] at h1
   cases h1
   cases b with
   | true =>
    obtain ⟨m, v, I7⟩ := I.arrive
    obtain ⟨g', es, r', s', m', hgo, hl, hI⟩ := I7.seven hx
    exact ⟨g', w, es, r', q, _, hgo, RelyW.refl _ _, hI, measG_less hpos hlt (by simp) (by simp) hx (moved_own hx) .sit, fun _ _ h => by
     have : s' = 1 := h
     omega⟩
   | false =>
    obtain ⟨_, _, hst, hto⟩ := h3
    obtain ⟨g', w', es, hgo, hr', hgu⟩ := hst w hr
    have ht := hto w g' w' es hr hgo
    obtain ⟨b', hb'⟩ := toward_tw ht
    have hI := I.walk hx hgu hb'
    refine ⟨g', w', es, r, q, _, hgo, ⟨fun b hb => hgu.heap b (I.lt b hb) fun hw => O.d1 b hw hb, hgu.size, hgu.tape, hgu.os, hgu.output⟩, hI, measG_less hpos hlt (by simp) (by simp) hx (moved_own hx) (.step hr hgo hb'), fun _ _ h => by cases h⟩
  | sit s m v fi =>
   by_cases h6 : s ≤ 6
   ·exact I.sits h6 hx hrun
   ·have h7 := I.wk.2.1
    obtain rfl : s = 7 := by omega
    obtain ⟨g', es, r', s', m', hgo, hl, hI⟩ := I.seven hx
    exact ⟨g', w, es, r', q, _, hgo, RelyW.refl _ _, hI, measG_less hpos hlt (by simp) (by simp) hx (moved_own hx) (.less (by omega)), fun _ _ h => by
     have : s' = 1 := h
     omega⟩
  | gone n fi =>
   obtain ⟨y, h1, hq, O, hphi, hrel⟩ := I.wk
   rw [hx] at h1
   cases h1
   cases n with
   | zero => rw [hq.1] at hrun; cases hrun
   | succ m =>
    rcases hq with ⟨hf, _⟩ | ⟨_, g', es, hmu, hst, hq'⟩
    ·rw [hf] at hrun; cases hrun
    have hbk : ∀ e ∈ es, Bk G.wg e := fun e he => Go.ConcR.bk_of_mute (hmu e he)
    obtain ⟨st, sm, hat, hph⟩ := I.grp
    have hI := I.turn (by simp) (ws' := .gone m fi) (by simp) hx rfl rfl rfl rfl (fun e he => .inl (hbk e he)) (.inl ⟨rfl, fun _ => (by show 1 ≤ 6; omega)⟩) (fun _ => rfl) hat hph
     ⟨g', moved_own hx, by rw [Deaf_own]; exact hq', O.app (Nat.le_refl _) (bk_norel hbk), hphi, ConcN.RelBy.book hrel rfl _ _ hbk fun k e he => .inl (touch_mute (hmu e (Array.mem_of_getElem? he)))⟩
    exact ⟨g', w, es, r, q, .gone m fi, hst w, RelyW.refl _ _, hI, measG_less hpos hlt (by simp) (by simp) hx (moved_own hx) (.quit (Nat.lt_succ_self m)), fun _ h _ => absurd rfl h⟩
theorem GInv.awake (I : GInv P W0 G ft gs w t i r q ws S) (h0 : gs[0]? = some g0) (hm : g0.status = .running ∨ g0.status = .blocked) : ∀ g ∈ gs, awake g := by
 intro y hy
 obtain ⟨j, hj, rfl⟩ := Array.mem_iff_getElem.1 hy
 have hg : gs[j]? = some gs[j] := Array.getElem?_eq_getElem hj
 rcases Nat.eq_zero_or_pos j with rfl | hpos
 ·have : gs[0] = g0 := by rw [hg] at h0; exact Option.some.inj h0
  rw [this]
  exact awake_of (hm.imp id .inl)
 ·by_cases hji : ws = .none ∨ j ≠ i
  ·exact awake_of ((I.old j _ hpos hg hji).status.elim .inl fun x => .inr (.inr x))
  ·have hn : ws ≠ .none := fun e => hji (.inl e)
   obtain rfl : j = i := by
    by_cases e : j = i
    ·exact e
    ·exact absurd (.inr e) hji
   cases ws with
   | none => exact absurd rfl hn
   | way wi fi b =>
    obtain ⟨y, h1, _, h3, _⟩ := I.wk
    rw [hg] at h1
    cases h1
    exact awake_of (.inl h3.1)
   | sit s m v fi =>
    obtain ⟨_, _, y, h1, h3, _⟩ := I.wk
    rw [hg] at h1
    cases h1
    exact awake_of (h3.status.elim .inl fun x => .inr (.inr x))
   | gone n fi =>
    obtain ⟨y, h1, h3, _⟩ := I.wk
    rw [hg] at h1
    cases h1
    exact awake_of (h3.status.elim .inl fun x => .inr (.inr x))
theorem JG.main (hrun : g.status = .running) (h : ∀ gs w₁ sl t i r q ws S, RelyW ft w w₁ → gs[0]? = some g → GInv P W0 G ft gs w₁ t i r q ws S → ∃ m' ops, runT P (crowd gs w₁ sl) 0 = (.next m', ops) ∧ Ends P Post m' (t ++ ops)) : JG P W0 Post G g w ft := by
 intro gs w₁ sl t i r q ws S hrel h0 I
 have hacc := I.acc
 generalize hM : measG gs i q ws = M at hacc
 generalize hn : gs.size = n at hacc
 induction hacc generalizing gs w₁ sl t r q ws with
 | intro M _ ih =>
  obtain ⟨j, x, d, sl', hj, hx, hst⟩ := crowd_pick (P := P) (w := w₁) (sl := sl) (I.awake h0 (.inl hrun)) ⟨0, g, h0, hrun⟩
  rcases Nat.eq_zero_or_pos j with rfl | hpos
  ·obtain rfl : x = g := by rw [h0] at hj; exact (Option.some.inj hj).symm
   obtain ⟨m', ops, hr, he⟩ := h gs (w₁.at d) sl' t i r q ws S (hrel.trans (relyW_at ft w₁ d)) h0 (I.at d)
   exact Ends.next (hst.trans hr) he
  ·have hj0 : (j == 0) = false := by simp; omega
   obtain ⟨g', w', es, r', q', ws', hgo, hrel', I', hl, _⟩ := (I.at d).other hpos hj hx
   subst hM hn
   refine Ends.next (hst.trans (runT_crowd_go (P := P) (sl := sl') hj (by rw [hj0]; exact hgo))) (ih _ hl _ w' sl' _ r' q' ws' ((hrel.trans (relyW_at ft w₁ d)).trans hrel') ?_ I' rfl (by simp))
   exact moved_put (by omega) h0 (woken_run hrun)
theorem GInv.main (I : GInv P W0 G ft gs w t i r q ws S) (_h0 : gs[0]? = some g) {g' : Goroutine} {es : Array Event} (hgu : GuarW ft w w' es) :
  GInv P W0 G (ft.ext w.heap.size w'.heap.size) ((gs.map (woken P g g' w')).setIfInBounds 0 g') w' (t ++ MemOp.ofEvents 0 g.frame.fn g.frame.place es) i r q ws S := by
 letI pl : ConcR.Payload := ⟨0⟩
 have hsz := hgu.size
 have hdf := fun j => deaf_evs (t := t) (i := 0) (fn := g.frame.fn) (pos := g.frame.place) hgu.evs I.lt j
 obtain ⟨st, sm, hat, hph⟩ := I.grp
 have hwl := at_lt hat
 have hi0 : (0 : Nat) ≠ i := Nat.ne_of_lt I.ipos
 have hwe : w'.heap[G.wg]? = w.heap[G.wg]? := hgu.heap _ hwl fun hw => I.nwg (I.sub _ hw)
 have own : ∀ {fi : Foot}, OwnF G ft fi w t S → OwnF G (ft.ext w.heap.size w'.heap.size) fi w' (t ++ MemOp.ofEvents 0 g.frame.fn g.frame.place es) S := fun {fi} O => by
  refine ⟨fun b hb => Nat.lt_of_lt_of_le (O.lt b hb) hsz, O.sub, O.grp, fun b hb hr => ?_, fun b hb hr => ?_, O.sh, fun a ha => (O.nr a ha).app (ok_norel hgu.evs a)⟩
  ·rcases hr with hr | hr
   ·exact O.d1 b hb hr
   ·have := O.lt b (O.sub b hb)
    omega
  ·rcases hb with hb | hb
   ·exact O.d2 b hb hr
   ·have := O.lt b hr
    omega
 have heq : ∀ {fi : Foot}, OwnF G ft fi w t S → ∀ b, fi.rd b → w'.heap[b]? = w.heap[b]? := fun O b hb => hgu.heap b (O.lt b hb) fun hw => O.d2 b hw hb
 have nw : ∀ {op : MemOp} {a : Touch}, op ∈ MemOp.ofEvents 0 g.frame.fn g.frame.place es → op.act.touch? = some a → locBlk a.loc ≠ some G.wg := fun hop ha e => by
  obtain ⟨ev, he, rfl⟩ := Go.Conc.mem_ofEvents hop
  obtain ⟨bl, e1, e2, _⟩ := evOk_touch (hgu.evs ev he) ha
  rw [e1] at e
  cases e
  exact I.nwg e2
 refine { base := ⟨hgu.tape.trans I.base.tape, hgu.os.trans I.base.os, hgu.output.trans I.base.output, Nat.le_trans I.base.size hsz⟩, lt := fun b hb => ?_, sub := fun b hb => ?_, nwg := fun hr => ?_, tagw := I.tagw, grp := ⟨st, sm, at_of_block hat hwe, hph⟩, hears := by rw [hdf]; exact I.hears, ipos := I.ipos, wk := ?_, old := fun j y hj hy hnj => ?_, above := fun j hj => ?_, clean := fun said => I.known.noRace (I.clean said) hgu.evs, known := I.known.own hgu.evs I.seen, done := fun j a ha hm => ?_, over := over_app I.over fun op hop => .inr (.inl (mem_g hop)), quiet := fun j a ha hb hk => ?_, late := fun j a hj hg ha hs => ?_, seen := ?_, shun := fun b hS => ⟨fun hr => ?_, Nat.lt_of_lt_of_le (I.shun b hS).2.1 hsz, (I.shun b hS).2.2⟩, norel := fun a ha => ?_, acq := fun h => (I.acq h).app _ }
 ·rcases hb with hb | hb
  ·exact Nat.lt_of_lt_of_le (I.lt b hb) hsz
  ·exact hb.2
 ·rcases hb with hb | hb
  ·exact .inl (I.sub b hb)
  ·exact .inr hb
 ·rcases hr with hr | hr
  ·exact I.nwg hr
  ·omega
 ·have hwk := I.wk
  cases ws with
  | none => trivial
  | way wi fi b =>
   obtain ⟨y, h1, h2, h3, h4, h5, h6⟩ := hwk
   exact ⟨y, moved_put hi0 h1 (woken_run h3.1), by rw [hdf]; exact h2, h3, h4.trans ⟨heq h5, hsz, hgu.tape, hgu.os, hgu.output⟩, own h5, h6.other hgu.evs h5.d2 h5.d1⟩
  | sit s m v fi =>
   obtain ⟨a1, a2, y, h1, h2, h3, h4, h5, h6⟩ := hwk
   refine ⟨a1, a2, y, moved_put hi0 h1 (h2.woken _ _ _), by rw [hdf]; exact h2.rely ⟨fun b hb => by omega, fun ⟨st, sm, h⟩ => ⟨st, sm, hwe.trans h⟩, fun h => (by obtain ⟨cs, hc, hz⟩ := h; exact ⟨cs, (heq h3 _ h4).trans hc, hz⟩), ConcN.cell_of_block (heq h3 _ h4) _⟩, own h3, h4, G.keep w _ _ (heq h3) h5, fun e => (h6 e).appOther (fun op hop => mem_g hop) hi0⟩
  | gone n fi =>
   obtain ⟨y, h1, h2, h3, h4, h5⟩ := hwk
   exact ⟨y, moved_put hi0 h1 (woken_quitsD h2), by rw [hdf]; exact h2, own h3, G.keep w _ _ (heq h3) h4, h5.appOther (fun op hop => mem_g hop) hi0⟩
 ·obtain ⟨z, hz, rfl⟩ := moved_get (by omega) hy
  have hqz := I.old j z hj hz hnj
  rw [woken_quitsD hqz, hdf]
  exact hqz
 ·rw [hdf]
  exact I.above j (by simpa using hj)
 ·rcases touch_app ha with ⟨_, h⟩ | ⟨op, hop, hg, h⟩
  ·exact (I.done j a h hm).imp (·.app _) fun h => h.imp (fun h => ⟨h.1, g_app h.2⟩) id
  ·have := knows_own hg
   rw [mem_g hop] at this
   exact .inl this
 ·rcases touch_app ha with ⟨_, h⟩ | ⟨op, hop, hg, h⟩
  ·obtain ⟨a1, a2⟩ := I.quiet j a h hb hk
   exact ⟨a1.app _, fun hp hn => (a2 hp hn).app _⟩
  ·exact absurd hb (nw hop h)
 ·rcases touch_app ha with ⟨hlt', h⟩ | ⟨op, hop, hg', h⟩
  ·refine I.late j a hj ?_ h hs
   unfold Trace.g? at hg ⊢
   rw [getElem?_append_old hlt'] at hg
   exact hg
  ·unfold Trace.g? at hg
   rw [hg'] at hg
   simp [mem_g hop] at hg
   omega
 ·exact seen_app (fun op hop => MemAct.low_mono hsz (I.seen op hop)) fun op hop => MemAct.low_mono hsz (low_events hgu.evs I.lt op hop)
 ·rcases hr with hr | hr
  ·exact (I.shun b hS).1 hr
  ·have := (I.shun b hS).2.1
   omega
 ·refine NoRelease.app ?_ (ok_norel hgu.evs a)
  rcases ha with (ha | ha) | ha
  ·exact I.norel a (.inl ha)
  ·exact norel_fresh I.seen ha.1
  ·exact I.norel a (.inr ha)
theorem JG.closed (P : Program) (W0 : World) (Post : Value → World → Prop) (G : Grp) : Closed P true (JG P W0 Post G) where
 rely := fun h hr gs w₂ sl t i r q ws S hrel h0 I => h gs w₂ sl t i r q ws S (hr.trans hrel) h0 I
 step := fun hrun h => JG.main hrun fun gs w₁ sl t i r q ws S hrel h0 I => by
  obtain ⟨g', w', es, hgo, hr', hgu, hJ⟩ := h w₁ hrel
  refine ⟨_, _, runT_crowd_go (P := P) (sl := sl) (i := 0) h0 (show stepG P (0 == 0) _ w₁ = _ from hgo), ?_⟩
  exact hJ _ w' sl _ i r q ws S (RelyW.refl _ _) (moved_own h0) (I.main h0 hgu)
end
end Go.Proofs.Ythnccaajpdnndaa
namespace Go.Proofs.Ythnccaajpdnndaa
open Go.Conc
def Crew.more (T : Crew) (k : Nat) : Crew := { T with pend := T.pend ++ [k] }
section
variable {P : Program} {W0 : World} {Post : Value → World → Prop} {T : Crew} {g g0 : Goroutine} {w w₁ w' : World} {ft : Foot} {gs gs' : Array Goroutine} {t : Trace} {st st' : Nat → WS} {ix : Nat → Nat} {i k : Nat} {sl : Option (Nat × Nat)}
def hired (c : Nat) (f0 : FuncId) (p0 : String) (f1 : FuncId) (p1 : String) : Trace := #[{ g := 0, fn := f0, pos := p0, act := .go c }, { g := c, fn := f1, pos := p1, act := .start }]
theorem hired_quiet (c : Nat) (f0 : FuncId) (p0 : String) (f1 : FuncId) (p1 : String) (g : Nat) : ∀ op ∈ hired c f0 p0 f1 p1, ∀ d, deafStep g d op = d := by
 intro op hop d
 simp only [hired, List.mem_toArray, List.mem_cons, List.not_mem_nil, or_false] at hop
 rcases hop with rfl | rfl <;> rfl
theorem hired_mute (c : Nat) (f0 : FuncId) (p0 : String) (f1 : FuncId) (p1 : String) : ∀ op ∈ hired c f0 p0 f1 p1, op.act.touch? = none := by
 intro op hop
 simp only [hired, List.mem_toArray, List.mem_cons, List.not_mem_nil, or_false] at hop
 rcases hop with rfl | rfl <;> rfl
theorem hired_low (c : Nat) (f0 : FuncId) (p0 : String) (f1 : FuncId) (p1 : String) (n : Nat) : ∀ op ∈ hired c f0 p0 f1 p1, op.act.low n := by
 intro op hop
 simp only [hired, List.mem_toArray, List.mem_cons, List.not_mem_nil, or_false] at hop
 rcases hop with rfl | rfl <;> trivial
end
end Go.Proofs.Ythnccaajpdnndaa
namespace Go.Proofs.Ythnccaajpdnndaa
open Go.Conc
open Go.ConcR (Bk stA smA rd wr mk KK)
def Bk3 (wg : Nat) (e : Event) : Prop := Bk wg e ∨ ∃ a : Addr, a.block = wg ∧ (e = Go.ConcR.mk (.read a) ∨ e = Go.ConcR.mk (.write a))
theorem bk3_norel {wg : Nat} {es : Array Event} (he : ∀ e ∈ es, Bk3 wg e) {g : Nat} {fn : FuncId} {pos : String} (a : Addr) : ∀ op ∈ MemOp.ofEvents g fn pos es, op.act ≠ .mark (.release a) := by
 intro op hop e
 obtain ⟨x, hx, rfl⟩ := Go.Conc.mem_ofEvents hop
 rcases he x hx with (h1 | h1 | ⟨y, wr, rfl, _⟩) | ⟨y, _, rfl | rfl⟩
 ·simp only [Go.ConcR.ofEvent_loc_mark h1] at e
  cases e
 ·simp only [Go.ConcR.ofEvent_loc_mark h1] at e
  cases e
 ·cases e
 ·cases e
 ·cases e
theorem bk3_touch {wg : Nat} {es : Array Event} (he : ∀ e ∈ es, Bk3 wg e) {g : Nat} {fn : FuncId} {pos : String} {op : MemOp} (hop : op ∈ MemOp.ofEvents g fn pos es) {b : Touch} (hb : op.act.touch? = some b) : locBlk b.loc = some wg ∧ b.kind ≠ .plain := by
 obtain ⟨x, hx, rfl⟩ := Go.Conc.mem_ofEvents hop
 rcases he x hx with (h1 | h1 | ⟨y, wr, rfl, hy⟩) | ⟨y, hy, rfl | rfl⟩
 ·simp only [Go.ConcR.ofEvent_loc_mark h1] at hb
  cases hb
 ·simp only [Go.ConcR.ofEvent_loc_mark h1] at hb
  cases hb
 ·simp only [Go.ConcR.ofEvent_cell, MemAct.touch?, Option.some.injEq] at hb
  subst hb
  exact ⟨by show some y.block = _; rw [hy], by simp⟩
 ·simp only [MemAct.ofEvent, Go.ConcR.mk, MemAct.touch?, Option.some.injEq] at hb
  subst hb
  exact ⟨by show some y.block = _; rw [hy], by simp⟩
 ·simp only [MemAct.ofEvent, Go.ConcR.mk, MemAct.touch?, Option.some.injEq] at hb
  subst hb
  exact ⟨by show some y.block = _; rw [hy], by simp⟩
theorem bk3_low {wg n : Nat} {es : Array Event} (he : ∀ e ∈ es, Bk3 wg e) (hn : wg < n) {g : Nat} {fn : FuncId} {pos : String} : ∀ op ∈ MemOp.ofEvents g fn pos es, op.act.low n := by
 intro op hop
 obtain ⟨x, hx, rfl⟩ := Go.Conc.mem_ofEvents hop
 rcases he x hx with (h1 | h1 | ⟨y, wr, rfl, hy⟩) | ⟨y, hy, rfl | rfl⟩
 ·simp only [Go.ConcR.ofEvent_loc_mark h1]
  trivial
 ·simp only [Go.ConcR.ofEvent_loc_mark h1]
  trivial
 ·simp only [Go.ConcR.ofEvent_cell]
  show y.block < n
  rw [hy]
  exact hn
 ·show y.block < n
  rw [hy]
  exact hn
 ·show y.block < n
  rw [hy]
  exact hn
theorem conf_quiet {said : Bool} {a b : Touch} (h : a.conflicts said b) (hb : b.kind ≠ .plain) : a.kind ≠ .atomic := by
 obtain ⟨_, _, _, h | h | ⟨_, h, _⟩⟩ := h
 ·rw [h]; simp
 ·exact absurd h hb
 ·rw [h]; simp
section
variable {P : Program} {W0 : World} {Post : Value → World → Prop} {G : Grp} {g g0 : Goroutine} {w w₁ w' : World} {ft : Foot} {gs gs' : Array Goroutine} {t : Trace} {i r : Nat} {q q' : Nat → Nat} {ws ws' : WkS} {S : Nat → Prop} {sl : Option (Nat × Nat)}
theorem GInv.act (I : GInv P W0 G ft gs w t i r q ws S) (h0 : gs[0]? = some g) {g' : Goroutine} {es : Array Event} {x' : Nat} {st' sm' : Int} (A : Aside G.wg w w') (hat : G.at_ w' st' sm') (hbk : ∀ e ∈ es, Bk3 G.wg e) (hx : x' < 32 ∧ (x' = 12 → ft.tag % 32 = 12))
  (hd : deafBehind (deafX (ft.tag % 32)) es = deafX x') (hph : Phase x' ws.stage st' sm') :
  GInv P W0 G { ft with tag := x' + 32 * G.wg } ((gs.map (woken P g g' w')).setIfInBounds 0 g') w' (t ++ MemOp.ofEvents 0 g.frame.fn g.frame.place es) i r q ws S := by
 letI pl : ConcR.Payload := ⟨0⟩
 have hdo : ∀ j, 0 ≠ j → Deaf (t ++ MemOp.ofEvents 0 g.frame.fn g.frame.place es) j = Deaf t j := fun j hj => Deaf_other t hj _ (fun op hop => mem_g hop)
 have hi0 : (0 : Nat) ≠ i := Nat.ne_of_lt I.ipos
 obtain ⟨_, _, hat0, _⟩ := I.grp
 have hwl := at_lt hat0
 have e1 : (x' + 32 * G.wg) / 32 = G.wg := by omega
 have e2 : (x' + 32 * G.wg) % 32 = x' := by omega
 have own : ∀ {fi : Foot}, OwnF G ft fi w t S → OwnF G { ft with tag := x' + 32 * G.wg } fi w' (t ++ MemOp.ofEvents 0 g.frame.fn g.frame.place es) S := fun O =>
  ⟨by rw [A.size]; exact O.lt, O.sub, O.grp, O.d1, O.d2, O.sh, fun a ha => (O.nr a ha).app (bk3_norel hbk a)⟩
 have heq : ∀ {fi : Foot}, OwnF G ft fi w t S → ∀ b, fi.rd b → w'.heap[b]? = w.heap[b]? := fun O b hb => A.block b fun e => O.grp (e ▸ hb)
 refine { base := ⟨A.tape.trans I.base.tape, A.os.trans I.base.os, A.output.trans I.base.output, by rw [A.size]; exact I.base.size⟩, lt := by rw [A.size]; exact I.lt, sub := I.sub, nwg := I.nwg, tagw := e1, grp := ⟨st', sm', hat, by rw [e2]; exact hph⟩, hears := by rw [Deaf_own, I.hears, hd]; show _ = deafX ((x' + 32 * G.wg) % 32); rw [e2], ipos := I.ipos, wk := ?_, old := fun j y hj hy hn => ?_, above := fun j hj => ?_, clean := fun said => noRace_append (I.clean said) (fun op hop => mem_g hop) fun k a ha op hop b hb hc => ?_, known := fun j a ha hm => ?_, done := fun j a ha hm => ?_, over := over_app I.over fun op hop => .inr (.inl (mem_g hop)), quiet := fun j a ha hb hk => ?_, late := fun j a hj hg ha hst => ?_, seen := ?_, shun := by rw [A.size]; exact I.shun, norel := fun a ha => (I.norel a ha).app (bk3_norel hbk a), acq := fun h => (I.acq (hx.2 (e2.symm.trans h))).app _ }
 ·have hwk := I.wk
  cases ws with
  | none => trivial
  | way wi fi b =>
   obtain ⟨y, h1, h2, h3, h4, h5, h6⟩ := hwk
   refine ⟨y, moved_put hi0 h1 (woken_run h3.1), by rw [hdo _ hi0]; exact h2, h3, h4.trans ⟨heq h5, Nat.le_of_eq A.size.symm, A.tape, A.os, A.output⟩, own h5, fun j a ha hm => ?_⟩
   rcases touch_app ha with ⟨_, h⟩ | ⟨op, hop, _, h⟩
   ·exact (h6 j a h hm).imp (·.app _) id
   ·refine .inr fun b hb => ?_
    rw [(bk3_touch hbk hop h).1] at hb
    cases hb
    exact ⟨fun hw => h5.grp (h5.sub _ hw), fun _ hr => h5.grp hr⟩
  | sit s m v fi =>
   obtain ⟨a1, a2, y, h1, h2, h3, h4, h5, h6⟩ := hwk
   refine ⟨a1, a2, y, moved_put hi0 h1 (h2.woken _ _ _), by rw [hdo _ hi0]; exact h2.rely ⟨fun b hb => by omega, fun _ => ⟨_, _, hat⟩, fun h => (by obtain ⟨cs, hc, hz⟩ := h; exact ⟨cs, (heq h3 _ h4).trans hc, hz⟩), ConcN.cell_of_block (heq h3 _ h4) _⟩, own h3, h4, G.keep w _ _ (heq h3) h5, fun e => (h6 e).appOther (fun op hop => mem_g hop) hi0⟩
  | gone n fi =>
   obtain ⟨y, h1, h2, h3, h4, h5⟩ := hwk
   exact ⟨y, moved_put hi0 h1 (woken_quitsD h2), by rw [hdo _ hi0]; exact h2, own h3, G.keep w _ _ (heq h3) h4, h5.appOther (fun op hop => mem_g hop) hi0⟩
 ·obtain ⟨z, hz, rfl⟩ := moved_get (by omega) hy
  have hqz := I.old j z hj hz hn
  rw [woken_quitsD hqz, hdo _ (by omega)]
  exact hqz
 ·have h0' : 0 < gs.size := (Array.getElem?_eq_some_iff.1 h0).1
  rw [hdo _ (by simp at hj; omega)]
  exact I.above j (by simpa using hj)
 ·obtain ⟨h1, h2⟩ := bk3_touch hbk hop hb
  exact (I.quiet k a ha (by rw [hc.1]; exact h1) (conf_quiet hc h2)).1
 ·rcases touch_app ha with ⟨_, h⟩ | ⟨op, hop, hg, h⟩
  ·exact (I.known j a h hm).imp (·.app _) id
  ·have := knows_own hg
   rw [mem_g hop] at this
   exact .inl this
 ·rcases touch_app ha with ⟨_, h⟩ | ⟨op, hop, hg, h⟩
  ·exact (I.done j a h hm).imp (·.app _) fun h => h.imp (fun h => ⟨h.1, g_app h.2⟩) id
  ·have := knows_own hg
   rw [mem_g hop] at this
   exact .inl this
 ·rcases touch_app ha with ⟨_, h⟩ | ⟨op, hop, hg, h⟩
  ·obtain ⟨a1, a2⟩ := I.quiet j a h hb hk
   exact ⟨a1.app _, fun hp hn => (a2 hp hn).app _⟩
  ·have := knows_own hg
   rw [mem_g hop] at this
   exact ⟨this, fun hp => absurd hp (bk3_touch hbk hop h).2⟩
 ·rcases touch_app ha with ⟨hlt', h⟩ | ⟨op, hop, hg', h⟩
  ·refine I.late j a hj ?_ h hst
   unfold Trace.g? at hg ⊢
   rw [getElem?_append_old hlt'] at hg
   exact hg
  ·unfold Trace.g? at hg
   rw [hg'] at hg
   simp [mem_g hop] at hg
   omega
 ·rw [A.size]
  exact seen_app I.seen (bk3_low hbk hwl)
theorem JG.act (hrun : g.status = .running) (h : ∀ w₁ s st sm, RelyW ft w w₁ → ft.tag / 32 = G.wg → ¬ ft.rd G.wg → G.at_ w₁ st sm → Phase (ft.tag % 32) s st sm → ∃ (g' : Goroutine) (w' : World) (es : Array Event) (st' sm' : Int) (x' : Nat), stepG P true g w₁ = .go g' w' es ∧ Aside G.wg w₁ w' ∧ G.at_ w' st' sm' ∧ (∀ e ∈ es, Bk3 G.wg e) ∧ (x' < 32 ∧ (x' = 12 → ft.tag % 32 = 12)) ∧
   deafBehind (deafX (ft.tag % 32)) es = deafX x' ∧ Phase x' s st' sm' ∧ JG P W0 Post G g' w' { ft with tag := x' + 32 * G.wg }) : JG P W0 Post G g w ft :=
 JG.main hrun fun gs w₁ sl t i r q ws S hrel h0 I => by
  obtain ⟨st, sm, hat, hph⟩ := I.grp
  obtain ⟨g', w', es, st', sm', x', hgo, A, hat', hbk, hx, hd, hph', hJ⟩ := h w₁ ws.stage st sm hrel I.tagw I.nwg hat hph
  refine ⟨_, _, runT_crowd_go (P := P) (sl := sl) (i := 0) h0 (show stepG P (0 == 0) _ w₁ = _ from hgo), ?_⟩
  exact hJ _ w' sl _ i r q ws S (RelyW.refl _ _) (moved_own h0) (I.act h0 A hat' hbk hx hd hph')
theorem measG_congr (h : ws ≠ .none → gs'[i]? = gs[i]?) : measG gs' i q ws = measG gs i q ws := by
 funext j
 by_cases hj : j = 0
 ·subst hj
  rw [measG_zero, measG_zero]
 ·by_cases hji : ws = .none ∨ j ≠ i
  ·rw [measG_other hj hji, measG_other hj hji]
  ·have hn : ws ≠ .none := fun e => hji (.inl e)
   obtain rfl : j = i := by
    by_cases e : j = i
    ·exact e
    ·exact absurd (.inr e) hji
   have e := h hn
   unfold measG
   rw [if_neg hj, if_neg hj, Array.getD_eq_getD_getElem?, Array.getD_eq_getD_getElem?, e]
theorem tries_again (hs : g.status = .running) (ho : g.offers = none) (w : World) : ({ g with status := .blocked } : Goroutine).again w = g := by
 obtain ⟨fr, cs, stt, dy, off⟩ := g
 simp only at hs ho
 subst hs ho
 simp [Goroutine.again]
theorem GInv.runs (I : GInv P W0 G ft gs w t i r q ws S) (h1 : ws.stage ≠ 1) (h9 : ws.stage ≠ 9) : ∃ y, gs[i]? = some y ∧ y.status = .running := by
 letI pl : ConcR.Payload := ⟨0⟩
 cases ws with
 | none => exact absurd rfl h9
 | way wi fi b =>
  obtain ⟨y, a, _, h3, _⟩ := I.wk
  exact ⟨y, a, h3.1⟩
 | sit s m v fi =>
  obtain ⟨h2, h6, y, a, h3, _⟩ := I.wk
  refine ⟨y, a, ?_⟩
  rcases h3 with ⟨_, _, h3⟩ | ⟨h6', h3⟩
  ·exact Goes.running (fun _ _ x => x.1) w (ConcN.RW.refl w) h3
  generalize Deaf t i = d at h3
  cases h3 with
  | r0 h => omega
  | k1 h => exact Goes.running (fun _ _ x => x.1) w (ConcN.RW.refl w) h
  | d1 h => exact Goes.running (fun _ _ x => x.1) w (ConcN.RW.refl w) h
  | d2 h => exact Goes.running (fun _ _ x => x.1) w (ConcN.RW.refl w) h
  | d3 h => exact Goes.running (fun _ _ x => x.1) w (ConcN.RW.refl w) h
  | d4 h => exact Goes.running (fun _ _ x => x.1) w (ConcN.RW.refl w) h
  | quit h => omega
 | gone n fi => exact absurd rfl h1
theorem JG.sema (hrun : g.status = .running) (hoff : g.offers = none) (e9 : ft.tag % 32 = 9) (hwait : ∀ w₁ st, RelyW ft w w₁ → ft.tag / 32 = G.wg → G.at_ w₁ st 0 → stepG P true g w₁ = .go { g with status := .blocked } w₁ #[])
  (hgo : ∀ w₁, RelyW ft w w₁ → ft.tag / 32 = G.wg → ¬ ft.rd G.wg → G.at_ w₁ 0 1 → ∃ g', stepG P true g w₁ = .go g' (w₁.setCell (smA G.wg) (.int .u32 0)) (semEvents (smA G.wg)) ∧ JG P W0 Post G g' (w₁.setCell (smA G.wg) (.int .u32 0)) { ft with tag := 10 + 32 * G.wg }) : JG P W0 Post G g w ft := by
 have hself : ft.tag / 32 = G.wg → ({ ft with tag := 9 + 32 * G.wg } : Foot) = ft := fun h => by
  have : 9 + 32 * G.wg = ft.tag := by omega
  rw [this]
 have nine : ∀ {s : Nat} {st sm : Int}, Phase 9 s st sm → s ≠ 9 ∧ ((s ≠ 1 ∧ sm = 0) ∨ (s = 1 ∧ st = 0 ∧ sm = 1)) := by
  intro s st sm h
  cases h with
  | opened h => omega
  | added h => omega
  | run a b _ _ => omega
  | out a b c => exact absurd rfl c
  | reg a b =>
   refine ⟨?_, .inl ⟨by omega, rfl⟩⟩
   intro e
   omega
  | low h => exact ⟨by omega, .inl ⟨by omega, rfl⟩⟩
  | last => exact ⟨by omega, .inl ⟨by omega, rfl⟩⟩
  | freed => exact ⟨by omega, .inr ⟨rfl, rfl, rfl⟩⟩
 have all : ∀ (M : Nat → Goroutine × WkS) (n : Nat), Acc (Less (KLt P G) n) M → ∀ (b : Bool) (gs : Array Goroutine) (w₁ : World) (sl : Option (Nat × Nat)) (t : Trace) (i r : Nat) (q : Nat → Nat) (ws : WkS) (S : Nat → Prop), RelyW ft w w₁ → gs.size = n → measG gs i q ws = M →
   gs[0]? = some (if b = true then { g with status := .blocked } else g) → (b = true → ws.stage ≠ 1) → GInv P W0 G ft gs w₁ t i r q ws S → Ends P Post (crowd gs w₁ sl) t := by
  intro M n hacc
  induction hacc with
  | intro M _ ih =>
   have blk : ∀ (gs : Array Goroutine) (w₁ : World) (sl : Option (Nat × Nat)) (t : Trace) (i r : Nat) (q : Nat → Nat) (ws : WkS) (S : Nat → Prop), RelyW ft w w₁ → gs.size = n → measG gs i q ws = M →
     gs[0]? = some { g with status := .blocked } → ws.stage ≠ 1 → GInv P W0 G ft gs w₁ t i r q ws S → Ends P Post (crowd gs w₁ sl) t := by
    intro gs w₁ sl t i r q ws S hrel hn hM h0 h1 I
    obtain ⟨st, sm, hat, hph⟩ := I.grp
    rw [e9] at hph
    obtain ⟨y, hy, hyr⟩ := I.runs h1 (nine hph).1
    obtain ⟨j, x, d, sl', hj, hx, hst⟩ := crowd_pick (P := P) (w := w₁) (sl := sl) (I.awake h0 (.inr rfl)) ⟨i, y, hy, hyr⟩
    have hpos : 0 < j := by
     rcases Nat.eq_zero_or_pos j with rfl | h
     ·rw [h0] at hj
      cases hj
      cases hx
     ·exact h
    have hj0 : (j == 0) = false := by simp; omega
    obtain ⟨g', w', es, r', q', ws', hst', hrel', I', hl, hwk⟩ := (I.at d).other hpos hj hx
    subst hM hn
    refine Ends.next (hst.trans (runT_crowd_go (P := P) (sl := sl') hj (by rw [hj0]; exact hst'))) ?_
    have h0' : ((gs.map (woken P x g' w')).setIfInBounds j g')[0]? = some (woken P x g' w' { g with status := .blocked }) := by
     rw [Array.getElem?_setIfInBounds_ne (by omega), Array.getElem?_map, h0]
     rfl
    by_cases hcond : (mayWake P x && g'.status != .blocked && g'.status != .waiting) = true
    ·have hw : woken P x g' w' { g with status := .blocked } = g := by
      unfold woken
      rw [if_pos hcond]
      exact tries_again hrun hoff w'
     rw [hw] at h0'
     exact ih _ hl false _ w' sl' _ i r' q' ws' S ((hrel.trans (relyW_at ft w₁ d)).trans hrel') (by simp) rfl h0' (fun e => by cases e) I'
    ·have hw : woken P x g' w' { g with status := .blocked } = { g with status := .blocked } := by
      unfold woken
      rw [if_neg hcond]
     rw [hw] at h0'
     refine ih _ hl true _ w' sl' _ i r' q' ws' S ((hrel.trans (relyW_at ft w₁ d)).trans hrel') (by simp) rfl h0' (fun _ e => ?_) I'
     obtain ⟨a1, a2⟩ := hwk e9 h1 e
     exact hcond (by simp [a1, a2])
   intro b gs w₁ sl t i r q ws S hrel hn hM h0 hb I
   cases b with
   | true => exact blk gs w₁ sl t i r q ws S hrel hn hM h0 (hb rfl) I
   | false =>
    have h0 : gs[0]? = some g := h0
    obtain ⟨j, x, d, sl', hj, hx, hst⟩ := crowd_pick (P := P) (w := w₁) (sl := sl) (I.awake h0 (.inl hrun)) ⟨0, g, h0, hrun⟩
    rcases Nat.eq_zero_or_pos j with rfl | hpos
    ·obtain rfl : x = g := by rw [h0] at hj; exact (Option.some.inj hj).symm
     have Id := I.at d
     have hreld := hrel.trans (relyW_at ft w₁ d)
     obtain ⟨st, sm, hat, hph⟩ := Id.grp
     have hph9 := hph
     rw [e9] at hph9
     rcases (nine hph9).2 with ⟨h1, rfl⟩ | ⟨h1, rfl, rfl⟩
     ·have hgo' := hwait (w₁.at d) st hreld Id.tagw hat
      refine Ends.next (hst.trans (runT_crowd_go (P := P) (sl := sl') (i := 0) h0 (show stepG P (0 == 0) _ (w₁.at d) = _ from hgo'))) ?_
      have Ia := Id.act h0 (g' := { x with status := .blocked }) (es := #[]) (x' := 9) (.refl _ _) hat (by simp) ⟨by omega, fun e => by omega⟩ (by rw [e9]; rfl) hph9
      rw [hself Id.tagw] at Ia
      subst hM hn
      have hid : ∀ o, woken P x { x with status := .blocked } (w₁.at d) o = o := fun o => by
       unfold woken
       simp
      refine blk _ (w₁.at d) sl' _ i r q ws S hreld (by simp) (measG_congr fun hne => ?_) (moved_own h0) h1 Ia
      have hip := I.ipos
      rw [Array.getElem?_setIfInBounds_ne (by omega), Array.getElem?_map]
      cases gs[i]? with
      | none => rfl
      | some o => rw [Option.map_some, hid]
     ·obtain ⟨g', hgo', hJ⟩ := hgo (w₁.at d) hreld Id.tagw Id.nwg hat
      refine Ends.next (hst.trans (runT_crowd_go (P := P) (sl := sl') (i := 0) h0 (show stepG P (0 == 0) _ (w₁.at d) = _ from hgo'))) ?_
      refine hJ _ _ sl' _ i r q ws S (RelyW.refl _ _) (moved_own h0) (Id.act h0 (aside_setCell (w₁.at d) (smA G.wg) _) (st' := 0) (sm' := 0) (Go.ConcR.WgAt.setSm hat 0) (fun e he => .inl ?_) ⟨by omega, fun e => by omega⟩ (by rw [e9]; simp [deafBehind, semEvents, deafX]) (by rw [h1]; exact .out (by omega) (by omega) (by omega)))
      simp [semEvents] at he
      rcases he with rfl | rfl | rfl | rfl
      ·exact .inl rfl
      ·exact ConcN.bk_cell _ _ rfl
      ·exact ConcN.bk_cell _ _ rfl
      ·exact .inr (.inl rfl)
    ·have hj0 : (j == 0) = false := by simp; omega
     obtain ⟨g', w', es, r', q', ws', hst', hrel', I', hl, _⟩ := (I.at d).other hpos hj hx
     subst hM hn
     refine Ends.next (hst.trans (runT_crowd_go (P := P) (sl := sl') hj (by rw [hj0]; exact hst'))) (ih _ hl false _ w' sl' _ i r' q' ws' S ((hrel.trans (relyW_at ft w₁ d)).trans hrel') (by simp) rfl ?_ (fun e => by cases e) I')
     exact moved_put (by omega) h0 (woken_run hrun)
 intro gs w₁ sl t i r q ws S hrel h0 I
 exact all _ _ I.acc false gs w₁ sl t i r q ws S hrel rfl rfl h0 (fun e => by cases e) I
theorem GInv.hire {fi ft' : Foot} (I : GInv P W0 G ft gs w t i r q ws S) (h4 : ft.tag % 32 = 4) (hlt0 : 0 < gs.size) (hir : ∀ b, fi.rd b → ft.rd b) (his : ∀ b, fi.wr b → fi.rd b) (hiw : ∀ b, fi.wr b → ft.wr b) (hmr : ∀ b, ft'.rd b → ft.rd b) (hms : ∀ b, ft'.wr b → ft'.rd b) (hmw : ∀ b, ft'.wr b → ft.wr b) (d1 : ∀ b, fi.wr b → ¬ ft'.rd b) (d2 : ∀ b, ft'.wr b → ¬ fi.rd b) (h5 : ft'.tag = ft.tag + 1)
  {g' child : Goroutine} {b : Bool} (hto : TW P (AtDone P G) b child w fi) (f0 : FuncId) (p0 : String) (f1 : FuncId) (p1 : String) :
  GInv P W0 G ft' ((gs.setIfInBounds 0 g').push child) w (t ++ hired gs.size f0 p0 f1 p1) gs.size 0 q (.way w fi b) S := by
 have hd := fun j => Deaf_quiet (t := t) (hired_quiet gs.size f0 p0 f1 p1 j)
 have hmu := hired_mute gs.size f0 p0 f1 p1
 obtain ⟨st, sm, hat, hph⟩ := I.grp
 have htw := I.tagw
 have em : ft.tag % 32 = 4 := h4
 have em' : ft'.tag % 32 = 5 := by omega
 rw [em] at hph
 have hwn : ws = .none ∧ st = 4294967296 ∧ sm = 0 := by
  generalize hz : ws.stage = z at hph
  cases hph with
  | opened h => omega
  | added h =>
   refine ⟨?_, rfl, rfl⟩
   cases ws with
   | none => rfl
   | way => cases hz
   | sit s m v fi =>
    have h6 := I.wk.2.1
    have : s = 9 := hz
    omega
   | gone => cases hz
  | run a b _ _ => omega
  | out a b c => omega
 obtain ⟨rfl, rfl, rfl⟩ := hwn
 have e0 : (t ++ hired gs.size f0 p0 f1 p1)[t.size]? = some { g := 0, fn := f0, pos := p0, act := .go gs.size } := by simp [hired]
 have e1 : (t ++ hired gs.size f0 p0 f1 p1)[t.size + 1]? = some { g := gs.size, fn := f1, pos := p1, act := .start } := by simp [hired]
 have hears : Deaf t 0 = 0 := by rw [I.hears, em]; rfl
 have edge : HappensBefore (t ++ hired gs.size f0 p0 f1 p1) t.size (t.size + 1) :=
  Relation.TransGen.single (.inr ⟨.spawn (act?_of e0) (act?_of e1) (g?_of e1), ⟨0, g?_of e0, by rw [deaf_old (Nat.le_refl _)]; exact hears⟩, ⟨gs.size, g?_of e1, by rw [deaf_quiet (hired_quiet gs.size f0 p0 f1 p1 gs.size) 1 (by simp [hired])]; exact I.above _ (Nat.le_refl _)⟩⟩)
 have kn : ∀ {j}, Knows t 0 j → Knows (t ++ hired gs.size f0 p0 f1 p1) gs.size j := fun hh => ⟨t.size + 1, _, e1, rfl, .inr ((hh.hb_new (Nat.le_refl _) e0 rfl).trans edge)⟩
 have old : ∀ {j : Nat} {a : Touch}, touchAt (t ++ hired gs.size f0 p0 f1 p1) j = some a → j < t.size ∧ touchAt t j = some a := fun {j a} ha => by
  rcases touch_app ha with h | ⟨op, hop, _, h⟩
  ·exact h
  ·rw [hmu op hop] at h; cases h
 have hnr : ∀ a : Addr, ∀ op ∈ hired gs.size f0 p0 f1 p1, op.act ≠ .mark (.release a) := fun a op hop e => by
  simp only [hired, List.mem_toArray, List.mem_cons, List.not_mem_nil, or_false] at hop
  rcases hop with rfl | rfl <;> cases e
 refine { base := I.base, lt := fun b hb => I.lt b (hmr b hb), sub := hms, nwg := fun h => I.nwg (hmr _ h), tagw := by omega, grp := ⟨_, _, hat, by rw [em']; exact .run (by omega) (by omega) (by show 5 ≤ 8; omega) (by show 8 ≤ 8; omega)⟩, hears := by rw [hd, hears, em']; rfl, ipos := hlt0, wk := ?_, old := fun j y hj hy hn => ?_, above := fun j hj => ?_, clean := fun said => noRace_appendMute (I.clean said) hmu, known := (I.known.less hmr hmw).mute hmu, done := fun j a ha hm => ?_, over := ?_, quiet := fun j a ha hb hk => ?_, late := fun _ _ _ _ _ hs => ?_, seen := seen_app I.seen (hired_low _ _ _ _ _ _), shun := fun b hS => ⟨fun h => (I.shun b hS).1 (hmr b h), (I.shun b hS).2⟩, norel := fun a ha => (I.norel a (ha.imp (hmr _) id)).app (hnr a), acq := fun h => by omega }
 ·refine ⟨child, by rw [Array.getElem?_push, if_pos (by simp)], by rw [hd]; exact I.above _ (Nat.le_refl _), hto, RelyW.refl _ _, ⟨fun b hb => I.lt b (hir b hb), his, fun h => I.nwg (hir _ h), d1, d2, fun b hS h => (I.shun b hS).1 (hir b h), fun a ha => (I.norel a (.inl (hir _ ha))).app (hnr a)⟩, fun j a ha hm => ?_⟩
  obtain ⟨_, h⟩ := old ha
  rcases I.known j a h hm with hh | hh
  ·exact .inl (kn hh)
  ·exact .inr fun b hb => ⟨fun hw => (hh b hb).1 (hiw b hw), fun hw hr => (hh b hb).2 hw (hir b hr)⟩
 ·have hjs : j ≠ gs.size := hn.resolve_left (by simp)
  have hlt : j < gs.size := by
   have := (Array.getElem?_eq_some_iff.1 hy).1
   simp at this
   omega
  rw [Array.getElem?_push_lt (by simpa using hlt), Array.getElem_setIfInBounds (by simpa using hlt), if_neg (by omega), ← Array.getElem?_eq_getElem hlt] at hy
  rw [hd]
  exact I.old j y hj hy (.inl rfl)
 ·rw [hd]
  exact I.above j (by simp at hj; omega)
 ·obtain ⟨_, h⟩ := old ha
  rcases I.done j a h hm with h | ⟨h, _⟩ | h
  ·exact .inl (h.app _)
  ·exact absurd rfl h
  ·exact .inr (.inr h)
 ·exact over_app (Q := fun x => WkS.way w fi b ≠ .none ∧ x = gs.size) (fun j x h1 h2 h3 => (I.over j x h1 h2 h3).imp id fun h => absurd rfl h.1) fun op hop => .inl (hmu op hop)
 ·obtain ⟨_, h⟩ := old ha
  have := (I.quiet j a h hb hk).1
  exact ⟨this.app _, fun _ _ => kn this⟩
 ·have : (8 : Nat) ≤ 6 := hs
  omega
theorem JG.spawn {fi ft' : Foot} (hrun : g.status = .running) (h4 : ft.tag % 32 = 4) (hir : ∀ b, fi.rd b → ft.rd b) (his : ∀ b, fi.wr b → fi.rd b) (hiw : ∀ b, fi.wr b → ft.wr b) (hmr : ∀ b, ft'.rd b → ft.rd b) (hms : ∀ b, ft'.wr b → ft'.rd b) (hmw : ∀ b, ft'.wr b → ft.wr b) (d1 : ∀ b, fi.wr b → ¬ ft'.rd b) (d2 : ∀ b, ft'.wr b → ¬ fi.rd b) (h5 : ft'.tag = ft.tag + 1)
  (h : ∀ w₁, RelyW ft w w₁ → ∃ g' child, stepG P true g w₁ = .spawn g' child w₁ #[] ∧ Toward P (AtDone P G) child w₁ fi ∧ JG P W0 Post G g' w₁ ft') : JG P W0 Post G g w ft :=
 JG.main hrun fun gs w₁ sl t i r q ws S hrel h0 I => by
  obtain ⟨g', child, hgo, hto, hJ⟩ := h w₁ hrel
  obtain ⟨b, hto⟩ := toward_tw hto
  have hlt0 : 0 < gs.size := (Array.getElem?_eq_some_iff.1 h0).1
  refine ⟨_, _, runT_crowd_spawn (P := P) (sl := sl) (i := 0) h0 (show stepG P (0 == 0) _ w₁ = _ from hgo), ?_⟩
  have e : t ++ ((MemOp.ofEvents 0 g.frame.fn g.frame.place #[]).push { g := 0, fn := g.frame.fn, pos := g.frame.place, act := .go gs.size } |>.push { g := gs.size, fn := child.frame.fn, pos := g.frame.place, act := .start }) = t ++ hired gs.size g.frame.fn g.frame.place child.frame.fn g.frame.place := by
   rw [ofEvents_eq]
   simp [hired]
  rw [e]
  refine hJ _ w₁ sl _ _ _ _ _ S (RelyW.refl _ _) ?_ (I.hire h4 hlt0 hir his hiw hmr hms hmw d1 d2 h5 hto _ _ _ _)
  rw [Array.getElem?_push_lt (by simpa using hlt0), Array.getElem_setIfInBounds (by simpa using hlt0)]
  simp
theorem JG.acquire (hrun : g.status = .running) (em : ft.tag % 32 = 11) (h : ∀ w₁, RelyW ft w w₁ → ft.tag / 32 = G.wg → (∃ st sm, G.at_ w₁ st sm) → ∃ g', stepG P true g w₁ = .go g' w₁ #[Go.ConcR.mk (.acquire (stA G.wg))] ∧ JG P W0 Post G g' w₁ { ft with tag := ft.tag + 1 }) : JG P W0 Post G g w ft :=
 JG.main hrun fun gs w₁ sl t i r q ws S hrel h0 I => by
  letI pl : ConcR.Payload := ⟨0⟩
  obtain ⟨st, sm, hat, hph⟩ := I.grp
  have htw := I.tagw
  rw [em] at hph
  have hst : ws.stage = 1 ∧ st = 0 ∧ sm = 0 := by
   generalize ws.stage = z at hph
   cases hph with
   | opened h => omega
   | added h => omega
   | run a b _ _ => omega
   | out a b c => exact ⟨rfl, rfl, rfl⟩
  obtain ⟨hst, rfl, rfl⟩ := hst
  have hwl := at_lt hat
  have hears : Deaf t 0 = 0 := by rw [I.hears, em]; rfl
  have hg : ∃ n fi, ws = .gone n fi := by
   cases ws with
   | none => cases hst
   | way => cases hst
   | sit s m v fi =>
    have h2 := I.wk.1
    have : s = 1 := hst
    omega
   | gone n fi => exact ⟨n, fi, rfl⟩
  obtain ⟨n, fi, rfl⟩ := hg
  obtain ⟨y, hy, hq, O, hphi, hrb⟩ := I.wk
  obtain ⟨g', hgo, hJ⟩ := h w₁ hrel htw ⟨_, _, hat⟩
  refine ⟨_, _, runT_crowd_go (P := P) (sl := sl) (i := 0) h0 (show stepG P (0 == 0) _ w₁ = _ from hgo), ?_⟩
  have hev : MemOp.ofEvents 0 g.frame.fn g.frame.place #[Go.ConcR.mk (.acquire (stA G.wg))] = #[{ g := 0, fn := g.frame.fn, pos := g.frame.place, act := .mark (.acquire (stA G.wg)) }] := by
   rw [ofEvents_eq]
   simp [Go.ConcR.ofEvent_mk]
  rw [hev]
  have hmu : ∀ op ∈ (#[{ g := 0, fn := g.frame.fn, pos := g.frame.place, act := .mark (.acquire (stA G.wg)) }] : Trace), op.act.touch? = none := fun op hop => by
   simp at hop
   subst hop
   rfl
  have hg0 : ∀ op ∈ (#[{ g := 0, fn := g.frame.fn, pos := g.frame.place, act := .mark (.acquire (stA G.wg)) }] : Trace), op.g = 0 := fun op hop => by
   simp at hop
   subst hop
   rfl
  have hqu : ∀ j, ∀ op ∈ (#[{ g := 0, fn := g.frame.fn, pos := g.frame.place, act := .mark (.acquire (stA G.wg)) }] : Trace), ∀ d, deafStep j d op = d := fun j op hop d => by
   simp at hop
   subst hop
   rfl
  generalize hu : (#[{ g := 0, fn := g.frame.fn, pos := g.frame.place, act := .mark (.acquire (stA G.wg)) }] : Trace) = u at hmu hg0 hqu
  have eq0 : (t ++ u)[t.size]? = some { g := 0, fn := g.frame.fn, pos := g.frame.place, act := .mark (.acquire (stA G.wg)) } := by
   rw [← hu]
   simp
  have hd := fun j => Deaf_quiet (t := t) (hqu j)
  have hnr0 : ∀ a : Addr, ∀ op ∈ u, op.act ≠ .mark (.release a) := fun a op hop e => by
   rw [← hu] at hop
   simp at hop
   subst hop
   cases e
  have hrlt := lt_of_act? hrb.act
  have hq' : (t ++ u).act? t.size = some (.mark (.acquire (stA G.wg))) := act?_of eq0
  have hheard : (t ++ u).heard t.size := ⟨0, g?_of eq0, by rw [deaf_old (Nat.le_refl _)]; exact hears⟩
  have old : ∀ {j : Nat} {a : Touch}, touchAt (t ++ u) j = some a → j < t.size ∧ touchAt t j = some a := fun {j a} ha => by
   rcases touch_app ha with h | ⟨op, hop, _, h⟩
   ·exact h
   ·rw [hmu op hop] at h; cases h
  have og : ∀ {j x : Nat}, j < t.size → (t ++ u).g? j = some x → t.g? j = some x := fun {j x} hlt h => by
   unfold Trace.g? at h ⊢
   rw [getElem?_append_old hlt] at h
   exact h
  have em' : (ft.tag + 1) % 32 = 12 := by omega
  refine hJ _ w₁ sl _ i r q (.gone n fi) S (RelyW.refl _ _) (moved_own h0) { base := I.base, lt := I.lt, sub := I.sub, nwg := I.nwg, tagw := by show (ft.tag + 1) / 32 = G.wg; omega, grp := ⟨0, 0, hat, by show Phase ((ft.tag + 1) % 32) 1 0 0; rw [em']; exact .out (by omega) (by omega) (by omega)⟩, hears := by show _ = deafX ((ft.tag + 1) % 32); rw [hd, em']; exact hears, ipos := I.ipos, wk := ?_, old := fun j z hj hz hn => ?_, above := fun j hj => ?_, clean := fun said => noRace_appendMute (I.clean said) hmu, known := I.known.mute hmu, done := fun j a ha hm => ?_, over := over_app I.over fun op hop => .inl (hmu op hop), quiet := fun j a ha hb hk => ?_, late := fun j a hj hg ha hs => ?_, seen := seen_app I.seen fun op hop => ?_, shun := I.shun, norel := fun a ha => (I.norel a ha).app (hnr0 a), acq := fun _ => ⟨t.size, hq', g?_of eq0, hheard, hrlt⟩ }
  ·exact ⟨y, moved_put (Nat.ne_of_lt I.ipos) hy (woken_quitsD hq), by rw [hd]; exact hq, ⟨O.lt, O.sub, O.grp, O.d1, O.d2, O.sh, fun a ha => (O.nr a ha).app (hnr0 a)⟩, hphi, hrb.appOther hg0 (Nat.ne_of_lt I.ipos)⟩
  ·obtain ⟨z', hz', rfl⟩ := moved_get (by omega) hz
   have := I.old j z' hj hz' hn
   rw [woken_quitsD this, hd]
   exact this
  ·rw [hd]
   exact I.above j (by simpa using hj)
  ·obtain ⟨_, h⟩ := old ha
   exact (I.done j a h hm).imp (·.app _) fun h => h.imp (fun h => ⟨h.1, g_app h.2⟩) id
  ·obtain ⟨_, h⟩ := old ha
   obtain ⟨a1, a2⟩ := I.quiet j a h hb hk
   exact ⟨a1.app _, fun hp hn => (a2 hp hn).app _⟩
  ·obtain ⟨hlt, h⟩ := old ha
   exact I.late j a hj (og hlt hg) h hs
  ·rw [← hu] at hop
   simp at hop
   subst hop
   exact hwl
theorem JG.last (em : ft.tag % 32 = 12)
  (h : ∀ w₁ fi, RelyW ft w w₁ → ¬ ft.rd G.wg → ¬ fi.rd G.wg → G.phi w₁ fi → (∀ b, fi.rd b → b < w₁.heap.size) → (∀ b, fi.wr b → fi.rd b) → (∀ b, fi.wr b → ¬ ft.rd b) → (∀ b, ft.rd b → b < w₁.heap.size) → ∃ f' : Foot, (∀ b, f'.rd b → ft.rd b ∨ fi.rd b) ∧ (∀ b, f'.wr b → f'.rd b) ∧ J2 P W0 Post g w₁ f') : JG P W0 Post G g w ft := by
 intro gs w₁ sl t i r q ws S hrel h0 I
 obtain ⟨st, sm, hat, hph⟩ := I.grp
 rw [em] at hph
 have hst : ws.stage = 1 := by
  generalize ws.stage = z at hph
  cases hph with
  | opened h => omega
  | added h => omega
  | run a b _ _ => omega
  | out a b c => rfl
 have hwl := at_lt hat
 have hears : Deaf t 0 = 0 := by rw [I.hears, em]; rfl
 have hg : ∃ n fi, ws = .gone n fi := by
  cases ws with
  | none => cases hst
  | way => cases hst
  | sit s m v fi =>
   have h2 := I.wk.1
   have : s = 1 := hst
   omega
  | gone n fi => exact ⟨n, fi, rfl⟩
 obtain ⟨n, fi, rfl⟩ := hg
 obtain ⟨y, hy, hq, O, hphi, hrb⟩ := I.wk
 obtain ⟨k, hk1, hk2, hk3, hrk⟩ := I.acq em
 obtain ⟨zk, hzk, hzg⟩ : ∃ z, t[k]? = some z ∧ z.g = 0 := by
  unfold Trace.g? at hk2
  exact Option.map_eq_some_iff.1 hk2
 obtain ⟨f', hfr, hfs, hJ⟩ := h w₁ fi hrel I.nwg O.grp hphi O.lt O.sub O.d1 I.lt
 have hnr := I.norel (stA G.wg) (.inr rfl)
 have edge : HappensBefore t r k := .single (.inr ⟨.marked hrk (.inr hrb.act) hk1 (fun k _ _ => hnr k), hrb.heard, hk3⟩)
 have hb : ∀ {j}, t.g? j = some i → j ≤ r → HappensBefore t j k := fun {j} hgj hjr => by
  rcases Nat.lt_or_ge j r with hlt | hge
  ·exact .trans (.single (.inl ⟨hlt, i, hgj, hrb.g⟩)) edge
  ·obtain rfl : j = r := by omega
   exact edge
 refine hJ gs w₁ sl t (fun j => if j = i then n else q j) (fun b => S b ∨ b = G.wg) (fun b hbr => (hfr b hbr).elim (I.lt b) (O.lt b)) hfs (RelyW.refl _ _) I.base h0 ⟨fun j z hj hz => ?_, I.above⟩ ⟨⟨I.clean, fun j a ha hm => ?_, fun j x hgj hne hc => ?_, hears, I.seen⟩, fun b hS => ?_, fun a ha => ?_⟩
 ·by_cases e : j = i
  ·subst e
   rw [hy] at hz
   cases hz
   rw [if_pos rfl]
   exact hq
  ·rw [if_neg e]
   exact I.old j z hj hz (.inr e)
 ·rcases I.done j a ha hm with h1 | ⟨_, h1⟩ | ⟨⟨b, e1, e2⟩, e3⟩
  ·exact .inl h1
  ·rcases Nat.lt_or_ge r j with hrj | hjr
   ·obtain ⟨e1, e2⟩ := I.late j a hrj h1 ha (by show 1 ≤ 6; omega)
    exact .inr ⟨⟨G.wg, e1, .inr rfl⟩, e2⟩
   ·exact .inl ⟨k, zk, hzk, hzg, .inr (hb h1 hjr)⟩
  ·exact .inr ⟨⟨b, e1, .inl e2⟩, e3⟩
 ·rcases I.over j x hgj hne hc with h1 | ⟨_, rfl⟩
  ·exact h1
  ·exact ⟨k, hk2, hb hgj (Nat.le_of_not_lt fun hlt' => hrb.after j hlt' hgj hc)⟩
 ·rcases hS with hS | rfl
  ·exact ⟨fun hr => (hfr b hr).elim (I.shun b hS).1 (O.sh b hS), (I.shun b hS).2.1⟩
  ·exact ⟨fun hr => (hfr _ hr).elim I.nwg O.grp, hwl⟩
 ·exact (hfr _ ha).elim (fun h => I.norel a (.inl h)) (O.nr a)
end
end Go.Proofs.Ythnccaajpdnndaa
namespace Go.Proofs.Ythnccaajpdnndaa
open Go.Conc Go.Proofs.Try
open Go.ConcR (Bk stA smA rd wr mk KK)
section
variable {P : Program} {W0 : World} {Post : Value → World → Prop} {G : Grp} {w : World} {h : List AObj} {K : Value → List AObj → Prop} {g : FuncId} {fn : Func} {e : Array Value → Go.Sem Value} {args : List Value} {p x : Nat} {main : Bool}
  {cargs : List Value} {b : FB} {a : Act} {ops : Array Oper} {i : Nat} {rest : List Nat} {o : Oper} {k : List Item} {cs : List Frame}
structure GrpAt (h : List AObj) (p x : Nat) : Prop where
 here : h[p]? = some (.group x)
 one : ∀ (q z : Nat), h[q]? = some (.group z) → q = p
 lt : x < 32
theorem GrpAt.set {y : Nat} (hg : GrpAt h p x) (hy : y < 32) : GrpAt (h.set p (.group y)) p y := by
 refine ⟨by rw [List.getElem?_set_self (List.getElem?_eq_some_iff.1 hg.here).1], fun q z hq => ?_, hy⟩
 rcases set_get hq with ⟨rfl, _, _⟩ | ⟨_, hq⟩
 ·rfl
 ·exact hg.one q z hq
theorem Phase.at_opened {s : Nat} {st sm : Int} (h : Phase x s st sm) (hx : x = 1 ∨ x = 2) : s = 9 ∧ st = 0 ∧ sm = 0 := by
 cases h with
 | opened _ => exact ⟨rfl, rfl, rfl⟩
 | added h => omega
 | run a b _ _ => omega
 | out a b c => omega
 | reg _ _ => omega
 | low _ => omega
 | last => omega
 | freed => omega
theorem Phase.at_added {s : Nat} {st sm : Int} (h : Phase x s st sm) (hx : x = 3 ∨ x = 4) : s = 9 ∧ st = 4294967296 ∧ sm = 0 := by
 cases h with
 | opened h => omega
 | added h => exact ⟨rfl, rfl, rfl⟩
 | run a b _ _ => omega
 | out a b c => omega
 | reg _ _ => omega
 | low _ => omega
 | last => omega
 | freed => omega
theorem Phase.at_run {s : Nat} {st sm : Int} (h : Phase x s st sm) (hx : 5 ≤ x ∧ x ≤ 7) : sm = 0 ∧ ((5 ≤ s ∧ s ≤ 8 ∧ st = 4294967296) ∨ (s = 1 ∧ st = 0)) := by
 cases h with
 | opened h => omega
 | added h => omega
 | run a b c d => exact ⟨rfl, .inl ⟨c, d, rfl⟩⟩
 | out a b c => exact ⟨rfl, .inr ⟨rfl, rfl⟩⟩
 | reg _ _ => omega
 | low _ => omega
 | last => omega
 | freed => omega
theorem Phase.at_out {s : Nat} {st sm : Int} (h : Phase x s st sm) (hx : x = 8 ∨ (10 ≤ x ∧ x ≤ 13)) : s = 1 ∧ st = 0 ∧ sm = 0 := by
 cases h with
 | opened h => omega
 | added h => omega
 | run a b c d => omega
 | out a b c => exact ⟨rfl, rfl, rfl⟩
 | reg _ _ => omega
 | low _ => omega
 | last => omega
 | freed => omega
theorem Phase.bump {s y : Nat} {st sm : Int} (h : Phase x s st sm) (hx : (x = 1 ∧ y = 2) ∨ (x = 3 ∧ (y = 3 ∨ y = 4)) ∨ (x = 5 ∧ y = 6) ∨ (x = 8 ∧ y = 11) ∨ (x = 10 ∧ (y = 10 ∨ y = 11)) ∨ x = y) : Phase y s st sm := by
 by_cases e : x = y
 ·exact e ▸ h
 by_cases h1 : x = 1
 ·obtain ⟨rfl, rfl, rfl⟩ := h.at_opened (.inl h1)
  exact .opened (by omega)
 by_cases h3 : x = 3
 ·obtain ⟨rfl, rfl, rfl⟩ := h.at_added (.inl h3)
  exact .added (by omega)
 by_cases h5 : x = 5
 ·obtain ⟨rfl, ⟨a, b, rfl⟩ | ⟨rfl, rfl⟩⟩ := h.at_run (by omega)
  ·exact .run (by omega) (by omega) a b
  ·exact .out (by omega) (by omega) (by omega)
 ·obtain ⟨rfl, rfl, rfl⟩ := h.at_out (by omega)
  exact .out (by omega) (by omega) (by omega)
theorem ptr_arg {ρ : Env} {o : Nat} {c : Value} {n : Nat} (hv : VRel n ρ (ptr p o) c) : c = .pointer (some ⟨ρ.blk p, o, none⟩) := by
 rcases hv with e | ⟨_, e⟩
 ·cases e
 ·rw [e]
  rfl
theorem fine_arg {ρ : Env} {v c : Value} {n : Nat} (hv : VRel n ρ v c) (h0 : VOk 0 v) (hu : v ≠ unk) : c = v := by
 rcases hv with e | ⟨_, e⟩
 ·exact absurd e hu
 ·rw [e, ren0 v h0]
theorem one_of {l : List Value} (h : l.length = 1) : l = [l.getD 0 undef] := by
 match l, h with
 | [a], _ => rfl
theorem two_of {l : List Value} (h : l.length = 2) : l = [l.getD 0 undef, l.getD 1 undef] := by
 match l, h with
 | [a, b], _ => rfl
end
section
variable {W0 : World} {Post : Value → World → Prop} {G : Grp} {w : World} {h : List AObj} {K : Value → List AObj → Prop} {p x : Nat}
theorem bk3_mark {wg : Nat} (m : Mark) (hm : m = .disable ∨ m = .enable) : ∀ y ∈ [(⟨.mark m, false, true⟩ : Event)], Bk3 wg y := by
 intro y hy
 simp at hy
 subst hy
 rcases hm with rfl | rfl
 ·exact .inl (.inl rfl)
 ·exact .inl (.inr (.inl rfl))
theorem bk3_read {wg : Nat} {a : Addr} (ha : a.block = wg) (m : Mark) (hm : m = .read a ∨ m = .write a) : ∀ y ∈ [(⟨.mark m, false, true⟩ : Event)], Bk3 wg y := by
 intro y hy
 simp at hy
 subst hy
 rcases hm with rfl | rfl
 ·exact .inr ⟨a, ha, .inl rfl⟩
 ·exact .inr ⟨a, ha, .inr rfl⟩
theorem bk3_cell {wg : Nat} {l : List Event} {ad : Addr} (ha : ad.block = wg) (h : ∀ y ∈ l, ∃ wr, y = ⟨.cell ad, wr, true⟩) : ∀ y ∈ l, Bk3 wg y := fun y hy => by
 obtain ⟨wr, rfl⟩ := h y hy
 exact .inl (ConcN.bk_cell _ _ ha)
theorem cells1 (ad : Addr) : ∀ y ∈ [(⟨.cell ad, false, true⟩ : Event)], ∃ wr, y = ⟨.cell ad, wr, true⟩ := fun y hy => ⟨false, by simpa using hy⟩
theorem cells2 (ad : Addr) : ∀ y ∈ [(⟨.cell ad, false, true⟩ : Event), ⟨.cell ad, true, true⟩], ∃ wr, y = ⟨.cell ad, wr, true⟩ := fun y hy => by
 simp at hy
 rcases hy with rfl | rfl
 ·exact ⟨_, rfl⟩
 ·exact ⟨_, rfl⟩
end
end Go.Proofs.Ythnccaajpdnndaa
namespace Go.Proofs.Ythnccaajpdnndaa
open Go.Conc Go.Conc.Lib Go.Proofs.Try
abbrev wgLink : WgLink := { add := 74, done := 76, wait := 80, relMerge := 104, disable := 105, enable := 106, inBubble := 107, associate := 108, fatal := 109, uOr := 110, uAdd := 111, raceRead := 112, uLoad := 113, uStore := 114, disassociate := 115, semrelease := 116, acquire := 119, isAssociated := 120, uCas := 121, raceWrite := 122, semacquire := 123, orU64 := 134, addU64 := 135, loadU64 := 136, storeU64 := 137, casU64 := 138, tWgP := 136, tUP := 138, tAssoc := 139, tWg := 100, tAU := 97, tU64 := 83, tUint := 135, tU32 := 98, tPU32 := 143, tPAU := 170, tPU64 := 172, tNoCopy := 93, tANoCopy := 94, tAlign64 := 95 }
set_option maxRecDepth 100000
theorem wgLib : WgLib prog wgLink := by
 constructor <;> first | kernel_rfl | (intro w; kernel_rfl)
end Go.Proofs.Ythnccaajpdnndaa
namespace Go.Proofs.Ythnccaajpdnndaa
open Go.Conc Go.ConcN Go.ConcN.Gen Go.RowKit Go.Conc.Lib Go.ConcR.Gen Go.Proofs.Try
open Go.ConcR (Bk stA smA rd wr mk KK Payload DC0 WgAt)
section
variable {P : Program} {ty : TypeId} {wg F : Nat} {v : Value}
def AtDis (P : Program) (g : Goroutine) (_w : World) : Prop := g.status = .running ∧ ∃ g' w', stepG P false g _w = .go g' w' #[mk .disable]
def AtRel0 (P : Program) (R : World → World → Prop) (wg : Nat) (g : Goroutine) (w : World) : Prop := g.status = .running ∧ ∃ g', stepG P false g w = .go g' w #[mk (.releaseMerge (stA wg))] ∧ ∃ m, Goes P false R DC0 (AtDis P) m g' w
theorem goes_clash [Payload] : ∀ (m n : Nat) (g : Goroutine) (w : World), Goes P false (RW ty wg F 0 0 0) (DWs wg noPl noPl F 0 1) (AtR0 P ty wg F 0 0 1 v) n g w → Goes P false (RW ty wg F 0 0 0) DC0 (AtDis P) m g w → False := by
 intro m
 induction m with
 | zero =>
  intro n g w A B
  obtain ⟨_, g', w', hst⟩ := B w (RW.refl w)
  rcases Goes.cases A with hs | ⟨n', rfl, hs⟩
  ·obtain ⟨_, _, g2, h2, _⟩ := hs w (RW.refl w)
   rw [hst] at h2
   simp [mk] at h2
  ·obtain ⟨g2, w2, es, h2, ⟨_, hd⟩, _⟩ := hs w (RW.refl w)
   rw [hst] at h2
   cases h2
   exact (hd (mk .disable) (by simp)).2.1 rfl
 | succ m ih =>
  intro n g w A B
  rcases Goes.cases B with hb | ⟨m', e, hb⟩
  ·obtain ⟨_, g', w', hst⟩ := hb w (RW.refl w)
   rcases Goes.cases A with hs | ⟨n', rfl, hs⟩
   ·obtain ⟨_, _, g2, h2, _⟩ := hs w (RW.refl w)
    rw [hst] at h2
    simp [mk] at h2
   ·obtain ⟨g2, w2, es, h2, ⟨_, hd⟩, _⟩ := hs w (RW.refl w)
    rw [hst] at h2
    cases h2
    exact (hd (mk .disable) (by simp)).2.1 rfl
  ·cases e
   obtain ⟨g', w', es, hst, ⟨rfl, rfl⟩, hb'⟩ := hb w (RW.refl w)
   rcases Goes.cases A with hs | ⟨n', rfl, hs⟩
   ·obtain ⟨_, _, g2, h2, _⟩ := hs w' (RW.refl w')
    rw [hst] at h2
    simp [mk] at h2
   ·obtain ⟨g2, w2, es, h2, _, hA'⟩ := hs w' (RW.refl w')
    rw [hst] at h2
    cases h2
    exact ih n' g' w' hA' hb'
theorem goes_both {G : Grp} [pl : Payload] (hpl : pl = ⟨0⟩) : ∀ (m n : Nat) (g : Goroutine) (w : World), Goes P false (RW G.ty G.wg G.F 0 0 0) (DWs G.wg noPl noPl G.F 0 1) (AtR0 P G.ty G.wg G.F 0 0 1 v) n g w →
  Goes P false (RW G.ty G.wg G.F 0 0 0) DC0 (AtRel0 P (RW G.ty G.wg G.F 0 0 0) G.wg) m g w → Goes P false (RW G.ty G.wg G.F 0 0 0) DC0 (AtR P G v) m g w := by
 subst hpl
 letI pl : Payload := ⟨0⟩
 have tr : ∀ a b c, RW G.ty G.wg G.F 0 0 0 a b → RW G.ty G.wg G.F 0 0 0 b c → RW G.ty G.wg G.F 0 0 0 a c := fun _ _ _ h1 h2 => h1.trans h2
 have fin : ∀ (n : Nat) (g : Goroutine) (w : World), Goes P false (RW G.ty G.wg G.F 0 0 0) (DWs G.wg noPl noPl G.F 0 1) (AtR0 P G.ty G.wg G.F 0 0 1 v) n g w → AtRel0 P (RW G.ty G.wg G.F 0 0 0) G.wg g w → AtR P G v g w := by
  intro n g w A ⟨hr, g', hst, m2, hB⟩
  refine ⟨hr, g', hst, ?_⟩
  rcases Goes.cases A with hs | ⟨n', rfl, hs⟩
  ·obtain ⟨_, _, g2, h2, m3, hk⟩ := hs w (RW.refl w)
   rw [hst] at h2
   cases h2
   exact ⟨m3, .k1 hk⟩
  ·obtain ⟨g2, w2, es, h2, _, hA'⟩ := hs w (RW.refl w)
   rw [hst] at h2
   cases h2
   exact (goes_clash m2 n' g' w hA' hB).elim
 intro m
 induction m with
 | zero => exact fun n g w A B => fun w₁ h₁ => fin n g w₁ (Goes.rely tr A h₁) (B w₁ h₁)
 | succ m ih =>
  intro n g w A B
  rcases B with hb | ⟨hr, hb⟩
  ·exact .inl fun w₁ h₁ => fin n g w₁ (Goes.rely tr A h₁) (hb w₁ h₁)
  ·refine .inr ⟨hr, fun w₁ h₁ => ?_⟩
   have hb1 := hb w₁ h₁
   have A1 := Goes.rely tr A h₁
   cases hgo : stepG P false g w₁ with
   | go g' w' es =>
    rw [hgo] at hb1
    simp only [goes_go] at hb1 ⊢
    obtain ⟨⟨rfl, rfl⟩, hb'⟩ := hb1
    refine ⟨⟨rfl, rfl⟩, ?_⟩
    rcases Goes.cases A1 with hs | ⟨n', rfl, hs⟩
    ·obtain ⟨_, _, g2, h2, _⟩ := hs w' (RW.refl w')
     rw [hgo] at h2
     simp [mk] at h2
    ·obtain ⟨g2, w2, es, h2, _, hA'⟩ := hs w' (RW.refl w')
     rw [hgo] at h2
     cases h2
     exact ih n' g' w' hA' hb'
   | _ => rw [hgo] at hb1; exact hb1.elim
end
section
variable [Payload] {L : WgLink}
set_option maxRecDepth 100000 in
set_option maxHeartbeats 8000000 in
theorem done_rel {P : Program} (H : WgLib P L) {wg F : Nat} {val : Value} {cs : List Frame} (w : World) (hK : WgLive L.tWg wg w ∧ Has F 0 val w) :
  Goes P false (RW L.tWg wg F 0 0 0) DC0 (AtRel0 P (RW L.tWg wg F 0 0 0) wg) 23 (Go.Conc.G ((baseD L.done).at ⟨#[.pointer (some ⟨wg, 0, none⟩), undef, undef, undef], []⟩ [.code (body_done L)]) cs) w := by
 lib_facts
 simp only [body_done, doneFn, Option.getD_some]
 u_reg kn_rely hK
 u_op kn_rely hK
 u_in kn_rely hK
 refine goes_call rfl rfl (by k_ne) rfl H.f_add (nm_add L) rfl ⟨by u_nil, ?_⟩
 walk_nrmf addFn
 u_c stepG_seq kn_rely hK
 u_cond true kn_rely hK
 u_c stepG_seq kn_rely hK
 u_c stepG_seq kn_rely hK
 u_reg kn_rely hK
 u_op kn_rely hK
 u_op kn_rely hK
 u_c stepG_region_end kn_rely hK
 u_cond true kn_rely hK
 u_reg kn_rely hK
 u_op kn_rely hK
 u_conv H.underlying_tWgP H.room_tWg (Go.ConcN.Gen.WgLive.cell0 hK.1).choose_spec kn_rely hK
 refine Goes.stop (fun w₁ h₁ => ?_)
 replace hK := kn_rely hK h₁
 clear h₁
 refine ⟨rfl, _, stepG_markAt .releaseMerge (by simp) rfl rfl (by k_ne) rfl H.f_relMerge (x_relMerge_n L) (x_relMerge_b L) (x_relMerge_x L) (x_relMerge_f L) (by simp [Act.eval, stA]), 10, ?_⟩
 walk_nrm
 u_c stepG_region_end kn_rely hK
 u_c stepG_seq kn_rely hK
 u_reg kn_rely hK
 refine Goes.stop (fun w₁ h₁ => ?_)
 exact ⟨rfl, _, _, stepG_mark0 .disable (by simp) rfl rfl (by k_ne) rfl H.f_disable (x_disable_n L) (x_disable_b L) (x_disable_x L) (x_disable_f L)⟩
end
theorem done_stop {G : Grp} (hty : G.ty = wgLink.tWg) {c : Frame} {cs : List Frame} {qt : Nat} (hcm : c.mode = .returning) (hT : QuitsD prog qt 0 (Go.Conc.G c cs)) {w : World} {fi : Foot} {v : Value} (hF : fi.rd G.F) (hphi : G.phi w fi) (hv : G.has v w) :
  AtDone prog G (Go.Conc.G ((baseD wgLink.done).at ⟨#[.pointer (some ⟨G.wg, 0, none⟩), undef, undef, undef], []⟩ [.code (body_done wgLink)]) (c :: cs)) w fi := by
 letI pl : Payload := ⟨0⟩
 refine ⟨rfl, hF, hphi, v, hv, fun w₁ hat hv₁ => ⟨23, ?_⟩⟩
 have hK : WgLive wgLink.tWg G.wg w₁ ∧ Has G.F 0 v w₁ := ⟨by rw [← hty]; exact hat, hv₁⟩
 have A := doneN (L := wgLink) wgLib (Own := noPl) (Rd := noPl) (n := 0) (Low := 0) (k := 1) hcm hT w₁ hK
 have B := done_rel (L := wgLink) wgLib (cs := c :: cs) w₁ hK
 rw [← hty] at A B
 exact goes_both rfl 23 23 _ w₁ A B
section
variable {P : Program} {W0 : World} {Post : Value → World → Prop} {G : Grp} {ρ : Env} {FC : Frm} {h : List AObj} {p x : Nat}
def LiveR (ty : TypeId) (wg : Nat) (w w₁ : World) : Prop := WgLive ty wg w → WgLive ty wg w₁
theorem live_rely {ty : TypeId} {wg : Nat} {w w₁ : World} (h : WgLive ty wg w) (r : LiveR ty wg w w₁) : WgLive ty wg w₁ := r h
theorem JG.goes : ∀ (n : Nat) (g : Goroutine) (w : World) (ft : Foot), WgLive G.ty G.wg w → HRel ρ h FC w ft → Goes P true (LiveR G.ty G.wg) DC0 (fun g w => ∀ ft, WgLive G.ty G.wg w → HRel ρ h FC w ft → JG P W0 Post G g w ft) n g w → JG P W0 Post G g w ft := by
 intro n
 induction n with
 | zero => exact fun g w ft hl H hg => hg w id ft hl H
 | succ n ih =>
  intro g w ft hl H hg
  rcases hg with hs | ⟨hr, hb⟩
  ·exact hs w id ft hl H
  ·refine JG.act hr fun w₁ s st sm h₁ htw hnw hat hph => ?_
   have hl1 : WgLive G.ty G.wg w₁ := ⟨st, sm, hat⟩
   have hb1 := hb w₁ fun _ => hl1
   cases hgo : stepG P true g w₁ with
   | go g' w' es =>
    rw [hgo] at hb1
    simp only [goes_go] at hb1
    obtain ⟨⟨rfl, rfl⟩, hb'⟩ := hb1
    refine ⟨g', w', #[], st, sm, ft.tag % 32, rfl, .refl _ _, hat, by simp, ⟨Nat.mod_lt _ (by omega), id⟩, rfl, hph, ?_⟩
    have e : ft.tag % 32 + 32 * G.wg = ft.tag := by omega
    rw [e]
    exact ih g' w' ft hl1 (H.rely h₁) hb'
   | _ => rw [hgo] at hb1; exact hb1.elim
theorem JG.there {g : Goroutine} {w : World} {ft : Foot} (hh : ∀ w₁, RelyW ft w w₁ → ft.tag / 32 = G.wg → WgLive G.ty G.wg w₁ → JG P W0 Post G g w₁ ft) : JG P W0 Post G g w ft := by
 intro gs w₁ sl t i r q ws S hrel h0 I
 obtain ⟨st, sm, hat, _⟩ := I.grp
 exact hh w₁ hrel I.tagw ⟨st, sm, hat⟩ gs w₁ sl t i r q ws S (RelyW.refl _ _) h0 I
theorem JG.act_at (hg : GrpAt h p x) {g : Goroutine} {w : World} {ft : Foot} (H : HRel ρ h FC w ft) (hrun : g.status = .running)
  (hs : ∀ w₁ s st sm, ρ.blk p = G.wg → G.at_ w₁ st sm → Phase x s st sm → ∃ (g' : Goroutine) (w' : World) (es : Array Event) (st' sm' : Int) (x' : Nat), stepG P true g w₁ = .go g' w' es ∧ Aside G.wg w₁ w' ∧ G.at_ w' st' sm' ∧ (∀ e ∈ es, Bk3 G.wg e) ∧ (x' < 32 ∧ (x' = 12 → x = 12)) ∧ deafBehind (deafX x) es = deafX x' ∧ Phase x' s st' sm' ∧
   ∀ ft', WgLive G.ty G.wg w' → HRel ρ (h.set p (.group x')) FC w' ft' → JG P W0 Post G g' w' ft') : JG P W0 Post G g w ft := by
 refine JG.act hrun fun w₁ s st sm h₁ htw hnw hat hph => ?_
 have htag := H.tag p x hg.here
 have hlt := hg.lt
 have e1 : ft.tag % 32 = x := by omega
 have e2 : ρ.blk p = G.wg := by omega
 rw [e1] at hph
 obtain ⟨g', w', es, st', sm', x', hgo, A, hat', hbk, hx, hd, hph', hJ⟩ := hs w₁ s st sm e2 hat hph
 refine ⟨g', w', es, st', sm', x', hgo, A, hat', hbk, ⟨hx.1, fun e => e1.trans (hx.2 e)⟩, by rw [e1]; exact hd, hph', hJ _ ⟨st', sm', hat'⟩ ?_⟩
 have H2 := (H.rely h₁).tell hg.here (y := x') hg.one
 rw [e2] at H2
 exact H2.rely ⟨fun b hb => A.block b fun e => hnw (e ▸ hb), Nat.le_of_eq A.size.symm, A.tape, A.os, A.output⟩
theorem bk3_markA {wg : Nat} (m : Mark) (hm : m = .disable ∨ m = .enable) : ∀ y ∈ #[(⟨.mark m, false, true⟩ : Event)], Bk3 wg y := fun y hy => bk3_mark m hm y (by simpa using hy)
theorem bk3_saidA {wg : Nat} (m : Mark) (hm : m = .read ⟨wg, 1, none⟩ ∨ m = .write ⟨wg, 1, none⟩) : ∀ y ∈ #[(⟨.mark m, false, true⟩ : Event)], Bk3 wg y := fun y hy => bk3_read (a := ⟨wg, 1, none⟩) rfl m hm y (by simpa using hy)
theorem bk3_rwA (wg : Nat) : ∀ y ∈ #[(⟨.cell (stA wg), false, true⟩ : Event), ⟨.cell (stA wg), true, true⟩], Bk3 wg y := fun y hy => bk3_cell (ad := stA wg) rfl (cells2 (stA wg)) y (by simpa using hy)
theorem bk3_rA (wg : Nat) : ∀ y ∈ #[(⟨.cell (stA wg), false, true⟩ : Event)], Bk3 wg y := fun y hy => bk3_cell (ad := stA wg) rfl (cells1 (stA wg)) y (by simpa using hy)
set_option maxRecDepth 100000 in
set_option maxHeartbeats 16000000 in
theorem add_walk {L : WgLink} (H : WgLib P L) (hty : G.ty = L.tWg) (hg : GrpAt h p 1) {w : World} {ft : Foot} (HR : HRel ρ h FC w ft) {c : Frame} {cs : List Frame} (hF : WgLive G.ty G.wg w)
  (hc : ∀ w' ft', HRel ρ (h.set p (.group 4)) FC w' ft' → JG P W0 Post G (Go.Conc.G (c.finish (.tuple #[])) cs) w' ft') :
  JG P W0 Post G (Go.Conc.G ((base L.add).at ⟨#[.pointer (some ⟨G.wg, 0, none⟩), .int .i64 1] ++ Array.replicate 115 undef, []⟩ [.code (Go.ConcR.Gen.body_add L)]) (c :: cs)) w ft := by
 letI pl : Payload := ⟨0⟩
 have er : (#[.pointer (some ⟨G.wg, 0, none⟩), .int .i64 1] ++ Array.replicate 115 undef : Array Value) = #[.pointer (some ⟨G.wg, 0, none⟩), .int .i64 1, undef, undef, undef, undef, undef, undef, undef, undef, undef, undef, undef, undef, undef, undef, undef, undef, undef, undef, undef, undef, undef, undef, undef, undef, undef, undef, undef, undef, undef, undef, undef, undef, undef, undef, undef, undef, undef, undef, undef, undef, undef, undef, undef, undef, undef, undef, undef, undef, undef, undef, undef, undef, undef, undef, undef, undef, undef, undef, undef, undef, undef, undef, undef, undef, undef, undef, undef, undef, undef, undef, undef, undef, undef, undef, undef, undef, undef, undef, undef, undef, undef, undef, undef, undef, undef, undef, undef, undef, undef, undef, undef, undef, undef, undef, undef, undef, undef, undef, undef, undef, undef, undef, undef, undef, undef, undef, undef, undef, undef, undef, undef, undef, undef, undef, undef] := by kernel_rfl
 rw [er]
 clear er
 refine JG.goes 100 _ _ ft hF HR ?_
 rw [hty] at *
 lib_facts
 simp only [Go.ConcR.Gen.body_add, addFn, Option.getD_some]
 u_c stepG_seq live_rely hF
 u_cond true live_rely hF
 u_c stepG_seq live_rely hF
 u_c stepG_seq live_rely hF
 u_reg live_rely hF
 u_op live_rely hF
 u_op live_rely hF
 u_c stepG_region_end live_rely hF
 u_cond false live_rely hF
 u_c stepG_skip live_rely hF
 u_c stepG_seq live_rely hF
 u_reg live_rely hF
 refine Goes.stop (fun w₁ _ ft hl HR => ?_)
 refine JG.act_at hg HR rfl fun w₂ s st sm hb hat hph => ⟨_, w₂, _, st, sm, 2, stepG_mark0 .disable (by simp) rfl rfl (by k_ne) rfl H.f_disable (x_disable_n L) (x_disable_b L) (x_disable_x L) (x_disable_f L), .refl _ _, hat, bk3_markA _ (.inl rfl), ⟨by omega, fun e => by omega⟩, by simp [deafBehind, deafX], hph.bump (by omega), fun ft hF HR => ?_⟩
 have hg2 := hg.set (y := 2) (by omega)
 refine JG.goes 100 _ _ ft hF HR ?_
 walk_nrm
 u_c stepG_region_end live_rely hF
 u_reg live_rely hF
 u_defer live_rely hF
 u_c stepG_region_end live_rely hF
 u_c stepG_seq live_rely hF
 u_reg live_rely hF
 u_op live_rely hF
 u_c stepG_region_end live_rely hF
 u_c stepG_seq live_rely hF
 u_c stepG_seq live_rely hF
 u_reg live_rely hF
 u_bub live_rely hF
 u_c stepG_region_end live_rely hF
 u_cond false live_rely hF
 u_c stepG_skip live_rely hF
 u_c stepG_seq live_rely hF
 u_reg live_rely hF
 u_op live_rely hF
 u_op live_rely hF
 u_op live_rely hF
 u_op live_rely hF
 u_op live_rely hF
 u_op live_rely hF
 u_call H.f_uAdd (nm_uAdd L) uAddFn live_rely hF
 u_c stepG_seq live_rely hF
 u_reg live_rely hF
 u_op live_rely hF
 u_c stepG_region_end live_rely hF
 u_c stepG_seq live_rely hF
 u_reg live_rely hF
 u_op live_rely hF
 u_op live_rely hF
 u_op live_rely hF
 u_op live_rely hF
 refine Goes.stop (fun w₁ _ ft hl HR => ?_)
 clear hF
 refine JG.act_at hg2 HR rfl fun w₂ s st sm hb hat hph => ?_
 obtain ⟨rfl, rfl, rfl⟩ := hph.at_opened (.inr rfl)
 have e0 : IntKind.u64.wrap (0 + 4294967296) = 4294967296 := by decide
 refine ⟨_, w₂.setCell (stA G.wg) (.int .u64 4294967296), _, 4294967296, 0, 3, (stepG_add_atomic rfl rfl (by k_ne) rfl H.f_addU64 (x_addU64_n L) (x_addU64_b L) (x_addU64_x L) .u64 (x_addU64_f L) rfl rfl (Go.ConcR.WgAt.cellSt hat) (Go.ConcR.WgAt.thaw hat 0)).trans (by rw [e0]), aside_setCell w₂ (stA G.wg) _, Go.ConcR.WgAt.setSt hat _, bk3_rwA _, ⟨by omega, fun e => by omega⟩, by simp [deafBehind, deafX], .added (.inl rfl), fun ft hF HR => ?_⟩
 have hg3 := hg2.set (y := 3) (by omega)
 refine JG.goes 200 _ _ ft hF HR ?_
 walk_nrm
 u_op live_rely hF
 u_c stepG_region_end live_rely hF
 u_c stepG_ret' live_rely hF
 u_leave1 H.f_uAdd live_rely hF
 u_op live_rely hF
 u_c stepG_region_end live_rely hF
 u_c stepG_seq live_rely hF
 u_c stepG_seq live_rely hF
 u_reg live_rely hF
 u_op live_rely hF
 u_op live_rely hF
 u_op live_rely hF
 u_op live_rely hF
 u_skip live_rely hF
 u_skip live_rely hF
 u_op live_rely hF
 u_c stepG_region_end live_rely hF
 u_cond false live_rely hF
 u_c stepG_skip live_rely hF
 u_c stepG_seq live_rely hF
 u_reg live_rely hF
 u_op live_rely hF
 u_op live_rely hF
 u_op live_rely hF
 u_op live_rely hF
 u_c stepG_region_end live_rely hF
 u_c stepG_seq live_rely hF
 u_reg live_rely hF
 u_op live_rely hF
 u_op live_rely hF
 u_op live_rely hF
 u_op live_rely hF
 u_c stepG_region_end live_rely hF
 u_c stepG_seq live_rely hF
 u_c stepG_seq live_rely hF
 u_reg live_rely hF
 u_op live_rely hF
 u_op live_rely hF
 u_op live_rely hF
 u_op live_rely hF
 u_op live_rely hF
 u_op live_rely hF
 u_op live_rely hF
 u_op live_rely hF
 u_op live_rely hF
 u_op live_rely hF
 u_c stepG_region_end live_rely hF
 u_cond true live_rely hF
 u_reg live_rely hF
 u_op live_rely hF
 u_op live_rely hF
 u_op live_rely hF
 u_conv H.underlying_tPU32 H.room_tU32 (Go.ConcN.Gen.WgLive.cell1 hF).choose_spec live_rely hF
 refine Goes.stop (fun w₁ _ ft hl HR => ?_)
 clear hF
 refine JG.act_at hg3 HR rfl fun w₂ s st sm hb hat hph => ⟨_, w₂, _, st, sm, 3, stepG_markAt .read (by simp) rfl rfl (by k_ne) rfl H.f_raceRead (x_raceRead_n L) (x_raceRead_b L) (x_raceRead_x L) (x_raceRead_f L) (ad := ⟨G.wg, 1, none⟩) (by simp [Act.eval]), .refl _ _, hat, bk3_saidA _ (.inl rfl), ⟨by omega, fun e => by omega⟩, by simp [deafBehind, deafX], hph, fun ft hF HR => ?_⟩
 have hg4 := hg3.set (y := 3) (by omega)
 refine JG.goes 200 _ _ ft hF HR ?_
 walk_nrm
 u_c stepG_region_end live_rely hF
 u_c stepG_seq live_rely hF
 u_c stepG_seq live_rely hF
 u_reg live_rely hF
 u_op live_rely hF
 u_op live_rely hF
 u_c stepG_region_end live_rely hF
 u_cond false live_rely hF
 u_c stepG_skip live_rely hF
 u_c stepG_seq live_rely hF
 u_c stepG_seq live_rely hF
 u_reg live_rely hF
 u_op live_rely hF
 u_op live_rely hF
 u_op live_rely hF
 u_skip live_rely hF
 u_skip live_rely hF
 u_op live_rely hF
 u_op live_rely hF
 u_skip live_rely hF
 u_skip live_rely hF
 u_skip live_rely hF
 u_skip live_rely hF
 u_op live_rely hF
 u_c stepG_region_end live_rely hF
 u_cond false live_rely hF
 u_c stepG_skip live_rely hF
 u_c stepG_seq live_rely hF
 u_c stepG_seq live_rely hF
 u_reg live_rely hF
 u_op live_rely hF
 u_op live_rely hF
 u_op live_rely hF
 u_skip live_rely hF
 u_skip live_rely hF
 u_op live_rely hF
 u_c stepG_region_end live_rely hF
 u_cond true live_rely hF
 u_c stepG_ret' live_rely hF
 refine Goes.stop (fun w₁ _ ft hl HR => ?_)
 clear hF
 refine JG.act_at hg4 HR rfl fun w₂ s st sm hb hat hph => ⟨_, w₂, _, st, sm, 4, stepG_unwind_entry (v := .tuple #[]) (evs := #[mk .enable]) rfl H.f_enable (x_enable_n L) (x_enable_b L) (x_enable_x L) (x_enable_f L) (by simp [Extern.Race.none_]) (by simp [mk]) (by simp [mk]), .refl _ _, hat, bk3_markA _ (.inr rfl), ⟨by omega, fun e => by omega⟩, by simp [deafBehind, deafX, mk], hph.bump (by omega), fun ft hF HR => ?_⟩
 refine (JG.closed P W0 Post G).ctrl rfl rfl (fun w => stepG_leave rfl rfl H.f_add (v := .tuple #[]) (by simp [results, addFn]) (by simp [results, addFn])) ?_
 refine hc _ _ ?_
 simpa [List.set_set] using HR
end
section
variable {P : Program} {W0 : World} {Post : Value → World → Prop} {G : Grp} {ρ : Env} {FC : Frm} {h : List AObj} {p x : Nat}
theorem JG.acq_at (hg : GrpAt h p 11) {g : Goroutine} {w : World} {ft : Foot} (H : HRel ρ h FC w ft) (hrun : g.status = .running)
  (hs : ∀ w₁, ρ.blk p = G.wg → ∃ g', stepG P true g w₁ = .go g' w₁ #[Go.ConcR.mk (.acquire (stA G.wg))] ∧ ∀ ft', WgLive G.ty G.wg w₁ → HRel ρ (h.set p (.group 12)) FC w₁ ft' → JG P W0 Post G g' w₁ ft') : JG P W0 Post G g w ft := by
 have htag := H.tag p 11 hg.here
 refine JG.acquire hrun (by omega) fun w₁ h₁ htw hlv => ?_
 have e2 : ρ.blk p = G.wg := by omega
 obtain ⟨g', hgo, hJ⟩ := hs w₁ e2
 have H2 := (H.rely h₁).tell hg.here (y := 12) hg.one
 have e3 : ft.tag + 1 = 12 + 32 * ρ.blk p := by omega
 rw [e3]
 exact ⟨g', hgo, hJ _ hlv H2⟩
theorem JG.sem_at (hg : GrpAt h p 9) {g : Goroutine} {w : World} {ft : Foot} (H : HRel ρ h FC w ft) (hrun : g.status = .running) (hoff : g.offers = none)
  (hwait : ∀ w₁ st, ρ.blk p = G.wg → G.at_ w₁ st 0 → stepG P true g w₁ = .go { g with status := .blocked } w₁ #[])
  (hgo : ∀ w₁, ρ.blk p = G.wg → G.at_ w₁ 0 1 → ∃ g', stepG P true g w₁ = .go g' (w₁.setCell (smA G.wg) (.int .u32 0)) (semEvents (smA G.wg)) ∧ ∀ ft', WgLive G.ty G.wg (w₁.setCell (smA G.wg) (.int .u32 0)) → HRel ρ (h.set p (.group 10)) FC (w₁.setCell (smA G.wg) (.int .u32 0)) ft' → JG P W0 Post G g' (w₁.setCell (smA G.wg) (.int .u32 0)) ft') : JG P W0 Post G g w ft := by
 have htag := H.tag p 9 hg.here
 refine JG.sema hrun hoff (by omega) (fun w₁ st h₁ htw hat => hwait w₁ st (by omega) hat) fun w₁ h₁ htw hnw hat => ?_
 have hb : ρ.blk p = G.wg := by omega
 obtain ⟨g', h1, hJ⟩ := hgo w₁ hb hat
 refine ⟨g', h1, hJ _ ⟨0, 0, Go.ConcR.WgAt.setSm hat 0⟩ ?_⟩
 have A := aside_setCell w₁ (smA G.wg) (.int .u32 0)
 have H2 := (H.rely h₁).tell hg.here (y := 10) hg.one
 rw [hb] at H2
 refine H2.rely ⟨fun b hb' => A.block b fun e => hnw ?_, Nat.le_of_eq A.size.symm, A.tape, A.os, A.output⟩
 rw [e] at hb'
 exact hb'
set_option maxRecDepth 100000 in
set_option maxHeartbeats 32000000 in
theorem wait_walk {L : WgLink} (H : WgLib P L) (hty : G.ty = L.tWg) (hg : GrpAt h p 5) {w : World} {ft : Foot} (HR : HRel ρ h FC w ft) {c : Frame} {cs : List Frame} (hF : WgLive G.ty G.wg w)
  (hc : ∀ w' ft', HRel ρ (h.set p (.group 12)) FC w' ft' → JG P W0 Post G (Go.Conc.G (c.finish (.tuple #[])) cs) w' ft') :
  JG P W0 Post G (Go.Conc.G ((base L.wait).at ⟨#[.pointer (some ⟨G.wg, 0, none⟩)] ++ Array.replicate 83 undef, []⟩ [.code (Go.ConcR.Gen.body_wait L)]) (c :: cs)) w ft := by
 letI pl : Payload := ⟨0⟩
 have er : (#[.pointer (some ⟨G.wg, 0, none⟩)] ++ Array.replicate 83 undef : Array Value) = #[.pointer (some ⟨G.wg, 0, none⟩), undef, undef, undef, undef, undef, undef, undef, undef, undef, undef, undef, undef, undef, undef, undef, undef, undef, undef, undef, undef, undef, undef, undef, undef, undef, undef, undef, undef, undef, undef, undef, undef, undef, undef, undef, undef, undef, undef, undef, undef, undef, undef, undef, undef, undef, undef, undef, undef, undef, undef, undef, undef, undef, undef, undef, undef, undef, undef, undef, undef, undef, undef, undef, undef, undef, undef, undef, undef, undef, undef, undef, undef, undef, undef, undef, undef, undef, undef, undef, undef, undef, undef, undef] := by kernel_rfl
 rw [er]
 clear er
 refine JG.goes 100 _ _ ft hF HR ?_
 rw [hty] at *
 lib_facts
 simp only [Go.ConcR.Gen.body_wait, waitFn, Option.getD_some]
 u_c stepG_seq live_rely hF
 u_cond true live_rely hF
 u_reg live_rely hF
 refine Goes.stop (fun w₁ _ ft hl HR => ?_)
 clear hF
 refine JG.act_at hg HR rfl fun w₂ s st sm hb hat hph => ⟨_, w₂, _, st, sm, 6, stepG_mark0 .disable (by simp) rfl rfl (by k_ne) rfl H.f_disable (x_disable_n L) (x_disable_b L) (x_disable_x L) (x_disable_f L), .refl _ _, hat, bk3_markA _ (.inl rfl), ⟨by omega, fun e => by omega⟩, by simp [deafBehind, deafX], hph.bump (by omega), fun ft hF HR => ?_⟩
 have hg6 := hg.set (y := 6) (by omega)
 refine JG.goes 300 _ _ ft hF HR ?_
 walk_nrm
 u_c stepG_region_end live_rely hF
 u_c stepG_block live_rely hF
 u_c stepG_loop live_rely hF
 u_c stepG_block live_rely hF
 u_c stepG_seq live_rely hF
 u_reg live_rely hF
 u_op live_rely hF
 u_op live_rely hF
 u_op live_rely hF
 u_call H.f_uLoad (nm_uLoad L) uLoadFn live_rely hF
 u_c stepG_seq live_rely hF
 u_reg live_rely hF
 u_op live_rely hF
 u_c stepG_region_end live_rely hF
 u_c stepG_seq live_rely hF
 u_reg live_rely hF
 u_op live_rely hF
 u_op live_rely hF
 u_op live_rely hF
 refine Goes.stop (fun w₁ _ ft hl HR => ?_)
 clear hF
 refine JG.act_at hg6 HR rfl fun w₂ s st sm hb hat hph => ?_
 obtain ⟨rfl, ⟨a5, a8, rfl⟩ | ⟨rfl, rfl⟩⟩ := hph.at_run (by omega)
 ·refine ⟨_, w₂, _, 4294967296, 0, 7, stepG_load_atomic rfl rfl (by k_ne) rfl H.f_loadU64 (x_loadU64_n L) (x_loadU64_b L) (x_loadU64_x L) .u64 (x_loadU64_f L) rfl (Go.ConcR.WgAt.cellSt hat), .refl _ _, hat, bk3_rA _, ⟨by omega, fun e => by omega⟩, by simp [deafBehind, deafX], .run (by omega) (by omega) a5 a8, fun ft hF HR => ?_⟩
  have hg7 := hg6.set (y := 7) (by omega)
  refine JG.goes 300 _ _ ft hF HR ?_
  walk_nrm
  u_op live_rely hF
  u_c stepG_region_end live_rely hF
  u_c stepG_ret' live_rely hF
  u_leave1 H.f_uLoad live_rely hF
  u_op live_rely hF
  u_c stepG_region_end live_rely hF
  u_c stepG_seq live_rely hF
  u_reg live_rely hF
  u_op live_rely hF
  u_op live_rely hF
  u_op live_rely hF
  u_op live_rely hF
  u_c stepG_region_end live_rely hF
  u_c stepG_seq live_rely hF
  u_reg live_rely hF
  u_op live_rely hF
  u_op live_rely hF
  u_op live_rely hF
  u_op live_rely hF
  u_c stepG_region_end live_rely hF
  u_c stepG_seq live_rely hF
  u_c stepG_seq live_rely hF
  u_reg live_rely hF
  u_op live_rely hF
  u_op live_rely hF
  u_c stepG_region_end live_rely hF
  u_cond false live_rely hF
  u_c stepG_skip live_rely hF
  u_c stepG_seq live_rely hF
  u_reg live_rely hF
  u_op live_rely hF
  u_op live_rely hF
  u_op live_rely hF
  u_op live_rely hF
  u_op live_rely hF
  u_op live_rely hF
  u_call H.f_uCas (nm_uCas L) uCasFn live_rely hF
  u_c stepG_seq live_rely hF
  u_reg live_rely hF
  u_op live_rely hF
  u_c stepG_region_end live_rely hF
  u_c stepG_seq live_rely hF
  u_reg live_rely hF
  u_op live_rely hF
  u_op live_rely hF
  u_op live_rely hF
  u_op live_rely hF
  u_op live_rely hF
  refine Goes.stop (fun w₁ _ ft hl HR => ?_)
  clear hF
  refine JG.act_at hg7 HR rfl fun w₂ s st sm hb hat hph => ?_
  obtain ⟨rfl, ⟨a5, a8, rfl⟩ | ⟨rfl, rfl⟩⟩ := hph.at_run (by omega)
  ·refine ⟨_, w₂.setCell (stA G.wg) (.int .u64 4294967297), _, 4294967297, 0, 9, stepG_cas_hit (v := 4294967296) (n := 4294967297) rfl rfl (by k_ne) rfl H.f_casU64 (x_casU64_n L) (x_casU64_b L) (x_casU64_x L) .u64 (x_casU64_f L) rfl rfl rfl (Go.ConcR.WgAt.cellSt hat) (Go.ConcR.WgAt.thaw hat 0), aside_setCell w₂ (stA G.wg) _, Go.ConcR.WgAt.setSt hat _, bk3_rwA _, ⟨by omega, fun e => by omega⟩, by simp [deafBehind, deafX], .reg a5 a8, fun ft hF HR => ?_⟩
   have hg9 := hg7.set (y := 9) (by omega)
   refine JG.goes 300 _ _ ft hF HR ?_
   walk_nrm
   u_op live_rely hF
   u_c stepG_region_end live_rely hF
   u_c stepG_ret' live_rely hF
   u_leave1 H.f_uCas live_rely hF
   u_c stepG_region_end live_rely hF
   u_cond true live_rely hF
   u_c stepG_seq live_rely hF
   u_c stepG_seq live_rely hF
   u_reg live_rely hF
   u_op live_rely hF
   u_op live_rely hF
   u_op live_rely hF
   u_op live_rely hF
   u_c stepG_region_end live_rely hF
   u_cond true live_rely hF
   u_reg live_rely hF
   u_op live_rely hF
   u_op live_rely hF
   u_op live_rely hF
   u_conv H.underlying_tPU32 H.room_tU32 (Go.ConcN.Gen.WgLive.cell1 hF).choose_spec live_rely hF
   refine Goes.stop (fun w₁ _ ft hl HR => ?_)
   clear hF
   refine JG.act_at hg9 HR rfl fun w₂ s st sm hb hat hph => ⟨_, w₂, _, st, sm, 9, stepG_markAt .write (by simp) rfl rfl (by k_ne) rfl H.f_raceWrite (x_raceWrite_n L) (x_raceWrite_b L) (x_raceWrite_x L) (x_raceWrite_f L) (ad := ⟨G.wg, 1, none⟩) (by simp [Act.eval]), .refl _ _, hat, bk3_saidA _ (.inr rfl), ⟨by omega, fun e => by omega⟩, by simp [deafBehind, deafX], hph.bump (by omega), fun ft hF HR => ?_⟩
   have hg9b := hg9.set (y := 9) (by omega)
   refine JG.goes 300 _ _ ft hF HR ?_
   walk_nrm
   u_c stepG_region_end live_rely hF
   u_c stepG_seq live_rely hF
   u_reg live_rely hF
   u_op live_rely hF
   u_c stepG_region_end live_rely hF
   u_c stepG_seq live_rely hF
   u_c stepG_seq live_rely hF
   u_reg live_rely hF
   u_op live_rely hF
   u_op live_rely hF
   u_op live_rely hF
   u_op live_rely hF
   u_skip live_rely hF
   u_op live_rely hF
   u_c stepG_region_end live_rely hF
   u_cond false live_rely hF
   u_c stepG_skip live_rely hF
   u_c stepG_seq live_rely hF
   u_reg live_rely hF
   u_op live_rely hF
   u_op live_rely hF
   u_op live_rely hF
   u_op live_rely hF
   refine Goes.stop (fun w₁ _ ft hl HR => ?_)
   clear hF
   refine JG.sem_at hg9b HR rfl rfl (fun w₂ st hb hat => stepG_semacquire_wait rfl rfl rfl H.f_semacquire (x_semacquire_n L) (x_semacquire_b L) (x_semacquire_x L) (x_semacquire_f L) (ad := ⟨G.wg, 1, none⟩) (by simp [Act.eval]) (Go.ConcR.WgAt.cellSm hat)) fun w₂ hb hat => ⟨_, stepG_semacquire rfl rfl (by k_ne) rfl H.f_semacquire (x_semacquire_n L) (x_semacquire_b L) (x_semacquire_x L) (x_semacquire_f L) (ad := ⟨G.wg, 1, none⟩) (n := 1) (by simp [Act.eval]) (Go.ConcR.WgAt.cellSm hat) (by decide) (Go.ConcR.WgAt.thaw hat 1), fun ft hF HR => ?_⟩
   have hg10 := hg9b.set (y := 10) (by omega)
   refine JG.goes 300 _ _ ft hF HR ?_
   walk_nrm
   u_c stepG_region_end live_rely hF
   u_c stepG_seq live_rely hF
   u_reg live_rely hF
   u_op live_rely hF
   u_op live_rely hF
   u_op live_rely hF
   u_call H.f_uLoad (nm_uLoad L) uLoadFn live_rely hF
   u_c stepG_seq live_rely hF
   u_reg live_rely hF
   u_op live_rely hF
   u_c stepG_region_end live_rely hF
   u_c stepG_seq live_rely hF
   u_reg live_rely hF
   u_op live_rely hF
   u_op live_rely hF
   u_op live_rely hF
   refine Goes.stop (fun w₁ _ ft hl HR => ?_)
   clear hF
   refine JG.act_at hg10 HR rfl fun w₂ s st sm hb hat hph => ?_
   obtain ⟨rfl, rfl, rfl⟩ := hph.at_out (by omega)
   refine ⟨_, w₂, _, 0, 0, 10, stepG_load_atomic rfl rfl (by k_ne) rfl H.f_loadU64 (x_loadU64_n L) (x_loadU64_b L) (x_loadU64_x L) .u64 (x_loadU64_f L) rfl (Go.ConcR.WgAt.cellSt hat), .refl _ _, hat, bk3_rA _, ⟨by omega, fun e => by omega⟩, by simp [deafBehind, deafX], hph, fun ft hF HR => ?_⟩
   have hg10b := hg10.set (y := 10) (by omega)
   refine JG.goes 300 _ _ ft hF HR ?_
   walk_nrm
   u_op live_rely hF
   u_c stepG_region_end live_rely hF
   u_c stepG_ret' live_rely hF
   u_leave1 H.f_uLoad live_rely hF
   u_op live_rely hF
   u_op live_rely hF
   u_c stepG_region_end live_rely hF
   u_c stepG_seq live_rely hF
   u_cond true live_rely hF
   u_c stepG_seq live_rely hF
   u_reg live_rely hF
   refine Goes.stop (fun w₁ _ ft hl HR => ?_)
   clear hF
   refine JG.act_at hg10b HR rfl fun w₂ s st sm hb hat hph => ⟨_, w₂, _, st, sm, 11, stepG_mark0 .enable (by simp) rfl rfl (by k_ne) rfl H.f_enable (x_enable_n L) (x_enable_b L) (x_enable_x L) (x_enable_f L), .refl _ _, hat, bk3_markA _ (.inr rfl), ⟨by omega, fun e => by omega⟩, by simp [deafBehind, deafX], hph.bump (by omega), fun ft hF HR => ?_⟩
   have hgA := hg10b.set (y := 11) (by omega)
   refine JG.goes 300 _ _ ft hF HR ?_
   walk_nrm
   u_c stepG_region_end live_rely hF
   u_reg live_rely hF
   u_op live_rely hF
   u_conv H.underlying_tWgP H.room_tWg (Go.ConcN.Gen.WgLive.cell0 hF).choose_spec live_rely hF
   refine Goes.stop (fun w₁ _ ft hl HR => ?_)
   clear hF
   refine JG.acq_at hgA HR rfl (fun w₂ hb => ⟨_, stepG_markAt .acquire (by simp) rfl rfl (by k_ne) rfl H.f_acquire (x_acquire_n L) (x_acquire_b L) (x_acquire_x L) (x_acquire_f L) (ad := ⟨G.wg, 0, none⟩) (by simp [Act.eval]), fun ft hF HR => ?_⟩)
   have hgB := hgA.set (y := 12) (by omega)
   refine JG.goes 300 _ _ ft hF HR ?_
   walk_nrm
   u_c stepG_region_end live_rely hF
   u_c stepG_seq live_rely hF
   u_c stepG_seq live_rely hF
   u_reg live_rely hF
   u_op live_rely hF
   u_c stepG_region_end live_rely hF
   u_cond false live_rely hF
   u_c stepG_skip live_rely hF
   u_c stepG_ret' live_rely hF
   refine Goes.stop (fun w₁ _ ft hl HR => ?_)
   refine (JG.closed P W0 Post G).ctrl rfl rfl (fun w => stepG_leave rfl rfl H.f_wait (v := .tuple #[]) (by simp [results, waitFn]) (by simp [results, waitFn])) ?_
   refine hc _ _ ?_
   simpa [List.set_set] using HR
  ·refine ⟨_, w₂, _, 0, 0, 13, stepG_cas_miss (old := 4294967296) (n := 4294967297) rfl rfl (by k_ne) rfl H.f_casU64 (x_casU64_n L) (x_casU64_b L) (x_casU64_x L) .u64 (x_casU64_f L) rfl rfl rfl (Go.ConcR.WgAt.cellSt hat) (Go.ConcR.WgAt.thaw hat 0) (by decide), .refl _ _, hat, bk3_rA _, ⟨by omega, fun e => by omega⟩, by simp [deafBehind, deafX], .out (by omega) (by omega) (by omega), fun ft hF HR => ?_⟩
   have hg13 := hg7.set (y := 13) (by omega)
   refine JG.goes 300 _ _ ft hF HR ?_
   walk_nrm
   u_op live_rely hF
   u_c stepG_region_end live_rely hF
   u_c stepG_ret' live_rely hF
   u_leave1 H.f_uCas live_rely hF
   u_c stepG_region_end live_rely hF
   u_cond false live_rely hF
   u_c stepG_skip live_rely hF
   u_c stepG_inBlock live_rely hF
   u_c stepG_inLoop live_rely hF
   u_c stepG_block live_rely hF
   u_c stepG_seq live_rely hF
   u_reg live_rely hF
   u_op live_rely hF
   u_op live_rely hF
   u_op live_rely hF
   u_call H.f_uLoad (nm_uLoad L) uLoadFn live_rely hF
   u_c stepG_seq live_rely hF
   u_reg live_rely hF
   u_op live_rely hF
   u_c stepG_region_end live_rely hF
   u_c stepG_seq live_rely hF
   u_reg live_rely hF
   u_op live_rely hF
   u_op live_rely hF
   u_op live_rely hF
   refine Goes.stop (fun w₁ _ ft hl HR => ?_)
   clear hF
   refine JG.act_at hg13 HR rfl fun w₂ s st sm hb hat hph => ?_
   obtain ⟨rfl, rfl, rfl⟩ := hph.at_out (by omega)
   refine ⟨_, w₂, _, 0, 0, 8, stepG_load_atomic rfl rfl (by k_ne) rfl H.f_loadU64 (x_loadU64_n L) (x_loadU64_b L) (x_loadU64_x L) .u64 (x_loadU64_f L) rfl (Go.ConcR.WgAt.cellSt hat), .refl _ _, hat, bk3_rA _, ⟨by omega, fun e => by omega⟩, by simp [deafBehind, deafX], .out (by omega) (by omega) (by omega), fun ft hF HR => ?_⟩
   have hg8 := hg13.set (y := 8) (by omega)
   refine JG.goes 300 _ _ ft hF HR ?_
   walk_nrm
   u_op live_rely hF
   u_c stepG_region_end live_rely hF
   u_c stepG_ret' live_rely hF
   u_leave1 H.f_uLoad live_rely hF
   u_op live_rely hF
   u_c stepG_region_end live_rely hF
   u_c stepG_seq live_rely hF
   u_reg live_rely hF
   u_op live_rely hF
   u_op live_rely hF
   u_op live_rely hF
   u_op live_rely hF
   u_c stepG_region_end live_rely hF
   u_c stepG_seq live_rely hF
   u_reg live_rely hF
   u_op live_rely hF
   u_op live_rely hF
   u_op live_rely hF
   u_op live_rely hF
   u_c stepG_region_end live_rely hF
   u_c stepG_seq live_rely hF
   u_c stepG_seq live_rely hF
   u_reg live_rely hF
   u_op live_rely hF
   u_op live_rely hF
   u_c stepG_region_end live_rely hF
   u_cond true live_rely hF
   u_c stepG_seq live_rely hF
   u_cond true live_rely hF
   u_c stepG_seq live_rely hF
   u_reg live_rely hF
   refine Goes.stop (fun w₁ _ ft hl HR => ?_)
   clear hF
   refine JG.act_at hg8 HR rfl fun w₂ s st sm hb hat hph => ⟨_, w₂, _, st, sm, 11, stepG_mark0 .enable (by simp) rfl rfl (by k_ne) rfl H.f_enable (x_enable_n L) (x_enable_b L) (x_enable_x L) (x_enable_f L), .refl _ _, hat, bk3_markA _ (.inr rfl), ⟨by omega, fun e => by omega⟩, by simp [deafBehind, deafX], hph.bump (by omega), fun ft hF HR => ?_⟩
   have hgA := hg8.set (y := 11) (by omega)
   refine JG.goes 300 _ _ ft hF HR ?_
   walk_nrm
   u_c stepG_region_end live_rely hF
   u_reg live_rely hF
   u_op live_rely hF
   u_conv H.underlying_tWgP H.room_tWg (Go.ConcN.Gen.WgLive.cell0 hF).choose_spec live_rely hF
   refine Goes.stop (fun w₁ _ ft hl HR => ?_)
   clear hF
   refine JG.acq_at hgA HR rfl (fun w₂ hb => ⟨_, stepG_markAt .acquire (by simp) rfl rfl (by k_ne) rfl H.f_acquire (x_acquire_n L) (x_acquire_b L) (x_acquire_x L) (x_acquire_f L) (ad := ⟨G.wg, 0, none⟩) (by simp [Act.eval]), fun ft hF HR => ?_⟩)
   have hgB := hgA.set (y := 12) (by omega)
   refine JG.goes 300 _ _ ft hF HR ?_
   walk_nrm
   u_c stepG_region_end live_rely hF
   u_c stepG_seq live_rely hF
   u_c stepG_seq live_rely hF
   u_reg live_rely hF
   u_op live_rely hF
   u_op live_rely hF
   u_op live_rely hF
   u_op live_rely hF
   u_op live_rely hF
   u_op live_rely hF
   u_op live_rely hF
   u_op live_rely hF
   u_skip live_rely hF
   u_skip live_rely hF
   u_op live_rely hF
   u_c stepG_region_end live_rely hF
   u_cond false live_rely hF
   u_c stepG_skip live_rely hF
   u_c stepG_ret' live_rely hF
   refine Goes.stop (fun w₁ _ ft hl HR => ?_)
   refine (JG.closed P W0 Post G).ctrl rfl rfl (fun w => stepG_leave rfl rfl H.f_wait (v := .tuple #[]) (by simp [results, waitFn]) (by simp [results, waitFn])) ?_
   refine hc _ _ ?_
   simpa [List.set_set] using HR
 ·refine ⟨_, w₂, _, 0, 0, 8, stepG_load_atomic rfl rfl (by k_ne) rfl H.f_loadU64 (x_loadU64_n L) (x_loadU64_b L) (x_loadU64_x L) .u64 (x_loadU64_f L) rfl (Go.ConcR.WgAt.cellSt hat), .refl _ _, hat, bk3_rA _, ⟨by omega, fun e => by omega⟩, by simp [deafBehind, deafX], .out (by omega) (by omega) (by omega), fun ft hF HR => ?_⟩
  have hg8 := hg6.set (y := 8) (by omega)
  refine JG.goes 300 _ _ ft hF HR ?_
  walk_nrm
  u_op live_rely hF
  u_c stepG_region_end live_rely hF
  u_c stepG_ret' live_rely hF
  u_leave1 H.f_uLoad live_rely hF
  u_op live_rely hF
  u_c stepG_region_end live_rely hF
  u_c stepG_seq live_rely hF
  u_reg live_rely hF
  u_op live_rely hF
  u_op live_rely hF
  u_op live_rely hF
  u_op live_rely hF
  u_c stepG_region_end live_rely hF
  u_c stepG_seq live_rely hF
  u_reg live_rely hF
  u_op live_rely hF
  u_op live_rely hF
  u_op live_rely hF
  u_op live_rely hF
  u_c stepG_region_end live_rely hF
  u_c stepG_seq live_rely hF
  u_c stepG_seq live_rely hF
  u_reg live_rely hF
  u_op live_rely hF
  u_op live_rely hF
  u_c stepG_region_end live_rely hF
  u_cond true live_rely hF
  u_c stepG_seq live_rely hF
  u_cond true live_rely hF
  u_c stepG_seq live_rely hF
  u_reg live_rely hF
  refine Goes.stop (fun w₁ _ ft hl HR => ?_)
  clear hF
  refine JG.act_at hg8 HR rfl fun w₂ s st sm hb hat hph => ⟨_, w₂, _, st, sm, 11, stepG_mark0 .enable (by simp) rfl rfl (by k_ne) rfl H.f_enable (x_enable_n L) (x_enable_b L) (x_enable_x L) (x_enable_f L), .refl _ _, hat, bk3_markA _ (.inr rfl), ⟨by omega, fun e => by omega⟩, by simp [deafBehind, deafX], hph.bump (by omega), fun ft hF HR => ?_⟩
  have hgA := hg8.set (y := 11) (by omega)
  refine JG.goes 300 _ _ ft hF HR ?_
  walk_nrm
  u_c stepG_region_end live_rely hF
  u_reg live_rely hF
  u_op live_rely hF
  u_conv H.underlying_tWgP H.room_tWg (Go.ConcN.Gen.WgLive.cell0 hF).choose_spec live_rely hF
  refine Goes.stop (fun w₁ _ ft hl HR => ?_)
  clear hF
  refine JG.acq_at hgA HR rfl (fun w₂ hb => ⟨_, stepG_markAt .acquire (by simp) rfl rfl (by k_ne) rfl H.f_acquire (x_acquire_n L) (x_acquire_b L) (x_acquire_x L) (x_acquire_f L) (ad := ⟨G.wg, 0, none⟩) (by simp [Act.eval]), fun ft hF HR => ?_⟩)
  have hgB := hgA.set (y := 12) (by omega)
  refine JG.goes 300 _ _ ft hF HR ?_
  walk_nrm
  u_c stepG_region_end live_rely hF
  u_c stepG_seq live_rely hF
  u_c stepG_seq live_rely hF
  u_reg live_rely hF
  u_op live_rely hF
  u_op live_rely hF
  u_op live_rely hF
  u_op live_rely hF
  u_op live_rely hF
  u_op live_rely hF
  u_op live_rely hF
  u_op live_rely hF
  u_skip live_rely hF
  u_skip live_rely hF
  u_op live_rely hF
  u_c stepG_region_end live_rely hF
  u_cond false live_rely hF
  u_c stepG_skip live_rely hF
  u_c stepG_ret' live_rely hF
  refine Goes.stop (fun w₁ _ ft hl HR => ?_)
  refine (JG.closed P W0 Post G).ctrl rfl rfl (fun w => stepG_leave rfl rfl H.f_wait (v := .tuple #[]) (by simp [results, waitFn]) (by simp [results, waitFn])) ?_
  refine hc _ _ ?_
  simpa [List.set_set] using HR
end
end Go.Proofs.Ythnccaajpdnndaa
namespace Go.Proofs.Ythnccaajpdnndaa
open Go.Conc
section
variable {P : Program} {W0 : World} {Post : Value → World → Prop} {T : Crew} {g : Goroutine} {w w₁ w' : World} {ft f' : Foot}
def base0 (P : Program) : Frame := { (default : Frame) with fn := P.funcs.size, defers := [], mode := .panicking [goexitEntry] }
theorem base_catches (P : Program) : (base0 P).catches P = false := by
 have e : (base0 P).todo = [] := rfl
 unfold Frame.catches
 rw [e]
 split
 ·rename_i h
  cases h
 ·rfl
theorem base_quits (hc : (base0 P).catches P = false) : QuitsD P 1 0 (G (base0 P) []) := by
 refine .inr ⟨rfl, { frame := base0 P, callers := [], status := .finished, dying := none }, #[], by simp, fun w => ?_, rfl, rfl⟩
 have e1 : (base0 P).defers = [] := rfl
 have e2 : (base0 P).mode = .panicking [goexitEntry] := rfl
 simp only [G, stepG, e2, unwind, e1, hc]
 simp [goexitEntry]
theorem quiet_run {α : Type} {s : Go.Sem α} {w : World} {Q : α → World → Prop} (h : RunsTo P (fun _ => False) s w Q) : ∃ v w', s.runT P w #[] = (.ok v w', #[]) ∧ Q v w' := by
 obtain ⟨v, w', es, hr, he, hq⟩ := h #[] (by simp)
 have hes : es = #[] := by
  apply Array.eq_empty_of_size_eq_zero
  cases hs : es.size with
  | zero => rfl
  | succ n => exact (he es[0] (Array.getElem_mem (by omega))).elim
 subst hes
 exact ⟨v, w', hr, hq⟩
variable {b : FB} {a : Act} {cs : List Frame} {ops : Array Oper} {fn : Func}
theorem born_toward {Stop : JT} {d : Deferred} {g : FuncId} {caps : List Value} (hd : d = { target := .fn (.func g) ⟨caps⟩, args := #[] }) (hcl : callable P g = true)
  (h : Toward P Stop (G (Frame.enter P g ⟨caps⟩ .deferred) [base0 P]) w ft) : Toward P Stop (born P d) w ft := by
 subst hd
 refine (Toward.closed P Stop).step rfl fun w₁ h₁ => ?_
 have hrun : RunsTo P (EvOk ft) (invoke (.fn (.func g) ⟨caps⟩) #[]) w₁ fun nx w' => nx = .enter g ⟨caps⟩ ∧ w' = w₁ := by
  unfold invoke
  simp only
  refine callFunc_run hcl ⟨?_, rfl⟩
  congr 1
  apply Array.ext'
  simp
 obtain ⟨nx, w', es, hr, he, rfl, rfl⟩ := hrun #[] (by simp)
 have hes : ∀ e ∈ seen P P.funcs.size es, EvOk ft e := fun e hm => he e (mem_seen hm)
 refine ⟨G (Frame.enter P g ⟨caps⟩ .deferred) [base0 P], w', seen P P.funcs.size es, ?_, rfl, (Stays.refl ft w').guar hes, ?_⟩
 ·simp only [stepG, born, unwind, callDeferred, hr]
  simp [GStep.after, G, base0]
 ·rw [Foot.ext_self]
  exact h.rely h₁
end
section
variable {P : Program} {main : Bool} {W0 : World} {Post : Value → World → Prop} {T : Crew} {w w₁ w' : World} {ft : Foot} {ρ : Env} {h : List AObj} {FC : Frm} {N : Nat} {f : RG} {b : FB} {a : Act} {cs : List Frame} {K : List Item} {ops : Array Oper} {i : Nat} {rest : List Nat} {o : Oper}
theorem stepG_go (hk : b.kind ≠ .early) (ho : ops[i]? = some o) (hg : gd ops o f.r = some true) (A : ActRel h.length ρ N f a) {x : Operand} {ats : Array TypeId} (hop : o.op = .go { callee := .value x, args := #[], argTypes := ats })
  {g : FuncId} {cap : List Value} (hx : ev f.r x = .func (.func g) ⟨[]⟩ ⟨cap⟩) (w : World) :
  stepG P main (G (b.at a (.inRegion ops (i :: rest) :: K)) cs) w = .spawn (G (b.at (a.put o.dst undef) (.inRegion ops rest :: K)) cs) (born P { target := .fn (.func g) ⟨cap.map (ren ρ)⟩, args := #[] }) w #[] := by
 have hw := gd_wanted A hg
 have hnd : ∀ c, o.op ≠ .defer c := fun c e => by rw [hop] at e; cases e
 have hk' : (b.kind == CallKind.early) = false := by simpa using hk
 obtain ⟨hok, hv⟩ := (ev_rel A.regs x).val (by rw [hx]; simp [unk])
 rw [hx] at hv
 simp only [ren, renFn, renA, renL_eq, List.map_nil] at hv
 have hr : (execOp a.eval o).runT P w #[] = (.ok (.spawn { target := .fn (.func g) ⟨cap.map (ren ρ)⟩, args := #[] }) w, #[]) := by
  have hrun : RunsTo P (fun _ => False) (execOp a.eval o) w fun nx w' => nx = .spawn { target := .fn (.func g) ⟨cap.map (ren ρ)⟩, args := #[] } ∧ w' = w := by
   unfold execOp
   rw [hop]
   simp only [resolve, hv, Deferred.ofValue]
   refine RunsTo.bind (RunsTo.pure (RunsTo.pure ⟨?_, rfl⟩))
   congr 2
   simp
  obtain ⟨v, w', hr, rfl, rfl⟩ := quiet_run hrun
  exact hr
 have hf := FB.finish_at b a ops i rest K undef
 rw [ho] at hf
 simp only [Option.bind_some] at hf
 rw [stepG_op ho hw hnd, ← hf]
 simp only [stepG.apply, hr, if_true]
 simp [FB.at, hk', GStep.after, G, born, seen]
end
def frzO : AObj → AObj
 | .cells c _ sz => .cells c false sz
 | .map es _ => .map es false
 | _ => .dead
def frz (h : List AObj) : List AObj := h.map frzO
def unchO : AObj → AObj
 | .chan _ => .dead
 | .group _ => .dead
 | o => o
def unch (h : List AObj) : List AObj := h.map unchO
section
variable {ρ ρ' : Env} {h h' g : List AObj} {FC : Frm} {w w' : World} {ft ft' : Foot}
theorem frz_len : (frz h).length = h.length := by simp [frz]
theorem frz_get {i : Nat} {o : AObj} (e : (frz h)[i]? = some o) : ∃ x, h[i]? = some x ∧ frzO x = o := by
 unfold frz at e
 rw [List.getElem?_map] at e
 exact Option.map_eq_some_iff.1 e
theorem frz_wrt (o : AObj) : (frzO o).wrt = false := by cases o <;> rfl
theorem frz_live {o : AObj} (hl : (frzO o).live = true) : o.live = true ∧ ∀ cap, o ≠ .chan cap := by
 cases o <;> first | (cases hl; done) | exact ⟨rfl, fun _ e => by cases e⟩
theorem unch_len : (unch h).length = h.length := by simp [unch]
theorem frz_orel {n b : Nat} {o : AObj} {x : Option Obj} (ho : ORel n ρ b o x) : ORel n ρ b (frzO o) x := by
 cases o with
 | cells c wr sz =>
  match x, ho with
  | some (.cells c' ty fr), ho =>
   obtain ⟨h1, h2, h3, _⟩ := ho
   exact ⟨fun i v hv => (h1 i v hv).imp (fun e => ⟨e.1, rfl⟩) id, h2, h3, fun e => by cases e⟩
 | map es wr =>
  match x, ho with
  | some (.map es' ty), ho => exact ho
 | _ => trivial
end
def At (J : JT) (N : Nat) (b : FB) (cs : List Frame) (FC : Frm) (ρ0 : Env) (m : Nat) (k : List Item) (f : RG) (h : List AObj) : Prop :=
 ∀ (a : Act) (ρ : Env) (w : World) (ft : Foot), ActRel h.length ρ N f a → HRel ρ h FC w ft → Env.upto m ρ0 ρ → m ≤ h.length → J (G (b.at a k) cs) w ft
section
variable {P : Program} {main : Bool} {J : JT} {N m n1 : Nat} {fn : FuncId} {b : FB} {cs : List Frame} {FC : Frm} {ρ0 : Env} {k : List Item} {f : RG} {h : List AObj} {Q : QT} {c x y : Code} {ops : Array Oper} {i : Nat} {rest : List Nat} {o : Oper}
theorem At.ctrl (hJ : Closed P main J) {k' : List Item} (hst : ∀ a w, stepG P main (G (b.at a k) cs) w = .go (G (b.at a k') cs) w #[]) (h' : At J N b cs FC ρ0 m k' f h) : At J N b cs FC ρ0 m k f h :=
 fun a ρ w ft A H hu hm => hJ.ctrl rfl rfl (hst a) (h' a ρ w ft A H hu hm)
theorem At.seq (hJ : Closed P main J) (h' : At J N b cs FC ρ0 m (.code x :: .code y :: k) f h) : At J N b cs FC ρ0 m (.code (.seq x y) :: k) f h :=
 At.ctrl hJ (fun a w => by simp [G, stepG, stepG.exec, FB.at]) h'
theorem At.block (hJ : Closed P main J) {id : Nat} (h' : At J N b cs FC ρ0 m (.code c :: .inBlock id :: k) f h) : At J N b cs FC ρ0 m (.code (.block id c) :: k) f h :=
 At.ctrl hJ (fun a w => by simp [G, stepG, stepG.exec, FB.at]) h'
theorem At.inBlock (hJ : Closed P main J) {id : Nat} (h' : At J N b cs FC ρ0 m k f h) : At J N b cs FC ρ0 m (.inBlock id :: k) f h :=
 At.ctrl hJ (fun a w => by simp [G, stepG, stepG.exec, FB.at]) h'
theorem At.loop (hJ : Closed P main J) (h' : At J N b cs FC ρ0 m (.code c :: .inLoop c :: k) f h) : At J N b cs FC ρ0 m (.code (.loop c) :: k) f h :=
 At.ctrl hJ (fun a w => by simp [G, stepG, stepG.exec, FB.at]) h'
theorem At.inLoop (hJ : Closed P main J) (h' : At J N b cs FC ρ0 m (.code c :: .inLoop c :: k) f h) : At J N b cs FC ρ0 m (.inLoop c :: k) f h :=
 At.ctrl hJ (fun a w => by simp [G, stepG, stepG.exec, FB.at]) h'
theorem At.region (hJ : Closed P main J) {id : Nat} (h' : At J N b cs FC ρ0 m (.inRegion ops (List.range ops.size) :: k) f h) : At J N b cs FC ρ0 m (.code (.region id ops false) :: k) f h :=
 At.ctrl hJ (fun a w => by simp [G, stepG, stepG.exec, FB.at]) h'
theorem At.ops_nil (hJ : Closed P main J) (h' : At J N b cs FC ρ0 m k f h) : At J N b cs FC ρ0 m (.inRegion ops [] :: k) f h :=
 At.ctrl hJ (fun a w => by simp [G, stepG, stepG.exec, FB.at]) h'
theorem At.piece (hb : b.tag = fn) (hk : b.kind ≠ .early) (hs : Sem J N n1 fn c f h Q) (h1 : m ≤ n1) (h2 : n1 ≤ h.length) (hq : ∀ e f' h', Q e f' h' → (e = .normal ∧ At J N b cs FC ρ0 m k f' h') ∨ ∃ id k', e = .exit id ∧ exitTo id k = some k' ∧ At J N b cs FC ρ0 m k' f' h') : At J N b cs FC ρ0 m (.code c :: k) f h := by
 intro a ρ w ft A H hu hm
 refine hs b a k cs (fun _ _ _ _ => False) ρ FC w ft hb hk (fun _ _ _ _ _ hf _ => hf.elim) A H h2 fun e f' h' ρ' w' ft' a' q A' H' hu' hl' => ?_
 have up : Env.upto m ρ0 ρ' := Env.upto_trans hu (Env.upto_le hu' h1)
 rcases hq e f' h' q with ⟨rfl, hat⟩ | ⟨id, k', rfl, hex, hat⟩
 ·exact hat a' ρ' w' ft' A' H' up (Nat.le_trans h1 hl')
 ·unfold AfterJ
  simp only [hex]
  exact hat a' ρ' w' ft' A' H' up (Nat.le_trans h1 hl')
theorem At.op (hJ : Closed P main J) (hk : b.kind ≠ .early) (ho : ops[i]? = some o) (hd : dstOk N o = true) (hg : gd ops o f.r = some true) (hop : opW P (Good P J) o f.r h fun v h' => h.length ≤ h'.length → At J N b cs FC ρ0 m (.inRegion ops rest :: k) (f.putO o.dst v) h') :
  At J N b cs FC ρ0 m (.inRegion ops (i :: rest) :: k) f h := fun _a _ρ _w _ft A H hu hm =>
 step_any hJ hk ho hg (dstOk_lt hd) A H hop fun _v _h' ρ' w' ft' a' hK A' H' hu' hl' => hK hl' a' ρ' w' ft' A' H' (Env.upto_trans hu (Env.upto_le hu' hm)) (Nat.le_trans hm hl')
theorem At.drop {g : List AObj} {f' : RG} (ok : heapOk h) (hf : ∀ t, f'.r t = unk ∨ (f'.r t = f.r t ∧ VOk h.length (f'.r t))) (hd : f'.ds = f.ds) (hds : ∀ b ∈ f.ds, b < h.length) (hm' : m ≤ h.length) (h' : At J N b cs FC ρ0 m k f' h) : At J N b cs FC ρ0 m k f (h ++ g) := by
 intro a ρ w ft A H hu hm
 have gc := gc_drop (g := g) ok (Nat.le_refl h.length)
 have hcomp : ρ.comp id = ρ := rfl
 have H2 := gc.rel H
 rw [hcomp] at H2
 refine h' a ρ w ft ⟨fun t => ?_, A.size, by rw [hd]; exact A.defers, by rw [hd]; exact hds⟩ H2 hu hm'
 rcases hf t with e | ⟨e, hv⟩
 ·exact .inl e
 ·rcases A.regs t with e2 | ⟨_, e2⟩
  ·exact .inl (e.trans e2)
  ·exact .inr ⟨hv, by rw [e2, e]⟩
end
end Go.Proofs.Ythnccaajpdnndaa
namespace Go.Proofs.Ythnccaajpdnndaa
open Go.Conc Go.Conc.Lib Go.Proofs.Try
open Go.ConcR (Bk stA smA rd wr mk KK WgAt)
open Go.ConcN (sumTo upd sumTo_upd upd_ne upd_same)
section
variable {W0 : World} {Post : Value → World → Prop} {G : Grp} {h : List AObj} {K : Value → List AObj → Prop} {p : Nat}
theorem good_wadd (hty : G.ty = wgLink.tWg) (hg : GrpAt h p 1) (hK : K (.tuple ⟨[]⟩) (h.set p (.group 4))) : Good prog (JG prog W0 Post G) 74 [ptr p 0, vint 1] h K := by
 have hf : prog.funcs[(74 : Nat)]? = some (addFn wgLink) := wgLib.f_add
 refine .inl ⟨.inl ⟨(Array.getElem?_eq_some_iff.1 hf).1, by unfold callable; rw [hf]; rfl⟩, fun ρ FC w ft cs c cargs fr H hr hl hent hc => ?_⟩
 obtain rfl : fr = Frame.enter prog 74 ⟨cargs⟩ .normal := by
  rcases hent with ⟨_, e⟩ | ⟨hge, _⟩
  ·exact e
  ·exact absurd (Array.getElem?_eq_some_iff.1 hf).1 (Nat.not_lt.2 hge)
 refine JG.there fun w₁ h₁ htw hlv => ?_
 have H1 := H.rely h₁
 have htag := H.tag p 1 hg.here
 have hb : ρ.blk p = G.wg := by omega
 rw [two_of hl, ptr_arg (hr 0), fine_arg (hr 1) (by simp [vint, VOk]) (by simp [vint, unk]), hb, enter_at _ hf (c := Go.ConcR.Gen.body_add wgLink) rfl]
 exact add_walk wgLib hty hg H1 hlv fun w' ft' H' => hc (.tuple ⟨[]⟩) _ ρ w' ft' _ hK H' (Env.upto_refl _ _) (by rw [List.length_set]; exact Nat.le_refl _) (.inr ⟨by simp [VOk, AOk, LOk], rfl⟩)
theorem good_wwait (hty : G.ty = wgLink.tWg) (hg : GrpAt h p 5) (hK : K (.tuple ⟨[]⟩) (h.set p (.group 12))) : Good prog (JG prog W0 Post G) 80 [ptr p 0] h K := by
 have hf : prog.funcs[(80 : Nat)]? = some (waitFn wgLink) := wgLib.f_wait
 refine .inl ⟨.inl ⟨(Array.getElem?_eq_some_iff.1 hf).1, by unfold callable; rw [hf]; rfl⟩, fun ρ FC w ft cs c cargs fr H hr hl hent hc => ?_⟩
 obtain rfl : fr = Frame.enter prog 80 ⟨cargs⟩ .normal := by
  rcases hent with ⟨_, e⟩ | ⟨hge, _⟩
  ·exact e
  ·exact absurd (Array.getElem?_eq_some_iff.1 hf).1 (Nat.not_lt.2 hge)
 refine JG.there fun w₁ h₁ htw hlv => ?_
 have H1 := H.rely h₁
 have htag := H.tag p 5 hg.here
 have hb : ρ.blk p = G.wg := by omega
 rw [one_of hl, ptr_arg (hr 0), hb, enter_at _ hf (c := Go.ConcR.Gen.body_wait wgLink) rfl]
 exact wait_walk wgLib hty hg H1 hlv fun w' ft' H' => hc (.tuple ⟨[]⟩) _ ρ w' ft' _ hK H' (Env.upto_refl _ _) (by rw [List.length_set]; exact Nat.le_refl _) (.inr ⟨by simp [VOk, AOk, LOk], rfl⟩)
end
section
variable {P : Program} {W0 : World} {Post : Value → World → Prop} {g : Goroutine} {w : World} {ft : Foot}
theorem J2.main (hrun : g.status = .running)
  (h : ∀ gs w₁ sl t q S, (∀ b, ft.rd b → b < w₁.heap.size) → (∀ b, ft.wr b → ft.rd b) → RelyW ft w w₁ → Base W0 w₁ → gs[0]? = some g → Leavers P t gs q → PastS S ft w₁.heap.size t → ∃ m' ops, runT P (crowd gs w₁ sl) 0 = (.next m', ops) ∧ Ends P Post m' (t ++ ops)) : J2 P W0 Post g w ft := by
 intro gs w₁ sl t q S hbd hsub hrel hbase h0 hL hP
 generalize hM : sumTo gs.size q = M
 induction M using Nat.strongRecOn generalizing gs w₁ sl t q with
 | ind M ih =>
  have haw : ∀ g ∈ gs, awake g := by
   intro x hx
   obtain ⟨i, hi, rfl⟩ := Array.mem_iff_getElem.1 hx
   rcases Nat.eq_zero_or_pos i with rfl | hpos
   ·have : gs[0] = g := by simpa [Array.getElem?_eq_getElem hi] using h0
    rw [this]; exact awake_of (.inl hrun)
   ·exact awake_of ((hL.old i _ hpos (Array.getElem?_eq_getElem hi)).status.elim .inl fun x => .inr (.inr x))
  obtain ⟨i, x, d, sl', hi, hg, hst⟩ := crowd_pick (P := P) (w := w₁) (sl := sl) haw ⟨0, g, h0, hrun⟩
  rcases Nat.eq_zero_or_pos i with rfl | hpos
  ·obtain ⟨m', ops, hr, he⟩ := h gs (w₁.at d) sl' t q S hbd hsub (hrel.trans (relyW_at ft w₁ d)) ⟨hbase.tape, hbase.os, hbase.output, hbase.size⟩ h0 hL hP
   exact Ends.next (hst.trans hr) he
  ·have hq := hL.old i x hpos hi
   have hi0 : (i == 0) = false := by simp; omega
   have hlt : i < gs.size := (Array.getElem?_eq_some_iff.1 hi).1
   cases hqi : q i with
   | zero => rw [hqi] at hq; rw [hq.1] at hg; cases hg
   | succ k =>
    rw [hqi] at hq
    rcases hq with ⟨hf, _⟩ | ⟨_, g', es, hm, hstp, hq'⟩
    ·rw [hf] at hg; cases hg
    have hrunT := runT_crowd_go (P := P) (sl := sl') (i := i) hi (by rw [hi0]; exact hstp (w₁.at d))
    have hsz : ((gs.map (woken P x g' (w₁.at d))).setIfInBounds i g').size = gs.size := by simp
    have hsum : sumTo gs.size (upd q i k) + (k + 1) = sumTo gs.size q + k := by
     have := sumTo_upd q k id hlt
     simpa [hqi] using this
    refine Ends.next (hst.trans hrunT) (ih (sumTo gs.size (upd q i k)) (by omega) _ (w₁.at d) sl' _ (upd q i k) hbd (hrel.trans (relyW_at ft w₁ d)) ⟨hbase.tape, hbase.os, hbase.output, hbase.size⟩ ?_ ⟨fun j y hj hy => ?_, fun j hj => ?_⟩ (hP.mute (by omega) hm) (by rw [hsz]))
    ·have hne : i ≠ 0 := by omega
     rw [Array.getElem?_setIfInBounds_ne hne, Array.getElem?_map, h0]
     simp [woken_run hrun]
    ·by_cases hji : i = j
     ·subst hji
      rw [Array.getElem?_setIfInBounds_self_of_lt (by simpa using hlt)] at hy
      obtain rfl := Option.some.inj hy
      rw [upd_same, Deaf_own]
      exact hq'
     ·rw [Array.getElem?_setIfInBounds_ne hji, Array.getElem?_map] at hy
      obtain ⟨z, hz, rfl⟩ := Option.map_eq_some_iff.1 hy
      have hqj := hL.old j z hj hz
      rw [woken_quitsD hqj, upd_ne q k (Ne.symm hji), Deaf_other t hji _ (fun op hop => mem_g hop)]
      exact hqj
    ·rw [Deaf_other t (g' := i) (by simp at hj; omega) _ (fun op hop => mem_g hop)]
     exact hL.above j (by simpa using hj)
theorem J2.opens (hrun : g.status = .running)
  (h : ∀ w₁, RelyW ft w w₁ → (∀ b, ft.rd b → b < w₁.heap.size) → ∃ (G : Grp) (g' : Goroutine) (es : Array Event), G.wg = w₁.heap.size ∧ stepG P true g w₁ = .go g' { w₁ with heap := w₁.heap.push (ConcR.wgBlock G.ty 0 0) } es ∧ (∀ e ∈ es, EvOk ft e) ∧
   JG P W0 Post G g' { w₁ with heap := w₁.heap.push (ConcR.wgBlock G.ty 0 0) } { ft with tag := 1 + 32 * G.wg }) : J2 P W0 Post g w ft :=
 J2.main hrun fun gs w₁ sl t q S hbd hsub hrel hbase h0 hL hP => by
  obtain ⟨G, g', es, hwg, hgo, hes, hJ⟩ := h w₁ hrel hbd
  refine ⟨_, _, runT_crowd_go (P := P) (sl := sl) (i := 0) h0 (show stepG P (0 == 0) g w₁ = _ from hgo), ?_⟩
  have hlt0 : 0 < gs.size := (Array.getElem?_eq_some_iff.1 h0).1
  generalize hw' : ({ w₁ with heap := w₁.heap.push (ConcR.wgBlock G.ty 0 0) } : World) = w' at hJ
  have hsz : w'.heap.size = w₁.heap.size + 1 := by rw [← hw']; simp
  have hP' := hP.own (fn := g.frame.fn) (pos := g.frame.place) hes hbd (B' := w'.heap.size) (by omega)
  have hdf := fun j => deaf_evs (t := t) (i := 0) (fn := g.frame.fn) (pos := g.frame.place) hes hbd j
  have nt : ∀ {j : Nat} {a : Touch}, touchAt (t ++ MemOp.ofEvents 0 g.frame.fn g.frame.place es) j = some a → locBlk a.loc ≠ some G.wg := fun {j a} ha e => by
   rcases touch_app ha with ⟨_, h⟩ | ⟨op, hop, _, h⟩
   ·obtain ⟨z, hz, hza⟩ := touch_of h
    have := touch_low (hP.past.seen z (Array.mem_of_getElem? hz)) hza e
    omega
   ·obtain ⟨ev, hev, rfl⟩ := Go.Conc.mem_ofEvents hop
    obtain ⟨bl, e1, e2, _⟩ := evOk_touch (hes ev hev) h
    rw [e1] at e
    cases e
    have := hbd _ e2
    omega
  refine hJ _ w' sl _ gs.size 0 q .none S ?_ (moved_own h0) { base := ?_, lt := fun b hb => by have := hbd b hb; omega, sub := hsub, nwg := fun hr => by have := hbd _ hr; omega, tagw := by show (1 + 32 * G.wg) / 32 = G.wg; omega, grp := ⟨0, 0, ?_, ?_⟩, hears := ?_, ipos := hlt0, wk := trivial, old := fun j y hj hy _ => ?_, above := fun j hj => ?_, clean := hP'.past.clean, known := fun j a ha hm => ?_, done := fun j a ha hm => ?_, over := fun j x h1 h2 h3 => .inl (hP'.past.over j x h1 h2 h3), quiet := fun j a ha e => absurd e (nt ha), late := fun _ _ _ _ _ h => ?_, seen := hP'.past.seen, shun := fun b hS => ⟨(hP.shun b hS).1, by have := (hP.shun b hS).2; omega, by have := (hP.shun b hS).2; omega⟩, norel := fun a ha => ?_, acq := fun h => ?_ }
  ·exact ⟨fun b hb => rfl, Nat.le_refl _, rfl, rfl, rfl⟩
  ·rw [← hw']
   exact ⟨hbase.tape, hbase.os, hbase.output, Nat.le_trans hbase.size (by simp)⟩
  ·unfold Grp.at_ WgAt
   rw [← hw', hwg]
   simp
  ·show Phase ((1 + 32 * G.wg) % 32) 9 0 0
   have : (1 + 32 * G.wg) % 32 = 1 := by omega
   rw [this]
   exact .opened (.inl rfl)
  ·rw [hdf, hP.past.hears]
   show 0 = deafX ((1 + 32 * G.wg) % 32)
   have : (1 + 32 * G.wg) % 32 = 1 := by omega
   rw [this]
   rfl
  ·obtain ⟨z, hz, rfl⟩ := moved_get (by omega) hy
   have := hL.old j z hj hz
   rw [woken_quitsD this, hdf]
   exact this
  ·rw [hdf]
   exact hL.above j (by simpa using hj)
  ·rcases hP'.past.known j a ha hm with hk | ⟨⟨b, e1, e2⟩, _⟩
   ·exact .inl hk
   ·refine .inr fun b' hb' => ?_
    rw [e1] at hb'
    cases hb'
    exact ⟨fun hw => (hP.shun _ e2).1 (hsub _ hw), fun _ hr => (hP.shun _ e2).1 hr⟩
  ·exact (hP'.past.known j a ha hm).imp id .inr
  ·have : (9 : Nat) ≤ 6 := h
   omega
  ·refine NoRelease.app ?_ (ok_norel hes a)
   rcases ha with ha | ha
   ·exact hP.norel a ha
   ·exact norel_fresh hP.past.seen (by omega)
  ·have h : (1 + 32 * G.wg) % 32 = 12 := h
   omega
end
end Go.Proofs.Ythnccaajpdnndaa
namespace Go.Proofs.Ythnccaajpdnndaa
open Go.Conc
def nilS : Value := .slice none 0 0
def leftP (F : Nat) (R : Option (List Int)) (w : World) (fi : Foot) : Prop :=
 fi.rd F ∧ fi.wr F ∧ ∃ cs ty fr, w.heap[F]? = some (.cells cs ty fr) ∧ match R with
  | none => cs = #[nilS, nilS, nilS]
  | some l => ∃ b c ds ty' fr', fi.rd b ∧ fi.wr b ∧ b ≠ F ∧ cs = #[.slice (some ⟨b, 0, none⟩) l.length c, nilS, nilS] ∧ w.heap[b]? = some (.cells ds ty' fr') ∧ ds.size = c ∧ (∀ (i : Nat) (x : Int), l[i]? = some x → ds[i]? = some (vint x)) ∧ l.length ≤ c
theorem leftP_keep {F : Nat} {R : Option (List Int)} {w w' : World} {fi : Foot} (hk : ∀ b, fi.rd b → w'.heap[b]? = w.heap[b]?) (h : leftP F R w fi) : leftP F R w' fi := by
 obtain ⟨h1, h1', cs, ty, fr, h2, h3⟩ := h
 refine ⟨h1, h1', cs, ty, fr, (hk F h1).trans h2, ?_⟩
 cases R with
 | none => exact h3
 | some l =>
  obtain ⟨b, c, ds, ty', fr', a1, a2, a3, a4, a5, a6⟩ := h3
  exact ⟨b, c, ds, ty', fr', a1, a2, a3, a4, (hk b a1).trans a5, a6⟩
def mkG (ty : TypeId) (wg F : Nat) (R : Option (List Int)) : Grp := ⟨ty, wg, F, leftP F R, fun _ _ _ hk h => leftP_keep hk h⟩
def lentM (h : List AObj) (p fI x : Nat) : List AObj := ((frz h).set fI .dead).set p (.group x)
def lentW (h : List AObj) (fI : Nat) (cs : List Value) : List AObj := (frz h).set fI (.cells cs true 0)
open Classical in
noncomputable def keepG (w : World) (ft : Foot) (F : Nat) : Frm := ⟨fun b => if ft.rd b ∧ b ≠ F then w.heap[b]? else none, fun _ => False⟩
def mainF (ft : Foot) (F : Nat) : Foot := ⟨fun b => ft.rd b ∧ b ≠ F, fun _ => False, ft.tag + 1⟩
def workF (ft : Foot) (F : Nat) : Foot := ⟨ft.rd, fun b => b = F, 0⟩
def noFrm : Frm := ⟨fun _ => none, fun _ => False⟩
section
variable {ρ ρ' : Env} {h g : List AObj} {FC : Frm} {w w' : World} {ft ft' : Foot} {p fI x : Nat} {cs : List Value}
theorem lentM_len : (lentM h p fI x).length = h.length := by simp [lentM, frz_len]
theorem lentW_len : (lentW h fI cs).length = h.length := by simp [lentW, frz_len]
theorem lentM_get {i : Nat} {o : AObj} (e : (lentM h p fI x)[i]? = some o) : (i = p ∧ o = .group x) ∨ (i ≠ p ∧ i = fI ∧ o = .dead) ∨ (i ≠ p ∧ i ≠ fI ∧ ∃ y, h[i]? = some y ∧ frzO y = o) := by
 unfold lentM at e
 rcases set_get e with ⟨rfl, rfl, _⟩ | ⟨h1, e⟩
 ·exact .inl ⟨rfl, rfl⟩
 ·rcases set_get e with ⟨rfl, rfl, _⟩ | ⟨h2, e⟩
  ·exact .inr (.inl ⟨h1, rfl, rfl⟩)
  ·exact .inr (.inr ⟨h1, h2, frz_get e⟩)
theorem lentW_get {i : Nat} {o : AObj} (e : (lentW h fI cs)[i]? = some o) : (i = fI ∧ o = .cells cs true 0) ∨ (i ≠ fI ∧ ∃ y, h[i]? = some y ∧ frzO y = o) := by
 unfold lentW at e
 rcases set_get e with ⟨rfl, rfl, _⟩ | ⟨h1, e⟩
 ·exact .inl ⟨rfl, rfl⟩
 ·exact .inr ⟨h1, frz_get e⟩
theorem lentM_rel (H : HRel ρ h FC w ft) (hg : GrpAt h p 4) (hf : h[fI]? = some (.cells cs true 0)) : HRel ρ (lentM h p fI 5) (keepG w ft (ρ.blk fI)) w (mainF ft (ρ.blk fI)) := by
 have ne : ∀ {i : Nat} {y : AObj}, h[i]? = some y → y.live = true → i ≠ fI → ρ.blk i ≠ ρ.blk fI := fun hy l hn e => hn (H.inj _ _ _ _ hy hf l rfl e)
 refine ⟨fun i o hi => ?_, fun i j o o' hi hj l l' e => ?_, fun i o hi l => ?_, fun i o hi l => ?_, fun b hb => H.lt b hb.1, fun b hb => hb.elim, fun b o hb => ?_, fun b hb => hb.elim, fun i z hi => ?_⟩
 ·rw [lentM_len]
  rcases lentM_get hi with ⟨_, rfl⟩ | ⟨_, _, rfl⟩ | ⟨_, _, y, hy, rfl⟩
  ·trivial
  ·trivial
  ·exact frz_orel (H.obj i y hy)
 ·rcases lentM_get hi with ⟨_, rfl⟩ | ⟨_, _, rfl⟩ | ⟨_, _, y, hy, rfl⟩
  ·cases l
  ·cases l
  ·rcases lentM_get hj with ⟨_, rfl⟩ | ⟨_, _, rfl⟩ | ⟨_, _, y', hy', rfl⟩
   ·cases l'
   ·cases l'
   ·exact H.inj i j y y' hy hy' (frz_live l).1 (frz_live l').1 e
 ·rcases lentM_get hi with ⟨_, rfl⟩ | ⟨_, _, rfl⟩ | ⟨_, hn, y, hy, rfl⟩
  ·cases l
  ·cases l
  ·exact ⟨H.rd i y hy (frz_live l).1, ne hy (frz_live l).1 hn⟩
 ·rcases lentM_get hi with ⟨_, rfl⟩ | ⟨_, _, rfl⟩ | ⟨_, _, y, hy, rfl⟩
  ·cases l
  ·cases l
  ·rw [frz_wrt] at l
   cases l
 ·unfold keepG at hb
  simp only at hb
  split at hb
  ·rename_i hc
   refine ⟨hb, hc, fun a oa ha hw => ?_⟩
   rcases lentM_get ha with ⟨_, rfl⟩ | ⟨_, _, rfl⟩ | ⟨_, _, y, hy, rfl⟩
   ·cases hw
   ·cases hw
   ·rw [frz_wrt] at hw
    cases hw
  ·cases hb
 ·rcases lentM_get hi with ⟨rfl, e⟩ | ⟨_, _, e⟩ | ⟨_, _, y, hy, e⟩
  ·cases e
   have := H.tag i 4 hg.here
   show ft.tag + 1 = 5 + 32 * ρ.blk i
   omega
  ·cases e
  ·cases y <;> cases e
theorem lentW_rel (H : HRel ρ h FC w ft) (hf : h[fI]? = some (.cells cs true 0)) : HRel ρ (lentW h fI cs) noFrm w (workF ft (ρ.blk fI)) := by
 refine ⟨fun i o hi => ?_, fun i j o o' hi hj l l' e => ?_, fun i o hi l => ?_, fun i o hi l => ?_, H.lt, fun b hb => ?_, fun b o hb => (by cases hb), fun b hb => hb.elim, fun i z hi => ?_⟩
 ·rw [lentW_len]
  rcases lentW_get hi with ⟨rfl, rfl⟩ | ⟨_, y, hy, rfl⟩
  ·exact H.obj i _ hf
  ·exact frz_orel (H.obj i y hy)
 ·have src : ∀ {i : Nat} {o : AObj}, (lentW h fI cs)[i]? = some o → o.live = true → ∃ y, h[i]? = some y ∧ y.live = true := fun hi l => by
   rcases lentW_get hi with ⟨rfl, rfl⟩ | ⟨_, y, hy, rfl⟩
   ·exact ⟨_, hf, rfl⟩
   ·exact ⟨y, hy, (frz_live l).1⟩
  obtain ⟨y, hy, l1⟩ := src hi l
  obtain ⟨y', hy', l2⟩ := src hj l'
  exact H.inj i j y y' hy hy' l1 l2 e
 ·rcases lentW_get hi with ⟨rfl, rfl⟩ | ⟨_, y, hy, rfl⟩
  ·exact H.rd i _ hf rfl
  ·exact H.rd i y hy (frz_live l).1
 ·rcases lentW_get hi with ⟨rfl, rfl⟩ | ⟨_, y, hy, rfl⟩
  ·exact rfl
  ·rw [frz_wrt] at l
   cases l
 ·have hb : b = ρ.blk fI := hb
  rw [hb]
  exact H.rd fI _ hf rfl
 ·rcases lentW_get hi with ⟨rfl, e⟩ | ⟨_, y, hy, e⟩
  ·cases e
  ·cases y <;> cases e
def thawG (h g : List AObj) (fI : Nat) (c : List Value) (o : AObj) : List AObj := (unch h).set fI (.cells c false 0) ++ (g ++ [o])
def joinF (ft ft' : Foot) (F R : Nat) : Foot := ⟨fun b => ft'.rd b ∨ b = F ∨ b = R, fun b => ft.wr b ∨ ft'.wr b, 0⟩
theorem thawG_len {c : List Value} {o : AObj} : (thawG h g fI c o).length = h.length + (g.length + 1) := by simp [thawG, unch_len]
theorem thawG_get {c : List Value} {o : AObj} {i : Nat} {y : AObj} (e : (thawG h g fI c o)[i]? = some y) : (i = fI ∧ y = .cells c false 0) ∨ (i < h.length ∧ i ≠ fI ∧ ∃ z, h[i]? = some z ∧ unchO z = y) ∨ (h.length ≤ i ∧ g[i - h.length]? = some y) ∨ (i = h.length + g.length ∧ y = o) := by
 unfold thawG at e
 rw [List.getElem?_append] at e
 split at e
 ·rename_i hlt
  rw [List.length_set, unch_len] at hlt
  rcases set_get e with ⟨rfl, rfl, _⟩ | ⟨h1, e⟩
  ·exact .inl ⟨rfl, rfl⟩
  ·unfold unch at e
   rw [List.getElem?_map] at e
   obtain ⟨z, hz, ez⟩ := Option.map_eq_some_iff.1 e
   exact .inr (.inl ⟨hlt, h1, z, hz, ez⟩)
 ·rename_i hge
  rw [List.length_set, unch_len] at hge e
  rw [List.getElem?_append] at e
  split at e
  ·exact .inr (.inr (.inl ⟨by omega, e⟩))
  ·rename_i h2
   have hl := (List.getElem?_eq_some_iff.1 e).1
   simp only [List.length_cons, List.length_nil] at hl
   have h3 : i - h.length - g.length = 0 := by omega
   rw [h3] at e
   simp only [List.getElem?_cons_zero, Option.some.injEq] at e
   exact .inr (.inr (.inr ⟨by omega, e.symm⟩))
theorem thawG_rel (H : HRel ρ h FC w ft) (hf : h[fI]? = some (.cells cs true 0)) (H' : HRel ρ' (lentM h p fI x ++ g) (keepG w ft (ρ.blk fI)) w' ft') (hu : Env.upto h.length ρ ρ') (hgl : ∀ o ∈ g, o.live = true → o.wrt = true) (hng : ∀ z, .group z ∉ g)
  {R κ : Nat} {c : List Value} {o : AObj} (hFl : ρ.blk fI < w'.heap.size) (hRl : R < w'.heap.size) (hng' : ∀ z, o ≠ .group z) (hwo : o.wrt = false) (hR : o.live = true → R ≠ ρ.blk fI ∧ ¬ ft'.rd R)
  (hoF : ORel (h.length + (g.length + 1)) (ρ'.put (h.length + g.length) R κ) fI (.cells c false 0) w'.heap[ρ.blk fI]?) (hoR : ORel (h.length + (g.length + 1)) (ρ'.put (h.length + g.length) R κ) (h.length + g.length) o w'.heap[R]?) (hFn : ¬ ft'.rd (ρ.blk fI)) :
  HRel (ρ'.put (h.length + g.length) R κ) (thawG h g fI c o) FC w' (joinF ft ft' (ρ.blk fI) R) := by
 have hlM : (lentM h p fI x ++ g).length = h.length + g.length := by rw [List.length_append, lentM_len]
 have hup : Env.upto (h.length + g.length) ρ' (ρ'.put (h.length + g.length) R κ) := Env.put_upto _ _ _ _
 have hfl : fI < h.length := (List.getElem?_eq_some_iff.1 hf).1
 have hbl : ∀ {i : Nat}, i < h.length → (ρ'.put (h.length + g.length) R κ).blk i = ρ.blk i := fun {i} hi => (hup i (by omega)).1.trans (hu i hi).1
 have hbg : ∀ {i : Nat}, i < h.length + g.length → (ρ'.put (h.length + g.length) R κ).blk i = ρ'.blk i := fun hi => (hup _ hi).1
 have hbR : (ρ'.put (h.length + g.length) R κ).blk (h.length + g.length) = R := (Env.put_self _ _ _ _).1
 have stay : ∀ b, ft.rd b → b ≠ ρ.blk fI → w'.heap[b]? = w.heap[b]? ∧ ft'.rd b ∧ ∀ (a : Nat) (oa : AObj), (lentM h p fI x ++ g)[a]? = some oa → oa.wrt = true → ρ'.blk a ≠ b := fun b hr hc => by
  have hlt := H.lt b hr
  have := H'.kept b w.heap[b] (by unfold keepG; simp only; rw [if_pos ⟨hr, hc⟩, Array.getElem?_eq_getElem hlt])
  exact ⟨by rw [this.1, Array.getElem?_eq_getElem hlt], this.2⟩
 have live : ∀ {y : AObj}, (unchO y).live = true → y.live = true ∧ unchO y = y := fun {y} l => by
  cases y <;> first | (cases l; done) | exact ⟨rfl, rfl⟩
 have wlive : ∀ {y : AObj}, y.wrt = true → y.live = true := fun {y} l => by cases y <;> first | (cases l; done) | rfl
 have ne : ∀ {i : Nat} {y : AObj}, h[i]? = some y → y.live = true → i ≠ fI → ρ.blk i ≠ ρ.blk fI := fun hy l hn e => hn (H.inj _ _ _ _ hy hf l rfl e)
 have gM : ∀ {i : Nat} {y : AObj}, h.length ≤ i → g[i - h.length]? = some y → (lentM h p fI x ++ g)[i]? = some y := fun hge hy => by
  rw [List.getElem?_append_right (by rw [lentM_len]; exact hge), lentM_len]
  exact hy
 -- where a live block lies
 have place : ∀ {i : Nat} {y : AObj}, (thawG h g fI c o)[i]? = some y → y.live = true → (i = fI ∧ (ρ'.put (h.length + g.length) R κ).blk i = ρ.blk fI) ∨ (i ≠ fI ∧ i < h.length + g.length ∧ (ρ'.put (h.length + g.length) R κ).blk i = ρ'.blk i ∧ ft'.rd (ρ'.blk i) ∧ ρ'.blk i ≠ ρ.blk fI) ∨ (i = h.length + g.length ∧ y = o ∧ (ρ'.put (h.length + g.length) R κ).blk i = R) := fun {i y} hy l => by
  rcases thawG_get hy with ⟨rfl, _⟩ | ⟨hlt, hn, z, hz, rfl⟩ | ⟨hge, hgy⟩ | ⟨rfl, rfl⟩
  ·exact .inl ⟨rfl, hbl hfl⟩
  ·obtain ⟨l1, _⟩ := live l
   have hr := H.rd i z hz l1
   have hne := ne hz l1 hn
   have hs := (stay _ hr hne).2.1
   have e : ρ'.blk i = ρ.blk i := (hu i hlt).1
   exact .inr (.inl ⟨hn, by omega, hbg (by omega), by rw [e]; exact hs, by rw [e]; exact hne⟩)
  ·have hil : i < h.length + g.length := by
    have := (List.getElem?_eq_some_iff.1 hgy).1
    omega
   have hr := H'.rd i y (gM hge hgy) l
   exact .inr (.inl ⟨by omega, hil, hbg hil, hr, fun e => hFn (e ▸ hr)⟩)
  ·exact .inr (.inr ⟨rfl, rfl, hbR⟩)
 -- a live block beside found and the worker's, in the first one's own words
 have inM : ∀ {i : Nat} {y : AObj}, (thawG h g fI c o)[i]? = some y → y.live = true → i ≠ fI → i < h.length + g.length → (i < h.length ∧ ∃ z, h[i]? = some z ∧ z = y) ∨ (h.length ≤ i ∧ (lentM h p fI x ++ g)[i]? = some y) := fun {i y} hy l hn hlt => by
  rcases thawG_get hy with ⟨rfl, _⟩ | ⟨hlt', _, z, hz, rfl⟩ | ⟨hge, hgy⟩ | ⟨rfl, rfl⟩
  ·exact absurd rfl hn
  ·exact .inl ⟨hlt', z, hz, (live l).2.symm⟩
  ·exact .inr ⟨hge, gM hge hgy⟩
  ·omega
 have injM : ∀ {i j : Nat} {y z : AObj}, (thawG h g fI c o)[i]? = some y → (thawG h g fI c o)[j]? = some z → y.live = true → z.live = true → i ≠ fI → j ≠ fI → i < h.length + g.length → j < h.length + g.length → ρ'.blk i = ρ'.blk j → i = j := by
  intro i j y z hi hj l l' ni nj li lj e
  rcases inM hi l ni li with ⟨h1, y', hy, rfl⟩ | ⟨h1, hy⟩ <;> rcases inM hj l' nj lj with ⟨h2, z', hz, rfl⟩ | ⟨h2, hz⟩
  ·rw [(hu i h1).1, (hu j h2).1] at e
   exact H.inj i j _ _ hy hz l l' e
  ·exfalso
   rw [(hu i h1).1] at e
   have hzw : z.wrt = true := hgl z (by
    rw [List.getElem?_append_right (by rw [lentM_len]; exact h2)] at hz
    exact List.mem_of_getElem? hz) l'
   exact (stay _ (H.rd i _ hy l) (ne hy l ni)).2.2 j z hz hzw e.symm
  ·exfalso
   rw [(hu j h2).1] at e
   have hyw : y.wrt = true := hgl y (by
    rw [List.getElem?_append_right (by rw [lentM_len]; exact h1)] at hy
    exact List.mem_of_getElem? hy) l
   exact (stay _ (H.rd j _ hz l') (ne hz l' nj)).2.2 i y hy hyw e
  ·exact H'.inj i j y z hy hz l l' e
 have hsub : ∀ b, (joinF ft ft' (ρ.blk fI) R).wr b → (joinF ft ft' (ρ.blk fI) R).rd b := fun b hb => by
  rcases hb with hb | hb
  ·by_cases e : b = ρ.blk fI
   ·exact .inr (.inl e)
   ·exact .inl (stay b (H.sub b hb) e).2.1
  ·exact .inl (H'.sub b hb)
 refine ⟨fun i y hi => ?_, fun i j y z hi hj l l' e => ?_, fun i y hi l => ?_, fun i y hi l => ?_, fun b hb => ?_, hsub, fun b ob hb => ?_, fun b hb => .inl (H.keptW b hb), fun i z hi => ?_⟩
 ·rw [thawG_len]
  rcases thawG_get hi with ⟨rfl, rfl⟩ | ⟨hlt, hn, z, hz, rfl⟩ | ⟨hge, hgy⟩ | ⟨rfl, rfl⟩
  ·rw [hbl hfl]
   exact hoF
  ·by_cases l : (unchO z).live = true
   ·obtain ⟨l1, e⟩ := live l
    rw [e, hbl hlt, (stay _ (H.rd i z hz l1) (ne hz l1 hn)).1]
    exact (H.obj i z hz).congr (fun b hb => ⟨hbl hb, (hup b (by omega)).2.trans (hu b hb).2⟩) (by omega) hlt
   ·cases hz' : unchO z <;> rw [hz'] at l <;> first | trivial | exact absurd rfl l
  ·have hil : i < h.length + g.length := by
    have := (List.getElem?_eq_some_iff.1 hgy).1
    omega
   have := H'.obj i y (gM hge hgy)
   rw [hlM] at this
   rw [hbg hil]
   exact this.congr hup (by omega) hil
  ·rw [hbR]
   exact hoR
 ·rcases place hi l with ⟨rfl, e1⟩ | ⟨n1, l1, e1, r1, d1⟩ | ⟨rfl, ho, e1⟩ <;> rcases place hj l' with ⟨rfl, e2⟩ | ⟨n2, l2, e2, r2, d2⟩ | ⟨rfl, ho', e2⟩
  ·rfl
  ·rw [e1, e2] at e
   exact absurd e.symm d2
  ·rw [e1, e2] at e
   exact absurd e.symm (hR (ho' ▸ l')).1
  ·rw [e1, e2] at e
   exact absurd e d1
  ·rw [e1, e2] at e
   exact injM hi hj l l' n1 n2 l1 l2 e
  ·rw [e1, e2] at e
   exact absurd (e ▸ r1) (hR (ho' ▸ l')).2
  ·rw [e1, e2] at e
   exact absurd e (hR (ho ▸ l)).1
  ·rw [e1, e2] at e
   exact absurd (e ▸ r2) (hR (ho ▸ l)).2
  ·rfl
 ·rcases place hi l with ⟨rfl, e1⟩ | ⟨n1, l1, e1, r1, d1⟩ | ⟨rfl, ho, e1⟩
  ·rw [e1]
   exact .inr (.inl rfl)
  ·rw [e1]
   exact .inl r1
  ·rw [e1]
   exact .inr (.inr rfl)
 ·rcases thawG_get hi with ⟨rfl, rfl⟩ | ⟨hlt, hn, z, hz, rfl⟩ | ⟨hge, hgy⟩ | ⟨rfl, rfl⟩
  ·cases l
  ·have e := (live (wlive l)).2
   rw [e] at l
   rw [hbl hlt]
   exact .inl (H.wr i z hz l)
  ·have hil : i < h.length + g.length := by
    have := (List.getElem?_eq_some_iff.1 hgy).1
    omega
   rw [hbg hil]
   exact .inr (H'.wr i y (gM hge hgy) l)
  ·rw [hwo] at l
   cases l
 ·rcases hb with hb | rfl | rfl
  ·exact H'.lt b hb
  ·exact hFl
  ·exact hRl
 ·obtain ⟨a1, a2, a3⟩ := H.kept b ob hb
  have hbF : b ≠ ρ.blk fI := fun e => a3 fI _ hf rfl e.symm
  obtain ⟨s1, s2, s3⟩ := stay b a2 hbF
  refine ⟨by rw [s1]; exact a1, .inl s2, fun i y hi l => ?_⟩
  rcases thawG_get hi with ⟨rfl, rfl⟩ | ⟨hlt, hn, z, hz, rfl⟩ | ⟨hge, hgy⟩ | ⟨rfl, rfl⟩
  ·cases l
  ·have e := (live (wlive l)).2
   rw [e] at l
   rw [hbl hlt]
   exact a3 i z hz l
  ·have hil : i < h.length + g.length := by
    have := (List.getElem?_eq_some_iff.1 hgy).1
    omega
   rw [hbg hil]
   exact s3 i y (gM hge hgy) l
  ·rw [hwo] at l
   cases l
 ·rcases thawG_get hi with ⟨rfl, e⟩ | ⟨hlt, hn, y, hy, e⟩ | ⟨hge, hgy⟩ | ⟨rfl, e⟩
  ·cases e
  ·cases y <;> cases e
  ·exact absurd (List.mem_of_getElem? hgy) (hng z)
  ·exact absurd e.symm (hng' z)
end
section
variable {ρ ρ' : Env} {h : List AObj} {FC : Frm} {w w' : World} {ft : Foot}
theorem snoc_get {α : Type} {l : List α} {x y : α} {i : Nat} (e : (l ++ [x])[i]? = some y) : (i = l.length ∧ y = x) ∨ l[i]? = some y := by
 rw [List.getElem?_append] at e
 split at e
 ·exact .inr e
 ·rename_i hge
  have hl := (List.getElem?_eq_some_iff.1 e).1
  simp at hl
  have h0 : i - l.length = 0 := by omega
  rw [h0] at e
  simp at e
  exact .inl ⟨by omega, e.symm⟩
theorem HRel.group (H : HRel ρ h FC w ft) (hno : ∀ (q z : Nat), h[q]? ≠ some (.group z)) (x : Obj) (κ : Nat) : HRel (ρ.put h.length w.heap.size κ) (h ++ [.group 1]) FC { w with heap := w.heap.push x } { ft with tag := 1 + 32 * w.heap.size } := by
 have hup := Env.put_upto ρ h.length w.heap.size κ
 have hold : ∀ {i oi}, h[i]? = some oi → (ρ.put h.length w.heap.size κ).blk i = ρ.blk i := fun {i oi} hi => (hup i (List.getElem?_eq_some_iff.1 hi).1).1
 have hpush : ∀ i, i < w.heap.size → (w.heap.push x)[i]? = w.heap[i]? := fun i hi => by rw [Array.getElem?_push_lt hi, Array.getElem?_eq_getElem hi]
 have wl : ∀ {o : AObj}, o.wrt = true → o.live = true := fun {o} hw => by cases o <;> first | rfl | cases hw
 refine ⟨fun i oi hi => ?_, fun i j oi oj hi hj l1 l2 e => ?_, fun i oi hi hl => ?_, fun i oi hi hl => ?_, fun y hy => ?_, fun y hy => H.sub y hy, fun y oy hy => ?_, fun y hy => H.keptW y hy, fun i y hi => ?_⟩
 ·rw [List.length_append]
  rcases snoc_get hi with ⟨rfl, rfl⟩ | hi
  ·trivial
  ·rw [hold hi]
   by_cases hl : oi.live = true
   ·show ORel _ _ _ _ (w.heap.push x)[ρ.blk i]?
    rw [hpush _ (H.live_lt hi hl)]
    exact (H.obj i oi hi).congr hup (by simp) (List.getElem?_eq_some_iff.1 hi).1
   ·cases oi <;> first | trivial | exact absurd rfl hl
 ·rcases snoc_get hi with ⟨_, rfl⟩ | hi
  ·cases l1
  ·rcases snoc_get hj with ⟨_, rfl⟩ | hj
   ·cases l2
   ·rw [hold hi, hold hj] at e
    exact H.inj i j oi oj hi hj l1 l2 e
 ·rcases snoc_get hi with ⟨_, rfl⟩ | hi
  ·cases hl
  ·rw [hold hi]
   exact H.rd i oi hi hl
 ·rcases snoc_get hi with ⟨_, rfl⟩ | hi
  ·cases hl
  ·rw [hold hi]
   exact H.wr i oi hi hl
 ·have := H.lt y hy
  show y < (w.heap.push x).size
  simp
  omega
 ·obtain ⟨a1, a2, a3⟩ := H.kept y oy hy
  refine ⟨?_, a2, fun a oa ha hw => ?_⟩
  ·show (w.heap.push x)[y]? = _
   rw [hpush y (H.lt y a2)]
   exact a1
  ·rcases snoc_get ha with ⟨_, rfl⟩ | ha
   ·cases hw
   ·rw [hold ha]
    exact a3 a oa ha hw
 ·rcases snoc_get hi with ⟨rfl, e⟩ | hi
  ·cases e
   rw [(Env.put_self ρ h.length w.heap.size κ).1]
  ·exact absurd hi (hno i y)
end
section
variable {P : Program} {W0 : World} {Post : Value → World → Prop} {G : Grp} {N m : Nat} {b : FB} {cs : List Frame} {FC : Frm} {ρ0 : Env} {K : List Item} {f : RG} {h : List AObj} {ops : Array Oper} {i : Nat} {rest : List Nat} {o : Oper}
theorem At.group (hk : b.kind ≠ .early) (ho : ops[i]? = some o) (hd : dstOk N o = true) (hg : gd ops o f.r = some true) {t : TypeId} (hop : o.op = .alloc t) {ti : TypeInfo} (hi : P.info? t = some ti) {z : Value} (hz : ti.zero = some z) (hzc : z.cells = #[.int .u64 0, .int .u32 0])
  (hno : ∀ (q z : Nat), h[q]? ≠ some (.group z)) {fI : Nat} (hfi : fI < h.length) (R : Option (List Int))
  (hJ : ∀ (ρ : Env) (G : Grp), Env.upto m ρ0 ρ → G.ty = t → G = mkG t G.wg (ρ.blk fI) R → ρ.blk h.length = G.wg → At (JG P W0 Post G) N b cs FC ρ (h.length + 1) (.inRegion ops rest :: K) (f.putO o.dst (ptr h.length 0)) (h ++ [.group 1])) :
  At (J2 P W0 Post) N b cs FC ρ0 m (.inRegion ops (i :: rest) :: K) f h := by
 intro a ρ w ft A H hu hm
 refine J2.opens rfl fun w₁ h₁ _ => ?_
 have H₁ := H.rely h₁
 have hw := gd_wanted A hg
 have hnd : ∀ c, o.op ≠ .defer c := fun c e => by rw [hop] at e; cases e
 have hk' : (b.kind == CallKind.early) = false := by simpa using hk
 have hr : (execOp a.eval o).runT P w₁ #[] = (.ok (.value (.pointer (some ⟨w₁.heap.size, 0, none⟩))) { w₁ with heap := w₁.heap.push (.cells z.cells t) }, #[]) := by
  have hrun : RunsTo P (fun _ => False) (execOp a.eval o) w₁ fun nx w' => nx = .value (.pointer (some ⟨w₁.heap.size, 0, none⟩)) ∧ w' = { w₁ with heap := w₁.heap.push (.cells z.cells t) } := by
   unfold execOp
   rw [hop]
   simp only [Instr.alloc]
   refine RunsTo.bind (RunsTo.bind (RunsTo.zeroValue hi hz ?_))
   unfold newVar newRow
   exact RunsTo.bind (RunsTo.bind (RunsTo.new (RunsTo.pure (RunsTo.pure (RunsTo.pure ⟨rfl, rfl⟩)))))
  obtain ⟨v, w', hr, rfl, rfl⟩ := quiet_run hrun
  exact hr
 refine ⟨mkG t w₁.heap.size (ρ.blk fI) R, G (b.at (a.put o.dst (.pointer (some ⟨w₁.heap.size, 0, none⟩))) (.inRegion ops rest :: K)) cs, #[], rfl, ?_, by simp, ?_⟩
 ·have hf := FB.finish_at b a ops i rest K (.pointer (some ⟨w₁.heap.size, 0, none⟩))
  rw [ho] at hf
  simp only [Option.bind_some] at hf
  rw [stepG_op ho hw hnd, ← hf]
  simp only [stepG.apply, hr, if_true]
  simp [FB.at, hk', GStep.after, G, seen, ConcR.wgBlock, hzc, mkG]
 ·have hup := Env.put_upto ρ h.length w₁.heap.size 0
  have hs := (Env.put_self ρ h.length w₁.heap.size 0).1
  refine hJ (ρ.put h.length w₁.heap.size 0) _ (Env.upto_trans hu (Env.upto_le hup hm)) rfl ?_ hs _ _ _ _ (act_put (upto_act hup (by simp) A) (dstOk_lt hd) (.inr ⟨by simp [VOk, AddrOk], by simp [ren, renAddr, hs]⟩)) (H₁.group hno _ 0) (Env.upto_refl _ _) (by simp)
  rw [(hup fI hfi).1]
  rfl
theorem At.hireG (hk : b.kind ≠ .early) (ho : ops[i]? = some o) (hg : gd ops o f.r = some true) {x : Operand} {ats : Array TypeId} (hop : o.op = .go { callee := .value x, args := #[], argTypes := ats }) (hdst : o.dst = none)
  {g : FuncId} {cap : List Value} (hx : ev f.r x = .func (.func g) ⟨[]⟩ ⟨cap⟩) (hcl : callable P g = true) {p fI : Nat} {cl : List Value} (hgr : GrpAt h p 4) (hf : h[fI]? = some (.cells cl true 0))
  (hto : ∀ (ρ : Env) (w : World) (ft : Foot), HRel ρ (lentW h fI cl) noFrm w (workF ft (ρ.blk fI)) → Env.upto m ρ0 ρ → ρ.blk p = G.wg → Toward P (AtDone P G) (Go.Conc.G (Frame.enter P g ⟨cap.map (ren ρ)⟩ .deferred) [base0 P]) w (workF ft (ρ.blk fI)))
  (hJ : ∀ (ρ : Env) (w : World) (ft : Foot), HRel ρ h FC w ft → Env.upto m ρ0 ρ → ρ.blk p = G.wg → At (JG P W0 Post G) N b cs (keepG w ft (ρ.blk fI)) ρ h.length (.inRegion ops rest :: K) f (lentM h p fI 5)) :
  At (JG P W0 Post G) N b cs FC ρ0 m (.inRegion ops (i :: rest) :: K) f h := by
 intro a ρ w ft A H hu hm
 have htag := H.tag p 4 hgr.here
 have hFr : ft.rd (ρ.blk fI) := H.rd fI _ hf rfl
 have hFw : ft.wr (ρ.blk fI) := H.wr fI _ hf rfl
 intro gs w₁ sl t ii r q ws S hrel h0 I
 have hwg : ρ.blk p = G.wg := by
  have := I.tagw
  omega
 refine (?_ : JG P W0 Post G (Go.Conc.G (b.at a (.inRegion ops (i :: rest) :: K)) cs) w ft) gs w₁ sl t ii r q ws S hrel h0 I
 clear I h0 hrel S ws q r ii t sl w₁ gs
 refine JG.spawn (fi := workF ft (ρ.blk fI)) (ft' := mainF ft (ρ.blk fI)) rfl (by omega) (fun b hb => hb) (fun b hb => ?_) (fun b hb => ?_) (fun b hb => hb.1) (fun b hb => hb.elim) (fun b hb => hb.elim) (fun b hb hr => hr.2 hb) (fun b hb => hb.elim) rfl fun w₁ h₁ => ?_
 ·have hb : b = _ := hb
  subst hb
  exact hFr
 ·have hb : b = _ := hb
  subst hb
  exact hFw
 have H₁ := H.rely h₁
 refine ⟨_, _, stepG_go hk ho hg A hop hx w₁, ?_, ?_⟩
 ·exact born_toward rfl hcl (hto ρ w₁ ft (lentW_rel H₁ hf) hu hwg)
 ·rw [show a.put o.dst undef = a by rw [hdst]; rfl]
  exact hJ ρ w₁ ft H₁ hu hwg a ρ w₁ _ (by rw [lentM_len]; exact A) (lentM_rel H₁ hgr hf) (Env.upto_refl _ _) (by rw [lentM_len]; exact Nat.le_refl _)
def cellsOf (n : Nat) : Option (List Int) → List Value
 | none => [nilS, nilS, nilS]
 | some l => [.slice (some ⟨n, 0, none⟩) l.length fz, nilS, nilS]
def objOf : Option (List Int) → AObj
 | none => .dead
 | some l => .cells (l.map vint) false 1
theorem At.join {p fI : Nat} {cl : List Value} {R : Option (List Int)} {g : List AObj} {ty : TypeId} {wg : Nat} {w1 : World} {ft1 : Foot} (H : HRel ρ0 h FC w1 ft1) (hf : h[fI]? = some (.cells cl true 0)) (hpl : p < h.length) (hG : G = mkG ty wg (ρ0.blk fI) R) (hgl : ∀ o ∈ g, o.live = true → o.wrt = true) (hng : ∀ z, .group z ∉ g) {k : List Item}
  (hJ : ∀ ρ, Env.upto h.length ρ0 ρ → At (J2 P W0 Post) N b cs FC ρ (h.length + (g.length + 1)) k f (thawG h g fI (cellsOf (h.length + g.length) R) (objOf R))) :
  At (JG P W0 Post G) N b cs (keepG w1 ft1 (ρ0.blk fI)) ρ0 h.length k f (lentM h p fI 12 ++ g) := by
 subst hG
 intro a ρ w ft A H' hu hm
 have hp : (lentM h p fI 12 ++ g)[p]? = some (.group 12) := by
  rw [List.getElem?_append_left (by rw [lentM_len]; exact hpl)]
  unfold lentM
  rw [List.getElem?_set_self (by rw [List.length_set, frz_len]; exact hpl)]
 have htag := H'.tag p 12 hp
 have hlen : (lentM h p fI 12 ++ g).length = h.length + g.length := by rw [List.length_append, lentM_len]
 have hfl : fI < h.length := (List.getElem?_eq_some_iff.1 hf).1
 refine JG.last (by omega) fun w₁ fi h₁ hn1 hn2 hphi hlt hsub hd1 hlt1 => ?_
 have H₁ := H'.rely h₁
 obtain ⟨b1, b2, cs1, ty1, fr1, b3, b4⟩ := (hphi : leftP (ρ0.blk fI) R w₁ fi)
 have hFn : ¬ ft.rd (ρ0.blk fI) := hd1 _ b2
 rw [hlen] at A
 -- with the worker's block R
 have fin : ∀ (B κ : Nat), fi.rd B → ((objOf R).live = true → B ≠ ρ0.blk fI ∧ ¬ ft.rd B) → ORel (h.length + (g.length + 1)) (ρ.put (h.length + g.length) B κ) fI (.cells (cellsOf (h.length + g.length) R) false 0) w₁.heap[ρ0.blk fI]? → ORel (h.length + (g.length + 1)) (ρ.put (h.length + g.length) B κ) (h.length + g.length) (objOf R) w₁.heap[B]? →
   ∃ f' : Foot, (∀ b, f'.rd b → ft.rd b ∨ fi.rd b) ∧ (∀ b, f'.wr b → f'.rd b) ∧ J2 P W0 Post (Go.Conc.G (FB.at b a k) cs) w₁ f' := fun B κ hB hR hoF hoR => by
  have T := thawG_rel H hf H₁ hu hgl hng (hlt _ b1) (hlt _ hB) (by cases R <;> simp [objOf]) (by cases R <;> rfl) hR hoF hoR hFn
  have hup := Env.put_upto ρ (h.length + g.length) B κ
  refine ⟨joinF ft1 ft (ρ0.blk fI) B, fun b hb => ?_, T.sub, ?_⟩
  ·rcases hb with hb | rfl | rfl
   ·exact .inl hb
   ·exact .inr b1
   ·exact .inr hB
  ·refine hJ _ (Env.upto_trans hu (Env.upto_le hup (by omega))) a _ w₁ _ ?_ T (Env.upto_refl _ _) (by rw [thawG_len]; exact Nat.le_refl _)
   rw [thawG_len]
   exact upto_act hup (by omega) A
 cases R with
 | none =>
  simp only at b4
  subst b4
  refine fin (ρ0.blk fI) 0 b1 (fun h => by cases h) ?_ trivial
  rw [b3]
  show CellsRel _ _ _ [nilS, nilS, nilS] false 0 #[nilS, nilS, nilS] fr1
  refine ⟨fun i v hv => ?_, fun _ => rfl, fun h => absurd rfl h, fun h => Bool.noConfusion h⟩
  have hv : [nilS, nilS, nilS][i]? = some v := hv
  have e : v = nilS := by
   have := List.mem_of_getElem? hv
   simpa using this
  subst e
  exact .inr ⟨by simp [nilS, VOk], rfl, by rw [show ren _ nilS = nilS by simp [nilS, ren]]; simpa using hv⟩
 | some l =>
  obtain ⟨B, c, ds, ty', fr', c1, c2, c3, rfl, c5, c6, c7, c8⟩ := b4
  refine fin B c c1 (fun _ => ⟨c3, hd1 _ c2⟩) ?_ ?_
  ·rw [b3]
   show CellsRel _ _ _ [.slice (some ⟨h.length + g.length, 0, none⟩) l.length fz, nilS, nilS] false 0 #[.slice (some ⟨B, 0, none⟩) l.length c, nilS, nilS] fr1
   refine ⟨fun i v hv => ?_, fun _ => rfl, fun h => absurd rfl h, fun h => Bool.noConfusion h⟩
   have hs := Env.put_self ρ (h.length + g.length) B c
   match i, hv with
   | 0, hv =>
    cases hv
    exact .inr ⟨by simp [VOk, AddrOk], rfl, by simp [ren, renAddr, renCap, hs]⟩
   | 1, hv =>
    cases hv
    exact .inr ⟨by simp [nilS, VOk], rfl, by simp [nilS, ren]⟩
   | 2, hv =>
    cases hv
    exact .inr ⟨by simp [nilS, VOk], rfl, by simp [nilS, ren]⟩
  ·rw [c5]
   have hs := Env.put_self ρ (h.length + g.length) B c
   show CellsRel _ _ _ (l.map vint) false 1 ds fr'
   refine ⟨fun i v hv => ?_, fun h => (by cases h), fun _ => ⟨by rw [hs.2]; omega, by simp; omega⟩, fun h => Bool.noConfusion h⟩
   rw [List.getElem?_map] at hv
   obtain ⟨y, hy, rfl⟩ := Option.map_eq_some_iff.1 hv
   exact .inr ⟨by simp [VOk], rfl, by rw [c7 i y hy]; simp [vint, ren]⟩
end
end Go.Proofs.Ythnccaajpdnndaa
namespace Go.Proofs.Ythnccaajpdnndaa
open Go.Conc Go.Conc.Lib Go.Proofs.Try
def LeftH (h : List AObj) (fI : Nat) : Option (List Int) → Prop
 | none => h[fI]? = some (.cells [nilS, nilS, nilS] true 0)
 | some l => ∃ r sz c L, h[fI]? = some (.cells [.slice (some ⟨r, 0, none⟩) l.length c, nilS, nilS] true 0) ∧ r ≠ fI ∧ h[r]? = some (.cells L true sz) ∧ (∀ (i : Nat) (x : Int), l[i]? = some x → L[i]? = some (vint x)) ∧ l.length ≤ L.length ∧ ((sz = 0 ∧ c = L.length ∧ c < fz) ∨ (sz = 1 ∧ c = fz))
section
variable {ρ : Env} {h : List AObj} {FC : Frm} {w : World} {ft : Foot} {fI : Nat}
theorem cells_obj {n b : Nat} {c : List Value} {wr : Bool} {sz : Nat} {x : Option Obj} (h : ORel n ρ b (.cells c wr sz) x) : ∃ c' ty fr, x = some (.cells c' ty fr) ∧ CellsRel n ρ b c wr sz c' fr := by
 match x, h with
 | some (.cells c' ty fr), h => exact ⟨c', ty, fr, rfl, h⟩
theorem nil_cell {n b : Nat} {c : List Value} {sz : Nat} {c' : Array Value} {fr : Nat × Nat} (R : CellsRel n ρ b c true sz c' fr) {i : Nat} (hi : c[i]? = some nilS) : c'[i]? = some nilS := by
 rcases R.1 i _ hi with ⟨e, _⟩ | ⟨_, _, e⟩
 ·cases e
 ·simpa [nilS, ren] using e
theorem three_cells {c' : Array Value} {x y z : Value} (hs : c'.size = 3) (h0 : c'[0]? = some x) (h1 : c'[1]? = some y) (h2 : c'[2]? = some z) : c' = #[x, y, z] := by
 apply Array.ext_getElem?
 intro i
 match i with
 | 0 => exact h0
 | 1 => exact h1
 | 2 => exact h2
 | i + 3 => rw [Array.getElem?_eq_none (by omega), Array.getElem?_eq_none (by simp)]
theorem left_of (H : HRel ρ h FC w ft) {R : Option (List Int)} (hL : LeftH h fI R) : leftP (ρ.blk fI) R w ft ∧ ∃ v, w.cell? ⟨ρ.blk fI, 0, none⟩ = some v := by
 cases R with
 | none =>
  have hf : h[fI]? = some (.cells [nilS, nilS, nilS] true 0) := hL
  obtain ⟨c', ty, fr, e, C⟩ := cells_obj (H.obj fI _ hf)
  have e3 := three_cells (C.2.1 rfl) (nil_cell C rfl) (nil_cell C rfl) (nil_cell C rfl)
  subst e3
  exact ⟨⟨H.rd _ _ hf rfl, H.wr _ _ hf rfl, _, ty, fr, e, rfl⟩, nilS, by simp [World.cell?, e]⟩
 | some l =>
  obtain ⟨r, sz, c, L, hf, hne, hr, hl, hlen, hc⟩ := hL
  obtain ⟨c', ty, fr, e, C⟩ := cells_obj (H.obj fI _ hf)
  obtain ⟨d', ty', fr', e', D⟩ := cells_obj (H.obj r _ hr)
  have h0 : c'[0]? = some (.slice (some ⟨ρ.blk r, 0, none⟩) l.length (renCap ρ r c)) := by
   rcases C.1 0 _ rfl with ⟨x, _⟩ | ⟨_, _, x⟩
   ·cases x
   ·rw [x]
    simp [ren, renAddr]
  have hcap : d'.size = renCap ρ r c ∧ l.length ≤ renCap ρ r c := by
   unfold renCap
   rcases hc with ⟨rfl, rfl, hlt⟩ | ⟨rfl, rfl⟩
   ·rw [if_neg (by omega)]
    exact ⟨D.2.1 rfl, hlen⟩
   ·rw [if_pos (Nat.le_refl _)]
    obtain ⟨a1, a2⟩ := D.2.2.1 (by omega)
    omega
  have e3 := three_cells (C.2.1 rfl) h0 (nil_cell C rfl) (nil_cell C rfl)
  subst e3
  refine ⟨⟨H.rd _ _ hf rfl, H.wr _ _ hf rfl, _, ty, fr, e, ρ.blk r, renCap ρ r c, d', ty', fr', H.rd _ _ hr rfl, H.wr _ _ hr rfl, fun x => hne (H.inj _ _ _ _ hr hf rfl rfl x), rfl, e', hcap.1, fun i x hx => ?_, hcap.2⟩, _, by simp [World.cell?, e]; rfl⟩
  rcases D.1 i _ (hl i x hx) with ⟨y, _⟩ | ⟨_, _, y⟩
  ·cases y
  ·simpa [vint, ren] using y
end
section
variable {P : Program} {main : Bool} {J : JT} {N m : Nat} {b : FB} {cs : List Frame} {FC : Frm} {ρ0 : Env} {K : List Item} {f : RG} {h : List AObj} {ops : Array Oper} {i : Nat} {rest : List Nat} {o : Oper}
theorem At.deferG (hJ : Closed P main J) (hk : b.kind ≠ .early) (hro : b.ro = none) (hbd : b.dfs = []) (ho : ops[i]? = some o) (hg : gd ops o f.r = some true) {fd : FuncId} {x : Operand} {ats : Array TypeId} (hop : o.op = .defer { callee := .value (.func fd), args := #[x], argTypes := ats }) (hdst : o.dst = none) {p : Nat} (hx : ev f.r x = ptr p 0) (hpm : p < m) (hds : f.ds = [])
  (h' : At J N { b with dfs := [dcall fd #[.pointer (some ⟨ρ0.blk p, 0, none⟩)]] } cs FC ρ0 m (.inRegion ops rest :: K) f h) : At J N b cs FC ρ0 m (.inRegion ops (i :: rest) :: K) f h := by
 intro a ρ w ft A H hu hm
 have hw := gd_wanted A hg
 have hk' : (b.kind == CallKind.early) = false := by simpa using hk
 have hxv := ((ev_rel A.regs x).val (by rw [hx]; simp [unk, ptr])).2
 rw [hx] at hxv
 simp only [ren, renAddr, (hu p hpm).1] at hxv
 have had : a.defers = [] := by rw [A.defers, hds]; rfl
 obtain ⟨bf, bk, br, bd⟩ := b
 simp only at hk hro hbd
 subst hro hbd
 refine hJ.ctrl rfl rfl (g' := G (FB.at ⟨bf, bk, none, [dcall fd #[.pointer (some ⟨ρ0.blk p, 0, none⟩)]]⟩ a (.inRegion ops rest :: K)) cs) (fun w => ?_) (h' a ρ w ft A H hu hm)
 have e1 : ∀ (ds : List Deferred) (todo : List Item), FB.at ⟨bf, bk, none, ds⟩ a todo = ({ (default : Frame) with fn := bf, kind := bk } : Frame).at ⟨a.tmps, ds⟩ todo := fun ds todo => by simp [FB.at, Frame.at, had]
 rw [e1, e1]
 have := stepG_defer (P := P) (main := main) (b := { (default : Frame) with fn := bf, kind := bk }) (a := ⟨a.tmps, []⟩) (k := K) (cs := cs) (w := w) (rest := rest) ho hw hk hop
 rw [this]
 have ex : (Act.eval ⟨a.tmps, []⟩ x) = a.eval x := rfl
 simp [hdst, Act.put, ex, hxv]
end
theorem At.doneG {N m : Nat} {b : FB} {FC : Frm} {ρ0 : Env} {f : RG} {h : List AObj} {G : Grp} {fn : Func} (hk : b.kind = .deferred) (hro : b.ro = none) (hbd : b.dfs = [dcall wgLink.done #[.pointer (some ⟨G.wg, 0, none⟩)]]) (hds : f.ds = []) (hf : prog.funcs[b.fn]? = some fn) (hres : fn.results = #[]) (hty : G.ty = wgLink.tWg) {fI : Nat} {R : Option (List Int)} (hG : G = mkG G.ty G.wg (ρ0.blk fI) R) (hfm : fI < m) (hR : LeftH h fI R) :
  At (Toward prog (AtDone prog G)) N b [base0 prog] FC ρ0 m [] f h := by
 intro a ρ w ft A H hu hm
 have had : a.defers = [] := by rw [A.defers, hds]; rfl
 obtain ⟨bf, bk, br, bd⟩ := b
 simp only at hk hro hbd hf
 subst hk hro hbd
 have hJ := Toward.closed prog (AtDone prog G)
 refine hJ.ctrl rfl rfl (g' := Go.Conc.G { FB.at ⟨bf, .deferred, none, [dcall wgLink.done #[.pointer (some ⟨G.wg, 0, none⟩)]]⟩ a [] with mode := .returning } [base0 prog]) (fun w => by simp [Go.Conc.G, stepG, stepG.exec, FB.at]) ?_
 have hfd := (wgLib.f_done : prog.funcs[wgLink.done]? = some (doneFn wgLink))
 refine hJ.ctrl rfl rfl (g' := Go.Conc.G ((baseD wgLink.done).at ⟨#[.pointer (some ⟨G.wg, 0, none⟩), undef, undef, undef], []⟩ [.code (Go.ConcR.Gen.body_done wgLink)]) ({ FB.at ⟨bf, .deferred, none, []⟩ a [] with mode := .returning } :: [base0 prog])) (fun w => ?_) ?_
 ·have e1 : ∀ (ds : List Deferred) (todo : List Item), ({ FB.at ⟨bf, .deferred, none, ds⟩ a todo with mode := .returning } : Frame) = { (baseD bf).at ⟨a.tmps, ds⟩ todo with mode := .returning } := fun ds todo => by simp [FB.at, Frame.at, had, baseD]
  rw [e1, e1]
  exact stepG_unwind_enter (a := ⟨a.tmps, [dcall wgLink.done #[.pointer (some ⟨G.wg, 0, none⟩)]]⟩) rfl hfd (Go.ConcR.Gen.nm_done wgLink) rfl
 refine Toward.stop rfl fun w₁ h₁ => ?_
 have H₁ := H.rely h₁
 obtain ⟨hl, v, hv⟩ := left_of H₁ hR
 have hF : G.F = ρ.blk fI := by
  rw [hG, (hu fI hfm).1]
  rfl
 have hphi : G.phi w₁ ft := by
  rw [hG]
  show leftP (ρ0.blk fI) R w₁ ft
  rw [← (hu fI hfm).1]
  exact hl
 refine done_stop (qt := 2) (v := v) hty rfl ?_ (by rw [hF]; exact hl.1) hphi (by unfold Grp.has; rw [hF]; exact hv)
 refine .ctl (g' := Go.Conc.G (base0 prog) []) rfl (fun w => ?_) (base_quits (base_catches prog))
 have he : (results fn a.tmps).runT prog w #[] = (.ok (.tuple #[]) w, #[]) := by
  have hrun : RunsTo prog (fun _ => False) (results fn a.tmps) w fun v w' => v = .tuple #[] ∧ w' = w := by
   unfold results
   rw [hres, Array.mapM_eq_mapM_toList]
   exact RunsTo.bind (RunsTo.map (RunsTo.pure (RunsTo.pure ⟨by simp, rfl⟩)))
  obtain ⟨v, w', hr, rfl, rfl⟩ := quiet_run hrun
  exact hr
 simp only [Go.Conc.G, stepG, FB.at, unwind, had, hf, he, List.append_nil]
 simp [doReturn, base0, goexitEntry, GStep.after, seen]
end Go.Proofs.Ythnccaajpdnndaa
namespace Go.Proofs.Ythnccaajpdnndaa
open Go.Conc
section
variable {P : Program} {main : Bool} {J : JT} {N m : Nat} {b : FB} {cs : List Frame} {FC : Frm} {ρ0 : Env} {k : List Item} {f : RG} {h : List AObj} {ops ops' : Array Oper} {last : Nat}
theorem At.enter {g : FuncId} {fn : Func} (hf : P.funcs[g]? = some fn) {c : Code} (hb : fn.body = some c) {args : List Value} (ha : args.length ≤ fn.ntmps) (hv : ∀ v ∈ args, VOk h.length v) {ρ : Env} {w : World} {ft : Foot} (H : HRel ρ h FC w ft)
  (hA : At J fn.ntmps ⟨g, .deferred, none, []⟩ cs FC ρ h.length [.code c] ⟨regs args, []⟩ h) : J (G (Frame.enter P g ⟨args.map (ren ρ)⟩ .deferred) cs) w ft := by
 have he : Frame.enter P g ⟨args.map (ren ρ)⟩ .deferred = FB.at ⟨g, .deferred, none, []⟩ ⟨⟨args.map (ren ρ)⟩ ++ Array.replicate (fn.ntmps - args.length) undef, []⟩ [.code c] := by
  simp [Frame.enter, FB.at, hf, hb]
 rw [he]
 refine hA _ ρ w ft ⟨fun t => ?_, by simp; omega, rfl, by simp⟩ H (fun _ _ => ⟨rfl, rfl⟩) (Nat.le_refl _)
 have ht : ((⟨args.map (ren ρ)⟩ : Array Value) ++ Array.replicate (fn.ntmps - args.length) undef).getD t undef = (args.map (ren ρ)).getD t undef := by
  rw [Array.getD_eq_getD_getElem?, List.getD_eq_getElem?_getD]
  by_cases hx : t < args.length
  ·rw [Array.getElem?_append_left (by simpa using hx)]
   simp
  ·rw [Array.getElem?_append_right (by simp; omega), List.getElem?_eq_none (by simp; omega)]
   simp only [Array.getElem?_replicate]
   split <;> rfl
 rw [ht]
 by_cases hx : t < args.length
 ·refine .inr ?_
  show VOk h.length (regs args t) ∧ _
  have e1 : regs args t = args[t] := by simp [regs, List.getD_eq_getElem?_getD, List.getElem?_eq_getElem hx]
  rw [e1]
  refine ⟨hv _ (List.getElem_mem hx), ?_⟩
  show _ = ren ρ (regs args t)
  rw [e1]
  simp [List.getD_eq_getElem?_getD, List.getElem?_eq_getElem hx]
 ·refine .inl ?_
  show regs args t = unk
  simp [regs, List.getD_eq_getElem?_getD, List.getElem?_eq_none (Nat.le_of_not_lt hx)]
end
end Go.Proofs.Ythnccaajpdnndaa
namespace Go.Proofs.Ythnccaajpdnndaa
open Go.Conc Go.Proofs.Try
set_option maxRecDepth 100000
def foundR (ls : List Pas) (s : SkyR) (heads : Int) (d : Nat) (at_ : Nat) : Option (List Int) :=
 if dawnB ls s at_ heads [startW ls] = true then (match restR ls s heads d (dawnL ls s at_ heads [startW ls]) with | some r => some ((at_ : Int) :: r) | none => none) else none
section
variable {main : Bool} {J : JT} {h H : List AObj} {K : Value → List AObj → Prop} {KV : Value → Prop} {HL : List AObj → Prop} {n0 : Nat}
theorem sliK {v : Value} {s n : Nat} {cs : List Value} (hs : Sli h v s n cs) : v.cells = #[v] ∧ one v = true ∧ kn1 v = true := by
 obtain ⟨base, c, rfl, _⟩ := hs
 exact ⟨rfl, rfl, rfl⟩
theorem sbL {X B : List Nat} (S : SameX X h H) (hB : ∀ p ∈ B, p < h.length ∧ p ∉ X) : SameB (some B) h H := fun b hb => by
 obtain ⟨h1, h2⟩ := hB b hb
 exact S.2 b h1 h2
structure Given (h : List AObj) (pl ps pa ph fI : Nat) (lv : Value) (ls : List Pas) (s : SkyR) (heads : Int) : Prop where
 gl : ∃ wr, h[pl]? = some (.cells [lv] wr 0)
 gsl : SliE h lv 6 Pas.cells ls
 gs : ∃ wr, h[ps]? = some (.cells s.cells wr 0)
 ga : ∃ wr, h[pa]? = some (.cells [vint (0 : Nat)] wr 0)
 gh : ∃ wr, h[ph]? = some (.cells [vint heads] wr 0)
 gf : h[fI]? = some (.cells [nilS, nilS, nilS] true 0)
theorem Given.more {pl ps pa ph fI : Nat} {lv : Value} {ls : List Pas} {s : SkyR} {heads : Int} (g : Given h pl ps pa ph fI lv ls s heads) (S : SameX [] h H) : Given H pl ps pa ph fI lv ls s heads := by
 obtain ⟨⟨w1, g1⟩, g2, ⟨w3, g3⟩, ⟨w4, g4⟩, ⟨w5, g5⟩, g6⟩ := g
 exact ⟨⟨w1, S.get g1 (by simp)⟩, S.sli g2 (by simp), ⟨w3, S.get g3 (by simp)⟩, ⟨w4, S.get g4 (by simp)⟩, ⟨w5, S.get g5 (by simp)⟩, S.get g6 (by simp)⟩
structure MidW (h H : List AObj) (F : RG) (pw pl ps pa ph fI : Nat) (ls : List Pas) (s : SkyR) (heads : Int) : Prop where
 S : SameX [] h H
 ds : F.ds = []
 r1 : F.r 1 = ptr pl 0
 r2 : F.r 2 = ptr ps 0
 r3 : F.r 3 = ptr pa 0
 r4 : F.r 4 = ptr ph 0
 r5 : F.r 5 = ptr fI 0
 r7 : F.r 7 = .bool (dawnB ls s 0 heads [startW ls])
 m : dawnB ls s 0 heads [startW ls] = true → ∃ M, MapW H (F.r 6) M ∧ SameW M (dawnL ls s 0 heads [startW ls])
theorem worker1 (hJ : Closed prog main J) {F : RG} {pw pl ps pa ph fI : Nat} {lv : Value} {ls : List Pas} {s : SkyR} {heads : Int} (L : LsOk ls) (f : skyOk s) (hh : 0 ≤ heads ∧ heads ≤ 40) (g : Given h pl ps pa ph fI lv ls s heads) (ds : F.ds = []) (r1 : F.r 1 = ptr pl 0) (r2 : F.r 2 = ptr ps 0) (r3 : F.r 3 = ptr pa 0) (r4 : F.r 4 = ptr ph 0) (r5 : F.r 5 = ptr fI 0) :
  W prog J 50 n0 75 (subC [1, 0] (codeOf f75)) F h (fun e F' H => e = .normal ∧ MidW h H F' pw pl ps pa ph fI ls s heads) := by
 rw [q75_1, r1, r2, r3, r4]
 obtain ⟨⟨w1, g1⟩, g2, ⟨w3, g3⟩, ⟨w4, g4⟩, ⟨w5, g5⟩, g6⟩ := id g
 have b1 := lt_of_get g1
 have b3 := lt_of_get g3
 have b4 := lt_of_get g4
 have b5 := lt_of_get g5
 have hB : ∀ {H : List AObj}, SameX [] h H → SameB (some [pl, ps, pa, ph]) h H := fun S => sbL S fun p hp => by
  simp only [List.mem_cons, List.not_mem_nil, or_false] at hp
  refine ⟨?_, by simp⟩
  rcases hp with rfl | rfl | rfl | rfl <;> assumption
 have k1 : kn1 lv = true := (sliK g2).2.2
 refine ⟨[pl, ps, pa, ph], ldI (v := lv) g1 rfl k1 ⟨by simp [RdOk, ptrBlk], ldI (v := lv) g1 rfl k1 ⟨by simp [RdOk, ptrBlk], load_part (c := s.cells) g3 (by simp [SkyR.cells]) rfl rfl ⟨by simp [RdOk, ptrBlk], ldI (v := vint (0 : Nat)) g4 rfl rfl ⟨by simp [RdOk, ptrBlk], ldI (v := vint heads) g5 rfl rfl ?_⟩⟩⟩⟩⟩
 -- behind both orders
 have fin : ∀ {mv : Value} {H1 : List AObj}, SameX [] h H1 → MapW H1 mv [] → ∀ (b : Nat), mv = .map (some b) → h.length ≤ b → H1[b]? = some (.map ([].map entW) true) → ∀ {HQ : Value → Value → Value → List AObj → Prop}, (∀ v11 v14 v13 H2, SameX [] h H2 → v14 = .bool (dawnB ls s 0 heads [startW ls]) → (dawnB ls s 0 heads [startW ls] = true → ∃ M, MapW H2 v13 M ∧ SameW M (dawnL ls s 0 heads [startW ls])) → HQ v11 v13 v14 H2) →
   (VOk H1.length (Value.bool true) ∧ one (Value.bool true) = true) ∧ aUpdX prog 102 mv (startW ls).val (.bool true) H1 fun h10 => SameB (some [pl, ps, pa, ph]) h h10 ∧ (Good prog J 77 [mv, lv, .agg ⟨s.cells⟩, vint (0 : Nat), vint heads] h10 fun v11 h12 => SameB (some [pl, ps, pa, ph]) h h12 ∧ (aExt v11 0 fun v13 => aExt v11 1 fun v14 => HQ v11 v13 v14 h12)) := by
  intro mv H1 S1 _ b e hb hm HQ hq
  subst e
  refine ⟨⟨by simp [VOk], rfl⟩, updW (N := []) hm List.nodup_nil fun H2 N' S2 c2 nd2 m2 l2 => ?_⟩
  have T2 : SameX [] h H2 := S1.thru S2 (by simp; omega)
  have hs : SameW N' [startW ls] := fun y => by rw [m2 y]; simp
  refine ⟨hB T2, good77 hJ L f (T2.sli g2 (by simp)) hh ⟨b, true, rfl, c2, nd2⟩ (fun w hw => ?_) (fun hd H3 mv' M' S3 hm' hs' => ?_) fun hd H3 S3 => ?_⟩
  ·have := (hs w).1 hw
   rw [List.mem_singleton.1 this]
   exact startW_ok L
  ·rw [dawnB_same hs] at hd
   refine ⟨hB (T2.trans S3), ext0 (ext1 (hq _ _ _ H3 (T2.trans S3) (by rw [hd]) fun _ => ⟨M', hm', fun y => ?_⟩))⟩
   rw [hs' y]
   exact dawnL_same hs y
  ·rw [dawnB_same hs] at hd
   exact ⟨hB (T2.trans S3), ext0 (ext1 (hq _ _ _ H3 (T2.trans S3) (by rw [hd]) fun h => by rw [hd] at h; cases h))⟩
 have mid : ∀ {F' : RG} {H2 : List AObj} {v13 v14 : Value}, SameX [] h H2 → v14 = .bool (dawnB ls s 0 heads [startW ls]) → (dawnB ls s 0 heads [startW ls] = true → ∃ M, MapW H2 v13 M ∧ SameW M (dawnL ls s 0 heads [startW ls])) → F'.ds = [] → F'.r 1 = ptr pl 0 → F'.r 2 = ptr ps 0 → F'.r 3 = ptr pa 0 → F'.r 4 = ptr ph 0 → F'.r 5 = ptr fI 0 → F'.r 6 = v13 → F'.r 7 = v14 → MidW h H2 F' pw pl ps pa ph fI ls s heads := fun S e hm ds r1 r2 r3 r4 r5 r6 r7 => ⟨S, ds, r1, r2, r3, r4, r5, by rw [r7, e], fun h => by rw [r6]; exact hm h⟩
 refine ⟨by simp [RdOk, ptrBlk], ⟨qNewM fun H1 p1 e1 S1 c1 l1 => ⟨hB S1, good78 hJ L (S1.sli g2 (by simp)) fun H2 S2 => ⟨hB (S1.trans S2), ?_⟩⟩, good78 hJ L g2 fun H1 S1 => ⟨hB S1, qNewM fun H2 p2 e2 S2 c2 l2 => ⟨hB (S1.trans S2), ?_⟩⟩⟩⟩
 ·have cm := S2.get c1 (by simp)
  exact fin (S1.trans S2) ⟨p1, true, rfl, cm, List.nodup_nil⟩ p1 rfl (by omega) cm fun v11 v14 v13 H3 S3 e hm => ⟨rfl, mid S3 e hm ds r1 r2 r3 r4 r5 rfl rfl⟩
 ·exact fin (S1.trans S2) ⟨p2, true, rfl, c2, List.nodup_nil⟩ p2 rfl (by have := S1.1; omega) c2 fun v11 v14 v13 H3 S3 e hm => ⟨rfl, mid S3 e hm ds r1 r2 r3 r4 r5 rfl rfl⟩
theorem leave_some {fI p sz c : Nat} {l : List Int} (hf : H[fI]? = some (.cells [nilS, nilS, nilS] true 0)) (hp : H[p]? = some (.cells (l.map vint) true sz)) (hne : p ≠ fI) (hc : (sz = 0 ∧ c = l.length ∧ c < fz) ∨ (sz = 1 ∧ c = fz)) (hk : ∀ H', H.length ≤ H'.length → LeftH H' fI (some l) → HL H') : aIdxA 3 1 (ptr fI 0) (vint (0 : Nat)) fun v => aStore 1 v (.slice (some ⟨p, 0, none⟩) l.length c) H HL := by
 refine idxAz (by omega) (qSt hf (by simp) rfl rfl fun H' S' c' l' => hk H' S'.1 ⟨p, sz, c, l.map vint, c', hne, S'.get hp (by simp [hne]), fun i x hx => by rw [List.getElem?_map, hx]; rfl, by simp, ?_⟩)
 rw [List.length_map]
 exact hc
theorem worker2 (hJ : Closed prog main J) {h0 : List AObj} {F : RG} {pw pl ps pa ph fI : Nat} {lv : Value} {ls : List Pas} {s : SkyR} {heads : Int} (L : LsOk ls) (f : skyOk s) (hh : 0 ≤ heads ∧ heads ≤ 40) (d : Nat) (hs : s.days = (d : Int) + 1) (g : Given h pl ps pa ph fI lv ls s heads) (M : MidW h0 h F pw pl ps pa ph fI ls s heads) :
  W prog J 50 n0 75 (subC [1, 1] (codeOf f75)) F h (fun e F' H => e = .normal ∧ F'.ds = [] ∧ h.length ≤ H.length ∧ LeftH H fI (foundR ls s heads d 0)) := by
 obtain ⟨S0, ds, r1, r2, r3, r4, r5, r7, hm⟩ := M
 rw [q75_2, r1, r2, r3, r4, r5, r7]
 obtain ⟨⟨w1, g1⟩, g2, ⟨w3, g3⟩, ⟨w4, g4⟩, ⟨w5, g5⟩, g6⟩ := id g
 have k1 : kn1 lv = true := (sliK g2).2.2
 have hd8 : d ≤ 7 := by
  have := f.1
  omega
 have none_ : foundR ls s heads d 0 = none → LeftH h fI (foundR ls s heads d 0) := fun e => by
  rw [e]
  exact g6
 unfold foundR at none_ ⊢
 refine cndB (fun hB => ?_) fun hB => ?_
 rotate_left
 ·rw [hB]
  refine cnd_false.2 ⟨rfl, ds, Nat.le_refl _, ?_⟩
  rw [hB] at none_
  exact none_ rfl
 rw [hB] at none_ ⊢
 rw [if_pos rfl] at none_ ⊢
 have oM : ∀ {M' : List Wd}, SameW M' (dawnL ls s 0 heads [startW ls]) → ∀ w ∈ M', WdOk ls w := fun {M'} hsame w hw => by
  have := (hsame w).1 hw
  unfold dawnL at this
  rw [List.mem_flatMap] at this
  obtain ⟨w0, h0, h1⟩ := this
  rw [List.mem_singleton.1 h0] at h1
  obtain ⟨z, hz, rfl⟩ := List.mem_map.1 h1
  exact afters_ok L f hh (startW_ok L) z hz
 have hfz : (1 : Nat) < fz := by
  have hf : fz = 1180591620717411303424 := rfl
  omega
 refine offI (ldI (v := vint s.days) g3 rfl rfl (eqlI (cndI (fun h1 => ?_) fun h1 => ?_)))
 ·have : d = 0 := by omega
  subst this
  refine ldI (v := vint (0 : Nat)) g4 rfl rfl (ldI (v := vint (0 : Nat)) g4 rfl rfl ⟨⟨by decide, by decide, rfl⟩, fillO (l := [vint (0 : Nat)]) rfl rfl rfl (by decide) (fillI (qNew fun H1 p1 e1 S1 c1 l1 => ?_))⟩)
  have hlt := lt_of_get g6
  refine leave_some (l := [((0 : Nat) : Int)]) (S1.get g6 (by simp)) c1 (by omega) (.inl ⟨rfl, rfl, hfz⟩) fun H2 hlen hL => ⟨rfl, ds, by have := S1.1; omega, hL⟩
 ·obtain ⟨d', rfl⟩ : ∃ d', d = d' + 1 := ⟨d - 1, by omega⟩
  obtain ⟨M, hmv, hsame⟩ := hm hB
  refine cnd_true.2 (ldI (v := lv) g1 rfl k1 (load_part (c := s.cells) g3 (by simp [SkyR.cells]) rfl rfl (ldI (v := vint heads) g5 rfl rfl (offI (ldI (v := vint s.days) g3 rfl rfl (subI (by have := f.1; omega) ?_))))))
  have e : s.days - 1 = (d' : Int) + 1 := by omega
  rw [e]
  refine good79 hJ L f hh d' (by omega) g2 hmv (oM hsame) fun H1 v S1 hv => ?_
  have hr : restR ls s heads (d' + 1) (dawnL ls s 0 heads [startW ls]) = turnR ls s heads d' M := (turnR_same d' _ _ hsame).symm
  rw [hr]
  rw [hr] at none_
  cases hR : turnR ls s heads d' M with
  | none =>
   rw [hR] at hv
   have hv : v = .slice none 0 0 := hv
   subst hv
   refine neqNilZ (e := 3) (by kernel_rfl) (by kernel_rfl) (cnd_false.2 ⟨rfl, ds, S1.1, S1.get g6 (by simp)⟩)
  | some l =>
   rw [hR] at hv
   have hlen := turnR_len _ _ _ hR
   obtain ⟨ob, O⟩ := hv
   obtain ⟨_, _, hO | ⟨i, c, sz, hi, rfl, _, _⟩⟩ := id O
   ·cases hO.2.2
   have g4' := S1.get g4 (by simp)
   have hlt4 := lt_of_get g4'
   have hlt6 := lt_of_get (S1.get g6 (by simp))
   refine neqNilZ (e := 3) (by kernel_rfl) (by kernel_rfl) (cnd_true.2 ⟨[pa], ldI (v := vint (0 : Nat)) g4' rfl rfl ⟨by simp [RdOk, ptrBlk], ldI (v := vint (0 : Nat)) g4' rfl rfl ⟨by simp [RdOk, ptrBlk], ⟨by decide, by decide, rfl⟩, fillO (l := [vint (0 : Nat)]) rfl rfl rfl (by decide) (fillI (qNew fun H2 p2 e2 S2 c2 l2 => ?_))⟩⟩⟩)
   refine ⟨sbL S2 fun p hp => ⟨by rw [List.mem_singleton.1 hp]; exact hlt4, by simp⟩, ⟨rfl, by decide, by decide, by decide⟩, appF c2 rfl (by omega) (S2.sli (ownX_sli O) (by simp)) fun O3 => ?_⟩
   have S3 : SameX [] H2 (H2 ++ [.cells (vint (0 : Nat) :: l.map vint) true 1]) := SameX.refl.app
   refine ⟨sbL (S2.trans S3) fun p hp => ⟨by rw [List.mem_singleton.1 hp]; exact hlt4, by simp⟩, ?_⟩
   have e1 : 1 + l.length = (((0 : Nat) : Int) :: l).length := by rw [List.length_cons]; omega
   rw [e1]
   refine leave_some (l := ((0 : Nat) : Int) :: l) (p := H2.length) (sz := 1) (c := fz) ((S2.trans S3).get (S1.get g6 (by simp)) (by simp)) (by simp) (by have := S2.1; omega) (.inr ⟨rfl, rfl⟩) fun H4 hl4 hL => ⟨rfl, ds, by have := S1.1; have := S2.1; have := S3.1; omega, hL⟩
end
end Go.Proofs.Ythnccaajpdnndaa
namespace Go.Proofs.Ythnccaajpdnndaa
open Go.Conc Go.Conc.Lib Go.Proofs.Try
set_option maxRecDepth 100000
theorem shape75 : codeOf f75 = .seq (subC [0] (codeOf f75)) (.seq (subC [1, 0] (codeOf f75)) (subC [1, 1] (codeOf f75))) := by kernel_rfl
theorem op75 : p75_1_0.op = .defer { callee := .value (.func 76), args := #[.tmp 0], argTypes := #[100] } := by kernel_rfl
theorem worker_goes {ρ0 : Env} {h : List AObj} {w : World} {fi : Foot} {G : Grp} {p pl ps pa ph fI : Nat} {lv : Value} {ls : List Pas} {s : SkyR} {heads : Int} (L : LsOk ls) (f : skyOk s) (hh : 0 ≤ heads ∧ heads ≤ 40) (d : Nat) (hs : s.days = (d : Int) + 1) (g : Given h pl ps pa ph fI lv ls s heads) (hp : p < h.length)
  (hty : G.ty = wgLink.tWg) (hG : G = mkG G.ty G.wg (ρ0.blk fI) (foundR ls s heads d 0)) (hwg : ρ0.blk p = G.wg) (H : HRel ρ0 h noFrm w fi) :
  Toward prog (AtDone prog G) (Go.Conc.G (Frame.enter prog 75 ⟨([ptr p 0, ptr pl 0, ptr ps 0, ptr pa 0, ptr ph 0, ptr fI 0] : List Value).map (ren ρ0)⟩ .deferred) [base0 prog]) w fi := by
 have hJ := Toward.closed prog (AtDone prog G)
 obtain ⟨⟨w1, g1⟩, g2, ⟨w3, g3⟩, ⟨w4, g4⟩, ⟨w5, g5⟩, g6⟩ := id g
 have b1 := lt_of_get g1
 have b3 := lt_of_get g3
 have b4 := lt_of_get g4
 have b5 := lt_of_get g5
 have b6 := lt_of_get g6
 refine At.enter at75 body75 (Nat.le_of_ble_eq_true rfl) (fun v hv => ?_) H ?_
 ·simp only [List.mem_cons, List.not_mem_nil, or_false] at hv
  rcases hv with rfl | rfl | rfl | rfl | rfl | rfl <;> simp [VOk, AddrOk] <;> assumption
 rw [show f75.ntmps = 50 from by kernel_rfl, shape75, r75_1]
 refine At.seq hJ (At.region hJ ?_)
 rw [show List.range ops75_1.size = [0] from by rw [z75_1]; rfl]
 obtain ⟨u1, u2, u3, u4, _⟩ := o75_1_0 (J := J1 prog w fun _ _ => True)
 have hop := op75
 refine At.deferG hJ (by decide) rfl rfl u1 (u4 _) hop u2 (p := p) rfl hp rfl ?_
 rw [hwg]
 refine At.ops_nil hJ (At.seq hJ (At.piece rfl (show CallKind.deferred ≠ CallKind.early by decide) (W_sound hJ mixed _ (worker1 hJ (pw := p) L f hh g rfl rfl rfl rfl rfl rfl)) (Nat.le_refl _) (Nat.le_refl _) ?_))
 rintro e F1 H1 ⟨rfl, M⟩
 refine .inl ⟨rfl, At.piece rfl (show CallKind.deferred ≠ CallKind.early by decide) (W_sound hJ mixed _ (worker2 hJ L f hh d hs (g.more M.S) M)) (Nat.le_refl _) M.S.1 ?_⟩
 rintro e F2 H2 ⟨rfl, ds2, hlen, hL⟩
 exact .inl ⟨rfl, At.doneG rfl rfl rfl ds2 at75 (by kernel_rfl) hty hG b6 hL⟩
end Go.Proofs.Ythnccaajpdnndaa
namespace Go.Proofs.Ythnccaajpdnndaa
open Go.Conc Go.Proofs.Try
set_option maxRecDepth 100000
structure MidT (h H : List AObj) (F : RG) (pl ps ph fI : Nat) (lv : Value) (s : SkyR) (heads : Int) : Prop where
 S : SameX [] h H
 ds : F.ds = []
 r3 : F.r 3 = ptr pl 0
 r4 : F.r 4 = ptr ps 0
 r5 : F.r 5 = ptr ph 0
 r13 : F.r 13 = ptr fI 0
 hl : H[pl]? = some (.cells [lv] true 0)
 hs : H[ps]? = some (.cells s.cells true 0)
 hh : H[ph]? = some (.cells [vint heads] true 0)
 hf : H[fI]? = some (.cells [nilS, nilS, nilS] true 0)
 fI : h.length ≤ fI
section
variable {main : Bool} {J : JT} {h : List AObj} {K : Value → List AObj → Prop} {Sx : RG → List AObj → Prop}
theorem front27 (hJ : Closed prog main J) {ls : List Pas} {lv : Value} {s : SkyR} {heads : Int} (L : LsOk ls) (f : skyOk s) (hh : 0 ≤ heads ∧ heads ≤ 40) (hl : SliE h lv 6 Pas.cells ls)
  (hS : ∀ F H pl ps ph fI, MidT h H F pl ps ph fI lv s heads → Sx F H) :
  W prog J 75 h.length 27 (trunc 6 (codeOf f27)) (RG.mk (regs [lv, .agg ⟨s.cells⟩, vint heads]) []) h (thenK Sx (RetQ prog [.tmp 6, .tmp 7] h.length K)) := by
 rw [e27]
 have few := L.few
 have kk := sliK hl
 refine qBox1 kk.1 kk.2.1 fun H1 pl e1 S1 c1 l1 => qBox (l := s.cells) rfl fun H2 ps e2 S2 c2 l2 => qBox1 rfl rfl fun H3 ph e3 S3 c3 l3 => ?_
 have c1' := S3.get (S2.get c1 (by simp)) (by simp)
 have c2' := S3.get c2 (by simp)
 have T := (S1.trans S2).trans S3
 have hcnt : cntE (ls.length : Nat) 1 3 = 0 := by
  unfold cntE
  rw [if_neg (by omega), if_neg (by omega)]
 refine ldI (v := lv) c1' rfl kk.2.2 ?_
 rw [sliE_len (T.sli hl (by simp))]
 refine good71 hJ (neqI (cndI (fun h1 => absurd hcnt h1) fun _ => ldI (v := lv) c1' rfl kk.2.2 ?_))
 rw [sliE_len (T.sli hl (by simp)), hcnt]
 refine l27_1 hJ (fun k : Nat => ls.length - k) (fun k F H' => k ≤ ls.length ∧ SameX [] h H' ∧ H'[pl]? = some (.cells [lv] true 0) ∧ H'[ps]? = some (.cells s.cells true 0) ∧ H'[ph]? = some (.cells [vint heads] true 0) ∧ F.ds = [] ∧ F.r 3 = ptr pl 0 ∧ F.r 4 = ptr ps 0 ∧ F.r 5 = ptr ph 0 ∧ F.r 24 = lv ∧ F.r 25 = vint (ls.length : Nat) ∧ F.r 26 = vint (k : Nat)) ?_ (s := 0)
  (.inl ⟨by omega, T, c1', c2', c3, rfl, rfl, rfl, rfl, rfl, rfl, rfl⟩)
 rintro k F H' ⟨hk, S, d1, d2, d3, ds, r3, r4, r5, r24, r25, r26⟩ okc hnc
 rw [s27_1, r4, r5, r24, r25, r26]
 refine lssI (cndI (fun hlt => ?_) fun hge => ?_)
 ·have hkl : k < ls.length := by omega
  have hl' := S.sli hl (by simp)
  obtain ⟨b, o, cs, wr, sz, hidx, hb, hos, htk, hkn⟩ := sliE_elem (s := 6) (fun _ => rfl) (by decide) hl' hkl
  have fp := L.ok _ (List.getElem_mem hkl)
  generalize ls[k] = p at htk fp
  have q1 := lt_of_get d1
  have q2 := lt_of_get d2
  have q3 := lt_of_get d3
  refine hidx _ (load_part (c := p.cells) hb hos htk rfl (qAl fun H4 p4 e4 S4 c4 l4 => qStA (c := p.cells) c4 rfl rfl rfl fun H5 S5 c5 l5 => load_part (c := p.cells) c5 (by simp [Pas.cells]) rfl rfl ?_))
  have hz : pasE p = 0 := by unfold pasE; rw [if_pos fp]
  refine good36 hJ (neqI (cndI (fun h1 => absurd hz h1) fun _ => ?_))
  refine addI (by omega) ⟨k + 1, by dsimp only; omega, .inl ⟨by omega, (S.trans S4).thru S5 (by have := S.1; simp; omega), S5.get (S4.get d1 (by simp)) (by simp; omega), S5.get (S4.get d2 (by simp)) (by simp; omega), S5.get (S4.get d3 (by simp)) (by simp; omega), ds, r3, r4, r5, r24, r25, by show vint _ = vint _; congr 1⟩⟩
 ·refine load_part (c := s.cells) d2 (by simp [SkyR.cells]) rfl rfl ?_
  have hz : skyE s = 0 := by unfold skyE; rw [if_pos f]
  refine good72 hJ (neqI (cndI (fun h1 => absurd hz h1) fun _ => ldI (v := vint heads) d3 rfl rfl (good73 hJ (notI (cndN (fun h1 => absurd hh h1) fun _ => ?_)))))
  refine qAl fun H4 fI e4 S4 c4 l4 => hS _ H4 pl ps ph fI ⟨S.trans S4, ds, r3, r4, r5, rfl, S4.get d1 (by simp), S4.get d2 (by simp), S4.get d3 (by simp), c4, ?_⟩
  have := S.1
  omega
end
end Go.Proofs.Ythnccaajpdnndaa
namespace Go.Proofs.Ythnccaajpdnndaa
open Go.Conc Go.Conc.Lib Go.Proofs.Try
set_option maxRecDepth 100000
theorem shape27 : subC [1, 1, 1, 1, 1, 1] (codeOf f27) = .seq (.region 17 ops27_1 false) (.seq (.seq (subC [1, 1, 1, 1, 1, 1, 1, 0, 0] (codeOf f27)) (.block 2 (.loop (subC [1, 1, 1, 1, 1, 1, 1, 0, 1, 0, 0] (codeOf f27))))) (.seq (subC [1, 1, 1, 1, 1, 1, 1, 1, 0] (codeOf f27)) (subC [1, 1, 1, 1, 1, 1, 1, 1, 1] (codeOf f27)))) := by kernel_rfl
theorem round27 : (subC [1, 1, 1, 1, 1, 1, 1, 0, 1, 0, 0] (codeOf f27)) = .seq (subC [1, 1, 1, 1, 1, 1, 1, 0, 1, 0, 0, 0] (codeOf f27)) (.seq (subC [1, 1, 1, 1, 1, 1, 1, 0, 1, 0, 0, 1, 0] (codeOf f27)) (.seq (.block 3 (.seq (subC [1, 1, 1, 1, 1, 1, 1, 0, 1, 0, 0, 1, 1, 0, 0, 0] (codeOf f27)) (.seq (subC [1, 1, 1, 1, 1, 1, 1, 0, 1, 0, 0, 1, 1, 0, 0, 1, 0] (codeOf f27)) (.seq (subC [1, 1, 1, 1, 1, 1, 1, 0, 1, 0, 0, 1, 1, 0, 0, 1, 1, 0] (codeOf f27)) (.region 23 ops27_2 false))))) (subC [1, 1, 1, 1, 1, 1, 1, 0, 1, 0, 0, 1, 1, 1] (codeOf f27)))) := by kernel_rfl
theorem teqP (p q : Pas) : teq prog 10000 31 (.agg ⟨p.cells⟩) (.agg ⟨q.cells⟩) = mB (some (p.grass == q.grass)) (mB (some (p.bears == q.bears)) (mB (some (p.dry == q.dry)) (mB (some (p.wet == q.wet)) (mB (some (p.stubble == q.stubble)) (mB (some (p.sleep == q.sleep)) (some true)))))) := by kernel_rfl
theorem eqlP {p : Pas} {KV : Value → Prop} (hk : KV (.bool true)) : aBin prog .eql 31 (.agg ⟨p.cells⟩) (.agg ⟨p.cells⟩) KV := by
 show aEq prog false 31 (.agg ⟨p.cells⟩) (.agg ⟨p.cells⟩) KV
 have : teq prog 10000 31 (.agg ⟨p.cells⟩) (.agg ⟨p.cells⟩) = some true := by
  rw [teqP]
  simp [mB_some]
 unfold aEq
 rw [this]
 exact ⟨by kernel_rfl, hk⟩
theorem sli_frz {h H : List AObj} {v : Value} {s n : Nat} {cs : List Value} (hs : Sli h v s n cs) (hk : ∀ (i : Nat) cs wr sz, h[i]? = some (.cells cs wr sz) → ∃ wr', H[i]? = some (.cells cs wr' sz)) : Sli H v s n cs := by
 obtain ⟨base, c, rfl, hkn, hh⟩ := hs
 refine ⟨base, c, rfl, hkn, hh.imp id ?_⟩
 rintro ⟨b, o, e, h0⟩
 refine ⟨b, o, e, h0.imp id fun ⟨cs, wr, sz, hb, ht⟩ => ?_⟩
 obtain ⟨wr', hb'⟩ := hk b cs wr sz hb
 exact ⟨cs, wr', sz, hb', ht⟩
theorem frzC {h : List AObj} {i : Nat} {c : List Value} {wr : Bool} {sz : Nat} (hb : h[i]? = some (.cells c wr sz)) : (frz h)[i]? = some (.cells c false sz) := by
 unfold frz
 rw [List.getElem?_map, hb]
 rfl
theorem lentM_cells {h : List AObj} {p fI x i : Nat} {c : List Value} {wr : Bool} {sz : Nat} (hb : h[i]? = some (.cells c wr sz)) (h1 : i ≠ p) (h2 : i ≠ fI) : (lentM h p fI x)[i]? = some (.cells c false sz) := by
 unfold lentM
 rw [List.getElem?_set_ne (Ne.symm h1), List.getElem?_set_ne (Ne.symm h2)]
 exact frzC hb
theorem lentW_cells {h : List AObj} {fI i : Nat} {l : List Value} {c : List Value} {wr : Bool} {sz : Nat} (hb : h[i]? = some (.cells c wr sz)) (h2 : i ≠ fI) : (lentW h fI l)[i]? = some (.cells c false sz) := by
 unfold lentW
 rw [List.getElem?_set_ne (Ne.symm h2)]
 exact frzC hb
theorem alloc1 {h : List AObj} {v : Value} (hc : v.cells = #[v]) (h1 : one v = true) {HL : Value → List AObj → Prop} (hk : HL (ptr h.length 0) (h ++ [AObj.cells [v] true 0])) : aAlloc [vint 0] h fun v1 h2 => aStore 1 v1 v h2 fun h3 => HL v1 h3 := by
 show aStore 1 (ptr h.length 0) v (h ++ [AObj.cells [vint 0] true 0]) _
 refine store_cell (c := [vint 0]) (sz := 0) (by simp) (by simp) hc h1 ?_
 have e : (h ++ [AObj.cells [vint 0] true 0]).set h.length (.cells ([vint 0].set 0 v) true 0) = h ++ [.cells [v] true 0] := by simp
 rw [e]
 exact hk
structure RT (f : RG) (p pl ps ph fI k : Nat) : Prop where
 ds : f.ds = []
 r3 : f.r 3 = ptr pl 0
 r4 : f.r 4 = ptr ps 0
 r5 : f.r 5 = ptr ph 0
 r13 : f.r 13 = ptr fI 0
 r14 : f.r 14 = ptr p 0
 r45 : f.r 45 = vint (2 : Nat)
 r46 : f.r 46 = vint (k : Nat)
section
variable {J : JT} {main : Bool} {m : Nat} {h : List AObj} {FC : Frm} {ρ0 : Env} {fs : List Frame} {b : FB} {k0 : List Item} {f : RG} {p pl ps ph fI : Nat} {lv : Value} {q : Pas}
theorem roundT (hJ : Closed prog main J) (hk : b.kind ≠ .early) (hb : b.tag = 27) (hm : m ≤ h.length) {k : Nat} (hk2 : k < 2) (R : RT f p pl ps ph fI k)
  (hnext : ∀ f', RT f' p pl ps ph fI k → f'.r 15 = ptr h.length 0 → At J 75 b fs FC ρ0 m (.code (.seq (subC [1, 1, 1, 1, 1, 1, 1, 0, 1, 0, 0, 1, 1, 0, 0, 1, 0] (codeOf f27)) (.seq (subC [1, 1, 1, 1, 1, 1, 1, 0, 1, 0, 0, 1, 1, 0, 0, 1, 1, 0] (codeOf f27)) (.region 23 ops27_2 false))) :: .inBlock 3 :: .code (subC [1, 1, 1, 1, 1, 1, 1, 0, 1, 0, 0, 1, 1, 1] (codeOf f27)) :: k0) f' (h ++ [AObj.cells [vint (k : Nat)] true 0])) :
  At J 75 b fs FC ρ0 m (.code (subC [1, 1, 1, 1, 1, 1, 1, 0, 1, 0, 0] (codeOf f27)) :: k0) f h := by
 obtain ⟨ds, r3, r4, r5, r13, r14, r45, r46⟩ := R
 rw [round27]
 refine At.seq hJ (At.piece (Q := fun e f' h' => e = .normal ∧ f' = f.p 47 (.bool true) ∧ h' = h) hb hk (W_sound hJ mixed _ ?_) hm (Nat.le_refl _) ?_)
 ·rw [q27_2, r45, r46]
  refine lssI ⟨rfl, ?_, rfl⟩
  have : ((k : Int) < ((2 : Nat) : Int)) := by omega
  rw [decide_eq_true this]
 rintro e f1 h1 ⟨rfl, rfl, rfl⟩
 refine .inl ⟨rfl, At.seq hJ (At.piece (Q := fun e f' h' => e = .normal ∧ f' = f.p 47 (.bool true) ∧ h' = h1) hb hk (W_sound hJ mixed _ ?_) hm (Nat.le_refl _) ?_)⟩
 ·rw [q27_3]
  exact cnd_true.2 ⟨rfl, rfl, rfl⟩
 rintro e f2 h2 ⟨rfl, rfl, rfl⟩
 refine .inl ⟨rfl, At.seq hJ (At.block hJ (At.seq hJ (At.piece (Q := fun e f' h' => e = .normal ∧ RT f' p pl ps ph fI k ∧ f'.r 15 = ptr h2.length 0 ∧ h' = h2 ++ [AObj.cells [vint (k : Nat)] true 0]) hb hk (W_sound hJ mixed _ ?_) hm (Nat.le_refl _) ?_)))⟩
 ·rw [q27_4]
  rw [show (f.p 47 (.bool true)).r 46 = vint (k : Nat) from r46]
  exact alloc1 rfl rfl ⟨rfl, ⟨ds, r3, r4, r5, r13, r14, r45, r46⟩, rfl, rfl⟩
 rintro e f3 h3 ⟨rfl, R3, r15, rfl⟩
 exact .inl ⟨rfl, hnext f3 R3 r15⟩
theorem grp_snoc {h : List AObj} {p x : Nat} {c : List Value} {wr : Bool} {sz : Nat} (g : GrpAt h p x) : GrpAt (h ++ [.cells c wr sz]) p x := by
 refine ⟨by rw [List.getElem?_append_left (lt_of_get g.here)]; exact g.here, fun q z hq => ?_, g.lt⟩
 rcases snoc_get hq with ⟨_, e⟩ | hq
 ·cases e
 ·exact g.one q z hq
theorem endT (hJ : Closed prog main J) (hk : b.kind ≠ .early) (hb : b.tag = 27) (hm : m ≤ h.length) {k : Nat} (hk2 : k < 2) (R : RT f p pl ps ph fI k)
  (hnext : ∀ f', RT f' p pl ps ph fI (k + 1) → At J 75 b fs FC ρ0 m k0 f' h) : At J 75 b fs FC ρ0 m (.code (subC [1, 1, 1, 1, 1, 1, 1, 0, 1, 0, 0, 1, 1, 1] (codeOf f27)) :: k0) f h := by
 obtain ⟨ds, r3, r4, r5, r13, r14, r45, r46⟩ := R
 refine At.piece (Q := fun e f' h' => e = .normal ∧ RT f' p pl ps ph fI (k + 1) ∧ h' = h) hb hk (W_sound hJ mixed _ ?_) hm (Nat.le_refl _) ?_
 ·rw [q27_7, r46]
  exact addI (by omega) ⟨rfl, ⟨ds, r3, r4, r5, r13, r14, r45, rfl⟩, rfl⟩
 rintro e f1 h1 ⟨rfl, R1, rfl⟩
 exact .inl ⟨rfl, hnext f1 R1⟩
theorem skipT (hJ : Closed prog main J) (hk : b.kind ≠ .early) (hb : b.tag = 27) (hm : m ≤ (h ++ [AObj.cells [vint (1 : Nat)] true 0]).length) (R : RT f p pl ps ph fI 1) (r15 : f.r 15 = ptr h.length 0) {wr : Bool} (hpl : h[pl]? = some (.cells [lv] wr 0)) (hs : SliE h lv 6 Pas.cells [q, q]) {c1 : Code}
  (hnext : ∀ f', RT f' p pl ps ph fI 1 → At J 75 b fs FC ρ0 m k0 f' (h ++ [AObj.cells [vint (1 : Nat)] true 0])) :
  At J 75 b fs FC ρ0 m (.code (.seq (subC [1, 1, 1, 1, 1, 1, 1, 0, 1, 0, 0, 1, 1, 0, 0, 1, 0] (codeOf f27)) c1) :: .inBlock 3 :: k0) f (h ++ [AObj.cells [vint (1 : Nat)] true 0]) := by
 obtain ⟨ds, r3, r4, r5, r13, r14, r45, r46⟩ := R
 refine At.seq hJ (At.piece (Q := fun e f' h' => e = .exit 3 ∧ RT f' p pl ps ph fI 1 ∧ h' = h ++ [AObj.cells [vint (1 : Nat)] true 0]) hb hk (W_sound hJ mixed _ ?_) hm (Nat.le_refl _) ?_)
 ·rw [q27_5, r15, r3]
  have S : SameX [] h (h ++ [AObj.cells [vint (1 : Nat)] true 0]) := SameX.refl.app
  have c15 : (h ++ [AObj.cells [vint (1 : Nat)] true 0])[h.length]? = some (.cells [vint (1 : Nat)] true 0) := by simp
  have cpl := S.get hpl (by simp)
  have kk := (sliK hs).2.2
  have hs' : SliE (h ++ [AObj.cells [vint (1 : Nat)] true 0]) lv 6 Pas.cells [q, q] := S.sli hs (by simp)
  have el : ∀ {i : Nat}, i < 2 → ∀ {KV : Value → Value → Prop}, (∀ v, KV v (.agg ⟨q.cells⟩)) → aIdx 6 lv (vint (i : Nat)) fun v => aLoad true 6 v (h ++ [AObj.cells [vint (1 : Nat)] true 0]) (KV v) := fun {i} hi {KV} hk => by
   obtain ⟨bb, o, cs, wr, sz, hidx, hb, hos, htk, hkn⟩ := sliE_elem (s := 6) (fun _ => rfl) (by decide) hs' (i := i) hi
   have eq : [q, q][i] = q := by
    match i, hi with
    | 0, _ => rfl
    | 1, _ => rfl
   rw [eq] at htk
   exact hidx _ (load_part (c := q.cells) hb hos htk rfl (hk _))
  refine ldI (v := vint (1 : Nat)) c15 rfl rfl (gtrI (cndI (fun _ => ?_) fun h => absurd (by omega) h))
  refine ldI (v := lv) cpl rfl kk (ldI (v := vint (1 : Nat)) c15 rfl rfl ?_)
  refine el (i := 1) (by omega) fun _ => (ldI (v := lv) cpl rfl kk (ldI (v := vint (1 : Nat)) c15 rfl rfl (subI (by omega) ?_)))
  refine el (i := 0) (by omega) fun _ => (eqlP (cnd_true.2 ⟨rfl, ⟨ds, r3, r4, r5, r13, r14, r45, r46⟩, rfl⟩))
 rintro e f1 h1 ⟨rfl, R1, rfl⟩
 exact .inr ⟨3, k0, rfl, by simp [exitTo], hnext f1 R1⟩
end
section
variable {W0 : World} {Post : Value → World → Prop} {G : Grp} {m : Nat} {h : List AObj} {FC : Frm} {ρ0 : Env} {fs : List Frame} {b : FB} {k0 : List Item} {f : RG} {p pl ps ph fI : Nat} {lv : Value} {q : Pas}
theorem restT (hty : G.ty = wgLink.tWg) (hk : b.kind ≠ .early) (hb : b.tag = 27) (hm : m ≤ h.length) (R : RT f p pl ps ph fI 0) {wr : Bool} (hpl : h[pl]? = some (.cells [lv] wr 0)) (hs : SliE h lv 6 Pas.cells [q, q]) (hg : GrpAt h p 5)
  (hdone : ∀ f', f'.ds = [] → f'.r 13 = ptr fI 0 → At (JG prog W0 Post G) 75 b fs FC ρ0 m (.code (subC [1, 1, 1, 1, 1, 1, 1, 1, 1] (codeOf f27)) :: k0) f' ((h ++ [AObj.cells [vint (1 : Nat)] true 0]).set p (.group 12))) :
  At (JG prog W0 Post G) 75 b fs FC ρ0 m (.inRegion ops27_2 [] :: .inBlock 3 :: .code (subC [1, 1, 1, 1, 1, 1, 1, 0, 1, 0, 0, 1, 1, 1] (codeOf f27)) :: .inLoop (subC [1, 1, 1, 1, 1, 1, 1, 0, 1, 0, 0] (codeOf f27)) :: .inBlock 2 :: .code (.seq (subC [1, 1, 1, 1, 1, 1, 1, 1, 0] (codeOf f27)) (subC [1, 1, 1, 1, 1, 1, 1, 1, 1] (codeOf f27))) :: k0) f h := by
 have hJ := JG.closed prog W0 Post G
 have hm1 : m ≤ (h ++ [AObj.cells [vint (1 : Nat)] true 0]).length := by simp; omega
 refine At.ops_nil hJ (At.inBlock hJ (endT hJ hk hb hm (by omega) R fun f1 R1 => At.inLoop hJ (roundT hJ hk hb hm (by omega) R1 fun f2 R2 r15 => skipT hJ hk hb hm1 R2 r15 hpl hs fun f3 R3 => endT hJ hk hb hm1 (by omega) R3 fun f4 R4 => At.inLoop hJ ?_)))
 obtain ⟨ds, r3, r4, r5, r13, r14, r45, r46⟩ := R4
 rw [round27]
 refine At.seq hJ (At.piece (Q := fun e f' h' => e = .normal ∧ f' = RG.p f4 47 (.bool false) ∧ h' = h ++ [AObj.cells [vint (1 : Nat)] true 0]) hb hk (W_sound hJ mixed _ ?_) hm1 (Nat.le_refl _) ?_)
 ·rw [q27_2, r45, r46]
  exact lssI ⟨rfl, rfl, rfl⟩
 rintro e f5 h5 ⟨rfl, rfl, rfl⟩
 refine .inl ⟨rfl, At.seq hJ (At.piece (Q := fun e f' h' => e = .exit 2 ∧ f' = RG.p f4 47 (.bool false) ∧ h' = h ++ [AObj.cells [vint (1 : Nat)] true 0]) hb hk (W_sound hJ mixed _ ?_) hm1 (Nat.le_refl _) ?_)⟩
 ·rw [q27_3]
  exact cnd_false.2 ⟨rfl, rfl, rfl⟩
 rintro e f6 h6 ⟨rfl, rfl, rfl⟩
 refine .inr ⟨2, .code (.seq (subC [1, 1, 1, 1, 1, 1, 1, 1, 0] (codeOf f27)) (subC [1, 1, 1, 1, 1, 1, 1, 1, 1] (codeOf f27))) :: k0, rfl, by simp [exitTo], ?_⟩
 refine At.seq hJ (At.piece (Q := fun e f' h' => e = .normal ∧ f'.ds = [] ∧ f'.r 13 = ptr fI 0 ∧ h' = (h ++ [AObj.cells [vint (1 : Nat)] true 0]).set p (.group 12)) hb hk (W_sound hJ mixed _ ?_) hm1 (Nat.le_refl _) ?_)
 ·rw [q27_8, show (RG.p f4 47 (.bool false)).r 14 = ptr p 0 from r14]
  exact good_wwait hty (grp_snoc hg) ⟨rfl, ds, r13, rfl⟩
 rintro e f7 h7 ⟨rfl, ds7, r7, rfl⟩
 exact .inl ⟨rfl, hdone f7 ds7 r7⟩
theorem hireT (hty : G.ty = wgLink.tWg) (hk : b.kind ≠ .early) (hb : b.tag = 27) (hm : m ≤ h.length) (_hpm : p < m) (hfm : fI < m) (R : RT f p pl ps ph fI 0) {s : SkyR} {heads : Int} (L : LsOk [q, q]) (fo : skyOk s) (hh : 0 ≤ heads ∧ heads ≤ 40) (d : Nat) (hd : s.days = (d : Int) + 1) (hG : G = mkG G.ty G.wg (ρ0.blk fI) (foundR [q, q] s heads d 0)) (_hwg : ρ0.blk p = G.wg)
  (hpl : h[pl]? = some (.cells [lv] true 0)) (hps : h[ps]? = some (.cells s.cells true 0)) (hph : h[ph]? = some (.cells [vint heads] true 0)) (hf : h[fI]? = some (.cells [nilS, nilS, nilS] true 0)) (hs : ∀ x, SliE ((lentM (h.set p (.group 4) ++ [AObj.cells [vint (0 : Nat)] true 0]) p fI x)) lv 6 Pas.cells [q, q]) (hsW : SliE (lentW (h.set p (.group 4) ++ [AObj.cells [vint (0 : Nat)] true 0]) fI [nilS, nilS, nilS]) lv 6 Pas.cells [q, q]) (hg : GrpAt h p 1)
  (hdone : ∀ (ρ : Env) (w : World) (ft : Foot) (f' : RG), HRel ρ (h.set p (.group 4) ++ [AObj.cells [vint (0 : Nat)] true 0]) FC w ft → Env.upto m ρ0 ρ → f'.ds = [] → f'.r 13 = ptr fI 0 → At (JG prog W0 Post G) 75 b fs (keepG w ft (ρ.blk fI)) ρ (h.set p (.group 4) ++ [AObj.cells [vint (0 : Nat)] true 0]).length (.code (subC [1, 1, 1, 1, 1, 1, 1, 1, 1] (codeOf f27)) :: k0) f' (lentM (h.set p (.group 4) ++ [AObj.cells [vint (0 : Nat)] true 0]) p fI 12 ++ [AObj.cells [vint (1 : Nat)] true 0])) :
  At (JG prog W0 Post G) 75 b fs FC ρ0 m (.code (subC [1, 1, 1, 1, 1, 1, 1, 0, 1, 0, 0] (codeOf f27)) :: .inLoop (subC [1, 1, 1, 1, 1, 1, 1, 0, 1, 0, 0] (codeOf f27)) :: .inBlock 2 :: .code (.seq (subC [1, 1, 1, 1, 1, 1, 1, 1, 0] (codeOf f27)) (subC [1, 1, 1, 1, 1, 1, 1, 1, 1] (codeOf f27))) :: k0) f h := by
 have hJ := JG.closed prog W0 Post G
 have hpl' := lt_of_get hg.here
 have hne : ∀ {i : Nat} {c : List Value} {wr : Bool} {sz : Nat}, h[i]? = some (.cells c wr sz) → i ≠ p := fun hi e => by
  rw [e, hg.here] at hi
  cases hi
 refine roundT hJ hk hb hm (by omega) R fun f1 R1 r15 => ?_
 obtain ⟨ds, r3, r4, r5, r13, r14, r45, r46⟩ := R1
 have hm1 : m ≤ (h ++ [AObj.cells [vint (0 : Nat)] true 0]).length := by simp; omega
 refine At.seq hJ (At.piece (Q := fun e f' h' => e = .normal ∧ RT f' p pl ps ph fI 0 ∧ f'.r 15 = ptr h.length 0 ∧ h' = h ++ [AObj.cells [vint (0 : Nat)] true 0]) hb hk (W_sound hJ mixed _ ?_) hm1 (Nat.le_refl _) ?_)
 ·rw [q27_5, r15]
  have c15 : (h ++ [AObj.cells [vint (0 : Nat)] true 0])[h.length]? = some (.cells [vint (0 : Nat)] true 0) := by simp
  exact ldI (v := vint (0 : Nat)) c15 rfl rfl (gtrI (cnd_false.2 ⟨rfl, ⟨ds, r3, r4, r5, r13, r14, r45, r46⟩, r15, rfl⟩))
 rintro e f2 h2 ⟨rfl, R2, r15, rfl⟩
 obtain ⟨ds, r3, r4, r5, r13, r14, r45, r46⟩ := R2
 refine .inl ⟨rfl, At.seq hJ (At.piece (Q := fun e f' h' => e = .normal ∧ RT f' p pl ps ph fI 0 ∧ f'.r 15 = ptr h.length 0 ∧ h' = h.set p (.group 4) ++ [AObj.cells [vint (0 : Nat)] true 0]) hb hk (W_sound hJ mixed _ ?_) hm1 (Nat.le_refl _) ?_)⟩
 ·rw [q27_6, r14]
  refine good_wadd hty (grp_snoc hg) ⟨rfl, ⟨ds, r3, r4, r5, r13, r14, r45, r46⟩, r15, ?_⟩
  rw [List.set_append_left _ _ hpl']
 rintro e f3 h3 ⟨rfl, R3, r15, rfl⟩
 obtain ⟨ds, r3, r4, r5, r13, r14, r45, r46⟩ := R3
 generalize hT : h.set p (.group 4) ++ [AObj.cells [vint (0 : Nat)] true 0] = hh' at *
 have gT : GrpAt hh' p 4 := hT ▸ grp_snoc (hg.set (by omega))
 have get : ∀ {i : Nat} {c : List Value} {wr : Bool} {sz : Nat}, h[i]? = some (.cells c wr sz) → hh'[i]? = some (.cells c wr sz) := fun {i c wr sz} hi => by
  rw [← hT, List.getElem?_append_left (by rw [List.length_set]; exact lt_of_get hi), List.getElem?_set_ne (Ne.symm (hne hi))]
  exact hi
 have ga : hh'[h.length]? = some (.cells [vint (0 : Nat)] true 0) := by
  rw [← hT]
  simp
 have hlT : hh'.length = h.length + 1 := by
  rw [← hT]
  simp
 have lfI := lt_of_get hf
 have nf : ∀ {i : Nat} {c : List Value} {wr : Bool} {sz : Nat}, hh'[i]? = some (.cells c wr sz) → c.length ≠ 3 → i ≠ fI := fun hi hc e => by
  rw [e, get hf] at hi
  cases hi
  exact hc rfl
 have nfs : ps ≠ fI := fun e => by
  rw [e, hf] at hps
  simp [SkyR.cells, nilS, vint] at hps
 have np : ∀ {i : Nat} {c : List Value} {wr : Bool} {sz : Nat}, hh'[i]? = some (.cells c wr sz) → i ≠ p := fun hi e => by
  rw [e, gT.here] at hi
  cases hi
 refine .inl ⟨rfl, At.region hJ ?_⟩
 rw [show List.range ops27_2.size = [0, 1] from by rw [z27_2]; rfl]
 obtain ⟨u1, u2, u3, u4, u5⟩ := o27_2_0 (J := JG prog W0 Post G)
 obtain ⟨w1, w2, w3, w4, w5⟩ := o27_2_1 (J := JG prog W0 Post G)
 refine At.op hJ hk u1 u3 (u4 _) ?_
 rw [u5, u2, r14, r3, r4, r15, r5, r13]
 refine ⟨rfl, fun _ => ?_⟩
 refine At.hireG hk w1 (w4 _) w5 w2 (cap := [ptr p 0, ptr pl 0, ptr ps 0, ptr h.length 0, ptr ph 0, ptr fI 0]) rfl (by kernel_rfl) gT (get hf) (fun ρ w ft HR hu hwgρ => ?_) fun ρ w ft HR hu hwgρ => ?_
 ·refine worker_goes L fo hh d hd ⟨⟨_, lentW_cells (get hpl) (nf (get hpl) (by simp))⟩, hsW, ⟨_, lentW_cells (get hps) nfs⟩, ⟨_, lentW_cells ga (nf ga (by simp))⟩, ⟨_, lentW_cells (get hph) (nf (get hph) (by simp))⟩, ?_⟩ (by rw [lentW_len]; omega) hty ?_ hwgρ HR
  ·unfold lentW
   rw [List.getElem?_set_self (by rw [frz_len]; omega)]
  ·rw [(hu fI hfm).1]
   exact hG
 ·have gM : GrpAt (lentM hh' p fI 5) p 5 := by
   refine ⟨?_, fun x z hx => ?_, by omega⟩
   ·unfold lentM
    rw [List.getElem?_set_self (by rw [List.length_set, frz_len]; omega)]
   ·rcases lentM_get hx with ⟨e, _⟩ | ⟨_, _, e⟩ | ⟨_, _, y, _, e⟩
    ·exact e
    ·cases e
    ·cases y <;> cases e
  refine restT hty hk hb (by rw [lentM_len]; exact Nat.le_refl _) (q := q) (p := p) (pl := pl) (ps := ps) (ph := ph) (fI := fI) ⟨ds, r3, r4, r5, r13, r14, r45, r46⟩ (lentM_cells (get hpl) (np (get hpl)) (nf (get hpl) (by simp))) (hs 5) gM fun f' ds' r13' => ?_
  have e : (lentM hh' p fI 5 ++ [AObj.cells [vint (1 : Nat)] true 0]).set p (.group 12) = lentM hh' p fI 12 ++ [AObj.cells [vint (1 : Nat)] true 0] := by
   rw [List.set_append_left _ _ (by rw [lentM_len]; omega)]
   unfold lentM
   rw [List.set_set]
  rw [e]
  exact hdone ρ w ft f' HR hu ds' r13'
end
theorem opg27 : p27_1_0.op = .alloc 100 := by kernel_rfl
theorem wg_zero : zc prog 100 = some [.int .u64 0, .int .u32 0] := by kernel_rfl
theorem idxVI {cs : List Value} {k : Nat} {v : Value} {KV : Value → Prop} (h3 : k < 3) (hv : cs[k]? = some v) (hk : KV v) : aIdxV 3 1 false (.agg ⟨cs⟩) (vint (k : Nat)) KV := by
 refine ⟨by omega, ?_⟩
 unfold aField
 simp [hv, hk]
theorem cellsOf_get {n : Nat} {R : Option (List Int)} : (cellsOf n R).length = 3 ∧ kn (cellsOf n R) = true := by cases R <;> exact ⟨rfl, rfl⟩
theorem unchC {h : List AObj} {i : Nat} {c : List Value} {wr : Bool} {sz : Nat} (hb : h[i]? = some (.cells c wr sz)) : (unch h)[i]? = some (.cells c wr sz) := by
 unfold unch
 rw [List.getElem?_map, hb]
 rfl
theorem unch_get {h : List AObj} {i : Nat} {o : AObj} (e : (unch h)[i]? = some o) : ∃ y, h[i]? = some y ∧ unchO y = o := by
 unfold unch at e
 rw [List.getElem?_map] at e
 exact Option.map_eq_some_iff.1 e
theorem unch_rel {ρ : Env} {h : List AObj} {FC : Frm} {w : World} {ft : Foot} (H : HRel ρ h FC w ft) : HRel ρ (unch h) FC w ft := by
 have lv : ∀ {y : AObj}, (unchO y).live = true → y.live = true ∧ unchO y = y := fun {y} l => by
  cases y <;> first | (cases l; done) | exact ⟨rfl, rfl⟩
 have wr : ∀ {y : AObj}, (unchO y).wrt = true → unchO y = y := fun {y} l => by
  cases y <;> first | (cases l; done) | rfl
 refine ⟨fun i o hi => ?_, fun i j o o' hi hj l l' e => ?_, fun i o hi l => ?_, fun i o hi l => ?_, H.lt, H.sub, fun b o hb => ?_, H.keptW, fun i z hi => ?_⟩
 ·rw [unch_len]
  obtain ⟨y, hy, rfl⟩ := unch_get hi
  have := H.obj i y hy
  cases y <;> first | trivial | exact this
 ·obtain ⟨y, hy, rfl⟩ := unch_get hi
  obtain ⟨y', hy', rfl⟩ := unch_get hj
  exact H.inj i j y y' hy hy' (lv l).1 (lv l').1 e
 ·obtain ⟨y, hy, rfl⟩ := unch_get hi
  exact H.rd i y hy (lv l).1
 ·obtain ⟨y, hy, rfl⟩ := unch_get hi
  rw [wr l] at l
  exact H.wr i y hy l
 ·obtain ⟨a1, a2, a3⟩ := H.kept b o hb
  refine ⟨a1, a2, fun a oa ha hw => ?_⟩
  obtain ⟨y, hy, rfl⟩ := unch_get ha
  rw [wr hw] at hw
  exact a3 a y hy hw
 ·obtain ⟨y, hy, e⟩ := unch_get hi
  cases y <;> cases e
theorem At.unch {J : JT} {N m : Nat} {b : FB} {cs : List Frame} {FC : Frm} {ρ0 : Env} {k : List Item} {f : RG} {h : List AObj} (h' : At J N b cs FC ρ0 m k f (unch h)) : At J N b cs FC ρ0 m k f h := fun a ρ w ft A H hu hm =>
 h' a ρ w ft (by rw [unch_len]; exact A) (unch_rel H) hu (by rw [unch_len]; exact hm)
theorem unchO_twice (o : AObj) : unchO (unchO o) = unchO o := by cases o <;> rfl
theorem unch_sli {h : List AObj} {v : Value} {s n : Nat} {cs : List Value} (hs : Sli h v s n cs) : Sli (unch h) v s n cs := sli_frz hs fun _i _c wr _sz hi => ⟨wr, unchC hi⟩
section
variable {W0 : World} {Post : Value → World → Prop} {h : List AObj} {K : Value → List AObj → Prop}
def AnsT (h : List AObj) (K : Value → List AObj → Prop) : Option (List Int) → Prop
 | none => ∀ H', SameX [] h H' → K (.tuple ⟨[.slice none 0 0, vint 11]⟩) H'
 | some l => ∀ H' v, SameX [] h H' → Sli H' v 1 l.length (l.map vint) → K (.tuple ⟨[v, vint 0]⟩) H'
theorem tail27 {main : Bool} {J : JT} (hJ : Closed prog main J) {n0 n fI : Nat} {F : RG} {HT : List AObj} {R : Option (List Int)} (ds : F.ds = []) (r13 : F.r 13 = ptr fI 0) (hf : HT[fI]? = some (.cells (cellsOf n R) false 0)) (hn : HT[n]? = some (objOf R)) (S : SameX [] h HT) (hA : AnsT h K R) :
  W prog J 75 n0 27 (subC [1, 1, 1, 1, 1, 1, 1, 1, 1] (codeOf f27)) F HT (contX pl27t prog J 75 n0 27 ct27t [1, 1, 1, 1, 1, 1, 1, 1, 1] (codeOf f27) [] (RetQ prog [.tmp 6, .tmp 7] n0 K)) := by
 rw [s27t_1, r13]
 obtain ⟨z1, z2⟩ := cellsOf_get (n := n) (R := R)
 refine load_part (c := cellsOf n R) hf (by omega) (by rw [List.drop_zero]; exact List.take_of_length_le (by omega)) z2 ?_
 refine l27t_2 hJ (fun k : Nat => 3 - k) (fun k F H' => k ≤ 3 ∧ H' = HT ∧ (0 < k → R = none) ∧ F.ds = [] ∧ F.r 67 = .agg ⟨cellsOf n R⟩ ∧ F.r 68 = vint (k : Nat)) ?_ (s := 0)
  (.inl ⟨by omega, rfl, fun h => absurd h (Nat.lt_irrefl _), ds, rfl, rfl⟩)
 rintro k F2 H' ⟨hk, rfl, hR, ds2, r67, r68⟩ okc hnc
 rw [s27t_2, r67, r68, ds2]
 refine lssI (cndI (fun hlt => ?_) fun hge => ?_)
 ·cases R with
  | none =>
   have hv : (cellsOf n none)[k]? = some nilS := by
    match k, hlt with
    | 0, _ => rfl
    | 1, _ => rfl
    | 2, _ => rfl
    | k + 3, h => exact absurd h (by omega)
   refine idxVI (by omega) hv (neqNilZ (e := 3) (by kernel_rfl) (by kernel_rfl) (cnd_false.2 (addI (by omega) ⟨k + 1, by dsimp only; omega, .inl ⟨by omega, rfl, fun _ => rfl, ds2, r67, rfl⟩⟩)))
  | some l =>
   have hk0 : k = 0 := by
    rcases Nat.eq_zero_or_pos k with h | h
    ·exact h
    ·cases hR h
   subst hk0
   refine idxVI (v := .slice (some ⟨n, 0, none⟩) l.length fz) (by omega) rfl (neqNilZ (e := 3) (by kernel_rfl) (by kernel_rfl) (cnd_true.2 (retL_same (by simp [unk]) (hA _ _ S ?_))))
   refine ⟨_, _, rfl, ⟨by simp, knV l⟩, .inr ⟨n, 0, rfl, .inr ⟨_, _, _, hn, ?_⟩⟩⟩
   rw [List.drop_zero]
   exact List.take_of_length_le (by simp)
 ·have : k = 3 := by omega
  subst this
  have := hR (by omega)
  subst this
  exact retL_same (by simp [unk]) (hA _ S)
theorem good27 {q : Pas} {lv : Value} {s : SkyR} {heads : Int} (fq : pasOk q) (fo : skyOk s) (hh : 0 ≤ heads ∧ heads ≤ 40) (d : Nat) (hd : s.days = (d : Int) + 1) (hl : SliE h lv 6 Pas.cells [q, q]) (hA : AnsT (unch h) K (foundR [q, q] s heads d 0)) : Good prog (J2 prog W0 Post) 27 [lv, .agg ⟨s.cells⟩, vint heads] h K := by
 have hJ2 := J2.closed prog W0 Post
 have L : LsOk [q, q] := ⟨⟨by simp, by simp⟩, fun x hx => by
  simp only [List.mem_cons, List.not_mem_nil, or_false, or_self] at hx
  exact hx ▸ fq⟩
 refine good_of_sem hJ2 at27 body27 (by kernel_rfl) (Nat.le_of_ble_eq_true rfl) fun ok => ?_
 rw [show f27.ntmps = 75 from by kernel_rfl, show f27.results.toList = [.tmp 6, .tmp 7] from by kernel_rfl]
 refine trunc_sound hJ2 mixed 6 (codeOf f27) (by kernel_rfl) (front27 hJ2 L fo hh hl fun F H pl ps ph fI M => ?_)
 intro b a k fs LL ρ FC w ft hb hk hL A R hn hcont
 suffices hAt : At (J2 prog W0 Post) 75 b fs FC ρ (unch H).length (.code (subC [1, 1, 1, 1, 1, 1] (codeOf f27)) :: k) F (unch H) from At.unch hAt a ρ w ft A R (Env.upto_refl _ _) (by rw [unch_len]; exact Nat.le_refl _)
 have M2 : MidT (unch h) (unch H) F pl ps ph fI lv s heads := by
  refine ⟨⟨by rw [unch_len, unch_len]; exact M.S.1, fun i hi _ => ?_⟩, M.ds, M.r3, M.r4, M.r5, M.r13, unchC M.hl, unchC M.hs, unchC M.hh, unchC M.hf, by rw [unch_len]; exact M.fI⟩
  rw [unch_len] at hi
  unfold unch
  rw [List.getElem?_map, List.getElem?_map, M.S.2 i hi (by simp)]
 have nog : ∀ (q z : Nat), (unch H)[q]? ≠ some (.group z) := fun x z e => by
  obtain ⟨y, _, e⟩ := unch_get e
  cases y <;> cases e
 have hl2 : SliE (unch h) lv 6 Pas.cells [q, q] := unch_sli hl
 have hlh : (unch h).length = h.length := unch_len
 have upH : ∀ {i : Nat} {o : AObj}, (unch h)[i]? = some o → unchO o = o := fun e => by
  obtain ⟨y, _, rfl⟩ := unch_get e
  exact unchO_twice y
 clear A R hn M
 generalize unch H = U at M2 nog
 rw [shape27]
 have lfI := lt_of_get M2.hf
 have lpl := lt_of_get M2.hl
 refine At.seq hJ2 (At.region hJ2 ?_)
 rw [show List.range ops27_1.size = [0] from by rw [z27_1]; rfl]
 obtain ⟨u1, u2, u3, u4, u5⟩ := o27_1_0 (J := J2 prog W0 Post)
 obtain ⟨ti, z, hi, hz, hzl, _⟩ := zc_some wg_zero
 refine At.group hk u1 u3 (u4 _) opg27 hi hz (by rw [← Array.toList_inj, hzl]) nog lfI (foundR [q, q] s heads d 0) fun ρ1 G hu1 hty hG hwg => ?_
 have hJ := JG.closed prog W0 Post G
 rw [u2]
 replace hG : G = mkG G.ty G.wg (ρ1.blk fI) (foundR [q, q] s heads d 0) := by
  rw [hty]
  exact hG
 have get : ∀ {i : Nat} {c : List Value} {wr : Bool} {sz : Nat}, U[i]? = some (.cells c wr sz) → (U ++ [AObj.group 1])[i]? = some (.cells c wr sz) := fun hi => by
  rw [List.getElem?_append_left (lt_of_get hi)]
  exact hi
 have hg : GrpAt (U ++ [AObj.group 1]) U.length 1 := by
  refine ⟨by simp, fun x z hx => ?_, by omega⟩
  rcases snoc_get hx with ⟨e, _⟩ | hx
  ·exact e
  ·exact absurd hx (nog x z)
 have slL : SliE U lv 6 Pas.cells [q, q] := M2.S.sli hl2 (by simp)
 have kk := sliK hl
 refine At.ops_nil hJ (At.seq hJ (At.seq hJ (At.piece (Q := fun e f' h' => e = .normal ∧ RT f' U.length pl ps ph fI 0 ∧ h' = U ++ [AObj.group 1]) hb hk (W_sound hJ mixed _ ?_) (by simp) (Nat.le_refl _) ?_)))
 ·rw [q27_1, show (F.putO (some 14) (ptr U.length 0)).r 3 = ptr pl 0 from M2.r3]
  refine ldI (v := lv) (get M2.hl) rfl kk.2.2 ?_
  have slg : SliE (U ++ [AObj.group 1]) lv 6 Pas.cells [q, q] := sli_app slL
  rw [sliE_len slg]
  exact ⟨rfl, ⟨M2.ds, M2.r3, M2.r4, M2.r5, M2.r13, rfl, rfl, rfl⟩, rfl⟩
 rintro e f1 h1 ⟨rfl, R1, rfl⟩
 refine .inl ⟨rfl, At.block hJ (At.loop hJ ?_)⟩
 have e4 : (U ++ [AObj.group 1]).set U.length (.group 4) = U ++ [AObj.group 4] := by simp
 -- what was a list in U is one while it is lent
 have keep : ∀ {i : Nat} {c : List Value} {wr : Bool} {sz : Nat}, (unch h)[i]? = some (.cells c wr sz) → ((U ++ [AObj.group 1]).set U.length (.group 4) ++ [AObj.cells [vint (0 : Nat)] true 0])[i]? = some (.cells c wr sz) ∧ i ≠ U.length ∧ i ≠ fI := fun {i c wr sz} hi => by
  have h1 := M2.S.get hi (by simp)
  have h2 := lt_of_get hi
  have h3 := lt_of_get h1
  have := M2.fI
  refine ⟨?_, by omega, by omega⟩
  rw [e4, List.getElem?_append_left (by simp; omega), List.getElem?_append_left h3]
  exact h1
 refine hireT hty hk hb (by simp) (by omega) (by omega) R1 L fo hh d hd hG hwg (get M2.hl) (get M2.hs) (get M2.hh) (get M2.hf) (fun x => sli_frz hl2 fun i c wr sz hi => ?_) (sli_frz hl2 fun i c wr sz hi => ?_) hg fun ρ2 w2 ft2 f2 HR hu2 ds2 r13 => ?_
 ·obtain ⟨k1, k2, k3⟩ := keep hi
  exact ⟨_, lentM_cells k1 k2 k3⟩
 ·obtain ⟨k1, k2, k3⟩ := keep hi
  exact ⟨_, lentW_cells k1 k3⟩
 generalize hT : (U ++ [AObj.group 1]).set U.length (.group 4) ++ [AObj.cells [vint (0 : Nat)] true 0] = hh' at *
 have gf : hh'[fI]? = some (.cells [nilS, nilS, nilS] true 0) := by
  rw [← hT, e4, List.getElem?_append_left (by simp; omega), List.getElem?_append_left lfI]
  exact M2.hf
 have hlT : hh'.length = U.length + 2 := by
  rw [← hT]
  simp
 refine At.join HR gf (by omega) (by rw [(hu2 fI (by omega)).1]; exact hG) (fun o ho _ => ?_) (fun z hz => ?_) fun ρ3 hu3 => ?_
 ·rw [List.mem_singleton.1 ho]
  rfl
 ·cases List.mem_singleton.1 hz
 generalize hHT : thawG hh' [AObj.cells [vint (1 : Nat)] true 0] fI (cellsOf (hh'.length + [AObj.cells [vint (1 : Nat)] true 0].length) (foundR [q, q] s heads d 0)) (objOf (foundR [q, q] s heads d 0)) = HT
 have hlHT : HT.length = hh'.length + 2 := by
  rw [← hHT, thawG_len]
  rfl
 have S : SameX [] (unch h) HT := by
  refine ⟨by have := M2.S.1; omega, fun i hi _ => ?_⟩
  have h1 := M2.S.2 i hi (by simp)
  have h2 := M2.S.1
  have h3 := M2.fI
  rw [← hHT]
  unfold thawG
  rw [List.getElem?_append_left (by rw [List.length_set, unch_len]; omega), List.getElem?_set_ne (by omega)]
  have g0 : (unch hh')[i]? = (hh'[i]?).map unchO := by
   unfold unch
   rw [List.getElem?_map]
  rw [g0, ← hT, e4, List.getElem?_append_left (by simp; omega), List.getElem?_append_left (by omega), h1]
  cases ho : (unch h)[i]? with
  | none => rfl
  | some o => rw [Option.map_some, upH ho]
 have t1 : HT[fI]? = some (.cells (cellsOf (hh'.length + 1) (foundR [q, q] s heads d 0)) false 0) := by
  rw [← hHT]
  unfold thawG
  rw [List.getElem?_append_left (by rw [List.length_set, unch_len]; omega), List.getElem?_set_self (by rw [unch_len]; omega)]
  rfl
 have t2 : HT[hh'.length + 1]? = some (objOf (foundR [q, q] s heads d 0)) := by
  rw [← hHT]
  unfold thawG
  rw [List.getElem?_append_right (by rw [List.length_set, unch_len]; omega), List.length_set, unch_len]
  simp
 intro a' ρ' w' ft' A' R' hu' hm'
 have hc : contX pl27t prog (J2 prog W0 Post) 75 h.length 27 ct27t [1, 1, 1, 1, 1, 1, 1, 1, 1] (codeOf f27) [] (RetQ prog [.tmp 6, .tmp 7] h.length K) = RetQ prog [.tmp 6, .tmp 7] h.length K := by kernel_rfl
 have tl : Sem (J2 prog W0 Post) 75 h.length 27 (subC [1, 1, 1, 1, 1, 1, 1, 1, 1] (codeOf f27)) f2 HT (RetQ prog [.tmp 6, .tmp 7] h.length K) := by
  rw [← hc]
  exact W_sound hJ2 mixed _ (tail27 hJ2 ds2 r13 t1 t2 S hA)
 have up : Env.upto h.length ρ ρ' := by
  have h1 := M2.S.1
  rw [hlh] at h1
  refine Env.upto_trans (Env.upto_le hu1 h1) (Env.upto_trans (Env.upto_le hu2 (by omega)) (Env.upto_trans (Env.upto_le hu3 (by omega)) (Env.upto_le hu' ?_)))
  show h.length ≤ hh'.length + 2
  omega
 exact tl b a' k fs LL ρ' FC w' _ hb hk hL A' R' (by rw [← hlh]; exact S.1) fun e f2 h2' ρ2 w2 ft2 a2 q q1 q2 q3 q4 => hcont e f2 h2' ρ2 w2 ft2 a2 q q1 q2 (Env.upto_trans up q3) q4
end
end Go.Proofs.Ythnccaajpdnndaa
namespace Go.Proofs.Ythnccaajpdnndaa
open Go.Conc Go.Proofs.Try
set_option maxRecDepth 100000
set_option maxHeartbeats 4000000
set_option linter.unusedVariables false
section
variable {main : Bool} {J : JT} {n0 : Nat} {h : List AObj} {K : Value → List AObj → Prop}
theorem at51 : prog.funcs[51]? = some f51 := by kernel_rfl
theorem body51 : f51.body = some (codeOf f51) := by kernel_rfl
def pl51 : Plans := [(12, true, .take 0 (.take 1 (.take 2 (.take 3 (.take 4 (.fin))))))]
def ct51 : Cuts := .go
theorem pok51 : plansOk prog pl51 (codeOf f51) = true := by kernel_rfl
theorem e51 {a0 a1 a2 : Value} : W prog J 45 h.length 51 (codeOf f51) (RG.mk (regs [a0, a1, a2]) []) h (RetQ prog [.tmp 6, .tmp 7, .tmp 8] h.length K) =
(aBox a0 h fun v1 h2 =>
 aBox a1 h2 fun v3 h4 =>
 aBox a2 h4 fun v5 h6 =>
 aLoad true 6 v1 h6 fun v7 =>
 aLoad false 1 v3 h6 fun v8 =>
 aLoad true 3 v5 h6 fun v9 =>
 Good prog J 92 [v7, v8, v9] h6 fun v10 h11 =>
 aBin prog .neq 37 v10 (vint 0) fun v12 =>
 cnd v12
(retL h.length K [] [(Value.string { data := #[] }), (vint 0), v10] h11)
(aAlloc [(Value.string { data := #[] })] h11 fun v13 h14 =>
 aAlloc [(vint 0)] h14 fun v15 h16 =>
 aStore 1 v13 (Value.string { data := #[] }) h16 fun h17 =>
 aStore 1 v15 (vint (-1)) h17 fun h18 =>
 aLoad true 3 v5 h18 fun v19 =>
 Good prog J 90 [v19] h18 fun v20 h21 =>
 Sem J 45 h.length 51 (subC [1, 1, 1, 0, 1, 0] (codeOf f51)) (RG.p (RG.p (RG.p (RG.p (RG.p (RG.p (RG.p (RG.p (RG.p (RG.p (RG.p (RG.p (RG.p (RG.p (RG.p (RG.p (RG.p (RG.mk (regs [a0, a1, a2]) []) 3 v1) 4 v3) 5 v5) 6 (Value.string { data := #[] })) 7 (vint 0)) 8 (vint 0)) 14 v7) 15 v8) 16 v9) 17 v10) 9 v10) 18 v10) 19 v12) 10 v13) 11 v15) 21 v19) 22 v20) h21 (contX pl51 prog J 45 h.length 51 ct51 [1, 1, 1, 0, 1, 0] (codeOf f51) [] (RetQ prog [.tmp 6, .tmp 7, .tmp 8] h.length K)))) := top_eq pok51 ct51 (by kernel_rfl)
theorem g51 (hJ : Closed prog main J) {a0 a1 a2 : Value} (hs : heapOk h → W prog J 45 h.length 51 (codeOf f51) (RG.mk (regs [a0, a1, a2]) []) h (RetQ prog [.tmp 6, .tmp 7, .tmp 8] h.length K)) : Good prog J 51 [a0, a1, a2] h K :=
 good_of_W hJ mixed at51 body51 (by kernel_rfl) (Nat.le_of_ble_eq_true rfl) hs
theorem a51_1 {f : RG} {fr : FuncId} {Q : QT} : W prog J 45 n0 fr (subC [1, 1, 1, 0, 1, 0, 0] (codeOf f51)) f h Q =
(Q .normal (RG.p f 12 (f.r 23)) h) := sub_eq pok51 ct51 (by kernel_rfl)
theorem b51_1 {f : RG} {fr : FuncId} {Q : QT} : W prog J 45 n0 fr (subC [1, 1, 1, 0, 1, 0, 1] (codeOf f51)) f h Q =
(aLoad true 6 (f.r 3) h fun v1 =>
 aLoad false 1 (f.r 4) h fun v2 =>
 Good prog J 98 [v1, v2, (f.r 12)] h fun v3 h4 =>
 aBin prog .geq 3 v3 (vint 0) fun v5 =>
 cnd v5
(aLoad false 1 (f.r 11) h4 fun v6 =>
 aBin prog .lss 3 v6 (vint 0) fun v7 =>
 cnd v7
(aStore 1 (f.r 10) (f.r 12) h4 fun h8 =>
 aStore 1 (f.r 11) v3 h8 fun h9 =>
 Q .normal (RG.p (RG.p (RG.p (RG.p (RG.p (RG.p (RG.p (RG.p (RG.p (RG.p (RG.p (RG.p (RG.p (RG.p (RG.p (RG.p (RG.p (RG.p (RG.p (RG.p f 24 v1) 25 v2) 26 (f.r 12)) 27 v3) 13 v3) 28 v3) 29 v5) 30 v5) 30 (Value.bool true)) 31 v6) 32 v7) 33 v7) 33 (Value.bool true)) 34 undef) 35 undef) 36 undef) 37 (Value.bool true)) 38 (Value.bool true)) 39 (f.r 12)) 40 v3) h9)
(aLoad false 1 (f.r 11) h4 fun v10 =>
 aBin prog .lss 3 v3 v10 fun v11 =>
 cnd v11
(aStore 1 (f.r 10) (f.r 12) h4 fun h12 =>
 aStore 1 (f.r 11) v3 h12 fun h13 =>
 Q .normal (RG.p (RG.p (RG.p (RG.p (RG.p (RG.p (RG.p (RG.p (RG.p (RG.p (RG.p (RG.p (RG.p (RG.p (RG.p (RG.p (RG.p (RG.p (RG.p (RG.p f 24 v1) 25 v2) 26 (f.r 12)) 27 v3) 13 v3) 28 v3) 29 v5) 30 v5) 30 (Value.bool true)) 31 v6) 32 v7) 33 v7) 33 (Value.bool false)) 34 v3) 35 v10) 36 v11) 37 v11) 38 v11) 39 (f.r 12)) 40 v3) h13)
(Q .normal (RG.p (RG.p (RG.p (RG.p (RG.p (RG.p (RG.p (RG.p (RG.p (RG.p (RG.p (RG.p (RG.p (RG.p (RG.p (RG.p (RG.p (RG.p f 24 v1) 25 v2) 26 (f.r 12)) 27 v3) 13 v3) 28 v3) 29 v5) 30 v5) 30 (Value.bool true)) 31 v6) 32 v7) 33 v7) 33 (Value.bool false)) 34 v3) 35 v10) 36 v11) 37 v11) 38 v11) h4)))
(Q .normal (RG.p (RG.p (RG.p (RG.p (RG.p (RG.p (RG.p (RG.p (RG.p (RG.p (RG.p (RG.p (RG.p (RG.p (RG.p (RG.p (RG.p f 24 v1) 25 v2) 26 (f.r 12)) 27 v3) 13 v3) 28 v3) 29 v5) 30 v5) 30 (Value.bool false)) 31 undef) 32 undef) 33 undef) 34 undef) 35 undef) 36 undef) 37 undef) 38 (Value.bool false)) h4)) := sub_eq pok51 ct51 (by kernel_rfl)
theorem c51_1 {f : RG} : (contX pl51 prog J 45 n0 51 ct51 [1, 1, 1, 0, 1, 0] (codeOf f51) [] (RetQ prog [.tmp 6, .tmp 7, .tmp 8] n0 K)) .normal f h =
(aLoad false 1 (f.r 11) h fun v1 =>
 aBin prog .lss 3 v1 (vint 0) fun v2 =>
 cnd v2
(retL n0 K f.ds [(Value.string { data := #[] }), (vint 0), (vint 11)] h)
(aLoad false 1 (f.r 10) h fun v3 =>
 aLoad false 1 (f.r 11) h fun v4 =>
 retL n0 K f.ds [v3, v4, (vint 0)] h)) := by kernel_rfl
theorem l51_1 (hJ : Closed prog main J) {f : RG} {g : FuncId} {first cap : List Value} (hx : ev f.r ((Go.Operand.tmp 22)) = .func (.func g) ⟨first⟩ ⟨cap⟩) (hg : g < prog.funcs.size)
 (hs : Good prog J g (first ++ [.func (.yield (h.length + 1)) ⟨[]⟩ ⟨[]⟩] ++ cap) (h ++ [.deferred] ++ [.loop .ready none 51 f.r 45 #[23] (subC [1, 1, 1, 0, 1, 0, 0] (codeOf f51)) (subC [1, 1, 1, 0, 1, 0, 1] (codeOf f51)) h.length]) (endQ h.length f (contX pl51 prog J 45 n0 51 ct51 [1, 1, 1, 0, 1, 0] (codeOf f51) [] (RetQ prog [.tmp 6, .tmp 7, .tmp 8] n0 K)))) (hcall : callable prog g = true := by kernel_rfl) : Sem J 45 n0 51 (subC [1, 1, 1, 0, 1, 0] (codeOf f51)) f h (contX pl51 prog J 45 n0 51 ct51 [1, 1, 1, 0, 1, 0] (codeOf f51) [] (RetQ prog [.tmp 6, .tmp 7, .tmp 8] n0 K)) :=
 Sem_range hJ (by decide) (fop := (Go.Operand.tmp 22)) (params := #[23]) (assign := subC [1, 1, 1, 0, 1, 0, 0] (codeOf f51)) (body := subC [1, 1, 1, 0, 1, 0, 1] (codeOf f51)) hx hg hs hcall
end
section
variable {main : Bool} {J : JT} {n0 : Nat} {h : List AObj} {K : Value → List AObj → Prop}
theorem at92 : prog.funcs[92]? = some f92 := by kernel_rfl
theorem body92 : f92.body = some (codeOf f92) := by kernel_rfl
def pl92 : Plans := [(1, false, .take 0 (.take 2 (.last 1 true (.last 3 true (.last 4 true (.last 5 true (.take 6 (.fin))))))))]
def ct92 : Cuts := .go
theorem pok92 : plansOk prog pl92 (codeOf f92) = true := by kernel_rfl
theorem e92 {a0 a1 a2 : Value} : W prog J 21 h.length 92 (codeOf f92) (RG.mk (regs [a0, a1, a2]) []) h (RetQ prog [.tmp 6] h.length K) =
(aBox a0 h fun v1 h2 =>
 aBox a2 h2 fun v3 h4 =>
(∃ B, aLoad true 6 v1 h4 fun v5 =>
 RdOk (some B) (ptrBlk v1) ∧ (aLoad true 3 v3 h4 fun v6 =>
 RdOk (some B) (ptrBlk v3) ∧ (Good prog J 36 [v5] h4 fun v7 h8 =>
 SameB (some B) h4 h8 ∧ (Good prog J 72 [v6] h8 fun v9 h10 =>
 SameB (some B) h4 h10 ∧ ((((2 * 1 : Nat) ≤ 16777216 ∧ (2 : Nat) ≤ 16777216 ∧ List.length [(vint 0)] = 1) ∧ aFill (zrep [(vint 0)] 2) [(0, 1, v7), (1, 1, v9)] fun c11 =>
 aNewS 2 c11 h10 fun v12 h13 =>
 SameB (some B) h4 h13 ∧ (Good prog J 88 [v12] h13 fun v14 h15 =>
 SameB (some B) h4 h15 ∧ (aBin prog .neq 37 v14 (vint 0) fun v16 =>
 cnd v16
(retL h.length K [] [v14] h15)
(aOff v3 0 fun v17 =>
 aLoad false 1 v17 h15 fun v18 =>
 Good prog J 124 [a1, v18] h15 fun v19 h20 =>
 retL h.length K [] [v19] h20)))))))))) := top_eq pok92 ct92 (by kernel_rfl)
theorem g92 (hJ : Closed prog main J) {a0 a1 a2 : Value} (hs : heapOk h → W prog J 21 h.length 92 (codeOf f92) (RG.mk (regs [a0, a1, a2]) []) h (RetQ prog [.tmp 6] h.length K)) : Good prog J 92 [a0, a1, a2] h K :=
 good_of_W hJ mixed at92 body92 (by kernel_rfl) (Nat.le_of_ble_eq_true rfl) hs
end
end Go.Proofs.Ythnccaajpdnndaa
