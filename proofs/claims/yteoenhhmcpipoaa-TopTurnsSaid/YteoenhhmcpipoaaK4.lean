/- Parts of the proof, 4. No conditions. -/
import Derived.Test.YteoenhhmcpipoaaK3
import Derived.Test.YteoenhhmcpipoaaK2
import Derived.Conc.WgGenN2
import Derived.Test.YteoenhhmcpipoaaProg
namespace Go.Proofs.Yteoenhhmcpipoaa
open Go.Conc
open Go.ConcR (Bk stA smA rd wr mk KK)
theorem nodupLe : ∀ (n : Nat) (l : List Nat),l.Nodup → (∀ i ∈ l,i < n) → l.length ≤ n
 | 0,l,_,h => by
  cases l with
  | nil => simp
  | cons x l => exact absurd (h x (by simp)) (Nat.not_lt_zero _)
 | n + 1,l,nd,h => by
  by_cases hm : n ∈ l
  ·have h1 := List.length_erase_of_mem hm
   have h2 := nodupLe n (l.erase n) (nd.erase n) fun i hi => by
    obtain ⟨hne,hi⟩ := nd.mem_erase_iff.1 hi
    have := h i hi
    omega
   omega
  ·have := nodupLe n l nd fun i hi => by
    have := h i hi
    have : i ≠ n := fun e => hm (e ▸ hi)
    omega
   omega
inductive KLt (P : Program) (G : Grp) : Goroutine × WkS → Goroutine × WkS → Prop where
 | step {g g' : Goroutine} {w w₁ w' : World} {ft : Foot} {es : Array Event} {b' : Bool} {d : Option Value} {a : Nat} : RelyW ft w w₁ → stepG P false g w₁ = .go g' w' es → TW P (stopD P G a d) b' g' w' (ft.ext w₁.heap.size w'.heap.size) → KLt P G (g',.way d a w' (ft.ext w₁.heap.size w'.heap.size) b') (g,.way d a w ft false)
 | dep {g g' : Goroutine} {w w' : World} {ft ft' : Foot} {b b' : Bool} {v : Value} {a : Nat} : TW P (AtLast P G a v) b' g' w' ft' → KLt P G (g',.way (some v) a w' ft' b') (g,.way none a w ft b)
 | sit {g g' : Goroutine} {w : World} {ft fi : Foot} {b : Bool} {d : Option Value} {a a' s m : Nat} {v : Value} : KLt P G (g',.sit a' s m v fi) (g,.way d a w ft b)
 | less {g g' : Goroutine} {fi fi' : Foot} {a a' s m s' m' : Nat} {v v' : Value} : s' < s ∨ (s' = s ∧ m' < m) → KLt P G (g',.sit a' s' m' v' fi') (g,.sit a s m v fi)
 | out {g g' : Goroutine} {fi fi' : Foot} {a a' s m n : Nat} {v : Value} : KLt P G (g',.gone a' n fi') (g,.sit a s m v fi)
 | quit {g g' : Goroutine} {fi fi' : Foot} {a a' n n' : Nat} : n' < n → KLt P G (g',.gone a' n' fi') (g,.gone a n fi)
section
variable {P : Program} {G : Grp}
theorem kacc_gone : ∀ (n : Nat) (g : Goroutine) (fi : Foot) (a : Nat),Acc (KLt P G) (g,.gone a n fi) := by
 intro n
 induction n using Nat.strongRecOn with
 | ind n ih =>
  intro g fi a
  refine ⟨_,fun y hy => ?_⟩
  cases hy with
  | quit h => exact ih _ h _ _ _
theorem kacc_sit : ∀ (s m : Nat) (v : Value) (g : Goroutine) (fi : Foot) (a : Nat),Acc (KLt P G) (g,.sit a s m v fi) := by
 intro s
 induction s using Nat.strongRecOn with
 | ind s ihs =>
  intro m
  induction m using Nat.strongRecOn with
  | ind m ihm =>
   intro v g fi a
   refine ⟨_,fun y hy => ?_⟩
   cases hy with
   | less h =>
    rcases h with h | ⟨rfl,h⟩
    ·exact ihs _ h _ _ _ _ _
    ·exact ihm _ h _ _ _ _
   | out => exact kacc_gone _ _ _ _
theorem kacc_last {g : Goroutine} {w : World} {ft : Foot} {a : Nat} {v : Value} (h : Toward P (AtLast P G a v) g w ft) : ∀ b,TW P (AtLast P G a v) b g w ft → Acc (KLt P G) (g,.way (some v) a w ft b) := by
 induction h with
 | stop h1 h2 =>
  intro b hb
  cases b with
  | true => exact ⟨_,fun y hy => by cases hy with | sit => exact kacc_sit _ _ _ _ _ _⟩
  | false => exact absurd h2 hb.2.1
 | step h1 h2 _ ih =>
  intro b hb
  cases b with
  | true => exact ⟨_,fun y hy => by cases hy with | sit => exact kacc_sit _ _ _ _ _ _⟩
  | false =>
   refine ⟨_,fun y hy => ?_⟩
   cases hy with
   | step hr hs ht => exact ih _ _ _ _ hr hs _ ht
   | sit => exact kacc_sit _ _ _ _ _ _
theorem TW.toward {Stop : JT} {b : Bool} {g : Goroutine} {w : World} {ft : Foot} (h : TW P Stop b g w ft) : Toward P Stop g w ft := by
 cases b with
 | true => exact .stop h.1 h.2
 | false => exact .step h.1 h.2.2.1 h.2.2.2
theorem kacc_way {g : Goroutine} {w : World} {ft : Foot} {a : Nat} (h : Toward P (AtDep P G a) g w ft) : ∀ b,TW P (AtDep P G a) b g w ft → Acc (KLt P G) (g,.way none a w ft b) := by
 have stop : ∀ (g : Goroutine) (w : World) (ft : Foot),Acc (KLt P G) (g,.way none a w ft true) := fun g w ft => ⟨_,fun y hy => by
  cases hy with
  | dep h => exact kacc_last h.toward _ h
  | sit => exact kacc_sit _ _ _ _ _ _⟩
 induction h with
 | stop h1 h2 =>
  intro b hb
  cases b with
  | true => exact stop _ _ _
  | false => exact absurd h2 hb.2.1
 | step h1 h2 _ ih =>
  intro b hb
  cases b with
  | true => exact stop _ _ _
  | false =>
   refine ⟨_,fun y hy => ?_⟩
   cases hy with
   | step hr hs ht => exact ih _ _ _ _ hr hs _ ht
   | dep h => exact kacc_last h.toward _ h
   | sit => exact kacc_sit _ _ _ _ _ _
theorem kacc_any {d : Option Value} {a : Nat} {b : Bool} {g : Goroutine} {w : World} {ft : Foot} (h : TW P (stopD P G a d) b g w ft) : Acc (KLt P G) (g,.way d a w ft b) := by
 cases d with
 | none => exact kacc_way h.toward b h
 | some v => exact kacc_last h.toward b h
def noFoot : Foot := ⟨fun _ => False,fun _ => False,0⟩
def measG (gs : Array Goroutine) (q : Nat → Nat) (ws : Nat → WkS) : Nat → Goroutine × WkS := fun j =>
 if j = 0 then (default,.gone 0 0 noFoot) else match ws j with
  | .none => (default,.gone 0 (q j) noFoot)
  | x => (gs.getD j default,x)
theorem measG_wk {gs : Array Goroutine} {q : Nat → Nat} {ws : Nat → WkS} {i : Nat} {x : WkS} (h0 : i ≠ 0) (hx : ws i = x) (hne : x ≠ .none) {g : Goroutine} (hg : gs[i]? = some g) : measG gs q ws i = (g,x) := by
 unfold measG
 rw [if_neg h0,hx,Array.getD_eq_getD_getElem?,hg]
 cases x <;> first | exact absurd rfl hne | simp
theorem measG_other {gs : Array Goroutine} {q : Nat → Nat} {ws : Nat → WkS} {j : Nat} (h0 : j ≠ 0) (hx : ws j = .none) : measG gs q ws j = (default,.gone 0 (q j) noFoot) := by
 unfold measG
 rw [if_neg h0,hx]
theorem measG_zero {gs : Array Goroutine} {q : Nat → Nat} {ws : Nat → WkS} : measG gs q ws 0 = (default,.gone 0 0 noFoot) := if_pos rfl
theorem measG_eq {gs gs' : Array Goroutine} {q q' : Nat → Nat} {ws ws' : Nat → WkS} {j : Nat} (hw : ws' j = ws j) (hq : ws j = .none → q' j = q j) (hg : ws j ≠ .none → gs'[j]? = gs[j]?) : measG gs' q' ws' j = measG gs q ws j := by
 unfold measG
 by_cases h0 : j = 0
 ·rw [if_pos h0,if_pos h0]
 rw [if_neg h0,if_neg h0,hw]
 cases h : ws j with
 | none => rw [hq h]
 | _ => rw [Array.getD_eq_getD_getElem?,Array.getD_eq_getD_getElem?,hg (by rw [h]; simp)]
end
section
variable {P : Program} {W0 : World} {Post : Value → World → Prop} {G : Grp} {k : List Nat} {g : Goroutine} {w w₁ w' : World} {ft : Foot} {gs gs' : Array Goroutine} {t : Trace} {i : Nat} {r q q' : Nat → Nat} {ws ws' : Nat → WkS} {S : Nat → Prop}
theorem GInv.pos (I : GInv P W0 G k ft gs w t r q ws S) (hne : ws i ≠ .none) : i ≠ 0 := fun e => hne (e ▸ I.zero)
theorem GInv.acc (I : GInv P W0 G k ft gs w t r q ws S) : Acc (Less (KLt P G) gs.size) (measG gs q ws) := by
 refine less_acc _ _ _ fun j _ => ?_
 by_cases h0 : j = 0
 ·subst h0
  rw [measG_zero]
  exact kacc_gone _ _ _ _
 have hwk := I.wk j
 cases hx : ws j with
 | none =>
  rw [measG_other h0 hx]
  exact kacc_gone _ _ _ _
 | way d a wi fi b =>
  rw [hx] at hwk
  obtain ⟨g,h1,_,h3,_⟩ := hwk
  rw [measG_wk h0 hx (by simp) h1]
  exact kacc_any h3
 | sit a s m v fi =>
  rw [hx] at hwk
  obtain ⟨_,_,g,h1,_⟩ := hwk
  rw [measG_wk h0 hx (by simp) h1]
  exact kacc_sit _ _ _ _ _ _
 | gone a n fi =>
  rw [hx] at hwk
  obtain ⟨g,h1,_⟩ := hwk
  rw [measG_wk h0 hx (by simp) h1]
  exact kacc_gone _ _ _ _
theorem measG_less (h0 : i ≠ 0) (hlt : i < gs.size) {x y : WkS} (hx : ws i = x) (hxn : x ≠ .none) (hyn : y ≠ .none) {g g' : Goroutine} (hg : gs[i]? = some g) (hg' : gs'[i]? = some g') (hk : ∀ j,j ≠ i → ws j ≠ .none → gs'[j]? = gs[j]?) (h : KLt P G (g',y) (g,x)) : Less (KLt P G) gs.size (measG gs' q (putAt ws i y)) (measG gs q ws) := by
 refine ⟨i,hlt,?_,fun j hj => measG_eq (putAt_ne _ _ hj) (fun _ => rfl) (hk j hj)⟩
 rw [measG_wk h0 hx hxn hg,measG_wk h0 (putAt_self ws i y) hyn hg']
 exact h
theorem measG_quit {j m n : Nat} (h0 : j ≠ 0) (hlt : j < gs.size) (hj : ws j = .none) (hq : q j = n) (hm : m < n) (hk : ∀ i,i ≠ j → ws i ≠ .none → gs'[i]? = gs[i]?) : Less (KLt P G) gs.size (measG gs' (putAt q j m) ws) (measG gs q ws) := by
 refine ⟨j,hlt,?_,fun i hi => measG_eq rfl (fun _ => putAt_ne _ _ hi) (hk i hi)⟩
 rw [measG_other h0 hj,measG_other h0 hj,putAt_self,hq]
 exact .quit hm
theorem GInv.at (I : GInv P W0 G k ft gs w t r q ws S) (d : Nat) : GInv P W0 G k ft gs (w.at d) t r q ws S where
 base := ⟨I.base.tape,I.base.os,I.base.output,I.base.size⟩
 lt := I.lt
 sub := I.sub
 nwg := I.nwg
 nans := I.nans
 ne := I.ne
 tagw := I.tagw
 k3 := I.k3
 few := I.few
 all := I.all
 inj := I.inj
 in_ := I.in_
 zero := I.zero
 grp := I.grp
 hears := I.hears
 wk := fun i => by
  have h := I.wk i
  have own : ∀ {fi},OwnF G ft fi w t S → OwnF G ft fi (w.at d) t S := fun O => ⟨O.lt,O.sub,O.grp,O.ans,O.d1,O.d2,O.sh,O.nr⟩
  generalize ws i = x at h
  cases x with
  | none => trivial
  | way d' a wi fi b =>
   obtain ⟨g,h1,h2,h3,h4,h5,h6,h7⟩ := h
   exact ⟨g,h1,h2,h3,h4.trans (relyW_at fi w d),own h5,h6,h7⟩
  | sit a s m v fi =>
   obtain ⟨a,b,g,h1,h2,h3,h4,h5,h6⟩ := h
   exact ⟨a,b,g,h1,h2.rely (@ConcN.RW.at ⟨0⟩ _ _ _ _ _ _ w d),own h3,h4,phi_keep (fun _ _ => rfl) rfl (fun _ x => x) (fun _ x => x) h5,h6⟩
  | gone a n fi =>
   obtain ⟨g,h1,h2,h3,h4,h5⟩ := h
   exact ⟨g,h1,h2,own h3,phi_keep (fun _ _ => rfl) rfl (fun _ x => x) (fun _ x => x) h4,h5⟩
 sep := I.sep
 old := I.old
 above := I.above
 clean := I.clean
 known := I.known
 done := I.done
 over := I.over
 quiet := I.quiet
 ftouch := I.ftouch
 late := I.late
 seen := I.seen
 shun := I.shun
 norel := I.norel
 acq := I.acq
 fok := I.fok
 bare := I.bare
theorem cnt_le {n : Nat} (few : ∀ i a,(ws i).slot = some a → a < 3) (inj : ∀ i j a,(ws i).slot = some a → (ws j).slot = some a → i = j) : cntW ws n ≤ 3 := by
 have h := nodupLe 3 (((List.range n).filter fun i => (ws i).cnt).map fun i => ((ws i).slot).getD 0) ?_ ?_
 ·rw [List.length_map,← List.countP_eq_length_filter] at h
  exact h
 ·show List.Pairwise _ _
  rw [List.pairwise_map]
  refine List.Pairwise.imp_of_mem (fun {i j} hi hj hij e => hij ?_) (List.Pairwise.filter _ List.nodup_range)
  have hc : ∀ {i : Nat},i ∈ (List.range n).filter (fun i => (ws i).cnt) → ∃ a,(ws i).slot = some a := fun {i} hi => WkS.ne_slot fun h => by
   have := (List.mem_filter.1 hi).2
   rw [h] at this
   cases this
  obtain ⟨a,ha⟩ := hc hi
  obtain ⟨b,hb⟩ := hc hj
  rw [ha,hb] at e
  have e : a = b := e
  subst e
  exact inj i j a ha hb
 ·intro x hx
  obtain ⟨i,hi,rfl⟩ := List.mem_map.1 hx
  obtain ⟨a,ha⟩ := WkS.ne_slot (x := ws i) fun h => by
   have := (List.mem_filter.1 hi).2
   rw [h] at this
   cases this
  rw [ha]
  exact few i a ha
theorem GInv.cnt3 (I : GInv P W0 G k ft gs w t r q ws S) : cntW ws gs.size ≤ 3 := cnt_le (fun i a h => I.k3 a (I.few i a h)) I.inj
theorem GInv.relabel (I : GInv P W0 G k ft gs w t r q ws S) (hne : ws i ≠ .none) {y : WkS} (hsl : y.slot = (ws i).slot) (hfo : y.foot = (ws i).foot) (hc : y.cnt = (ws i).cnt) (h1 : ¬ y.stage ≤ 6) (h2 : ¬ (ws i).stage ≤ 4) (hwk : WkOk P G ft gs w t i (r i) S y) : GInv P W0 G k ft gs w t r q (putAt ws i y) S := by
 have hn : ∀ j,putAt ws i y j ≠ .none ↔ ws j ≠ .none := fun j => not_congr (ne_put hsl j)
 have hlt := I.in_ i hne
 have hf : ∀ j,(putAt ws i y j).foot = (ws j).foot := fun j => by
  by_cases e : j = i
  ·subst e
   rw [putAt_self,hfo]
  ·rw [putAt_ne _ _ e]
 obtain ⟨st,sm,l,hat,hph,hlow⟩ := I.grp
 refine { base := I.base,lt := I.lt,sub := I.sub,nwg := I.nwg,nans := I.nans,ne := I.ne,tagw := I.tagw,k3 := I.k3,few := fun j a e => I.few j a (by rw [← slot_put hsl]; exact e),all := fun a ha => (I.all a ha).imp fun j hj => by rw [slot_put hsl]; exact hj,inj := fun j j' a e e' => I.inj j j' a (by rw [← slot_put hsl]; exact e) (by rw [← slot_put hsl]; exact e'),in_ := fun j hj => I.in_ j ((hn j).1 hj),zero := (ne_put hsl 0).2 I.zero,grp := ⟨st,sm,l,hat,by rw [cntW_same hlt hc]; exact hph,low_put hlow (by omega) (by omega) hph.lows⟩,hears := I.hears,wk := fun j => ?_,sep := fun j j' fj fj' hjj e e' => I.sep j j' fj fj' hjj (by rw [← hf]; exact e) (by rw [← hf]; exact e'),old := fun j z hj hz hnone => I.old j z hj hz ((ne_put hsl j).1 hnone),above := I.above,clean := I.clean,known := I.known,done := fun j a ha hm => (I.done j a ha hm).imp id fun h => h.imp (fun ⟨x,a1,a2⟩ => ⟨x,(hn x).2 a1,a2⟩) id,over := fun j x a1 a2 a3 => (I.over j x a1 a2 a3).imp id (hn x).2,quiet := fun j a ha hb hk => ⟨(I.quiet j a ha hb hk).1,fun hp x hx => (I.quiet j a ha hb hk).2 hp x ((hn x).1 hx)⟩,ftouch := fun j a ha hb => (I.ftouch j a ha hb).imp (fun ⟨a1,a2⟩ => ⟨a1,fun x hx => a2 x ((hn x).1 hx)⟩) fun ⟨x,s,a1,a2,a3,a4⟩ => ⟨x,s,(hn x).2 a1,a2,by rw [slot_put hsl]; exact a3,a4⟩,late := fun j n a hj hlt' hg ha hs => ?_,seen := I.seen,shun := I.shun,norel := I.norel,acq := fun h j hj => I.acq h j ((hn j).1 hj),fok := I.fok,bare := fun a ha hno => I.bare a ha fun j h => hno j (by rw [slot_put hsl]; exact h) }
 ·by_cases e : j = i
  ·subst e
   rw [putAt_self]
   exact hwk
  ·rw [putAt_ne _ _ e]
   exact I.wk j
 ·by_cases e : j = i
  ·subst e
   rw [putAt_self] at hs
   exact absurd hs h1
  ·rw [putAt_ne _ _ e] at hs
   exact I.late j n a ((hn j).1 hj) hlt' hg ha hs
theorem GInv.arrive {d : Option Value} {a : Nat} {wi : World} {fi : Foot} (hws : ws i = .way d a wi fi true) (I : GInv P W0 G k ft gs w t r q ws S) : (∃ m v,GInv P W0 G k ft gs w t r q (putAt ws i (.sit a 7 m v fi)) S) ∨ (d = none ∧ ∃ x v g',gs[i]? = some x ∧ stepG P false x w = .go g' (w.setCell (G.cel a) v) #[depE G a] ∧ Toward P (AtLast P G a v) g' (w.setCell (G.cel a) v) fi) := by
 have hwk := I.wk i
 rw [hws] at hwk
 obtain ⟨y,h1,hdf,h3,hr,O,hkn,hans⟩ := hwk
 have hne : ws i ≠ .none := by rw [hws]; simp
 obtain ⟨st,sm,l,hat,hph,hlow⟩ := I.grp
 have on : ∀ {u : Value},AtDone P G y w fi → w.cell? (G.cel a) = some u → leftV (G.R a) u w fi → ∃ m v,GInv P W0 G k ft gs w t r q (putAt ws i (.sit a 7 m v fi)) S := fun {u} hd hu hl => by
  obtain ⟨_,hC,v,hv,hall⟩ := hd
  obtain ⟨m,hg⟩ := hall w ⟨st,sm,hat⟩ hv
  exact ⟨m,v,I.relabel hne (by rw [hws]; rfl) (by rw [hws]; rfl) (by rw [hws]; rfl) (by show ¬ (7 ≤ 6); omega) (by rw [hws]; show ¬ (8 ≤ 4); omega) ⟨by omega,by omega,y,h1,.inl ⟨rfl,hdf,hg⟩,O,hC,⟨u,hu,hl⟩,fun e => by omega⟩⟩
 have hs := h3.2 w hr
 cases d with
 | some v => exact .inl (on hs.1 hans hs.2)
 | none =>
  obtain ⟨_,⟨hR,hd⟩ | ⟨v,hall⟩⟩ := hs
  ·exact .inl (on hd hans (by rw [hR]; rfl))
  ·obtain ⟨g',hgo,hto⟩ := hall w (RelyW.refl _ _) I.fok O.ans
   exact .inr ⟨rfl,y,v,g',h1,hgo,hto⟩
theorem GInv.stage {a s m : Nat} {v : Value} {fi : Foot} (hws : ws i = .sit a s m v fi) (I : GInv P W0 G k ft gs w t r q ws S) (h6 : s ≤ 6) {x g' : Goroutine} {es : Array Event} (hx : gs[i]? = some x) (A : Aside G.wg w w') {st' sm' : Int} {l : Option (Nat × Nat)} {y : WkS} (hat : G.at_ w' st' sm') (hbk : ∀ e ∈ es,Bk G.wg e)
  (hd : ∀ j e,es[j]? = some e → (MemAct.ofEvent e).touch? = none ∨ 0 < deafBehind (Deaf t i) (es.extract 0 j)) (hph : Phase (ft.tag % 32) (cntW (putAt ws i y) gs.size) l st' sm') (hlow : LowOk (putAt ws i y) l)
  (hy : (∃ s' m',y = .sit a s' m' v fi ∧ 2 ≤ s' ∧ s' ≤ 6 ∧ G.sit P v s' m' (deafBehind (Deaf t i) es) g' w') ∨ ∃ n,y = .gone a n fi ∧ QuitsD P n (deafBehind (Deaf t i) es) g') :
  GInv P W0 G k ft ((gs.map (woken P x g' w')).setIfInBounds i g') w' (t ++ MemOp.ofEvents i x.frame.fn x.frame.place es) (putAt r i (r i)) q (putAt ws i y) S := by
 have hwk := I.wk i
 rw [hws] at hwk
 obtain ⟨h2,_,z,h1,hsit,O,hF,hphi,hrel⟩ := hwk
 have hrel' := ConcN.RelBy.book (hrel h6) rfl x.frame.fn x.frame.place hbk hd
 have hne : ws i ≠ .none := by rw [hws]; simp
 have O' : OwnF G ft fi w' (t ++ MemOp.ofEvents i x.frame.fn x.frame.place es) S := O.app (Nat.le_of_eq A.size.symm) (bk_norel hbk)
 have hphi' : G.phi a w' fi := phi_keep (fun b hb => A.block b fun e => O.grp (e ▸ hb)) (cel_of_block (eq_of_aside A I.ne) a) (fun _ x => x) (fun _ x => x) hphi
 refine I.turn hne ?_ ?_ hx A (fun e he => .inl (hbk e he)) (.inl ⟨rfl,fun _ => by rw [hws]; exact h6⟩) (fun _ => rfl) hat hph hlow ?_
 ·rw [hws]
  rcases hy with ⟨s',m',rfl,_⟩ | ⟨n,rfl,_⟩ <;> rfl
 ·rw [hws]
  rcases hy with ⟨s',m',rfl,_⟩ | ⟨n,rfl,_⟩ <;> rfl
 ·rcases hy with ⟨s',m',rfl,a1,b,c⟩ | ⟨n,rfl,c⟩
  ·exact ⟨a1,by omega,g',moved_own hx,by rw [Deaf_own]; exact .inr ⟨b,c⟩,O',hF,hphi',fun _ => hrel'⟩
  ·exact ⟨g',moved_own hx,by rw [Deaf_own]; exact c,O',hphi',hrel'⟩
theorem Phase.not12 {x c : Nat} {l : Option (Nat × Nat)} {st sm : Int} (h : Phase x c l st sm) (hc : 0 < c) : x ≠ 12 := fun e => by
 subst e
 cases h with
 | idle h _ => unfold idleX at h; omega
 | added h => omega
 | out h => omega
theorem GInv.seven {a m : Nat} {v : Value} {fi : Foot} (hws : ws i = .sit a 7 m v fi) (I : GInv P W0 G k ft gs w t r q ws S) {x : Goroutine} (hx : gs[i]? = some x) : ∃ g' es ri s' m',stepG P false x w = .go g' w es ∧ ((s' = 7 ∧ m' < m) ∨ s' = 6) ∧
  GInv P W0 G k ft ((gs.map (woken P x g' w)).setIfInBounds i g') w (t ++ MemOp.ofEvents i x.frame.fn x.frame.place es) (putAt r i ri) q (putAt ws i (.sit a s' m' v fi)) S := by
 letI pl : ConcR.Payload := ⟨0⟩
 have hwk := I.wk i
 rw [hws] at hwk
 obtain ⟨_,_,y,h1,hs,O,hF,hphi,_⟩ := hwk
 rw [hx] at h1
 cases h1
 have hne : ws i ≠ .none := by rw [hws]; simp
 have hlt := I.in_ i hne
 obtain ⟨_,hdf,hgo⟩ := hs.resolve_right fun h => by omega
 obtain ⟨st,sm,l,hat,hph,hlow⟩ := I.grp
 have hcnt : ∀ {s' m' : Nat},s' = 7 ∨ s' = 6 → cntW (putAt ws i (.sit a s' m' v fi)) gs.size = cntW ws gs.size := fun {s' m'} h => cntW_same hlt (by rw [hws]; rcases h with rfl | rfl <;> rfl)
 have hl' : ∀ {s' m' : Nat},s' = 7 ∨ s' = 6 → LowOk (putAt ws i (.sit a s' m' v fi)) l := fun {s' m'} h => low_put hlow (by show ¬ (2 ≤ s' ∧ s' ≤ 4); omega) (by rw [hws]; show ¬ (2 ≤ 7 ∧ 7 ≤ 4); omega) hph.lows
 rcases Goes.cases hgo with hstop | ⟨m',rfl,hstep⟩
 ·obtain ⟨_,g',hst,m',hs'⟩ := hstop w (ConcN.RW.refl w)
  have hbk : ∀ e ∈ #[Go.ConcR.mk (.releaseMerge (stA G.wg))],Bk2 G.wg e := fun e he => .inr (by simpa using he)
  refine ⟨g',_,t.size,6,m',hst,.inr rfl,I.turn hne (by rw [hws]; rfl) (by rw [hws]; rfl) hx (.refl _ _) hbk (.inr rfl) (fun h12 => absurd h12 (hph.not12 (cntW_pos hlt (by rw [hws]; rfl)))) hat (by rw [hcnt (.inr rfl)]; exact hph) (hl' (.inr rfl)) ⟨by omega,by omega,g',moved_own hx,?_,O.app (Nat.le_refl _) (bk2_norel hbk),hF,hphi,fun _ => ConcN.RelBy.new hdf _ _⟩⟩
  rw [Deaf_own,hdf]
  exact .inr ⟨by omega,hs'⟩
 ·obtain ⟨g',w',es,hst,⟨rfl,rfl⟩,hg'⟩ := hstep w (ConcN.RW.refl w)
  refine ⟨g',#[],r i,7,m',hst,.inl ⟨rfl,by omega⟩,I.turn hne (by rw [hws]; rfl) (by rw [hws]; rfl) hx (.refl _ _) (by simp) (.inl ⟨rfl,fun h => by rw [hws]; exact h⟩) (fun _ => rfl) hat (by rw [hcnt (.inl rfl)]; exact hph) (hl' (.inl rfl)) ⟨by omega,by omega,g',moved_own hx,?_,O.app (Nat.le_refl _) (bk_norel (Wg := 0) (by simp)),hF,hphi,fun e => by omega⟩⟩
  rw [Deaf_own,hdf]
  exact .inl ⟨rfl,rfl,hg'⟩
end
def AllGone (ws : Nat → WkS) : Prop := ∀ i,ws i ≠ .none → (ws i).stage = 1
section
variable {P : Program} {W0 : World} {Post : Value → World → Prop} {G : Grp} {k : List Nat} {g g0 : Goroutine} {w w₁ w' : World} {ft : Foot} {gs gs' : Array Goroutine} {t : Trace} {i : Nat} {r q q' : Nat → Nat} {ws ws' : Nat → WkS} {S : Nat → Prop} {sl : Option (Nat × Nat)} {x c : Nat} {l : Option (Nat × Nat)} {st sm : Int}
theorem Phase.counted (h : Phase x c l st sm) (hc : 0 < c) : l = none ∧ sm = 0 ∧ ((idleX x ∧ c ≤ seenX x ∧ st = c * KK) ∨ ((x = 3 ∨ x = 4) ∧ st = (c + 1 : Nat) * KK) ∨ (x = 9 ∧ st = c * KK + 1)) := by
 cases h with
 | idle a b => exact ⟨rfl,rfl,.inl ⟨a,b,rfl⟩⟩
 | added a => exact ⟨rfl,rfl,.inr (.inl ⟨a,rfl⟩)⟩
 | out _ => omega
 | reg a => exact ⟨rfl,rfl,.inr (.inr ⟨rfl,rfl⟩)⟩
 | low _ => omega
 | last => omega
 | freed => omega
theorem Phase.at_low {s : Nat} (h : Phase x c (some (i,s)) st sm) : x = 9 ∧ c = 0 ∧ sm = 0 ∧ ((s = 4 ∨ s = 3) ∧ st = 1 ∨ s = 2 ∧ st = 0) := by
 cases h with
 | low h => exact ⟨rfl,rfl,rfl,.inl ⟨h,rfl⟩⟩
 | last => exact ⟨rfl,rfl,rfl,.inr ⟨rfl,rfl⟩⟩
theorem allGone_of (I : GInv P W0 G k ft gs w t r q ws S) (hc : cntW ws gs.size = 0) (hlow : LowOk ws none) : AllGone ws := by
 intro i hne
 have hlt := I.in_ i hne
 have hn := cntW_zero hc i hlt
 have hwk := I.wk i
 have h1 := hlow.1 i
 cases h : ws i with
 | none => exact absurd h hne
 | way d a wi fi b => rw [h] at hn; cases hn
 | gone a n fi => rfl
 | sit a s m v fi =>
  rw [h] at hn h1 hwk
  have hn : ¬ (5 ≤ s ∧ s ≤ 8) := of_decide_eq_false hn
  have h2 : 2 ≤ s := hwk.1
  have h7 : s ≤ 7 := hwk.2.1
  have : (2 : Nat) ≤ (WkS.sit a s m v fi).stage → (WkS.sit a s m v fi).stage ≤ 4 → none = some (i,(WkS.sit a s m v fi).stage) := h1
  have := this h2 (by show s ≤ 4; omega)
  cases this
theorem not_allGone {y : WkS} (h : y.stage ≠ 1) (hy : y ≠ .none) : ¬ AllGone (putAt ws i y) := fun a => by
 have := a i (by rw [putAt_self]; exact hy)
 rw [putAt_self] at this
 exact h this
theorem counted_ex {n : Nat} (h : 0 < cntW ws n) : ¬ AllGone ws := fun a => by
 obtain ⟨i,_,hi⟩ := List.countP_pos_iff.1 h
 have hi : decide (5 ≤ (ws i).stage ∧ (ws i).stage ≤ 8) = true := hi
 have hi := of_decide_eq_true hi
 by_cases hn : ws i = .none
 ·rw [hn] at hi
  have : (9 : Nat) ≤ 8 := hi.2
  omega
 ·have := a i hn
  omega
theorem low_same {y : WkS} (h : LowOk ws l) (e : y.stage = (ws i).stage) : LowOk (putAt ws i y) l := by
 have : ∀ j,(putAt ws i y j).stage = (ws j).stage := fun j => by
  by_cases ej : j = i
  ·subst ej
   rw [putAt_self,e]
  ·rw [putAt_ne _ _ ej]
 exact ⟨fun j a b => by rw [this] at a b ⊢; exact h.1 j a b,fun j s e => by rw [this]; exact h.2 j s e⟩
theorem rely_aside (A : Aside G.wg w w') (hn : ¬ ft.rd G.wg) : RelyW ft w w' := ⟨fun b hb => A.block b fun e => hn (e ▸ hb),Nat.le_of_eq A.size.symm,A.tape,A.os,A.output⟩
def Moves (P : Program) (W0 : World) (G : Grp) (k : List Nat) (ft : Foot) (gs : Array Goroutine) (w : World) (t : Trace) (q : Nat → Nat) (ws : Nat → WkS) (S : Nat → Prop) (j : Nat) (x : Goroutine) : Prop :=
 ∃ (g' : Goroutine) (w' : World) (es : Array Event) (r' : Nat → Nat) (q' : Nat → Nat) (ws' : Nat → WkS),stepG P false x w = .go g' w' es ∧ RelyW ft w w' ∧
  GInv P W0 G k ft ((gs.map (woken P x g' w')).setIfInBounds j g') w' (t ++ MemOp.ofEvents j x.frame.fn x.frame.place es) r' q' ws' S ∧
  Less (KLt P G) gs.size (measG ((gs.map (woken P x g' w')).setIfInBounds j g') q' ws') (measG gs q ws) ∧ (ft.tag % 32 = 9 → ¬ AllGone ws → AllGone ws' → mayWake P x = true ∧ g'.status = .running)
theorem bk_rw2 (wg : Nat) : ∀ e ∈ #[rd (stA wg),wr (stA wg)],Bk wg e := by
 intro e he
 simp at he
 rcases he with rfl | rfl <;> exact ConcN.bk_cell _ _ rfl
theorem df_rw2 (wg : Nat) : ∀ j e,(#[rd (stA wg),wr (stA wg)] : Array Event)[j]? = some e → (MemAct.ofEvent e).touch? = none ∨ 0 < deafBehind 1 ((#[rd (stA wg),wr (stA wg)] : Array Event).extract 0 j) := by
 intro j e he
 match j,he with
 | 0,_ => exact .inr (by simp [deafBehind])
 | 1,_ => exact .inr (by simp [deafBehind,rd])
 | j + 2,he => simp at he
theorem GInv.keeps (I : GInv P W0 G k ft gs w t r q ws S) {x g' : Goroutine} : ∀ j,j ≠ i → ws j ≠ .none → ((gs.map (woken P x g' w')).setIfInBounds i g')[j]? = gs[j]? := fun j hj hn => by
 obtain ⟨y,h1,h2⟩ := (I.wk j).here hn
 rw [h1]
 exact moved_keep (fun e => hj e.symm) h1 h2
set_option maxHeartbeats 1600000 in
theorem GInv.sits {a s m : Nat} {v : Value} {fi : Foot} (hws : ws i = .sit a s m v fi) (I : GInv P W0 G k ft gs w t r q ws S) (h6 : s ≤ 6) {x : Goroutine} (hx : gs[i]? = some x) (_hrun : x.status = .running) : Moves P W0 G k ft gs w t q ws S i x := by
 letI pl : ConcR.Payload := ⟨0⟩
 have hwk := I.wk i
 rw [hws] at hwk
 obtain ⟨h2,_,y,h1,hsit,O,hF,hphi,hrel⟩ := hwk
 have hsit := (hsit.resolve_left fun h => by omega).2
 rw [hx] at h1
 cases h1
 have hne : ws i ≠ .none := by rw [hws]; simp
 have hlt := I.in_ i hne
 obtain ⟨st,sm,l,hat,hph,hlow⟩ := I.grp
 have hst : (ws i).stage = s := by rw [hws]; rfl
 -- from a step to the move
 have fin : ∀ {g' : Goroutine} {w' : World} {es : Array Event} {st' sm' : Int} {l' : Option (Nat × Nat)} {y : WkS},stepG P false x w = .go g' w' es → Aside G.wg w w' → G.at_ w' st' sm' → (∀ e ∈ es,Bk G.wg e) →
   (∀ j e,es[j]? = some e → (MemAct.ofEvent e).touch? = none ∨ 0 < deafBehind (Deaf t i) (es.extract 0 j)) → Phase (ft.tag % 32) (cntW (putAt ws i y) gs.size) l' st' sm' → LowOk (putAt ws i y) l' →
   ((∃ s' m',y = .sit a s' m' v fi ∧ 2 ≤ s' ∧ s' ≤ 6 ∧ G.sit P v s' m' (deafBehind (Deaf t i) es) g' w' ∧ (s' < s ∨ (s' = s ∧ m' < m))) ∨ ∃ n,y = .gone a n fi ∧ QuitsD P n (deafBehind (Deaf t i) es) g' ∧ (ft.tag % 32 = 9 → AllGone (putAt ws i y) → mayWake P x = true ∧ g'.status = .running)) → Moves P W0 G k ft gs w t q ws S i x := by
  intro g' w' es st' sm' l' y hgo A hat' hbk hd hph' hlow' hy
  have hI := I.stage hws h6 hx A hat' hbk hd hph' hlow' (hy.imp (fun ⟨s',m',a,b,c,d,_⟩ => ⟨s',m',a,b,c,d⟩) fun ⟨n,a,b,_⟩ => ⟨n,a,b⟩)
  refine ⟨g',w',es,_,q,_,hgo,rely_aside A I.nwg,hI,?_,?_⟩
  ·rcases hy with ⟨s',m',rfl,_,_,_,hl⟩ | ⟨n,rfl,_⟩
   ·exact measG_less (I.pos hne) hlt hws (by simp) (by simp) hx (moved_own hx) I.keeps (.less hl)
   ·exact measG_less (I.pos hne) hlt hws (by simp) (by simp) hx (moved_own hx) I.keeps .out
  ·intro h9 _ h1'
   rcases hy with ⟨s',m',rfl,h2',_⟩ | ⟨n,rfl,_,hw⟩
   ·exact absurd h1' (not_allGone (by show s' ≠ 1; omega) (by simp))
   ·exact hw h9 h1'
 have cnt6 : ∀ {s' m' : Nat},s' = s → cntW (putAt ws i (.sit a s' m' v fi)) gs.size = cntW ws gs.size := fun {s' m'} h => cntW_same hlt (by rw [hws,h]; rfl)
 generalize hdd : Deaf t i = d at hsit fin
 have idle : ∀ {g' : Goroutine} {m' : Nat},stepG P false x w = .go g' w #[] → G.sit P v s m' d g' w → m' + 1 = m → Moves P W0 G k ft gs w t q ws S i x := fun {g' m'} hgo hs hm =>
  fin hgo (.refl _ _) hat (by simp) (by simp) (y := .sit a s m' v fi) (by rw [cnt6 rfl]; exact hph) (low_same hlow (by rw [hst]; rfl)) (.inl ⟨s,m',rfl,h2,h6,by simpa [deafBehind] using hs,.inr ⟨rfl,by omega⟩⟩)
 have one : ∀ (e : Event) (j : Nat) (x : Event),(#[e] : Array Event)[j]? = some x → x = e := fun e j x h => by
  cases j with
  | zero => simpa using h.symm
  | succ j => simp at h
 cases hsit with
 | k1 h =>
  rcases Goes.cases h with hstop | ⟨m',rfl,hstep⟩
  ·obtain ⟨_,g',hgo,m₂,hk⟩ := hstop w (ConcN.RW.refl w)
   refine fin hgo (.refl _ _) hat (fun e he => by simp at he; subst he; exact .inl rfl) (fun j e he => .inl (by rw [one _ j e he]; rfl)) (y := .sit a 5 m₂ v fi) (l' := l) (by rw [cntW_same hlt (by rw [hws]; rfl)]; exact hph) (low_put hlow (by show ¬ (2 ≤ 5 ∧ 5 ≤ 4); omega) (by rw [hst]; omega) hph.lows) (.inl ⟨5,m₂,rfl,by omega,by omega,?_,.inl (by omega)⟩)
   exact .d1 hk
  ·obtain ⟨g',w',es,hgo,⟨rfl,rfl⟩,hg'⟩ := hstep w (ConcN.RW.refl w)
   exact idle hgo (.k1 hg') rfl
 | d1 h =>
  rcases Goes.cases h with hstop | ⟨m',rfl,hstep⟩
  ·obtain ⟨_,hall⟩ := hstop w (ConcN.RW.refl w)
   have hc0 : 0 < cntW ws gs.size := cntW_pos hlt (by rw [hws]; rfl)
   have hc3 := I.cnt3
   have hdec : ∀ {y : WkS},y.cnt = false → cntW (putAt ws i y) gs.size + 1 = cntW ws gs.size := fun {y} hy => by
    have := cntW_upd (ws := ws) (x := y) hlt
    rw [hws,hy] at this
    have h5 : (WkS.sit a 5 m v fi).cnt = true := rfl
    rw [h5] at this
    simpa using this
   have hkk : KK = 4294967296 := rfl
   obtain ⟨rfl,rfl,hc⟩ := hph.counted hc0
   have lown : ∀ {n : Nat},LowOk (putAt ws i (.gone a n fi)) none := fun {n} => low_put hlow (by show ¬ (2 ≤ 1 ∧ 1 ≤ 4); omega) (by rw [hst]; omega) (fun _ _ e => by cases e)
   rcases hc with ⟨x1,x2,rfl⟩ | ⟨x1,rfl⟩ | ⟨x9,rfl⟩
   ·obtain ⟨g',hgo,_,hq⟩ := hall (cntW ws gs.size - 1) 0 (by omega) (by omega) (by
     have e : (((cntW ws gs.size - 1 : Nat) : Int) + 1) * KK + ((0 : Nat) : Int) = (cntW ws gs.size : Int) * KK := by rw [hkk]; omega
     rw [e]
     exact hat)
    obtain ⟨n,hq⟩ := hq (by omega)
    have e' := hdec (y := .gone a n fi) rfl
    refine fin hgo (aside_setCell w (stA G.wg) _) (st' := ((cntW ws gs.size - 1 : Nat) : Int) * KK + ((0 : Nat) : Int)) (sm' := 0) (Go.ConcR.WgAt.setSt hat _) (bk_rw2 _) (df_rw2 _) (y := .gone a n fi) (l' := none) ?_ lown (.inr ⟨n,rfl,?_,fun e => by unfold idleX at x1; omega⟩)
    ·have : Phase (ft.tag % 32) (cntW (putAt ws i (.gone a n fi)) gs.size) none ((cntW (putAt ws i (.gone a n fi)) gs.size : Nat) * KK) 0 := .idle x1 (by omega)
     rw [show cntW ws gs.size - 1 = cntW (putAt ws i (.gone a n fi)) gs.size by omega]
     simpa using this
    ·exact hq
   ·obtain ⟨g',hgo,_,hq⟩ := hall (cntW ws gs.size) 0 (by omega) (by omega) (by
     have e : ((cntW ws gs.size : Int) + 1) * KK + ((0 : Nat) : Int) = ((cntW ws gs.size + 1 : Nat) : Int) * KK := by rw [hkk]; omega
     rw [e]
     exact hat)
    obtain ⟨n,hq⟩ := hq (by omega)
    have e' := hdec (y := .gone a n fi) rfl
    refine fin hgo (aside_setCell w (stA G.wg) _) (st' := (cntW ws gs.size : Int) * KK + ((0 : Nat) : Int)) (sm' := 0) (Go.ConcR.WgAt.setSt hat _) (bk_rw2 _) (df_rw2 _) (y := .gone a n fi) (l' := none) ?_ lown (.inr ⟨n,rfl,?_,fun e => by omega⟩)
    ·have : Phase (ft.tag % 32) (cntW (putAt ws i (.gone a n fi)) gs.size) none ((cntW (putAt ws i (.gone a n fi)) gs.size + 1 : Nat) * KK) 0 := .added x1
     rw [← e']
     simpa using this
    ·exact hq
   ·obtain ⟨g',hgo,hl,hq⟩ := hall (cntW ws gs.size - 1) 1 (by omega) (by omega) (by
     have e : (((cntW ws gs.size - 1 : Nat) : Int) + 1) * KK + ((1 : Nat) : Int) = (cntW ws gs.size : Int) * KK + 1 := by rw [hkk]; omega
     rw [e]
     exact hat)
    by_cases h1 : cntW ws gs.size = 1
    ·obtain ⟨m₂,hk⟩ := hl ⟨by omega,rfl⟩
     have e' := hdec (y := .sit a 4 m₂ v fi) rfl
     refine fin hgo (aside_setCell w (stA G.wg) _) (st' := ((cntW ws gs.size - 1 : Nat) : Int) * KK + ((1 : Nat) : Int)) (sm' := 0) (Go.ConcR.WgAt.setSt hat _) (bk_rw2 _) (df_rw2 _) (y := .sit a 4 m₂ v fi) (l' := some (i,4)) ?_ ⟨fun j a1 a2 => ?_,fun j s' e => ?_⟩ (.inl ⟨4,m₂,rfl,by omega,by omega,?_,.inl (by omega)⟩)
     ·have e0 : cntW (putAt ws i (.sit a 4 m₂ v fi)) gs.size = 0 := by omega
      rw [x9,e0,h1]
      exact .low (.inl rfl)
     ·by_cases ej : j = i
      ·subst ej
       rw [putAt_self]
       rfl
      ·rw [putAt_ne _ _ ej] at a1 a2
       have := hlow.1 j a1 a2
       cases this
     ·cases e
      rw [putAt_self]
      rfl
     ·exact .d2 hk
    ·obtain ⟨n,hq⟩ := hq (by omega)
     have e' := hdec (y := .gone a n fi) rfl
     refine fin hgo (aside_setCell w (stA G.wg) _) (st' := ((cntW ws gs.size - 1 : Nat) : Int) * KK + ((1 : Nat) : Int)) (sm' := 0) (Go.ConcR.WgAt.setSt hat _) (bk_rw2 _) (df_rw2 _) (y := .gone a n fi) (l' := none) ?_ lown (.inr ⟨n,rfl,?_,fun _ hg => absurd hg (counted_ex (n := gs.size) (by omega))⟩)
     ·have : Phase 9 (cntW (putAt ws i (.gone a n fi)) gs.size) none ((cntW (putAt ws i (.gone a n fi)) gs.size : Nat) * KK + 1) 0 := .reg (by omega)
      rw [x9,show cntW ws gs.size - 1 = cntW (putAt ws i (.gone a n fi)) gs.size by omega]
      simpa using this
     ·exact hq
  ·obtain ⟨g',w',es,hgo,⟨rfl,rfl⟩,hg'⟩ := hstep w (ConcN.RW.refl w)
   exact idle hgo (.d1 hg') rfl
 | d2 h =>
  rcases Goes.cases h with hstop | ⟨m',rfl,hstep⟩
  ·obtain ⟨_,hall⟩ := hstop w (ConcN.RW.refl w)
   have hl := hlow.1 i (by rw [hst]; omega) (by rw [hst]; omega)
   rw [hst] at hl
   subst hl
   obtain ⟨x9,c0,rfl,hs4⟩ := hph.at_low
   have e1 : st = 1 := by omega
   subst e1
   obtain ⟨g',hgo,m₂,hk⟩ := hall hat
   have e0 : cntW (putAt ws i (.sit a 3 m₂ v fi)) gs.size = 0 := by rw [cntW_same hlt (by rw [hws]; rfl)]; exact c0
   refine fin hgo (.refl _ _) hat (fun e he => by simp at he; subst he; exact ConcN.bk_cell _ _ rfl) (fun j e he => ?_) (y := .sit a 3 m₂ v fi) (l' := some (i,3)) (by rw [x9,e0]; exact .low (.inr rfl)) ⟨fun j a1 a2 => ?_,fun j s' e => ?_⟩ (.inl ⟨3,m₂,rfl,by omega,by omega,?_,.inl (by omega)⟩)
   ·match j,he with
    | 0,_ => exact .inr (by simp [deafBehind])
    | j + 1,he => simp at he
   ·by_cases ej : j = i
    ·subst ej
     rw [putAt_self]
     rfl
    ·rw [putAt_ne _ _ ej] at a1 a2
     have := hlow.1 j a1 a2
     exact absurd (congrArg Prod.fst (Option.some.inj this)).symm ej
   ·cases e
    rw [putAt_self]
    rfl
   ·exact .d3 hk
  ·obtain ⟨g',w',es,hgo,⟨rfl,rfl⟩,hg'⟩ := hstep w (ConcN.RW.refl w)
   exact idle hgo (.d2 hg') rfl
 | d3 h =>
  rcases Goes.cases h with hstop | ⟨m',rfl,hstep⟩
  ·obtain ⟨_,hall⟩ := hstop w (ConcN.RW.refl w)
   have hl := hlow.1 i (by rw [hst]; omega) (by rw [hst]; omega)
   rw [hst] at hl
   subst hl
   obtain ⟨x9,c0,rfl,hs4⟩ := hph.at_low
   have e1 : st = 1 := by omega
   subst e1
   obtain ⟨g',hgo,m₂,hk⟩ := hall hat
   have e0 : cntW (putAt ws i (.sit a 2 m₂ v fi)) gs.size = 0 := by rw [cntW_same hlt (by rw [hws]; rfl)]; exact c0
   refine fin hgo (aside_setCell w (stA G.wg) _) (st' := 0) (sm' := 0) (Go.ConcR.WgAt.setSt hat _) (fun e he => by simp at he; subst he; exact ConcN.bk_cell _ _ rfl) (fun j e he => ?_) (y := .sit a 2 m₂ v fi) (l' := some (i,2)) (by rw [x9,e0]; exact .last) ⟨fun j a1 a2 => ?_,fun j s' e => ?_⟩ (.inl ⟨2,m₂,rfl,by omega,by omega,?_,.inl (by omega)⟩)
   ·match j,he with
    | 0,_ => exact .inr (by simp [deafBehind])
    | j + 1,he => simp at he
   ·by_cases ej : j = i
    ·subst ej
     rw [putAt_self]
     rfl
    ·rw [putAt_ne _ _ ej] at a1 a2
     have := hlow.1 j a1 a2
     exact absurd (congrArg Prod.fst (Option.some.inj this)).symm ej
   ·cases e
    rw [putAt_self]
    rfl
   ·exact .d4 hk
  ·obtain ⟨g',w',es,hgo,⟨rfl,rfl⟩,hg'⟩ := hstep w (ConcN.RW.refl w)
   exact idle hgo (.d3 hg') rfl
 | d4 h =>
  rcases Goes.cases h with hstop | ⟨m',rfl,hstep⟩
  ·obtain ⟨_,hmw,hall⟩ := hstop w (ConcN.RW.refl w)
   have hl := hlow.1 i (by rw [hst]; omega) (by rw [hst]; omega)
   rw [hst] at hl
   subst hl
   obtain ⟨x9,c0,rfl,hs4⟩ := hph.at_low
   have e1 : st = 0 := by omega
   subst e1
   obtain ⟨g',hgo,n,hq⟩ := hall hat
   have hrun' : g'.status = .running := by
    cases n with
    | zero => exact absurd hq.2 (by decide)
    | succ n => exact hq.elim (fun x => absurd x.2 (by decide)) (fun x => x.1)
   have e0 : cntW (putAt ws i (.gone a n fi)) gs.size = 0 := by rw [cntW_same hlt (by rw [hws]; rfl)]; exact c0
   refine fin hgo (aside_setCell w (smA G.wg) _) (st' := 0) (sm' := 1) (Go.ConcR.WgAt.setSm hat _) (fun e he => ?_) (fun j e he => ?_) (y := .gone a n fi) (l' := none) (by rw [x9,e0]; exact .freed) ⟨fun j a1 a2 => ?_,fun j s' e => by cases e⟩ (.inr ⟨n,rfl,?_,fun _ _ => ⟨hmw,hrun'⟩⟩)
   ·simp [semEvents] at he
    rcases he with rfl | rfl | rfl | rfl
    ·exact .inl rfl
    ·exact ConcN.bk_cell _ _ rfl
    ·exact ConcN.bk_cell _ _ rfl
    ·exact .inr (.inl rfl)
   ·match j,he with
    | 0,he => simp [semEvents] at he; subst he; exact .inl rfl
    | 1,_ => exact .inr (by simp [deafBehind,semEvents])
    | 2,_ => exact .inr (by simp [deafBehind,semEvents])
    | 3,he => simp [semEvents] at he; subst he; exact .inl rfl
    | j + 4,he => simp [semEvents] at he
   ·by_cases ej : j = i
    ·subst ej
     rw [putAt_self] at a1
     have : (2 : Nat) ≤ 1 := a1
     omega
    ·rw [putAt_ne _ _ ej] at a1 a2
     have := hlow.1 j a1 a2
     exact absurd (congrArg Prod.fst (Option.some.inj this)).symm ej
   ·simpa [deafBehind,semEvents] using hq
  ·obtain ⟨g',w',es,hgo,⟨rfl,rfl⟩,hg'⟩ := hstep w (ConcN.RW.refl w)
   exact idle hgo (.d4 hg') rfl
 | r0 h => omega
 | quit h => omega
end
section
variable {P : Program} {W0 : World} {Post : Value → World → Prop} {G : Grp} {k : List Nat} {g g0 : Goroutine} {w w₁ w' : World} {ft : Foot} {gs gs' : Array Goroutine} {t : Trace} {i : Nat} {r q q' : Nat → Nat} {ws ws' : Nat → WkS} {S : Nat → Prop} {sl : Option (Nat × Nat)}
theorem depE_rely (hn : ¬ ft.rd G.F) {a : Nat} {v : Value} : RelyW ft w (w.setCell (G.cel a) v) := by
 have A := aside_setCell w (G.cel a) v
 exact ⟨fun b hb => A.block b fun e => hn (by rw [← show b = G.F from e]; exact hb),Nat.le_of_eq A.size.symm,A.tape,A.os,A.output⟩
theorem GInv.other (I : GInv P W0 G k ft gs w t r q ws S) {j : Nat} {x : Goroutine} (hpos : 0 < j) (hx : gs[j]? = some x) (hrun : x.status = .running) : Moves P W0 G k ft gs w t q ws S j x := by
 have hlt : j < gs.size := (Array.getElem?_eq_some_iff.1 hx).1
 have h0 : j ≠ 0 := by omega
 have hwk := I.wk j
 cases hws : ws j with
 | none =>
  have hq := I.old j x hpos hx hws
  cases hqj : q j with
  | zero => rw [hqj] at hq; rw [hq.1] at hrun; cases hrun
  | succ m =>
   rw [hqj] at hq
   rcases hq with ⟨hf,_⟩ | ⟨_,g',es,hmu,hst,hq'⟩
   ·rw [hf] at hrun; cases hrun
   have hI := I.quit hpos hx hws hmu hq'
   exact ⟨g',w,es,r,putAt q j m,ws,hst w,RelyW.refl _ _,hI,measG_quit h0 hlt hws hqj (Nat.lt_succ_self m) I.keeps,fun _ h1 h2 => absurd h2 h1⟩
 | way d a wi fi b =>
  have hne : ws j ≠ .none := by rw [hws]; simp
  rw [hws] at hwk
  obtain ⟨y,h1,hdf,h3,hr,O,hkn,hans⟩ := hwk
  rw [hx] at h1
  cases h1
  cases b with
  | true =>
   rcases I.arrive hws with ⟨m,v,I7⟩ | ⟨rfl,y,v,g',hy,hgo,hto⟩
   ·obtain ⟨g',es,ri,s',m',hgo,hl,hI⟩ := I7.seven (putAt_self ws j _) hx
    have e : putAt (putAt ws j (.sit a 7 m v fi)) j (.sit a s' m' v fi) = putAt ws j (.sit a s' m' v fi) := by
     funext n
     unfold putAt
     split <;> rfl
    rw [e] at hI
    exact ⟨g',w,es,_,q,_,hgo,RelyW.refl _ _,hI,measG_less h0 hlt hws (by simp) (by simp) hx (moved_own hx) I.keeps .sit,fun _ _ h => absurd h (not_allGone (by show s' ≠ 1; omega) (by simp))⟩
   ·rw [hx] at hy
    cases hy
    obtain ⟨b',hb'⟩ := toward_tw hto
    have hI := I.dep hws hx hb'
    exact ⟨g',_,_,_,q,_,hgo,depE_rely I.nans,hI,measG_less h0 hlt hws (by simp) (by simp) hx (moved_own hx) I.keeps (.dep hb'),fun _ _ h => absurd h (not_allGone (by show (8 : Nat) ≠ 1; omega) (by simp))⟩
  | false =>
   obtain ⟨_,_,hst,hto⟩ := h3
   obtain ⟨g',w',es,hgo,hr',hgu⟩ := hst w hr
   have ht := hto w g' w' es hr hgo
   obtain ⟨b',hb'⟩ := toward_tw ht
   have hI := I.walk hws hx hgu hb'
   exact ⟨g',w',es,_,q,_,hgo,⟨fun b hb => hgu.heap b (I.lt b hb) fun hw => O.d1 b hw hb,hgu.size,hgu.tape,hgu.os,hgu.output⟩,hI,measG_less h0 hlt hws (by simp) (by simp) hx (moved_own hx) I.keeps (.step hr hgo hb'),fun _ _ h => absurd h (not_allGone (by show (8 : Nat) ≠ 1; omega) (by simp))⟩
 | sit a s m v fi =>
  have hne : ws j ≠ .none := by rw [hws]; simp
  by_cases h6 : s ≤ 6
  ·exact I.sits hws h6 hx hrun
  ·rw [hws] at hwk
   have h7 := hwk.2.1
   obtain rfl : s = 7 := by omega
   obtain ⟨g',es,ri,s',m',hgo,hl,hI⟩ := I.seven hws hx
   exact ⟨g',w,es,_,q,_,hgo,RelyW.refl _ _,hI,measG_less h0 hlt hws (by simp) (by simp) hx (moved_own hx) I.keeps (.less (by omega)),fun _ _ h => absurd h (not_allGone (by show s' ≠ 1; omega) (by simp))⟩
 | gone a n fi =>
  have hne : ws j ≠ .none := by rw [hws]; simp
  rw [hws] at hwk
  obtain ⟨y,h1,hq,O,hphi,hrel⟩ := hwk
  rw [hx] at h1
  cases h1
  cases n with
  | zero => rw [hq.1] at hrun; cases hrun
  | succ m =>
   rcases hq with ⟨hf,_⟩ | ⟨_,g',es,hmu,hst,hq'⟩
   ·rw [hf] at hrun; cases hrun
   have hbk : ∀ e ∈ es,Bk G.wg e := fun e he => Go.ConcR.bk_of_mute (hmu e he)
   obtain ⟨st,sm,l,hat,hph,hlow⟩ := I.grp
   have hst1 : (ws j).stage = 1 := by rw [hws]; rfl
   have hI := I.turn hne (y := .gone a m fi) (by rw [hws]; rfl) (by rw [hws]; rfl) hx (.refl _ _) (fun e he => .inl (hbk e he)) (.inl ⟨rfl,fun _ => (by rw [hst1]; omega)⟩) (fun _ => rfl) hat (by rw [cntW_same hlt (by rw [hws]; rfl)]; exact hph) (low_same hlow (by rw [hst1]; rfl))
    ⟨g',moved_own hx,by rw [Deaf_own]; exact hq',O.app (Nat.le_refl _) (bk_norel hbk),hphi,ConcN.RelBy.book hrel rfl _ _ hbk fun k e he => .inl (touch_mute (hmu e (Array.mem_of_getElem? he)))⟩
   refine ⟨g',w,es,_,q,putAt ws j (.gone a m fi),hst w,RelyW.refl _ _,hI,measG_less h0 hlt hws (by simp) (by simp) hx (moved_own hx) I.keeps (.quit (Nat.lt_succ_self m)),fun _ h1 h2 => absurd (fun n hn => ?_) h1⟩
   by_cases e : n = j
   ·subst e
    exact hst1
   ·have := h2 n (by rw [putAt_ne _ _ e]; exact hn)
    rw [putAt_ne _ _ e] at this
    exact this
theorem GInv.awake (I : GInv P W0 G k ft gs w t r q ws S) (h0 : gs[0]? = some g0) (hm : g0.status = .running ∨ g0.status = .blocked) : ∀ g ∈ gs,awake g := by
 intro y hy
 obtain ⟨j,hj,rfl⟩ := Array.mem_iff_getElem.1 hy
 have hg : gs[j]? = some gs[j] := Array.getElem?_eq_getElem hj
 rcases Nat.eq_zero_or_pos j with rfl | hpos
 ·have : gs[0] = g0 := by rw [hg] at h0; exact Option.some.inj h0
  rw [this]
  exact awake_of (hm.imp id .inl)
 ·by_cases hn : ws j = .none
  ·exact awake_of ((I.old j _ hpos hg hn).status.elim .inl fun x => .inr (.inr x))
  ·obtain ⟨y,h1,hs⟩ := (I.wk j).here hn
   rw [hg] at h1
   cases h1
   rcases hs with h | ⟨v,s,m,h⟩ | ⟨n,h⟩
   ·exact awake_of (.inl h)
   ·exact awake_of (h.status.elim .inl fun x => .inr (.inr x))
   ·exact awake_of (h.status.elim .inl fun x => .inr (.inr x))
theorem JG.main (hrun : g.status = .running) (h : ∀ gs w₁ sl t r q ws S,RelyW ft w w₁ → gs[0]? = some g → GInv P W0 G k ft gs w₁ t r q ws S → ∃ m' ops,runT P (crowd gs w₁ sl) 0 = (.next m',ops) ∧ Ends P Post m' (t ++ ops)) : JG P W0 Post G k g w ft := by
 intro gs w₁ sl t r q ws S hrel h0 I
 have hacc := I.acc
 generalize hM : measG gs q ws = M at hacc
 generalize hn : gs.size = n at hacc
 induction hacc generalizing gs w₁ sl t r q ws with
 | intro M _ ih =>
  obtain ⟨j,x,d,sl',hj,hx,hst⟩ := crowd_pick (P := P) (w := w₁) (sl := sl) (I.awake h0 (.inl hrun)) ⟨0,g,h0,hrun⟩
  rcases Nat.eq_zero_or_pos j with rfl | hpos
  ·obtain rfl : x = g := by rw [h0] at hj; exact (Option.some.inj hj).symm
   obtain ⟨m',ops,hr,he⟩ := h gs (w₁.at d) sl' t r q ws S (hrel.trans (relyW_at ft w₁ d)) h0 (I.at d)
   exact Ends.next (hst.trans hr) he
  ·have hj0 : (j == 0) = false := by simp; omega
   obtain ⟨g',w',es,r',q',ws',hgo,hrel',I',hl,_⟩ := (I.at d).other hpos hj hx
   subst hM hn
   refine Ends.next (hst.trans (runT_crowd_go (P := P) (sl := sl') hj (by rw [hj0]; exact hgo))) (ih _ hl _ w' sl' _ r' q' ws' ((hrel.trans (relyW_at ft w₁ d)).trans hrel') ?_ I' rfl (by simp))
   exact moved_put (by omega) h0 (woken_run hrun)
theorem GInv.main (I : GInv P W0 G k ft gs w t r q ws S) (_h0 : gs[0]? = some g) {g' : Goroutine} {es : Array Event} (hgu : GuarW ft w w' es) :
  GInv P W0 G k (ft.ext w.heap.size w'.heap.size) ((gs.map (woken P g g' w')).setIfInBounds 0 g') w' (t ++ MemOp.ofEvents 0 g.frame.fn g.frame.place es) r q ws S := by
 have hsz := hgu.size
 have hdf := fun j => deaf_evs (t := t) (i := 0) (fn := g.frame.fn) (pos := g.frame.place) hgu.evs I.lt j
 obtain ⟨st,sm,l,hat,hph,hlow⟩ := I.grp
 have hwl := at_lt hat
 have hfl := fok_lt I.fok
 have hsize : ((gs.map (woken P g g' w')).setIfInBounds 0 g').size = gs.size := by simp
 have hwe : w'.heap[G.wg]? = w.heap[G.wg]? := hgu.heap _ hwl fun hw => I.nwg (I.sub _ hw)
 have eF : w'.heap[G.F]? = w.heap[G.F]? := hgu.heap _ hfl fun hw => I.nans (I.sub _ hw)
 have own : ∀ {fi : Foot},OwnF G ft fi w t S → OwnF G (ft.ext w.heap.size w'.heap.size) fi w' (t ++ MemOp.ofEvents 0 g.frame.fn g.frame.place es) S := fun {fi} O => by
  refine ⟨fun b hb => Nat.lt_of_lt_of_le (O.lt b hb) hsz,O.sub,O.grp,O.ans,fun b hb hr => ?_,fun b hb hr => ?_,O.sh,fun a ha => (O.nr a ha).app (ok_norel hgu.evs a)⟩
  ·rcases hr with hr | hr
   ·exact O.d1 b hb hr
   ·have := O.lt b (O.sub b hb)
    omega
  ·rcases hb with hb | hb
   ·exact O.d2 b hb hr
   ·have := O.lt b hr
    omega
 have blk : ∀ {op : MemOp} {a : Touch},op ∈ MemOp.ofEvents 0 g.frame.fn g.frame.place es → op.act.touch? = some a → ∃ bl,locBlk a.loc = some bl ∧ ft.rd bl := fun hop ha => by
  obtain ⟨ev,he,rfl⟩ := Go.Conc.mem_ofEvents hop
  obtain ⟨bl,e1,e2,_⟩ := evOk_touch (hgu.evs ev he) ha
  exact ⟨bl,e1,e2⟩
 refine { base := ⟨hgu.tape.trans I.base.tape,hgu.os.trans I.base.os,hgu.output.trans I.base.output,Nat.le_trans I.base.size hgu.size⟩,lt := fun b hb => ?_,sub := fun b hb => ?_,nwg := fun hr => ?_,nans := fun hr => ?_,ne := I.ne,tagw := I.tagw,k3 := I.k3,few := I.few,all := I.all,inj := I.inj,in_ := fun j hj => by rw [hsize]; exact I.in_ j hj,zero := I.zero,grp := ⟨st,sm,l,at_of_block hat hwe,by rw [hsize]; exact hph,hlow⟩,hears := by rw [hdf]; exact I.hears,wk := fun j => ?_,sep := I.sep,old := fun j y hj hy hnj => ?_,above := fun j hj => ?_,clean := fun said => I.known.noRace (I.clean said) hgu.evs,known := I.known.own hgu.evs I.seen,done := fun j a ha hm => ?_,over := over_app I.over fun op hop => .inr (.inl (mem_g hop)),quiet := fun j a ha hb hk => ?_,ftouch := fun j a ha hb => ?_,late := fun i' j a hi' hj hg ha hs => ?_,seen := ?_,shun := fun b hS => ⟨fun hr => ?_,Nat.lt_of_lt_of_le (I.shun b hS).2.1 hsz,(I.shun b hS).2.2⟩,norel := fun a ha => ?_,acq := fun h j hj => (I.acq h j hj).app _,fok := fok_of_block I.fok eF,bare := fun a ha hno => (cel_of_block eF a).trans (I.bare a ha hno) }
 ·rcases hb with hb | hb
  ·exact Nat.lt_of_lt_of_le (I.lt b hb) hsz
  ·exact hb.2
 ·rcases hb with hb | hb
  ·exact .inl (I.sub b hb)
  ·exact .inr hb
 ·rcases hr with hr | hr
  ·exact I.nwg hr
  ·omega
 ·rcases hr with hr | hr
  ·exact I.nans hr
  ·omega
 ·have hj := I.wk j
  have hj0 : ws j ≠ .none → 0 ≠ j := fun h e => h (e ▸ I.zero)
  exact hj.by (j0 := 0) hj0 (fun fi hfi b hb => hgu.heap b ((hj.own hfi).lt b hb) fun hw => (hj.own hfi).d2 b hw hb) (fun a _ => cel_of_block eF a) hsz hgu.tape hgu.os hgu.output ⟨st,sm,at_of_block hat hwe⟩ (fun op hop => mem_g hop) (fun _ => hdf j) (fun fi hfi h => h.other hgu.evs (hj.own hfi).d2 (hj.own hfi).d1) (fun h y hy hs => moved_keep (hj0 h) hy hs) fun fi _ O => own O
 ·obtain ⟨z,hz,rfl⟩ := moved_get (by omega) hy
  have hqz := I.old j z hj hz hnj
  rw [woken_quitsD hqz,hdf]
  exact hqz
 ·rw [hdf]
  exact I.above j (by rw [hsize] at hj; exact hj)
 ·rcases touch_app ha with ⟨_,h⟩ | ⟨op,hop,hg,h⟩
  ·exact (I.done j a h hm).imp (·.app _) fun h => h.imp (fun ⟨x,h1,h2⟩ => ⟨x,h1,g_app h2⟩) id
  ·have := knows_own hg
   rw [mem_g hop] at this
   exact .inl this
 ·rcases touch_app ha with ⟨_,h⟩ | ⟨op,hop,hg,h⟩
  ·obtain ⟨a1,a2⟩ := I.quiet j a h hb hk
   exact ⟨a1.app _,fun hp i hi => (a2 hp i hi).app _⟩
  ·obtain ⟨bl,e1,e2⟩ := blk hop h
   rw [e1] at hb
   exact absurd e2 (by rw [Option.some.inj hb]; exact I.nwg)
 ·rcases touch_app ha with ⟨_,h⟩ | ⟨op,hop,hg,h⟩
  ·rcases I.ftouch j a h hb with ⟨a1,a2⟩ | ⟨x,s,a1,a2,a3⟩
   ·exact .inl ⟨a1.app _,fun x hx => (a2 x hx).app _⟩
   ·exact .inr ⟨x,s,a1,g_app a2,a3⟩
  ·obtain ⟨bl,e1,e2⟩ := blk hop h
   rw [e1] at hb
   exact absurd e2 (by rw [Option.some.inj hb]; exact I.nans)
 ·rcases touch_app ha with ⟨hlt',h⟩ | ⟨op,hop,hg',h⟩
  ·refine I.late i' j a hi' hj ?_ h hs
   unfold Trace.g? at hg ⊢
   rw [getElem?_append_old hlt'] at hg
   exact hg
  ·unfold Trace.g? at hg
   rw [hg'] at hg
   simp [mem_g hop] at hg
   exact absurd (hg ▸ I.zero) hi'
 ·exact seen_app (fun op hop => MemAct.low_mono hsz (I.seen op hop)) fun op hop => MemAct.low_mono hsz (low_events hgu.evs I.lt op hop)
 ·rcases hr with hr | hr
  ·exact (I.shun b hS).1 hr
  ·have := (I.shun b hS).2.1
   omega
 ·refine NoRelease.app ?_ (ok_norel hgu.evs a)
  rcases ha with (ha | ha) | ha
  ·exact I.norel a (.inl ha)
  ·exact norel_fresh I.seen ha.1
  ·exact I.norel a (.inr ha)
theorem JG.closed (P : Program) (W0 : World) (Post : Value → World → Prop) (G : Grp) (k : List Nat) : Closed P true (JG P W0 Post G k) where
 rely := fun h hr gs w₂ sl t r q ws S hrel h0 I => h gs w₂ sl t r q ws S (hr.trans hrel) h0 I
 step := fun hrun h => JG.main hrun fun gs w₁ sl t r q ws S hrel h0 I => by
  obtain ⟨g',w',es,hgo,hr',hgu,hJ⟩ := h w₁ hrel
  refine ⟨_,_,runT_crowd_go (P := P) (sl := sl) (i := 0) h0 (show stepG P (0 == 0) _ w₁ = _ from hgo),?_⟩
  exact hJ _ w' sl _ r q ws S (RelyW.refl _ _) (moved_own h0) (I.main h0 hgu)
end
end Go.Proofs.Yteoenhhmcpipoaa
namespace Go.Proofs.Yteoenhhmcpipoaa
open Go.Conc
def Crew.more (T : Crew) (k : Nat) : Crew := { T with pend := T.pend ++ [k] }
section
variable {P : Program} {W0 : World} {Post : Value → World → Prop} {T : Crew} {g g0 : Goroutine} {w w₁ w' : World} {ft : Foot} {gs gs' : Array Goroutine} {t : Trace} {st st' : Nat → WS} {ix : Nat → Nat} {i k : Nat} {sl : Option (Nat × Nat)}
def hired (c : Nat) (f0 : FuncId) (p0 : String) (f1 : FuncId) (p1 : String) : Trace := #[{ g := 0,fn := f0,pos := p0,act := .go c },{ g := c,fn := f1,pos := p1,act := .start }]
theorem hired_quiet (c : Nat) (f0 : FuncId) (p0 : String) (f1 : FuncId) (p1 : String) (g : Nat) : ∀ op ∈ hired c f0 p0 f1 p1,∀ d,deafStep g d op = d := by
 intro op hop d
 simp only [hired,List.mem_toArray,List.mem_cons,List.not_mem_nil,or_false] at hop
 rcases hop with rfl | rfl <;> rfl
theorem hired_mute (c : Nat) (f0 : FuncId) (p0 : String) (f1 : FuncId) (p1 : String) : ∀ op ∈ hired c f0 p0 f1 p1,op.act.touch? = none := by
 intro op hop
 simp only [hired,List.mem_toArray,List.mem_cons,List.not_mem_nil,or_false] at hop
 rcases hop with rfl | rfl <;> rfl
theorem hired_low (c : Nat) (f0 : FuncId) (p0 : String) (f1 : FuncId) (p1 : String) (n : Nat) : ∀ op ∈ hired c f0 p0 f1 p1,op.act.low n := by
 intro op hop
 simp only [hired,List.mem_toArray,List.mem_cons,List.not_mem_nil,or_false] at hop
 rcases hop with rfl | rfl <;> trivial
end
end Go.Proofs.Yteoenhhmcpipoaa
namespace Go.Proofs.Yteoenhhmcpipoaa
open Go.Conc
open Go.ConcR (Bk stA smA rd wr mk KK)
def Bk3 (wg : Nat) (e : Event) : Prop := Bk wg e ∨ ∃ a : Addr,a.block = wg ∧ (e = Go.ConcR.mk (.read a) ∨ e = Go.ConcR.mk (.write a))
theorem bk3_norel {wg : Nat} {es : Array Event} (he : ∀ e ∈ es,Bk3 wg e) {g : Nat} {fn : FuncId} {pos : String} (a : Addr) : ∀ op ∈ MemOp.ofEvents g fn pos es,op.act ≠ .mark (.release a) := by
 intro op hop e
 obtain ⟨x,hx,rfl⟩ := Go.Conc.mem_ofEvents hop
 rcases he x hx with (h1 | h1 | ⟨y,wr,rfl,_⟩) | ⟨y,_,rfl | rfl⟩
 ·simp only [Go.ConcR.ofEvent_loc_mark h1] at e
  cases e
 ·simp only [Go.ConcR.ofEvent_loc_mark h1] at e
  cases e
 ·cases e
 ·cases e
 ·cases e
theorem bk3_touch {wg : Nat} {es : Array Event} (he : ∀ e ∈ es,Bk3 wg e) {g : Nat} {fn : FuncId} {pos : String} {op : MemOp} (hop : op ∈ MemOp.ofEvents g fn pos es) {b : Touch} (hb : op.act.touch? = some b) : locBlk b.loc = some wg ∧ b.kind ≠ .plain := by
 obtain ⟨x,hx,rfl⟩ := Go.Conc.mem_ofEvents hop
 rcases he x hx with (h1 | h1 | ⟨y,wr,rfl,hy⟩) | ⟨y,hy,rfl | rfl⟩
 ·simp only [Go.ConcR.ofEvent_loc_mark h1] at hb
  cases hb
 ·simp only [Go.ConcR.ofEvent_loc_mark h1] at hb
  cases hb
 ·simp only [Go.ConcR.ofEvent_cell,MemAct.touch?,Option.some.injEq] at hb
  subst hb
  exact ⟨by show some y.block = _; rw [hy],by simp⟩
 ·simp only [MemAct.ofEvent,Go.ConcR.mk,MemAct.touch?,Option.some.injEq] at hb
  subst hb
  exact ⟨by show some y.block = _; rw [hy],by simp⟩
 ·simp only [MemAct.ofEvent,Go.ConcR.mk,MemAct.touch?,Option.some.injEq] at hb
  subst hb
  exact ⟨by show some y.block = _; rw [hy],by simp⟩
theorem bk3_low {wg n : Nat} {es : Array Event} (he : ∀ e ∈ es,Bk3 wg e) (hn : wg < n) {g : Nat} {fn : FuncId} {pos : String} : ∀ op ∈ MemOp.ofEvents g fn pos es,op.act.low n := by
 intro op hop
 obtain ⟨x,hx,rfl⟩ := Go.Conc.mem_ofEvents hop
 rcases he x hx with (h1 | h1 | ⟨y,wr,rfl,hy⟩) | ⟨y,hy,rfl | rfl⟩
 ·simp only [Go.ConcR.ofEvent_loc_mark h1]
  trivial
 ·simp only [Go.ConcR.ofEvent_loc_mark h1]
  trivial
 ·simp only [Go.ConcR.ofEvent_cell]
  show y.block < n
  rw [hy]
  exact hn
 ·show y.block < n
  rw [hy]
  exact hn
 ·show y.block < n
  rw [hy]
  exact hn
theorem conf_quiet {said : Bool} {a b : Touch} (h : a.conflicts said b) (hb : b.kind ≠ .plain) : a.kind ≠ .atomic := by
 obtain ⟨_,_,_,h | h | ⟨_,h,_⟩⟩ := h
 ·rw [h]; simp
 ·exact absurd h hb
 ·rw [h]; simp
section
variable {P : Program} {W0 : World} {Post : Value → World → Prop} {G : Grp} {k : List Nat} {g g0 : Goroutine} {w w₁ w' : World} {ft : Foot} {gs gs' : Array Goroutine} {t : Trace} {i : Nat} {r q q' : Nat → Nat} {ws ws' : Nat → WkS} {S : Nat → Prop} {sl : Option (Nat × Nat)}
theorem GInv.act (I : GInv P W0 G k ft gs w t r q ws S) (h0 : gs[0]? = some g) {g' : Goroutine} {es : Array Event} {x' : Nat} {st' sm' : Int} {l : Option (Nat × Nat)} (A : Aside G.wg w w') (hat : G.at_ w' st' sm') (hbk : ∀ e ∈ es,Bk3 G.wg e) (hx : x' < 32 ∧ (x' = 12 → ft.tag % 32 = 12))
  (hd : deafBehind (deafX (ft.tag % 32)) es = deafX x') (hph : Phase x' (cntW ws gs.size) l st' sm') (hlow : LowOk ws l) :
  GInv P W0 G k { ft with tag := x' + 32 * G.wg } ((gs.map (woken P g g' w')).setIfInBounds 0 g') w' (t ++ MemOp.ofEvents 0 g.frame.fn g.frame.place es) r q ws S := by
 have hdo : ∀ j,0 ≠ j → Deaf (t ++ MemOp.ofEvents 0 g.frame.fn g.frame.place es) j = Deaf t j := fun j hj => Deaf_other t hj _ (fun op hop => mem_g hop)
 have hsize : ((gs.map (woken P g g' w')).setIfInBounds 0 g').size = gs.size := by simp
 obtain ⟨_,_,_,hat0,_⟩ := I.grp
 have hwl := at_lt hat0
 have eF := eq_of_aside A I.ne
 have e1 : (x' + 32 * G.wg) / 32 = G.wg := by omega
 have e2 : (x' + 32 * G.wg) % 32 = x' := by omega
 have own : ∀ {fi : Foot},OwnF G ft fi w t S → OwnF G { ft with tag := x' + 32 * G.wg } fi w' (t ++ MemOp.ofEvents 0 g.frame.fn g.frame.place es) S := fun O =>
  ⟨by rw [A.size]; exact O.lt,O.sub,O.grp,O.ans,O.d1,O.d2,O.sh,fun a ha => (O.nr a ha).app (bk3_norel hbk a)⟩
 refine { base := ⟨A.tape.trans I.base.tape,A.os.trans I.base.os,A.output.trans I.base.output,by rw [A.size]; exact I.base.size⟩,lt := by rw [A.size]; exact I.lt,sub := I.sub,nwg := I.nwg,nans := I.nans,ne := I.ne,tagw := e1,k3 := I.k3,few := I.few,all := I.all,inj := I.inj,in_ := fun j hj => by rw [hsize]; exact I.in_ j hj,zero := I.zero,grp := ⟨st',sm',l,hat,by rw [hsize]; show Phase ((x' + 32 * G.wg) % 32) _ _ _ _; rw [e2]; exact hph,hlow⟩,hears := by rw [Deaf_own,I.hears,hd]; show _ = deafX ((x' + 32 * G.wg) % 32); rw [e2],wk := fun j => ?_,sep := I.sep,old := fun j y hj hy hn => ?_,above := fun j hj => ?_,clean := fun said => noRace_append (I.clean said) (fun op hop => mem_g hop) fun n a ha op hop b hb hc => ?_,known := fun j a ha hm => ?_,done := fun j a ha hm => ?_,over := over_app I.over fun op hop => .inr (.inl (mem_g hop)),quiet := fun j a ha hb hk => ?_,ftouch := fun j a ha hb => ?_,late := fun i' j a hi' hj hg ha hst => ?_,seen := ?_,shun := by rw [A.size]; exact I.shun,norel := fun a ha => (I.norel a ha).app (bk3_norel hbk a),acq := fun h j hj => (I.acq (hx.2 (e2.symm.trans h)) j hj).app _,fok := fok_of_block I.fok eF,bare := fun a ha hno => (cel_of_block eF a).trans (I.bare a ha hno) }
 ·have hj := I.wk j
  have hj0 : ws j ≠ .none → 0 ≠ j := fun h e => h (e ▸ I.zero)
  refine hj.by (j0 := 0) hj0 (fun fi hfi b hb => A.block b fun e => (hj.own hfi).grp (e ▸ hb)) (fun a _ => cel_of_block eF a) (Nat.le_of_eq A.size.symm) A.tape A.os A.output ⟨_,_,hat⟩ (fun op hop => mem_g hop) (fun h => hdo j h) (fun fi hfi hkj n a ha hm => ?_) (fun h y hy hs => moved_keep (hj0 h) hy hs) fun fi _ O => own O
  rcases touch_app ha with ⟨_,h⟩ | ⟨op,hop,_,h⟩
  ·exact (hkj n a h hm).imp (·.app _) id
  ·refine .inr fun b hb => ?_
   rw [(bk3_touch hbk hop h).1] at hb
   cases hb
   exact ⟨fun hw => (hj.own hfi).grp ((hj.own hfi).sub _ hw),fun _ hr => (hj.own hfi).grp hr⟩
 ·obtain ⟨z,hz,rfl⟩ := moved_get (by omega) hy
  have hqz := I.old j z hj hz hn
  rw [woken_quitsD hqz,hdo _ (by omega)]
  exact hqz
 ·have h0' : 0 < gs.size := (Array.getElem?_eq_some_iff.1 h0).1
  rw [hsize] at hj
  rw [hdo _ (by omega)]
  exact I.above j hj
 ·obtain ⟨h1,h2⟩ := bk3_touch hbk hop hb
  exact (I.quiet n a ha (by rw [hc.1]; exact h1) (conf_quiet hc h2)).1
 ·rcases touch_app ha with ⟨_,h⟩ | ⟨op,hop,hg,h⟩
  ·exact (I.known j a h hm).imp (·.app _) id
  ·have := knows_own hg
   rw [mem_g hop] at this
   exact .inl this
 ·rcases touch_app ha with ⟨_,h⟩ | ⟨op,hop,hg,h⟩
  ·exact (I.done j a h hm).imp (·.app _) fun h => h.imp (fun ⟨x,h1,h2⟩ => ⟨x,h1,g_app h2⟩) id
  ·have := knows_own hg
   rw [mem_g hop] at this
   exact .inl this
 ·rcases touch_app ha with ⟨_,h⟩ | ⟨op,hop,hg,h⟩
  ·obtain ⟨a1,a2⟩ := I.quiet j a h hb hk
   exact ⟨a1.app _,fun hp i hi => (a2 hp i hi).app _⟩
  ·have := knows_own hg
   rw [mem_g hop] at this
   exact ⟨this,fun hp => absurd hp (bk3_touch hbk hop h).2⟩
 ·rcases touch_app ha with ⟨_,h⟩ | ⟨op,hop,hg,h⟩
  ·rcases I.ftouch j a h hb with ⟨a1,a2⟩ | ⟨x,s,a1,a2,a3⟩
   ·exact .inl ⟨a1.app _,fun x hx => (a2 x hx).app _⟩
   ·exact .inr ⟨x,s,a1,g_app a2,a3⟩
  ·rw [(bk3_touch hbk hop h).1] at hb
   exact absurd (Option.some.inj hb).symm I.ne
 ·rcases touch_app ha with ⟨hlt',h⟩ | ⟨op,hop,hg',h⟩
  ·refine I.late i' j a hi' hj ?_ h hst
   unfold Trace.g? at hg ⊢
   rw [getElem?_append_old hlt'] at hg
   exact hg
  ·unfold Trace.g? at hg
   rw [hg'] at hg
   simp [mem_g hop] at hg
   exact absurd (hg ▸ I.zero) hi'
 ·rw [A.size]
  exact seen_app I.seen (bk3_low hbk hwl)
theorem JG.act (hrun : g.status = .running) (h : ∀ w₁ c l st sm,RelyW ft w w₁ → ft.tag / 32 = G.wg → ¬ ft.rd G.wg → c ≤ 3 → G.at_ w₁ st sm → Phase (ft.tag % 32) c l st sm → ∃ (g' : Goroutine) (w' : World) (es : Array Event) (st' sm' : Int) (x' : Nat),stepG P true g w₁ = .go g' w' es ∧ Aside G.wg w₁ w' ∧ G.at_ w' st' sm' ∧ (∀ e ∈ es,Bk3 G.wg e) ∧ (x' < 32 ∧ (x' = 12 → ft.tag % 32 = 12)) ∧
   deafBehind (deafX (ft.tag % 32)) es = deafX x' ∧ Phase x' c l st' sm' ∧ JG P W0 Post G k g' w' { ft with tag := x' + 32 * G.wg }) : JG P W0 Post G k g w ft :=
 JG.main hrun fun gs w₁ sl t r q ws S hrel h0 I => by
  obtain ⟨st,sm,l,hat,hph,hlow⟩ := I.grp
  obtain ⟨g',w',es,st',sm',x',hgo,A,hat',hbk,hx,hd,hph',hJ⟩ := h w₁ (cntW ws gs.size) l st sm hrel I.tagw I.nwg I.cnt3 hat hph
  refine ⟨_,_,runT_crowd_go (P := P) (sl := sl) (i := 0) h0 (show stepG P (0 == 0) _ w₁ = _ from hgo),?_⟩
  exact hJ _ w' sl _ r q ws S (RelyW.refl _ _) (moved_own h0) (I.act h0 A hat' hbk hx hd hph' hlow)
theorem JG.retag {x : Nat} (hx : x < 32) (hd : deafX (ft.tag % 32) = deafX x) (hph : ∀ c l st sm,Phase (ft.tag % 32) c l st sm → Phase x c l st sm) (h12 : x ≠ 12) (h : JG P W0 Post G k g w { ft with tag := x + 32 * (ft.tag / 32) }) : JG P W0 Post G k g w ft := by
 intro gs w₁ sl t r q ws S hrel h0 I
 have e1 : (x + 32 * (ft.tag / 32)) / 32 = ft.tag / 32 := by omega
 have e2 : (x + 32 * (ft.tag / 32)) % 32 = x := by omega
 refine h gs w₁ sl t r q ws S ⟨hrel.heap,hrel.size,hrel.tape,hrel.os,hrel.output⟩ h0 { base := I.base,lt := I.lt,sub := I.sub,nwg := I.nwg,nans := I.nans,ne := I.ne,tagw := e1.trans I.tagw,k3 := I.k3,few := I.few,all := I.all,inj := I.inj,in_ := I.in_,zero := I.zero,grp := ?_,hears := ?_,wk := fun j => ?_,sep := I.sep,old := I.old,above := I.above,clean := I.clean,known := I.known,done := I.done,over := I.over,quiet := I.quiet,ftouch := I.ftouch,late := I.late,seen := I.seen,shun := I.shun,norel := I.norel,acq := fun h => ?_,fok := I.fok,bare := I.bare }
 ·obtain ⟨st,sm,l,hat,hp,hl⟩ := I.grp
  refine ⟨st,sm,l,hat,?_,hl⟩
  show Phase ((x + 32 * (ft.tag / 32)) % 32) _ _ _ _
  rw [e2]
  exact hph _ _ _ _ hp
 ·rw [I.hears,hd]
  show _ = deafX ((x + 32 * (ft.tag / 32)) % 32)
  rw [e2]
 ·have hj := I.wk j
  have own : ∀ {fi},OwnF G ft fi w₁ t S → OwnF G { ft with tag := x + 32 * (ft.tag / 32) } fi w₁ t S := fun O => ⟨O.lt,O.sub,O.grp,O.ans,O.d1,O.d2,O.sh,O.nr⟩
  generalize ws j = y at hj
  cases y with
  | none => trivial
  | way d a wi fi b =>
   obtain ⟨y,h1,h2,h3,h4,h5,h6,h7⟩ := hj
   exact ⟨y,h1,h2,h3,h4,own h5,h6,h7⟩
  | sit a s m v fi =>
   obtain ⟨a1,a2,y,h1,h2,h3,h4,h5,h6⟩ := hj
   exact ⟨a1,a2,y,h1,h2,own h3,h4,h5,h6⟩
  | gone a n fi =>
   obtain ⟨y,h1,h2,h3,h4,h5⟩ := hj
   exact ⟨y,h1,h2,own h3,h4,h5⟩
 ·have : (x + 32 * (ft.tag / 32)) % 32 = 12 := h
  omega
theorem tries_again (hs : g.status = .running) (ho : g.offers = none) (w : World) : ({ g with status := .blocked } : Goroutine).again w = g := by
 obtain ⟨fr,cs,stt,dy,off⟩ := g
 simp only at hs ho
 subst hs ho
 simp [Goroutine.again]
theorem GInv.runs (I : GInv P W0 G k ft gs w t r q ws S) (h1 : ¬ AllGone ws) : ∃ (i : Nat) (y : Goroutine),gs[i]? = some y ∧ y.status = .running := by
 letI pl : ConcR.Payload := ⟨0⟩
 obtain ⟨i,hi⟩ := Classical.not_forall.1 h1
 obtain ⟨hne,hst⟩ := Classical.not_imp.1 hi
 have hwk := I.wk i
 refine ⟨i,?_⟩
 cases hws : ws i with
 | none => exact absurd hws hne
 | way d a wi fi b =>
  rw [hws] at hwk
  obtain ⟨y,a,_,h3,_⟩ := hwk
  exact ⟨y,a,h3.1⟩
 | gone a n fi => rw [hws] at hst; exact absurd rfl hst
 | sit a s m v fi =>
  rw [hws] at hwk
  obtain ⟨h2,h6,y,a,h3,_⟩ := hwk
  refine ⟨y,a,?_⟩
  rcases h3 with ⟨_,_,h3⟩ | ⟨h6',h3⟩
  ·exact Goes.running (fun _ _ x => x.1) w (ConcN.RW.refl w) h3
  generalize Deaf t i = d at h3
  cases h3 with
  | r0 h => omega
  | k1 h => exact Goes.running (fun _ _ x => x.1) w (ConcN.RW.refl w) h
  | d1 h => exact Goes.running (fun _ _ x => x.1) w (ConcN.RW.refl w) h
  | d2 h => exact Goes.running (fun _ _ x => x.1) w (ConcN.RW.refl w) h
  | d3 h => exact Goes.running (fun _ _ x => x.1) w (ConcN.RW.refl w) h
  | d4 h => exact Goes.running (fun _ _ x => x.1) w (ConcN.RW.refl w) h
  | quit h => omega
theorem low_ex {i s : Nat} (h : LowOk ws (some (i,s))) (hs : 2 ≤ s) (hs4 : s ≤ 4) : ¬ AllGone ws := fun a => by
 have h1 := h.2 i s rfl
 by_cases hn : ws i = .none
 ·rw [hn] at h1
  have : (9 : Nat) = s := h1
  omega
 ·have := a i hn
  omega
theorem GInv.nine (I : GInv P W0 G k ft gs w t r q ws S) (e9 : ft.tag % 32 = 9) : ∃ st sm l,G.at_ w st sm ∧ Phase 9 (cntW ws gs.size) l st sm ∧ LowOk ws l ∧ ((¬ AllGone ws ∧ sm = 0) ∨ (cntW ws gs.size = 0 ∧ l = none ∧ st = 0 ∧ sm = 1)) := by
 obtain ⟨st,sm,l,hat,hph,hlow⟩ := I.grp
 rw [e9] at hph
 refine ⟨st,sm,l,hat,hph,hlow,?_⟩
 generalize hc : cntW ws gs.size = c at hph
 cases hph with
 | idle h _ => unfold idleX at h; omega
 | added h => omega
 | out h => omega
 | reg h => exact .inl ⟨counted_ex (n := gs.size) (by omega),rfl⟩
 | low h => exact .inl ⟨low_ex hlow (by omega) (by omega),rfl⟩
 | last => exact .inl ⟨low_ex hlow (by omega) (by omega),rfl⟩
 | freed => exact .inr ⟨rfl,rfl,rfl,rfl⟩
theorem measG_congr (h : ∀ j,ws j ≠ .none → gs'[j]? = gs[j]?) : measG gs' q ws = measG gs q ws := funext fun j => measG_eq rfl (fun _ => rfl) (h j)
theorem JG.sema (hrun : g.status = .running) (hoff : g.offers = none) (e9 : ft.tag % 32 = 9) (hwait : ∀ w₁ st,RelyW ft w w₁ → ft.tag / 32 = G.wg → G.at_ w₁ st 0 → stepG P true g w₁ = .go { g with status := .blocked } w₁ #[])
  (hgo : ∀ w₁,RelyW ft w w₁ → ft.tag / 32 = G.wg → ¬ ft.rd G.wg → G.at_ w₁ 0 1 → ∃ g',stepG P true g w₁ = .go g' (w₁.setCell (smA G.wg) (.int .u32 0)) (semEvents (smA G.wg)) ∧ JG P W0 Post G k g' (w₁.setCell (smA G.wg) (.int .u32 0)) { ft with tag := 10 + 32 * G.wg }) : JG P W0 Post G k g w ft := by
 have hself : ft.tag / 32 = G.wg → ({ ft with tag := 9 + 32 * G.wg } : Foot) = ft := fun h => by
  have : 9 + 32 * G.wg = ft.tag := by omega
  rw [this]
 have all : ∀ (M : Nat → Goroutine × WkS) (n : Nat),Acc (Less (KLt P G) n) M → ∀ (b : Bool) (gs : Array Goroutine) (w₁ : World) (sl : Option (Nat × Nat)) (t : Trace) (r : Nat → Nat) (q : Nat → Nat) (ws : Nat → WkS) (S : Nat → Prop),RelyW ft w w₁ → gs.size = n → measG gs q ws = M →
   gs[0]? = some (if b = true then { g with status := .blocked } else g) → (b = true → ¬ AllGone ws) → GInv P W0 G k ft gs w₁ t r q ws S → Ends P Post (crowd gs w₁ sl) t := by
  intro M n hacc
  induction hacc with
  | intro M _ ih =>
   have blk : ∀ (gs : Array Goroutine) (w₁ : World) (sl : Option (Nat × Nat)) (t : Trace) (r : Nat → Nat) (q : Nat → Nat) (ws : Nat → WkS) (S : Nat → Prop),RelyW ft w w₁ → gs.size = n → measG gs q ws = M →
     gs[0]? = some { g with status := .blocked } → ¬ AllGone ws → GInv P W0 G k ft gs w₁ t r q ws S → Ends P Post (crowd gs w₁ sl) t := by
    intro gs w₁ sl t r q ws S hrel hn hM h0 h1 I
    obtain ⟨i,y,hy,hyr⟩ := I.runs h1
    obtain ⟨j,x,d,sl',hj,hx,hst⟩ := crowd_pick (P := P) (w := w₁) (sl := sl) (I.awake h0 (.inr rfl)) ⟨i,y,hy,hyr⟩
    have hpos : 0 < j := by
     rcases Nat.eq_zero_or_pos j with rfl | h
     ·rw [h0] at hj
      cases hj
      cases hx
     ·exact h
    have hj0 : (j == 0) = false := by simp; omega
    obtain ⟨g',w',es,r',q',ws',hst',hrel',I',hl,hwk⟩ := (I.at d).other hpos hj hx
    subst hM hn
    refine Ends.next (hst.trans (runT_crowd_go (P := P) (sl := sl') hj (by rw [hj0]; exact hst'))) ?_
    have h0' : ((gs.map (woken P x g' w')).setIfInBounds j g')[0]? = some (woken P x g' w' { g with status := .blocked }) := by
     rw [Array.getElem?_setIfInBounds_ne (by omega),Array.getElem?_map,h0]
     rfl
    by_cases hcond : (mayWake P x && g'.status != .blocked && g'.status != .waiting) = true
    ·have hw : woken P x g' w' { g with status := .blocked } = g := by
      unfold woken
      rw [if_pos hcond]
      exact tries_again hrun hoff w'
     rw [hw] at h0'
     exact ih _ hl false _ w' sl' _ r' q' ws' S ((hrel.trans (relyW_at ft w₁ d)).trans hrel') (by simp) rfl h0' (fun e => by cases e) I'
    ·have hw : woken P x g' w' { g with status := .blocked } = { g with status := .blocked } := by
      unfold woken
      rw [if_neg hcond]
     rw [hw] at h0'
     refine ih _ hl true _ w' sl' _ r' q' ws' S ((hrel.trans (relyW_at ft w₁ d)).trans hrel') (by simp) rfl h0' (fun _ e => ?_) I'
     obtain ⟨a1,a2⟩ := hwk e9 h1 e
     exact hcond (by simp [a1,a2])
   intro b gs w₁ sl t r q ws S hrel hn hM h0 hb I
   cases b with
   | true => exact blk gs w₁ sl t r q ws S hrel hn hM h0 (hb rfl) I
   | false =>
    have h0 : gs[0]? = some g := h0
    obtain ⟨j,x,d,sl',hj,hx,hst⟩ := crowd_pick (P := P) (w := w₁) (sl := sl) (I.awake h0 (.inl hrun)) ⟨0,g,h0,hrun⟩
    rcases Nat.eq_zero_or_pos j with rfl | hpos
    ·obtain rfl : x = g := by rw [h0] at hj; exact (Option.some.inj hj).symm
     have Id := I.at d
     have hreld := hrel.trans (relyW_at ft w₁ d)
     obtain ⟨st,sm,l,hat,hph,hlow,hcase⟩ := Id.nine e9
     rcases hcase with ⟨h1,rfl⟩ | ⟨hc0,rfl,rfl,rfl⟩
     ·have hgo' := hwait (w₁.at d) st hreld Id.tagw hat
      refine Ends.next (hst.trans (runT_crowd_go (P := P) (sl := sl') (i := 0) h0 (show stepG P (0 == 0) _ (w₁.at d) = _ from hgo'))) ?_
      have Ia := Id.act h0 (g' := { x with status := .blocked }) (es := #[]) (x' := 9) (.refl _ _) hat (by simp) ⟨by omega,fun e => by omega⟩ (by rw [e9]; rfl) hph hlow
      rw [hself Id.tagw] at Ia
      subst hM hn
      have hid : ∀ o,woken P x { x with status := .blocked } (w₁.at d) o = o := fun o => by
       unfold woken
       simp
      refine blk _ (w₁.at d) sl' _ r q ws S hreld (by simp) (measG_congr fun j hne => ?_) (moved_own h0) h1 Ia
      have hip := I.pos hne
      rw [Array.getElem?_setIfInBounds_ne (by omega),Array.getElem?_map]
      cases gs[j]? with
      | none => rfl
      | some o => rw [Option.map_some,hid]
     ·obtain ⟨g',hgo',hJ⟩ := hgo (w₁.at d) hreld Id.tagw Id.nwg hat
      refine Ends.next (hst.trans (runT_crowd_go (P := P) (sl := sl') (i := 0) h0 (show stepG P (0 == 0) _ (w₁.at d) = _ from hgo'))) ?_
      refine hJ _ _ sl' _ r q ws S (RelyW.refl _ _) (moved_own h0) (Id.act h0 (aside_setCell (w₁.at d) (smA G.wg) _) (st' := 0) (sm' := 0) (l := none) (Go.ConcR.WgAt.setSm hat 0) (fun e he => .inl ?_) ⟨by omega,fun e => by omega⟩ (by rw [e9]; simp [deafBehind,semEvents,deafX]) (by rw [hc0]; exact .out (by omega)) hlow)
      simp [semEvents] at he
      rcases he with rfl | rfl | rfl | rfl
      ·exact .inl rfl
      ·exact ConcN.bk_cell _ _ rfl
      ·exact ConcN.bk_cell _ _ rfl
      ·exact .inr (.inl rfl)
    ·have hj0 : (j == 0) = false := by simp; omega
     obtain ⟨g',w',es,r',q',ws',hst',hrel',I',hl,_⟩ := (I.at d).other hpos hj hx
     subst hM hn
     refine Ends.next (hst.trans (runT_crowd_go (P := P) (sl := sl') hj (by rw [hj0]; exact hst'))) (ih _ hl false _ w' sl' _ r' q' ws' S ((hrel.trans (relyW_at ft w₁ d)).trans hrel') (by simp) rfl ?_ (fun e => by cases e) I')
     exact moved_put (by omega) h0 (woken_run hrun)
 intro gs w₁ sl t r q ws S hrel h0 I
 exact all _ _ I.acc false gs w₁ sl t r q ws S hrel rfl rfl h0 (fun e => by cases e) I
end
section
variable {P : Program} {W0 : World} {Post : Value → World → Prop} {G : Grp} {k : List Nat} {g g0 : Goroutine} {w w₁ w' : World} {ft : Foot} {gs gs' : Array Goroutine} {t : Trace} {i : Nat} {r q q' : Nat → Nat} {ws ws' : Nat → WkS} {S : Nat → Prop} {sl : Option (Nat × Nat)}
theorem relBy_hired {A : Addr} {ri n : Nat} {f0 : FuncId} {p0 : String} {f1 : FuncId} {p1 : String} (h : ConcN.RelBy A t i ri) (h0 : (0 : Nat) ≠ i) (hn : n ≠ i) : ConcN.RelBy A (t ++ hired n f0 p0 f1 p1) i ri := by
 have e : t ++ hired n f0 p0 f1 p1 = (t ++ #[{ g := 0,fn := f0,pos := p0,act := .go n }]) ++ #[{ g := n,fn := f1,pos := p1,act := .start }] := by
  apply Array.ext'
  simp [hired]
 rw [e]
 exact (h.appOther (fun op hop => by simp at hop; rw [hop]) h0).appOther (fun op hop => by simp at hop; rw [hop]) hn
theorem cntW_push {n : Nat} {y : WkS} (hy : y.cnt = true) : cntW (putAt ws n y) (n + 1) = cntW ws n + 1 := by
 unfold cntW
 rw [List.range_succ,List.countP_append]
 have e : (List.range n).countP (fun i => (putAt ws n y i).cnt) = (List.range n).countP fun i => (ws i).cnt := List.countP_congr fun x hx => by
  rw [putAt_ne _ _ (by have := List.mem_range.1 hx; omega)]
 rw [e]
 simp [putAt_self,hy]
theorem GInv.hire {fi ft' : Foot} {a : Nat} (I : GInv P W0 G k ft gs w t r q ws S) (h4 : ft.tag % 32 = 4) (hlt0 : 0 < gs.size) (ha : a < 3) (hak : a ∉ k) (hir : ∀ b,fi.rd b → ft.rd b) (hiw : ∀ b,¬ fi.wr b) (hmr : ∀ b,ft'.rd b → ft.rd b) (hmw : ∀ b,¬ ft'.wr b) (h5 : ft'.tag + 3 = ft.tag)
  {g' child : Goroutine} {b : Bool} (hto : TW P (AtDep P G a) b child w fi) (f0 : FuncId) (p0 : String) (f1 : FuncId) (p1 : String) :
  GInv P W0 G (a :: k) ft' ((gs.setIfInBounds 0 g').push child) w (t ++ hired gs.size f0 p0 f1 p1) (putAt r gs.size 0) q (putAt ws gs.size (.way none a w fi b)) S := by
 have hd := fun j => Deaf_quiet (t := t) (hired_quiet gs.size f0 p0 f1 p1 j)
 have hmu := hired_mute gs.size f0 p0 f1 p1
 obtain ⟨st,sm,l,hat,hph,hlow⟩ := I.grp
 have htw := I.tagw
 have em' : ft'.tag % 32 = 1 := by omega
 have hsz : ((gs.setIfInBounds 0 g').push child).size = gs.size + 1 := by simp
 have hnew : ws gs.size = .none := by
  by_cases h : ws gs.size = .none
  ·exact h
  ·exact absurd (I.in_ _ h) (Nat.lt_irrefl _)
 have hold : ∀ {j},ws j ≠ .none → j ≠ gs.size := fun h e => h (e ▸ hnew)
 have hcase : ∀ {j},putAt ws gs.size (.way none a w fi b) j ≠ .none → j = gs.size ∨ ws j ≠ .none := fun {j} h => by
  by_cases e : j = gs.size
  ·exact .inl e
  ·rw [putAt_ne _ _ e] at h
   exact .inr h
 have hkeep : ∀ {j},ws j ≠ .none → putAt ws gs.size (.way none a w fi b) j ≠ .none := fun {j} h => by rw [putAt_ne _ _ (hold h)]; exact h
 have hslot : ∀ {j s},(putAt ws gs.size (.way none a w fi b) j).slot = some s → (j = gs.size ∧ s = a) ∨ (j ≠ gs.size ∧ (ws j).slot = some s) := fun {j s} h => by
  by_cases e : j = gs.size
  ·subst e
   rw [putAt_self] at h
   cases h
   exact .inl ⟨rfl,rfl⟩
  ·rw [putAt_ne _ _ e] at h
   exact .inr ⟨e,h⟩
 have few : ∀ j s,(putAt ws gs.size (.way none a w fi b) j).slot = some s → s ∈ a :: k := fun j s h => by
  rcases hslot h with ⟨_,rfl⟩ | ⟨_,h⟩
  ·exact List.mem_cons_self
  ·exact List.mem_cons_of_mem _ (I.few j s h)
 have k3 : ∀ s ∈ a :: k,s < 3 := fun s hs => by
  rcases List.mem_cons.1 hs with rfl | hs
  ·exact ha
  ·exact I.k3 s hs
 have inj : ∀ j j' s,(putAt ws gs.size (.way none a w fi b) j).slot = some s → (putAt ws gs.size (.way none a w fi b) j').slot = some s → j = j' := fun j j' s h h' => by
  rcases hslot h with ⟨rfl,e⟩ | ⟨_,h⟩ <;> rcases hslot h' with ⟨rfl,e'⟩ | ⟨_,h'⟩
  ·rfl
  ·exact absurd (I.few j' s h') (e ▸ hak)
  ·exact absurd (I.few j s h) (e' ▸ hak)
  ·exact I.inj j j' s h h'
 have hcnt := cntW_push (ws := ws) (n := gs.size) (y := .way none a w fi b) rfl
 have hc3 : cntW (putAt ws gs.size (.way none a w fi b)) (gs.size + 1) ≤ 3 := cnt_le (fun i s h => k3 s (few i s h)) inj
 have hph' : l = none ∧ sm = 0 ∧ st = ((cntW ws gs.size + 1 : Nat) : Int) * KK := by
  rw [h4] at hph
  generalize cntW ws gs.size = c at hph
  cases hph with
  | idle h _ => unfold idleX at h; omega
  | added h => exact ⟨rfl,rfl,rfl⟩
  | out h => omega
 obtain ⟨rfl,rfl,rfl⟩ := hph'
 have e0 : (t ++ hired gs.size f0 p0 f1 p1)[t.size]? = some { g := 0,fn := f0,pos := p0,act := .go gs.size } := by simp [hired]
 have e1 : (t ++ hired gs.size f0 p0 f1 p1)[t.size + 1]? = some { g := gs.size,fn := f1,pos := p1,act := .start } := by simp [hired]
 have hears : Deaf t 0 = 0 := by rw [I.hears,h4]; rfl
 have edge : HappensBefore (t ++ hired gs.size f0 p0 f1 p1) t.size (t.size + 1) :=
  Relation.TransGen.single (.inr ⟨.spawn (act?_of e0) (act?_of e1) (g?_of e1),⟨0,g?_of e0,by rw [deaf_old (Nat.le_refl _)]; exact hears⟩,⟨gs.size,g?_of e1,by rw [deaf_quiet (hired_quiet gs.size f0 p0 f1 p1 gs.size) 1 (by simp [hired])]; exact I.above _ (Nat.le_refl _)⟩⟩)
 have kn : ∀ {j},Knows t 0 j → Knows (t ++ hired gs.size f0 p0 f1 p1) gs.size j := fun hh => ⟨t.size + 1,_,e1,rfl,.inr ((hh.hb_new (Nat.le_refl _) e0 rfl).trans edge)⟩
 have old : ∀ {j : Nat} {a : Touch},touchAt (t ++ hired gs.size f0 p0 f1 p1) j = some a → j < t.size ∧ touchAt t j = some a := fun {j a} ha => by
  rcases touch_app ha with h | ⟨op,hop,_,h⟩
  ·exact h
  ·rw [hmu op hop] at h; cases h
 have hnr : ∀ a : Addr,∀ op ∈ hired gs.size f0 p0 f1 p1,op.act ≠ .mark (.release a) := fun a op hop e => by
  simp only [hired,List.mem_toArray,List.mem_cons,List.not_mem_nil,or_false] at hop
  rcases hop with rfl | rfl <;> cases e
 have hget : ∀ {j y},j ≠ 0 → gs[j]? = some y → ((gs.setIfInBounds 0 g').push child)[j]? = some y := fun {j y} h0 h => by
  have hlt := (Array.getElem?_eq_some_iff.1 h).1
  rw [Array.getElem?_push_lt (by simpa using hlt),Array.getElem_setIfInBounds (by simpa using hlt),if_neg (by omega),← Array.getElem?_eq_getElem hlt]
  exact h
 refine { base := I.base,lt := fun b hb => I.lt b (hmr b hb),sub := fun b hb => absurd hb (hmw b),nwg := fun h => I.nwg (hmr _ h),nans := fun h => I.nans (hmr _ h),ne := I.ne,tagw := by omega,k3 := k3,few := few,all := fun s hs => ?_,inj := inj,in_ := fun j hj => ?_,zero := by rw [putAt_ne _ _ (by omega)]; exact I.zero,grp := ⟨_,0,none,hat,?_,low_put hlow (by show ¬ (2 ≤ 8 ∧ 8 ≤ 4); omega) (by rw [hnew]; show ¬ (2 ≤ 9 ∧ 9 ≤ 4); omega) (fun _ _ e => by cases e)⟩,hears := by rw [hd,hears,em']; rfl,wk := fun j => ?_,sep := fun j j' fj fj' hjj e e' => ?_,old := fun j y hj hy hn => ?_,above := fun j hj => ?_,clean := fun said => noRace_appendMute (I.clean said) hmu,known := (I.known.less hmr fun b hb => absurd hb (hmw b)).mute hmu,done := fun j a ha hm => ?_,over := ?_,quiet := fun j a ha hb hk => ?_,ftouch := fun j c hc hb => ?_,late := fun j n c hj hlt' hg hc hs => ?_,seen := seen_app I.seen (hired_low _ _ _ _ _ _),shun := fun b hS => ⟨fun h => (I.shun b hS).1 (hmr b h),(I.shun b hS).2⟩,norel := fun a ha => (I.norel a (ha.imp (hmr _) id)).app (hnr a),acq := fun h => by omega,fok := I.fok,bare := fun s hs hno => I.bare s hs fun j h => hno j (by rw [putAt_ne _ _ (hold (WkS.slot_ne h))]; exact h) }
 ·rcases List.mem_cons.1 hs with rfl | hs
  ·exact ⟨gs.size,by rw [putAt_self]; rfl⟩
  ·obtain ⟨j,hj⟩ := I.all s hs
   exact ⟨j,by rw [putAt_ne _ _ (hold (WkS.slot_ne hj))]; exact hj⟩
 ·rw [hsz]
  rcases hcase hj with rfl | h
  ·exact Nat.lt_succ_self _
  ·exact Nat.lt_succ_of_lt (I.in_ j h)
 ·rw [em',hsz,← hcnt]
  exact .idle (.inl rfl) hc3
 ·by_cases e : j = gs.size
  ·subst e
   rw [putAt_self,putAt_self]
   refine ⟨child,by rw [Array.getElem?_push,if_pos (by simp)],by rw [hd]; exact I.above _ (Nat.le_refl _),hto,RelyW.refl _ _,⟨fun b hb => I.lt b (hir b hb),fun b hb => absurd hb (hiw b),fun h => I.nwg (hir _ h),fun h => I.nans (hir _ h),fun b hb => absurd hb (hiw b),fun b hb => absurd hb (hmw b),fun b hS h => (I.shun b hS).1 (hir b h),fun a ha => (I.norel a (.inl (hir _ ha))).app (hnr a)⟩,fun j a ha hm => ?_,I.bare a ha fun j h => hak (I.few j a h)⟩
   obtain ⟨_,h⟩ := old ha
   rcases I.known j a h hm with hh | hh
   ·exact .inl (kn hh)
   ·exact .inr fun b hb => ⟨fun hw => absurd hw (hiw b),fun hw hr => (hh b hb).2 hw (hir b hr)⟩
  ·rw [putAt_ne _ _ e,putAt_ne _ _ e]
   have hj0 : ws j ≠ .none → (0 : Nat) ≠ j := fun h e => h (e ▸ I.zero)
   exact (I.wk j).byAll (fun _ _ _ _ => rfl) (fun _ _ => rfl) (Nat.le_refl _) rfl rfl rfl ⟨_,_,hat⟩ (fun h h' => relBy_hired h' (hj0 h) (fun h => e h.symm)) (fun _ => hd j) (fun fi _ h => h.mute hmu) (fun h y hy _ => hget (fun e => hj0 h e.symm) hy)
    fun fi hfi O => ⟨O.lt,O.sub,O.grp,O.ans,fun b hb hr => O.d1 b hb (hmr b hr),fun b hb => absurd hb (hmw b),O.sh,fun a ha => (O.nr a ha).app (hnr a)⟩
 ·intro b' hb'
  by_cases e1 : j = gs.size
  ·subst e1
   rw [putAt_self] at e
   cases e
   exact absurd hb' (hiw b')
  ·rw [putAt_ne _ _ e1] at e
   by_cases e2 : j' = gs.size
   ·subst e2
    rw [putAt_self] at e'
    cases e'
    exact fun hr => ((I.wk j).own e).d1 b' hb' (hir b' hr)
   ·rw [putAt_ne _ _ e2] at e'
    exact I.sep j j' fj fj' hjj e e' b' hb'
 ·have hjs : j ≠ gs.size := fun e => by rw [e,putAt_self] at hn; cases hn
  rw [putAt_ne _ _ hjs] at hn
  have hlt : j < gs.size := by
   have := (Array.getElem?_eq_some_iff.1 hy).1
   rw [hsz] at this
   omega
  rw [Array.getElem?_push_lt (by simpa using hlt),Array.getElem_setIfInBounds (by simpa using hlt),if_neg (by omega),← Array.getElem?_eq_getElem hlt] at hy
  rw [hd]
  exact I.old j y hj hy hn
 ·rw [hd]
  exact I.above j (by rw [hsz] at hj; omega)
 ·obtain ⟨_,h⟩ := old ha
  rcases I.done j a h hm with h | ⟨x,h1,h2⟩ | h
  ·exact .inl (h.app _)
  ·exact .inr (.inl ⟨x,hkeep h1,g_app h2⟩)
  ·exact .inr (.inr h)
 ·exact over_app (Q := fun x => putAt ws gs.size (.way none a w fi b) x ≠ .none) (fun j x h1 h2 h3 => (I.over j x h1 h2 h3).imp id hkeep) fun op hop => .inl (hmu op hop)
 ·obtain ⟨_,h⟩ := old ha
  obtain ⟨a1,a2⟩ := I.quiet j a h hb hk
  refine ⟨a1.app _,fun hp x hx => ?_⟩
  rcases hcase hx with rfl | hx
  ·exact kn a1
  ·exact (a2 hp x hx).app _
 ·obtain ⟨_,h⟩ := old hc
  rcases I.ftouch j c h hb with ⟨a1,a2⟩ | ⟨x,s,a1,a2,a3,a4⟩
  ·refine .inl ⟨a1.app _,fun x hx => ?_⟩
   rcases hcase hx with rfl | hx
   ·exact kn a1
   ·exact (a2 x hx).app _
  ·exact .inr ⟨x,s,hkeep a1,g_app a2,by rw [putAt_ne _ _ (hold a1)]; exact a3,a4⟩
 ·rcases hcase hj with rfl | hj'
  ·rw [putAt_self] at hs
   have : (8 : Nat) ≤ 6 := hs
   omega
  ·rw [putAt_ne _ _ (hold hj')] at hs hlt'
   obtain ⟨hlt2,h⟩ := old hc
   refine I.late j n c hj' hlt' ?_ h hs
   unfold Trace.g? at hg ⊢
   rw [getElem?_append_old hlt2] at hg
   exact hg
theorem JG.spawn {fi ft' : Foot} {a : Nat} (hrun : g.status = .running) (h4 : ft.tag % 32 = 4) (ha : a < 3) (hak : a ∉ k) (hir : ∀ b,fi.rd b → ft.rd b) (hiw : ∀ b,¬ fi.wr b) (hmr : ∀ b,ft'.rd b → ft.rd b) (hmw : ∀ b,¬ ft'.wr b) (h5 : ft'.tag + 3 = ft.tag)
  (h : ∀ w₁,RelyW ft w w₁ → ∃ g' child,stepG P true g w₁ = .spawn g' child w₁ #[] ∧ Toward P (AtDep P G a) child w₁ fi ∧ JG P W0 Post G (a :: k) g' w₁ ft') : JG P W0 Post G k g w ft :=
 JG.main hrun fun gs w₁ sl t r q ws S hrel h0 I => by
  obtain ⟨g',child,hgo,hto,hJ⟩ := h w₁ hrel
  obtain ⟨b,hto⟩ := toward_tw hto
  have hlt0 : 0 < gs.size := (Array.getElem?_eq_some_iff.1 h0).1
  refine ⟨_,_,runT_crowd_spawn (P := P) (sl := sl) (i := 0) h0 (show stepG P (0 == 0) _ w₁ = _ from hgo),?_⟩
  have e : t ++ ((MemOp.ofEvents 0 g.frame.fn g.frame.place #[]).push { g := 0,fn := g.frame.fn,pos := g.frame.place,act := .go gs.size } |>.push { g := gs.size,fn := child.frame.fn,pos := g.frame.place,act := .start }) = t ++ hired gs.size g.frame.fn g.frame.place child.frame.fn g.frame.place := by
   rw [ofEvents_eq]
   simp [hired]
  rw [e]
  refine hJ _ w₁ sl _ _ _ _ S (RelyW.refl _ _) ?_ (I.hire h4 hlt0 ha hak hir hiw hmr hmw h5 hto _ _ _ _)
  rw [Array.getElem?_push_lt (by simpa using hlt0),Array.getElem_setIfInBounds (by simpa using hlt0)]
  simp
theorem GInv.out (I : GInv P W0 G k ft gs w t r q ws S) (em : ft.tag % 32 = 11 ∨ ft.tag % 32 = 12) : AllGone ws ∧ cntW ws gs.size = 0 ∧ LowOk ws none ∧ G.at_ w 0 0 := by
 obtain ⟨st,sm,l,hat,hph,hlow⟩ := I.grp
 generalize ft.tag % 32 = x at em hph
 generalize hc : cntW ws gs.size = c at hph
 cases hph with
 | idle h _ => unfold idleX at h; omega
 | added h => omega
 | out h => exact ⟨allGone_of I hc hlow,rfl,hlow,hat⟩
 | reg h => omega
 | low h => omega
 | last => omega
 | freed => omega
theorem GInv.gone (I : GInv P W0 G k ft gs w t r q ws S) (hall : AllGone ws) (hne : ws i ≠ .none) : ∃ a n fi,ws i = .gone a n fi := by
 have h1 := hall i hne
 have hwk := I.wk i
 cases h : ws i with
 | none => exact absurd h hne
 | way d a wi fi b => rw [h] at h1; have : (8 : Nat) = 1 := h1; omega
 | sit a s m v fi =>
  rw [h] at h1 hwk
  have h2 := hwk.1
  have : s = 1 := h1
  omega
 | gone a n fi => exact ⟨a,n,fi,rfl⟩
theorem JG.acquire (hrun : g.status = .running) (em : ft.tag % 32 = 11) (h : ∀ w₁,RelyW ft w w₁ → ft.tag / 32 = G.wg → (∃ st sm,G.at_ w₁ st sm) → ∃ g',stepG P true g w₁ = .go g' w₁ #[Go.ConcR.mk (.acquire (stA G.wg))] ∧ JG P W0 Post G k g' w₁ { ft with tag := ft.tag + 1 }) : JG P W0 Post G k g w ft :=
 JG.main hrun fun gs w₁ sl t r q ws S hrel h0 I => by
  letI pl : ConcR.Payload := ⟨0⟩
  obtain ⟨hall,hc0,hlow,hat⟩ := I.out (.inl em)
  have htw := I.tagw
  have hwl := at_lt hat
  have hears : Deaf t 0 = 0 := by rw [I.hears,em]; rfl
  obtain ⟨g',hgo,hJ⟩ := h w₁ hrel htw ⟨_,_,hat⟩
  refine ⟨_,_,runT_crowd_go (P := P) (sl := sl) (i := 0) h0 (show stepG P (0 == 0) _ w₁ = _ from hgo),?_⟩
  have hev : MemOp.ofEvents 0 g.frame.fn g.frame.place #[Go.ConcR.mk (.acquire (stA G.wg))] = #[{ g := 0,fn := g.frame.fn,pos := g.frame.place,act := .mark (.acquire (stA G.wg)) }] := by
   rw [ofEvents_eq]
   simp [Go.ConcR.ofEvent_mk]
  rw [hev]
  have hmu : ∀ op ∈ (#[{ g := 0,fn := g.frame.fn,pos := g.frame.place,act := .mark (.acquire (stA G.wg)) }] : Trace),op.act.touch? = none := fun op hop => by
   simp at hop
   subst hop
   rfl
  have hg0 : ∀ op ∈ (#[{ g := 0,fn := g.frame.fn,pos := g.frame.place,act := .mark (.acquire (stA G.wg)) }] : Trace),op.g = 0 := fun op hop => by
   simp at hop
   subst hop
   rfl
  have hqu : ∀ j,∀ op ∈ (#[{ g := 0,fn := g.frame.fn,pos := g.frame.place,act := .mark (.acquire (stA G.wg)) }] : Trace),∀ d,deafStep j d op = d := fun j op hop d => by
   simp at hop
   subst hop
   rfl
  generalize hu : (#[{ g := 0,fn := g.frame.fn,pos := g.frame.place,act := .mark (.acquire (stA G.wg)) }] : Trace) = u at hmu hg0 hqu
  have eq0 : (t ++ u)[t.size]? = some { g := 0,fn := g.frame.fn,pos := g.frame.place,act := .mark (.acquire (stA G.wg)) } := by
   rw [← hu]
   simp
  have hd := fun j => Deaf_quiet (t := t) (hqu j)
  have hnr0 : ∀ a : Addr,∀ op ∈ u,op.act ≠ .mark (.release a) := fun a op hop e => by
   rw [← hu] at hop
   simp at hop
   subst hop
   cases e
  have hq' : (t ++ u).act? t.size = some (.mark (.acquire (stA G.wg))) := act?_of eq0
  have hheard : (t ++ u).heard t.size := ⟨0,g?_of eq0,by rw [deaf_old (Nat.le_refl _)]; exact hears⟩
  have old : ∀ {j : Nat} {a : Touch},touchAt (t ++ u) j = some a → j < t.size ∧ touchAt t j = some a := fun {j a} ha => by
   rcases touch_app ha with h | ⟨op,hop,_,h⟩
   ·exact h
   ·rw [hmu op hop] at h; cases h
  have og : ∀ {j x : Nat},j < t.size → (t ++ u).g? j = some x → t.g? j = some x := fun {j x} hlt h => by
   unfold Trace.g? at h ⊢
   rw [getElem?_append_old hlt] at h
   exact h
  have em' : (ft.tag + 1) % 32 = 12 := by omega
  have hsize : ((gs.map (woken P g g' w₁)).setIfInBounds 0 g').size = gs.size := by simp
  refine hJ _ w₁ sl _ r q ws S (RelyW.refl _ _) (moved_own h0) { base := I.base,lt := I.lt,sub := I.sub,nwg := I.nwg,nans := I.nans,ne := I.ne,tagw := by show (ft.tag + 1) / 32 = G.wg; omega,k3 := I.k3,few := I.few,all := I.all,inj := I.inj,in_ := fun j hj => by rw [hsize]; exact I.in_ j hj,zero := I.zero,grp := ⟨0,0,none,hat,by show Phase ((ft.tag + 1) % 32) _ _ _ _; rw [em',hsize,hc0]; exact .out (by omega),hlow⟩,hears := by show _ = deafX ((ft.tag + 1) % 32); rw [hd,em']; exact hears,wk := fun j => ?_,sep := I.sep,old := fun j z hj hz hn => ?_,above := fun j hj => ?_,clean := fun said => noRace_appendMute (I.clean said) hmu,known := I.known.mute hmu,done := fun j a ha hm => ?_,over := over_app I.over fun op hop => .inl (hmu op hop),quiet := fun j a ha hb hk => ?_,ftouch := fun j a ha hb => ?_,late := fun i' j a hi' hj hg ha hs => ?_,seen := seen_app I.seen fun op hop => ?_,shun := I.shun,norel := fun a ha => (I.norel a ha).app (hnr0 a),acq := fun _ j hj => ?_,fok := I.fok,bare := I.bare }
  ·have hj := I.wk j
   have hj0 : ws j ≠ .none → 0 ≠ j := fun h e => h (e ▸ I.zero)
   exact hj.by (j0 := 0) hj0 (fun _ _ _ _ => rfl) (fun _ _ => rfl) (Nat.le_refl _) rfl rfl rfl ⟨_,_,hat⟩ hg0 (fun _ => hd j) (fun fi _ h => h.mute hmu) (fun h y hy hs => moved_keep (hj0 h) hy hs) fun fi _ O => ⟨O.lt,O.sub,O.grp,O.ans,O.d1,O.d2,O.sh,fun a ha => (O.nr a ha).app (hnr0 a)⟩
  ·obtain ⟨z',hz',rfl⟩ := moved_get (by omega) hz
   have := I.old j z' hj hz' hn
   rw [woken_quitsD this,hd]
   exact this
  ·rw [hd]
   exact I.above j (by rw [hsize] at hj; exact hj)
  ·obtain ⟨_,h⟩ := old ha
   exact (I.done j a h hm).imp (·.app _) fun h => h.imp (fun ⟨x,h1,h2⟩ => ⟨x,h1,g_app h2⟩) id
  ·obtain ⟨_,h⟩ := old ha
   obtain ⟨a1,a2⟩ := I.quiet j a h hb hk
   exact ⟨a1.app _,fun hp i hi => (a2 hp i hi).app _⟩
  ·obtain ⟨_,h⟩ := old ha
   rcases I.ftouch j a h hb with ⟨a1,a2⟩ | ⟨x,s,a1,a2,a3⟩
   ·exact .inl ⟨a1.app _,fun x hx => (a2 x hx).app _⟩
   ·exact .inr ⟨x,s,a1,g_app a2,a3⟩
  ·obtain ⟨hlt,h⟩ := old ha
   exact I.late i' j a hi' hj (og hlt hg) h hs
  ·rw [← hu] at hop
   simp at hop
   subst hop
   exact hwl
  ·obtain ⟨a,n,fi,hg⟩ := I.gone hall hj
   have hwk := I.wk j
   rw [hg] at hwk
   have hrb := hwk.choose_spec.2.2.2.2
   exact ⟨t.size,hq',g?_of eq0,hheard,lt_of_act? hrb.act⟩
theorem JG.last (em : ft.tag % 32 = 12)
  (h : ∀ w₁ (ff : Nat → Foot),RelyW ft w w₁ → ¬ ft.rd G.wg → ¬ ft.rd G.F → G.fok w₁ → (∀ a ∈ k,G.phi a w₁ (ff a) ∧ (∀ b,(ff a).rd b → b < w₁.heap.size ∧ b ≠ G.F) ∧ (∀ b,(ff a).wr b → (ff a).rd b) ∧ ∀ b,(ff a).wr b → ¬ ft.rd b) → (∀ a,a < 3 → a ∉ k → w₁.cell? (G.cel a) = some nilS) →
   (∀ a ∈ k,∀ a' ∈ k,a ≠ a' → ∀ b,(ff a).wr b → ¬ (ff a').rd b) → (∀ b,ft.rd b → b < w₁.heap.size) →
   ∃ f' : Foot,(∀ b,f'.rd b → ft.rd b ∨ b = G.F ∨ ∃ a ∈ k,(ff a).rd b) ∧ (∀ b,f'.wr b → f'.rd b) ∧ J2 P W0 Post g w₁ f') : JG P W0 Post G k g w ft := by
 intro gs w₁ sl t r q ws S hrel h0 I
 obtain ⟨hall,hc0,hlow,hat⟩ := I.out (.inr em)
 have hwl := at_lt hat
 have hears : Deaf t 0 = 0 := by rw [I.hears,em]; rfl
 -- each cell's worker
 have hw : ∀ a : Nat,∃ fi : Foot,a ∈ k → ∃ i n,ws i = .gone a n fi := fun a => by
  by_cases ha : a ∈ k
  ·obtain ⟨i,hi⟩ := I.all a ha
   obtain ⟨a',n,fi,hg⟩ := I.gone hall (WkS.slot_ne hi)
   have : a' = a := by
    rw [hg] at hi
    exact Option.some.inj hi
   subst this
   exact ⟨fi,fun _ => ⟨i,n,hg⟩⟩
  ·exact ⟨noFoot,fun h => absurd h ha⟩
 obtain ⟨ff,hff⟩ := Classical.axiomOfChoice hw
 have hown : ∀ a ∈ k,∃ i,(ws i).foot = some (ff a) ∧ OwnF G ft (ff a) w₁ t S ∧ G.phi a w₁ (ff a) ∧ (ws i).slot = some a := fun a ha => by
  obtain ⟨i,n,hg⟩ := hff a ha
  have hwk := I.wk i
  rw [hg] at hwk
  obtain ⟨y,hy,hq,O,hphi,hrb⟩ := hwk
  exact ⟨i,by rw [hg]; rfl,O,hphi,by rw [hg]; rfl⟩
 obtain ⟨f',hfr,hfs,hJ⟩ := h w₁ ff hrel I.nwg I.nans I.fok (fun a ha => by
  obtain ⟨i,_,O,hphi,_⟩ := hown a ha
  exact ⟨hphi,fun b hb => ⟨O.lt b hb,fun e => O.ans (e ▸ hb)⟩,O.sub,O.d1⟩) (fun a ha hn => I.bare a ha fun i hi => hn (I.few i a hi)) (fun a ha a' ha' hne b => by
  obtain ⟨i,hi,_,_,hsi⟩ := hown a ha
  obtain ⟨j,hj,_,_,hsj⟩ := hown a' ha'
  refine I.sep i j _ _ (fun e => hne ?_) hi hj b
  subst e
  rw [hsi] at hsj
  exact Option.some.inj hsj) I.lt
 have hf'lt : ∀ b,f'.rd b → b < w₁.heap.size := fun b hb => by
  rcases hfr b hb with hb | rfl | ⟨a,ha,hb⟩
  ·exact I.lt b hb
  ·exact fok_lt I.fok
  ·obtain ⟨_,_,O,_⟩ := hown a ha
   exact O.lt b hb
 -- what a worker has done till its release is known
 have rel : ∀ {i},ws i ≠ .none → ∃ n,t.g? n = some 0 ∧ (∀ {j},t.g? j = some i → j ≤ r i → HappensBefore t j n) ∧ ∃ z,t[n]? = some z ∧ z.g = 0 := fun {i} hne => by
  obtain ⟨a,n,fi,hg⟩ := I.gone hall hne
  have hwk := I.wk i
  rw [hg] at hwk
  obtain ⟨y,hy,hq,O,hphi,hrb⟩ := hwk
  obtain ⟨m,hk1,hk2,hk3,hrk⟩ := I.acq em i hne
  have hnr := I.norel (stA G.wg) (.inr (.inl rfl))
  have edge : HappensBefore t (r i) m := .single (.inr ⟨.marked hrk (.inr hrb.act) hk1 (fun k _ _ => hnr k),hrb.heard,hk3⟩)
  refine ⟨m,hk2,fun {j} hgj hjr => ?_,?_⟩
  ·rcases Nat.lt_or_ge j (r i) with hlt | hge
   ·exact .trans (.single (.inl ⟨hlt,i,hgj,hrb.g⟩)) edge
   ·obtain rfl : j = r i := by omega
    exact edge
  ·unfold Trace.g? at hk2
   exact Option.map_eq_some_iff.1 hk2
 refine hJ gs w₁ sl t (fun j => match ws j with | .gone _ n _ => n | _ => q j) (fun b => S b ∨ b = G.wg) hf'lt hfs (RelyW.refl _ _) I.base h0 ⟨fun j z hj hz => ?_,I.above⟩ ⟨⟨I.clean,fun j a ha hm => ?_,fun j x hgj hne hc => ?_,hears,I.seen⟩,fun b hS => ?_,fun a ha => ?_⟩
 ·by_cases hn : ws j = .none
  ·simp only [hn]
   exact I.old j z hj hz hn
  ·obtain ⟨a,n,fi,hg⟩ := I.gone hall hn
   have hwk := I.wk j
   rw [hg] at hwk
   obtain ⟨y,hy,hq,_⟩ := hwk
   rw [hz] at hy
   cases hy
   simp only [hg]
   exact hq
 ·rcases I.done j a ha hm with h1 | ⟨i,hi,h1⟩ | ⟨⟨b,e1,e2⟩,e3⟩
  ·exact .inl h1
  ·rcases Nat.lt_or_ge (r i) j with hrj | hjr
   ·obtain ⟨e1,e2⟩ := I.late i j a hi hrj h1 ha (by rw [hall i hi]; omega)
    exact .inr ⟨⟨G.wg,e1,.inr rfl⟩,e2⟩
   ·obtain ⟨n,_,hb,z,hz,hz0⟩ := rel hi
    exact .inl ⟨n,z,hz,hz0,.inr (hb h1 hjr)⟩
  ·exact .inr ⟨⟨b,e1,.inl e2⟩,e3⟩
 ·rcases I.over j x hgj hne hc with h1 | hx
  ·exact h1
  ·obtain ⟨a,n,fi,hg⟩ := I.gone hall hx
   have hwk := I.wk x
   rw [hg] at hwk
   obtain ⟨y,hy,hq,O,hphi,hrb⟩ := hwk
   obtain ⟨m,hm0,hb,_⟩ := rel hx
   exact ⟨m,hm0,hb hgj (Nat.le_of_not_lt fun hlt' => hrb.after j hlt' hgj hc)⟩
 ·have hno : ∀ b,(S b ∨ b = G.wg) → ¬ f'.rd b := fun b hS hr => by
   rcases hfr b hr with hr | rfl | ⟨a,ha,hr⟩
   ·rcases hS with hS | rfl
    ·exact (I.shun b hS).1 hr
    ·exact I.nwg hr
   ·rcases hS with hS | e
    ·exact (I.shun _ hS).2.2.2 rfl
    ·exact I.ne e
   ·obtain ⟨_,_,O,_⟩ := hown a ha
    rcases hS with hS | rfl
    ·exact O.sh b hS hr
    ·exact O.grp hr
  refine ⟨hno b hS,?_⟩
  rcases hS with hS | rfl
  ·exact (I.shun b hS).2.1
  ·exact hwl
 ·rcases hfr _ ha with h | h | ⟨c,hc,h⟩
  ·exact I.norel a (.inl h)
  ·exact I.norel a (.inr (.inr h))
  ·obtain ⟨_,_,O,_⟩ := hown c hc
   exact O.nr a h
end
end Go.Proofs.Yteoenhhmcpipoaa
namespace Go.Proofs.Yteoenhhmcpipoaa
open Go.Conc Go.Conc.Lib Go.Proofs.Try
abbrev wgLink : WgLink := { add := 30,done := 32,wait := 36,relMerge := 44,disable := 45,enable := 46,inBubble := 47,associate := 48,fatal := 49,uOr := 50,uAdd := 51,raceRead := 52,uLoad := 53,uStore := 54,disassociate := 55,semrelease := 56,acquire := 59,isAssociated := 60,uCas := 61,raceWrite := 62,semacquire := 63,orU64 := 68,addU64 := 69,loadU64 := 70,storeU64 := 71,casU64 := 72,tWgP := 108,tUP := 110,tAssoc := 111,tWg := 82,tAU := 79,tU64 := 49,tUint := 115,tU32 := 80,tPU32 := 116,tPAU := 139,tPU64 := 141,tNoCopy := 75,tANoCopy := 76,tAlign64 := 77 }
set_option maxRecDepth 100000
theorem wgLib : WgLib prog wgLink := by
 constructor <;> first | kernel_rfl | (intro w; kernel_rfl)
end Go.Proofs.Yteoenhhmcpipoaa
namespace Go.Proofs.Yteoenhhmcpipoaa
open Go.Conc Go.ConcN Go.ConcN.Gen Go.RowKit Go.Conc.Lib Go.ConcR.Gen Go.Proofs.Try
open Go.ConcR (Bk stA smA rd wr mk KK Payload DC0 WgAt)
section
variable {P : Program} {W0 : World} {Post : Value → World → Prop} {G : Grp} {w : World} {h : List AObj} {p x : Nat}
structure GrpAt (h : List AObj) (p x : Nat) : Prop where
 here : h[p]? = some (.group x)
 one : ∀ (q z : Nat),h[q]? = some (.group z) → q = p
 lt : x < 32
theorem GrpAt.set {y : Nat} (hg : GrpAt h p x) (hy : y < 32) : GrpAt (h.set p (.group y)) p y := by
 refine ⟨by rw [List.getElem?_set_self (List.getElem?_eq_some_iff.1 hg.here).1],fun q z hq => ?_,hy⟩
 rcases set_get hq with ⟨rfl,_,_⟩ | ⟨_,hq⟩
 ·rfl
 ·exact hg.one q z hq
theorem grp_num {st sm n : Int} (hat : G.at_ w st sm) (e : st = n) : G.at_ w n sm := e ▸ hat
theorem Phase.num {x c : Nat} {l : Option (Nat × Nat)} {st sm n : Int} (h : Phase x c l st sm) (e : st = n) : Phase x c l n sm := e ▸ h
theorem Phase.at_idle {x c : Nat} {l : Option (Nat × Nat)} {st sm : Int} (h : Phase x c l st sm) (hx : idleX x) : l = none ∧ c ≤ seenX x ∧ st = (c : Int) * KK ∧ sm = 0 := by
 unfold idleX at hx
 cases h with
 | idle a b => exact ⟨rfl,b,rfl,rfl⟩
 | added a => omega
 | out a => omega
 | reg a => omega
 | low a => omega
 | last => omega
 | freed => omega
theorem Phase.at_out {x c : Nat} {l : Option (Nat × Nat)} {st sm : Int} (h : Phase x c l st sm) (hx : x = 8 ∨ (10 ≤ x ∧ x ≤ 12)) : l = none ∧ c = 0 ∧ st = 0 ∧ sm = 0 := by
 cases h with
 | idle a b => unfold idleX at a; omega
 | added a => omega
 | out a => exact ⟨rfl,rfl,rfl,rfl⟩
 | reg a => omega
 | low a => omega
 | last => omega
 | freed => omega
theorem Phase.bump {x y c : Nat} {l : Option (Nat × Nat)} {st sm : Int} (h : Phase x c l st sm) (hx : (x = 1 ∧ y = 2) ∨ (x = 3 ∧ (y = 3 ∨ y = 4)) ∨ (x = 5 ∧ y = 6) ∨ (x = 8 ∧ y = 11) ∨ (x = 10 ∧ (y = 10 ∨ y = 11)) ∨ (x = 1 ∧ y = 5) ∨ x = y) : Phase y c l st sm := by
 by_cases e : x = y
 ·exact e ▸ h
 cases h with
 | idle a b =>
  unfold idleX at a
  rcases hx with ⟨rfl,rfl⟩ | ⟨rfl,_⟩ | ⟨rfl,rfl⟩ | ⟨rfl,_⟩ | ⟨rfl,_⟩ | ⟨rfl,rfl⟩ | h
  ·exact .idle (.inr (.inl rfl)) b
  ·omega
  ·exact .idle (.inr (.inr (.inr (.inl rfl)))) b
  ·omega
  ·omega
  ·exact .idle (.inr (.inr (.inl rfl))) b
  ·exact absurd h e
 | added a => exact .added (by omega)
 | out a => exact .out (by omega)
 | reg a => omega
 | low a => omega
 | last => omega
 | freed => omega
theorem ptr_arg {ρ : Env} {o : Nat} {c : Value} {n : Nat} (hv : VRel n ρ (ptr p o) c) : c = .pointer (some ⟨ρ.blk p,o,none⟩) := by
 rcases hv with e | ⟨_,e⟩
 ·cases e
 ·rw [e]
  rfl
theorem fine_arg {ρ : Env} {v c : Value} {n : Nat} (hv : VRel n ρ v c) (h0 : VOk 0 v) (hu : v ≠ unk) : c = v := by
 rcases hv with e | ⟨_,e⟩
 ·exact absurd e hu
 ·rw [e,ren0 v h0]
theorem one_of {l : List Value} (h : l.length = 1) : l = [l.getD 0 undef] := by
 match l,h with
 | [a],_ => rfl
theorem two_of {l : List Value} (h : l.length = 2) : l = [l.getD 0 undef,l.getD 1 undef] := by
 match l,h with
 | [a,b],_ => rfl
end
section
theorem bk3_mark {wg : Nat} (m : Mark) (hm : m = .disable ∨ m = .enable) : ∀ y ∈ [(⟨.mark m,false,true⟩ : Event)],Bk3 wg y := by
 intro y hy
 simp at hy
 subst hy
 rcases hm with rfl | rfl
 ·exact .inl (.inl rfl)
 ·exact .inl (.inr (.inl rfl))
theorem bk3_read {wg : Nat} {a : Addr} (ha : a.block = wg) (m : Mark) (hm : m = .read a ∨ m = .write a) : ∀ y ∈ [(⟨.mark m,false,true⟩ : Event)],Bk3 wg y := by
 intro y hy
 simp at hy
 subst hy
 rcases hm with rfl | rfl
 ·exact .inr ⟨a,ha,.inl rfl⟩
 ·exact .inr ⟨a,ha,.inr rfl⟩
theorem bk3_cell {wg : Nat} {l : List Event} {ad : Addr} (ha : ad.block = wg) (h : ∀ y ∈ l,∃ wr,y = ⟨.cell ad,wr,true⟩) : ∀ y ∈ l,Bk3 wg y := fun y hy => by
 obtain ⟨wr,rfl⟩ := h y hy
 exact .inl (ConcN.bk_cell _ _ ha)
theorem cells1 (ad : Addr) : ∀ y ∈ [(⟨.cell ad,false,true⟩ : Event)],∃ wr,y = ⟨.cell ad,wr,true⟩ := fun y hy => ⟨false,by simpa using hy⟩
theorem cells2 (ad : Addr) : ∀ y ∈ [(⟨.cell ad,false,true⟩ : Event),⟨.cell ad,true,true⟩],∃ wr,y = ⟨.cell ad,wr,true⟩ := fun y hy => by
 simp at hy
 rcases hy with rfl | rfl
 ·exact ⟨_,rfl⟩
 ·exact ⟨_,rfl⟩
end
section
variable {P : Program} {ty : TypeId} {wg F : Nat} {v : Value}
def AtDis (P : Program) (g : Goroutine) (_w : World) : Prop := g.status = .running ∧ ∃ g' w',stepG P false g _w = .go g' w' #[mk .disable]
def AtRel0 (P : Program) (R : World → World → Prop) (wg : Nat) (g : Goroutine) (w : World) : Prop := g.status = .running ∧ ∃ g',stepG P false g w = .go g' w #[mk (.releaseMerge (stA wg))] ∧ ∃ m,Goes P false R DC0 (AtDis P) m g' w
theorem goes_clash [Payload] : ∀ (m n : Nat) (g : Goroutine) (w : World),Goes P false (RW ty wg F 0 0 0) (DWs wg noPl noPl F 0 1) (AtR0 P ty wg F 0 0 1 v) n g w → Goes P false (RW ty wg F 0 0 0) DC0 (AtDis P) m g w → False := by
 intro m
 induction m with
 | zero =>
  intro n g w A B
  obtain ⟨_,g',w',hst⟩ := B w (RW.refl w)
  rcases Goes.cases A with hs | ⟨n',rfl,hs⟩
  ·obtain ⟨_,_,g2,h2,_⟩ := hs w (RW.refl w)
   rw [hst] at h2
   simp [mk] at h2
  ·obtain ⟨g2,w2,es,h2,⟨_,hd⟩,_⟩ := hs w (RW.refl w)
   rw [hst] at h2
   cases h2
   exact (hd (mk .disable) (by simp)).2.1 rfl
 | succ m ih =>
  intro n g w A B
  rcases Goes.cases B with hb | ⟨m',e,hb⟩
  ·obtain ⟨_,g',w',hst⟩ := hb w (RW.refl w)
   rcases Goes.cases A with hs | ⟨n',rfl,hs⟩
   ·obtain ⟨_,_,g2,h2,_⟩ := hs w (RW.refl w)
    rw [hst] at h2
    simp [mk] at h2
   ·obtain ⟨g2,w2,es,h2,⟨_,hd⟩,_⟩ := hs w (RW.refl w)
    rw [hst] at h2
    cases h2
    exact (hd (mk .disable) (by simp)).2.1 rfl
  ·cases e
   obtain ⟨g',w',es,hst,⟨rfl,rfl⟩,hb'⟩ := hb w (RW.refl w)
   rcases Goes.cases A with hs | ⟨n',rfl,hs⟩
   ·obtain ⟨_,_,g2,h2,_⟩ := hs w' (RW.refl w')
    rw [hst] at h2
    simp [mk] at h2
   ·obtain ⟨g2,w2,es,h2,_,hA'⟩ := hs w' (RW.refl w')
    rw [hst] at h2
    cases h2
    exact ih n' g' w' hA' hb'
theorem goes_both {G : Grp} [pl : Payload] (hpl : pl = ⟨0⟩) : ∀ (m n : Nat) (g : Goroutine) (w : World),Goes P false (RW G.ty G.wg G.C 0 0 0) (DWs G.wg noPl noPl G.C 0 1) (AtR0 P G.ty G.wg G.C 0 0 1 v) n g w →
  Goes P false (RW G.ty G.wg G.C 0 0 0) DC0 (AtRel0 P (RW G.ty G.wg G.C 0 0 0) G.wg) m g w → Goes P false (RW G.ty G.wg G.C 0 0 0) DC0 (AtR P G v) m g w := by
 subst hpl
 letI pl : Payload := ⟨0⟩
 have tr : ∀ a b c,RW G.ty G.wg G.C 0 0 0 a b → RW G.ty G.wg G.C 0 0 0 b c → RW G.ty G.wg G.C 0 0 0 a c := fun _ _ _ h1 h2 => h1.trans h2
 have fin : ∀ (n : Nat) (g : Goroutine) (w : World),Goes P false (RW G.ty G.wg G.C 0 0 0) (DWs G.wg noPl noPl G.C 0 1) (AtR0 P G.ty G.wg G.C 0 0 1 v) n g w → AtRel0 P (RW G.ty G.wg G.C 0 0 0) G.wg g w → AtR P G v g w := by
  intro n g w A ⟨hr,g',hst,m2,hB⟩
  refine ⟨hr,g',hst,?_⟩
  rcases Goes.cases A with hs | ⟨n',rfl,hs⟩
  ·obtain ⟨_,_,g2,h2,m3,hk⟩ := hs w (RW.refl w)
   rw [hst] at h2
   cases h2
   exact ⟨m3,.k1 hk⟩
  ·obtain ⟨g2,w2,es,h2,_,hA'⟩ := hs w (RW.refl w)
   rw [hst] at h2
   cases h2
   exact (goes_clash m2 n' g' w hA' hB).elim
 intro m
 induction m with
 | zero => exact fun n g w A B => fun w₁ h₁ => fin n g w₁ (Goes.rely tr A h₁) (B w₁ h₁)
 | succ m ih =>
  intro n g w A B
  rcases B with hb | ⟨hr,hb⟩
  ·exact .inl fun w₁ h₁ => fin n g w₁ (Goes.rely tr A h₁) (hb w₁ h₁)
  ·refine .inr ⟨hr,fun w₁ h₁ => ?_⟩
   have hb1 := hb w₁ h₁
   have A1 := Goes.rely tr A h₁
   cases hgo : stepG P false g w₁ with
   | go g' w' es =>
    rw [hgo] at hb1
    simp only [goes_go] at hb1 ⊢
    obtain ⟨⟨rfl,rfl⟩,hb'⟩ := hb1
    refine ⟨⟨rfl,rfl⟩,?_⟩
    rcases Goes.cases A1 with hs | ⟨n',rfl,hs⟩
    ·obtain ⟨_,_,g2,h2,_⟩ := hs w' (RW.refl w')
     rw [hgo] at h2
     simp [mk] at h2
    ·obtain ⟨g2,w2,es,h2,_,hA'⟩ := hs w' (RW.refl w')
     rw [hgo] at h2
     cases h2
     exact ih n' g' w' hA' hb'
   | _ => rw [hgo] at hb1; exact hb1.elim
end
section
variable [Payload] {L : WgLink}
set_option maxRecDepth 100000 in
set_option maxHeartbeats 8000000 in
theorem done_rel {P : Program} (H : WgLib P L) {wg F : Nat} {val : Value} {cs : List Frame} (w : World) (hK : WgLive L.tWg wg w ∧ Has F 0 val w) :
  Goes P false (RW L.tWg wg F 0 0 0) DC0 (AtRel0 P (RW L.tWg wg F 0 0 0) wg) 23 (Go.Conc.G ((baseD L.done).at ⟨#[.pointer (some ⟨wg,0,none⟩),undef,undef,undef],[]⟩ [.code (body_done L)]) cs) w := by
 lib_facts
 simp only [body_done,doneFn,Option.getD_some]
 u_reg kn_rely hK
 u_op kn_rely hK
 u_in kn_rely hK
 refine goes_call rfl rfl (by k_ne) rfl H.f_add (nm_add L) rfl ⟨by u_nil,?_⟩
 walk_nrmf addFn
 u_c stepG_seq kn_rely hK
 u_cond true kn_rely hK
 u_c stepG_seq kn_rely hK
 u_c stepG_seq kn_rely hK
 u_reg kn_rely hK
 u_op kn_rely hK
 u_op kn_rely hK
 u_c stepG_region_end kn_rely hK
 u_cond true kn_rely hK
 u_reg kn_rely hK
 u_op kn_rely hK
 u_conv H.underlying_tWgP H.room_tWg (Go.ConcN.Gen.WgLive.cell0 hK.1).choose_spec kn_rely hK
 refine Goes.stop (fun w₁ h₁ => ?_)
 replace hK := kn_rely hK h₁
 clear h₁
 refine ⟨rfl,_,stepG_markAt .releaseMerge (by simp) rfl rfl (by k_ne) rfl H.f_relMerge (x_relMerge_n L) (x_relMerge_b L) (x_relMerge_x L) (x_relMerge_f L) (by simp [Act.eval,stA]),10,?_⟩
 walk_nrm
 u_c stepG_region_end kn_rely hK
 u_c stepG_seq kn_rely hK
 u_reg kn_rely hK
 refine Goes.stop (fun w₁ h₁ => ?_)
 exact ⟨rfl,_,_,stepG_mark0 .disable (by simp) rfl rfl (by k_ne) rfl H.f_disable (x_disable_n L) (x_disable_b L) (x_disable_x L) (x_disable_f L)⟩
end
theorem done_stop {G : Grp} (hty : G.ty = wgLink.tWg) {c : Frame} {cs : List Frame} {qt : Nat} (hcm : c.mode = .returning) (hT : QuitsD prog qt 0 (Go.Conc.G c cs)) {w : World} {fi : Foot} {v : Value} (hF : fi.rd G.C) (hv : G.has v w) :
  AtDone prog G (Go.Conc.G ((baseD wgLink.done).at ⟨#[.pointer (some ⟨G.wg,0,none⟩),undef,undef,undef],[]⟩ [.code (body_done wgLink)]) (c :: cs)) w fi := by
 letI pl : Payload := ⟨0⟩
 refine ⟨rfl,hF,v,hv,fun w₁ hat hv₁ => ⟨23,?_⟩⟩
 have hK : WgLive wgLink.tWg G.wg w₁ ∧ Has G.C 0 v w₁ := ⟨by rw [← hty]; exact hat,hv₁⟩
 have A := doneN (L := wgLink) wgLib (Own := noPl) (Rd := noPl) (n := 0) (Low := 0) (k := 1) hcm hT w₁ hK
 have B := done_rel (L := wgLink) wgLib (cs := c :: cs) w₁ hK
 rw [← hty] at A B
 exact goes_both rfl 23 23 _ w₁ A B
section
variable {P : Program} {W0 : World} {Post : Value → World → Prop} {G : Grp} {k : List Nat} {ρ : Env} {FC : Frm} {h : List AObj} {p x : Nat}
def LiveR (ty : TypeId) (wg : Nat) (w w₁ : World) : Prop := WgLive ty wg w → WgLive ty wg w₁
theorem live_rely {ty : TypeId} {wg : Nat} {w w₁ : World} (h : WgLive ty wg w) (r : LiveR ty wg w w₁) : WgLive ty wg w₁ := r h
theorem JG.goes : ∀ (n : Nat) (g : Goroutine) (w : World) (ft : Foot),WgLive G.ty G.wg w → HRel ρ h FC w ft → Goes P true (LiveR G.ty G.wg) DC0 (fun g w => ∀ ft,WgLive G.ty G.wg w → HRel ρ h FC w ft → JG P W0 Post G k g w ft) n g w → JG P W0 Post G k g w ft := by
 intro n
 induction n with
 | zero => exact fun g w ft hl H hg => hg w id ft hl H
 | succ n ih =>
  intro g w ft hl H hg
  rcases hg with hs | ⟨hr,hb⟩
  ·exact hs w id ft hl H
  ·refine JG.act hr fun w₁ c l st sm h₁ htw hnw _ hat hph => ?_
   have hl1 : WgLive G.ty G.wg w₁ := ⟨st,sm,hat⟩
   have hb1 := hb w₁ fun _ => hl1
   cases hgo : stepG P true g w₁ with
   | go g' w' es =>
    rw [hgo] at hb1
    simp only [goes_go] at hb1
    obtain ⟨⟨rfl,rfl⟩,hb'⟩ := hb1
    refine ⟨g',w',#[],st,sm,ft.tag % 32,rfl,.refl _ _,hat,by simp,⟨Nat.mod_lt _ (by omega),id⟩,rfl,hph,?_⟩
    have e : ft.tag % 32 + 32 * G.wg = ft.tag := by omega
    rw [e]
    exact ih g' w' ft hl1 (H.rely h₁) hb'
   | _ => rw [hgo] at hb1; exact hb1.elim
theorem JG.there {g : Goroutine} {w : World} {ft : Foot} (hh : ∀ w₁,RelyW ft w w₁ → ft.tag / 32 = G.wg → WgLive G.ty G.wg w₁ → JG P W0 Post G k g w₁ ft) : JG P W0 Post G k g w ft := by
 intro gs w₁ sl t r q ws S hrel h0 I
 obtain ⟨st,sm,l,hat,_⟩ := I.grp
 exact hh w₁ hrel I.tagw ⟨st,sm,hat⟩ gs w₁ sl t r q ws S (RelyW.refl _ _) h0 I
theorem JG.act_at (hg : GrpAt h p x) {g : Goroutine} {w : World} {ft : Foot} (H : HRel ρ h FC w ft) (hrun : g.status = .running)
  (hs : ∀ w₁ c l st sm,ρ.blk p = G.wg → c ≤ 3 → G.at_ w₁ st sm → Phase x c l st sm → ∃ (g' : Goroutine) (w' : World) (es : Array Event) (st' sm' : Int) (x' : Nat),stepG P true g w₁ = .go g' w' es ∧ Aside G.wg w₁ w' ∧ G.at_ w' st' sm' ∧ (∀ e ∈ es,Bk3 G.wg e) ∧ (x' < 32 ∧ (x' = 12 → x = 12)) ∧ deafBehind (deafX x) es = deafX x' ∧ Phase x' c l st' sm' ∧
   ∀ ft',WgLive G.ty G.wg w' → HRel ρ (h.set p (.group x')) FC w' ft' → JG P W0 Post G k g' w' ft') : JG P W0 Post G k g w ft := by
 refine JG.act hrun fun w₁ c l st sm h₁ htw hnw hc3 hat hph => ?_
 have htag := H.tag p x hg.here
 have hlt := hg.lt
 have e1 : ft.tag % 32 = x := by omega
 have e2 : ρ.blk p = G.wg := by omega
 rw [e1] at hph
 obtain ⟨g',w',es,st',sm',x',hgo,A,hat',hbk,hx,hd,hph',hJ⟩ := hs w₁ c l st sm e2 hc3 hat hph
 refine ⟨g',w',es,st',sm',x',hgo,A,hat',hbk,⟨hx.1,fun e => e1.trans (hx.2 e)⟩,by rw [e1]; exact hd,hph',hJ _ ⟨st',sm',hat'⟩ ?_⟩
 have H2 := (H.rely h₁).tell hg.here (y := x') hg.one
 rw [e2] at H2
 exact H2.rely ⟨fun b hb => A.block b fun e => hnw (e ▸ hb),Nat.le_of_eq A.size.symm,A.tape,A.os,A.output⟩
theorem bk3_markA {wg : Nat} (m : Mark) (hm : m = .disable ∨ m = .enable) : ∀ y ∈ #[(⟨.mark m,false,true⟩ : Event)],Bk3 wg y := fun y hy => bk3_mark m hm y (by simpa using hy)
theorem bk3_saidA {wg : Nat} (m : Mark) (hm : m = .read ⟨wg,1,none⟩ ∨ m = .write ⟨wg,1,none⟩) : ∀ y ∈ #[(⟨.mark m,false,true⟩ : Event)],Bk3 wg y := fun y hy => bk3_read (a := ⟨wg,1,none⟩) rfl m hm y (by simpa using hy)
theorem bk3_rwA (wg : Nat) : ∀ y ∈ #[(⟨.cell (stA wg),false,true⟩ : Event),⟨.cell (stA wg),true,true⟩],Bk3 wg y := fun y hy => bk3_cell (ad := stA wg) rfl (cells2 (stA wg)) y (by simpa using hy)
theorem bk3_rA (wg : Nat) : ∀ y ∈ #[(⟨.cell (stA wg),false,true⟩ : Event)],Bk3 wg y := fun y hy => bk3_cell (ad := stA wg) rfl (cells1 (stA wg)) y (by simpa using hy)
set_option maxRecDepth 100000 in
set_option maxHeartbeats 16000000 in
theorem add_walk {L : WgLink} (H : WgLib P L) (hty : G.ty = L.tWg) (hg : GrpAt h p 1) {w : World} {ft : Foot} (HR : HRel ρ h FC w ft) {c : Frame} {cs : List Frame} (hF : WgLive G.ty G.wg w)
  (hc : ∀ w' ft',HRel ρ (h.set p (.group 4)) FC w' ft' → JG P W0 Post G k (Go.Conc.G (c.finish (.tuple #[])) cs) w' ft') :
  JG P W0 Post G k (Go.Conc.G ((base L.add).at ⟨#[.pointer (some ⟨G.wg,0,none⟩),.int .i64 1] ++ Array.replicate 115 undef,[]⟩ [.code (Go.ConcR.Gen.body_add L)]) (c :: cs)) w ft := by
 letI pl : Payload := ⟨0⟩
 have er : (#[.pointer (some ⟨G.wg,0,none⟩),.int .i64 1] ++ Array.replicate 115 undef : Array Value) = #[.pointer (some ⟨G.wg,0,none⟩),.int .i64 1,undef,undef,undef,undef,undef,undef,undef,undef,undef,undef,undef,undef,undef,undef,undef,undef,undef,undef,undef,undef,undef,undef,undef,undef,undef,undef,undef,undef,undef,undef,undef,undef,undef,undef,undef,undef,undef,undef,undef,undef,undef,undef,undef,undef,undef,undef,undef,undef,undef,undef,undef,undef,undef,undef,undef,undef,undef,undef,undef,undef,undef,undef,undef,undef,undef,undef,undef,undef,undef,undef,undef,undef,undef,undef,undef,undef,undef,undef,undef,undef,undef,undef,undef,undef,undef,undef,undef,undef,undef,undef,undef,undef,undef,undef,undef,undef,undef,undef,undef,undef,undef,undef,undef,undef,undef,undef,undef,undef,undef,undef,undef,undef,undef,undef,undef] := by kernel_rfl
 rw [er]
 clear er
 refine JG.goes 100 _ _ ft hF HR ?_
 rw [hty] at *
 lib_facts
 simp only [Go.ConcR.Gen.body_add,addFn,Option.getD_some]
 u_c stepG_seq live_rely hF
 u_cond true live_rely hF
 u_c stepG_seq live_rely hF
 u_c stepG_seq live_rely hF
 u_reg live_rely hF
 u_op live_rely hF
 u_op live_rely hF
 u_c stepG_region_end live_rely hF
 u_cond false live_rely hF
 u_c stepG_skip live_rely hF
 u_c stepG_seq live_rely hF
 u_reg live_rely hF
 refine Goes.stop (fun w₁ _ ft hl HR => ?_)
 refine JG.act_at hg HR rfl fun w₂ cn l st sm hb hc3 hat hph => ⟨_,w₂,_,st,sm,2,stepG_mark0 .disable (by simp) rfl rfl (by k_ne) rfl H.f_disable (x_disable_n L) (x_disable_b L) (x_disable_x L) (x_disable_f L),.refl _ _,hat,bk3_markA _ (.inl rfl),⟨by omega,fun e => by omega⟩,by simp [deafBehind,deafX],hph.bump (by omega),fun ft hF HR => ?_⟩
 have hg2 := hg.set (y := 2) (by omega)
 refine JG.goes 100 _ _ ft hF HR ?_
 walk_nrm
 u_c stepG_region_end live_rely hF
 u_reg live_rely hF
 u_defer live_rely hF
 u_c stepG_region_end live_rely hF
 u_c stepG_seq live_rely hF
 u_reg live_rely hF
 u_op live_rely hF
 u_c stepG_region_end live_rely hF
 u_c stepG_seq live_rely hF
 u_c stepG_seq live_rely hF
 u_reg live_rely hF
 u_bub live_rely hF
 u_c stepG_region_end live_rely hF
 u_cond false live_rely hF
 u_c stepG_skip live_rely hF
 u_c stepG_seq live_rely hF
 u_reg live_rely hF
 u_op live_rely hF
 u_op live_rely hF
 u_op live_rely hF
 u_op live_rely hF
 u_op live_rely hF
 u_op live_rely hF
 u_call H.f_uAdd (nm_uAdd L) uAddFn live_rely hF
 u_c stepG_seq live_rely hF
 u_reg live_rely hF
 u_op live_rely hF
 u_c stepG_region_end live_rely hF
 u_c stepG_seq live_rely hF
 u_reg live_rely hF
 u_op live_rely hF
 u_op live_rely hF
 u_op live_rely hF
 u_op live_rely hF
 refine Goes.stop (fun w₁ _ ft hl HR => ?_)
 clear hF
 refine JG.act_at hg2 HR rfl fun w₂ cn l st sm hb hc3 hat hph => ?_
 obtain ⟨rfl,h3,rfl,rfl⟩ := hph.at_idle (.inr (.inl rfl))
 rcases (by omega : cn = 0 ∨ cn = 1 ∨ cn = 2 ∨ cn = 3) with rfl | rfl | rfl | rfl
 ·replace hat := grp_num (n := 0) hat (by decide)
  have e0 : IntKind.u64.wrap (0 + 4294967296) = 4294967296 := by decide
  refine ⟨_,w₂.setCell (stA G.wg) (.int .u64 4294967296),_,4294967296,0,3,(stepG_add_atomic rfl rfl (by k_ne) rfl H.f_addU64 (x_addU64_n L) (x_addU64_b L) (x_addU64_x L) .u64 (x_addU64_f L) rfl rfl (Go.ConcR.WgAt.cellSt hat) (Go.ConcR.WgAt.thaw hat 0)).trans (by rw [e0]),aside_setCell w₂ (stA G.wg) _,Go.ConcR.WgAt.setSt hat _,bk3_rwA _,⟨by omega,fun e => by omega⟩,by simp [deafBehind,deafX],(Phase.added (c := 0) (.inl rfl)).num (by decide),fun ft hF HR => ?_⟩
  have hg3 := hg2.set (y := 3) (by omega)
  refine JG.goes 200 _ _ ft hF HR ?_
  walk_nrm
  u_op live_rely hF
  u_c stepG_region_end live_rely hF
  u_c stepG_ret' live_rely hF
  u_leave1 H.f_uAdd live_rely hF
  u_op live_rely hF
  u_c stepG_region_end live_rely hF
  u_c stepG_seq live_rely hF
  u_c stepG_seq live_rely hF
  u_reg live_rely hF
  u_op live_rely hF
  u_op live_rely hF
  u_op live_rely hF
  u_op live_rely hF
  u_skip live_rely hF
  u_skip live_rely hF
  u_op live_rely hF
  u_c stepG_region_end live_rely hF
  u_cond false live_rely hF
  u_c stepG_skip live_rely hF
  u_c stepG_seq live_rely hF
  u_reg live_rely hF
  u_op live_rely hF
  u_op live_rely hF
  u_op live_rely hF
  u_op live_rely hF
  u_c stepG_region_end live_rely hF
  u_c stepG_seq live_rely hF
  u_reg live_rely hF
  u_op live_rely hF
  u_op live_rely hF
  u_op live_rely hF
  u_op live_rely hF
  u_c stepG_region_end live_rely hF
  u_c stepG_seq live_rely hF
  u_c stepG_seq live_rely hF
  u_reg live_rely hF
  u_op live_rely hF
  u_op live_rely hF
  u_op live_rely hF
  u_op live_rely hF
  u_op live_rely hF
  u_op live_rely hF
  u_op live_rely hF
  u_op live_rely hF
  u_op live_rely hF
  u_op live_rely hF
  u_c stepG_region_end live_rely hF
  u_cond true live_rely hF
  u_reg live_rely hF
  u_op live_rely hF
  u_op live_rely hF
  u_op live_rely hF
  u_conv H.underlying_tPU32 H.room_tU32 (Go.ConcN.Gen.WgLive.cell1 hF).choose_spec live_rely hF
  refine Goes.stop (fun w₁ _ ft hl HR => ?_)
  clear hF
  refine JG.act_at hg3 HR rfl fun w₂ cn l st sm hb hc3 hat hph => ⟨_,w₂,_,st,sm,3,stepG_markAt .read (by simp) rfl rfl (by k_ne) rfl H.f_raceRead (x_raceRead_n L) (x_raceRead_b L) (x_raceRead_x L) (x_raceRead_f L) (ad := ⟨G.wg,1,none⟩) (by simp [Act.eval]),.refl _ _,hat,bk3_saidA _ (.inl rfl),⟨by omega,fun e => by omega⟩,by simp [deafBehind,deafX],hph,fun ft hF HR => ?_⟩
  have hg4 := hg3.set (y := 3) (by omega)
  refine JG.goes 200 _ _ ft hF HR ?_
  walk_nrm
  u_c stepG_region_end live_rely hF
  u_c stepG_seq live_rely hF
  u_c stepG_seq live_rely hF
  u_reg live_rely hF
  u_op live_rely hF
  u_op live_rely hF
  u_c stepG_region_end live_rely hF
  u_cond false live_rely hF
  u_c stepG_skip live_rely hF
  u_c stepG_seq live_rely hF
  u_c stepG_seq live_rely hF
  u_reg live_rely hF
  u_op live_rely hF
  u_op live_rely hF
  u_op live_rely hF
  u_skip live_rely hF
  u_skip live_rely hF
  u_op live_rely hF
  u_op live_rely hF
  u_skip live_rely hF
  u_skip live_rely hF
  u_skip live_rely hF
  u_skip live_rely hF
  u_op live_rely hF
  u_c stepG_region_end live_rely hF
  u_cond false live_rely hF
  u_c stepG_skip live_rely hF
  u_c stepG_seq live_rely hF
  u_c stepG_seq live_rely hF
  u_reg live_rely hF
  u_op live_rely hF
  u_op live_rely hF
  u_op live_rely hF
  u_skip live_rely hF
  u_skip live_rely hF
  u_op live_rely hF
  u_c stepG_region_end live_rely hF
  u_cond true live_rely hF
  u_c stepG_ret' live_rely hF
  refine Goes.stop (fun w₁ _ ft hl HR => ?_)
  clear hF
  refine JG.act_at hg4 HR rfl fun w₂ cn l st sm hb hc3 hat hph => ⟨_,w₂,_,st,sm,4,stepG_unwind_entry (v := .tuple #[]) (evs := #[mk .enable]) rfl H.f_enable (x_enable_n L) (x_enable_b L) (x_enable_x L) (x_enable_f L) (by simp [Extern.Race.none_]) (by simp [mk]) (by simp [mk]),.refl _ _,hat,bk3_markA _ (.inr rfl),⟨by omega,fun e => by omega⟩,by simp [deafBehind,deafX,mk],hph.bump (by omega),fun ft hF HR => ?_⟩
  refine (JG.closed P W0 Post G k).ctrl rfl rfl (fun w => stepG_leave rfl rfl H.f_add (v := .tuple #[]) (by simp [results,addFn]) (by simp [results,addFn])) ?_
  refine hc _ _ ?_
  simpa [List.set_set] using HR
 ·replace hat := grp_num (n := 4294967296) hat (by decide)
  have e0 : IntKind.u64.wrap (4294967296 + 4294967296) = 8589934592 := by decide
  refine ⟨_,w₂.setCell (stA G.wg) (.int .u64 8589934592),_,8589934592,0,3,(stepG_add_atomic rfl rfl (by k_ne) rfl H.f_addU64 (x_addU64_n L) (x_addU64_b L) (x_addU64_x L) .u64 (x_addU64_f L) rfl rfl (Go.ConcR.WgAt.cellSt hat) (Go.ConcR.WgAt.thaw hat 0)).trans (by rw [e0]),aside_setCell w₂ (stA G.wg) _,Go.ConcR.WgAt.setSt hat _,bk3_rwA _,⟨by omega,fun e => by omega⟩,by simp [deafBehind,deafX],(Phase.added (c := 1) (.inl rfl)).num (by decide),fun ft hF HR => ?_⟩
  have bbA : bits .and .u64 8589934592 2147483648 = 0 := by decide
  have bbB : bits .and .u64 8589934592 2147483647 = 0 := by decide
  have hg3 := hg2.set (y := 3) (by omega)
  refine JG.goes 200 _ _ ft hF HR ?_
  walk_nrm
  u_op live_rely hF
  u_c stepG_region_end live_rely hF
  u_c stepG_ret' live_rely hF
  u_leave1 H.f_uAdd live_rely hF
  u_op live_rely hF
  u_c stepG_region_end live_rely hF
  u_c stepG_seq live_rely hF
  u_c stepG_seq live_rely hF
  u_reg live_rely hF
  u_op live_rely hF
  u_op live_rely hF
  u_op live_rely hF
  u_op live_rely hF
  u_skip live_rely hF
  u_skip live_rely hF
  u_op live_rely hF
  u_c stepG_region_end live_rely hF
  u_cond false live_rely hF
  u_c stepG_skip live_rely hF
  u_c stepG_seq live_rely hF
  u_reg live_rely hF
  u_op live_rely hF
  u_op live_rely hF
  u_op live_rely hF
  u_op live_rely hF
  u_c stepG_region_end live_rely hF
  u_c stepG_seq live_rely hF
  u_reg live_rely hF
  u_op live_rely hF
  u_op live_rely hF
  u_op live_rely hF
  u_op live_rely hF
  u_c stepG_region_end live_rely hF
  u_c stepG_seq live_rely hF
  u_c stepG_seq live_rely hF
  u_reg live_rely hF
  u_op live_rely hF
  u_op live_rely hF
  u_op live_rely hF
  u_op live_rely hF
  u_op live_rely hF
  u_op live_rely hF
  u_op live_rely hF
  u_op live_rely hF
  u_op live_rely hF
  u_op live_rely hF
  u_c stepG_region_end live_rely hF
  u_cond false live_rely hF
  u_c stepG_skip live_rely hF
  u_c stepG_seq live_rely hF
  u_c stepG_seq live_rely hF
  u_reg live_rely hF
  u_op live_rely hF
  u_op live_rely hF
  u_c stepG_region_end live_rely hF
  u_cond false live_rely hF
  u_c stepG_skip live_rely hF
  u_c stepG_seq live_rely hF
  u_c stepG_seq live_rely hF
  u_reg live_rely hF
  u_op live_rely hF
  u_op live_rely hF
  u_op live_rely hF
  u_skip live_rely hF
  u_skip live_rely hF
  u_op live_rely hF
  u_op live_rely hF
  u_skip live_rely hF
  u_skip live_rely hF
  u_skip live_rely hF
  u_skip live_rely hF
  u_op live_rely hF
  u_c stepG_region_end live_rely hF
  u_cond false live_rely hF
  u_c stepG_skip live_rely hF
  u_c stepG_seq live_rely hF
  u_c stepG_seq live_rely hF
  u_reg live_rely hF
  u_op live_rely hF
  u_op live_rely hF
  u_op live_rely hF
  u_skip live_rely hF
  u_skip live_rely hF
  u_op live_rely hF
  u_c stepG_region_end live_rely hF
  u_cond true live_rely hF
  u_c stepG_ret' live_rely hF
  refine Goes.stop (fun w₁ _ ft hl HR => ?_)
  clear hF
  refine JG.act_at hg3 HR rfl fun w₂ cn l st sm hb hc3 hat hph => ⟨_,w₂,_,st,sm,4,stepG_unwind_entry (v := .tuple #[]) (evs := #[mk .enable]) rfl H.f_enable (x_enable_n L) (x_enable_b L) (x_enable_x L) (x_enable_f L) (by simp [Extern.Race.none_]) (by simp [mk]) (by simp [mk]),.refl _ _,hat,bk3_markA _ (.inr rfl),⟨by omega,fun e => by omega⟩,by simp [deafBehind,deafX,mk],hph.bump (by omega),fun ft hF HR => ?_⟩
  refine (JG.closed P W0 Post G k).ctrl rfl rfl (fun w => stepG_leave rfl rfl H.f_add (v := .tuple #[]) (by simp [results,addFn]) (by simp [results,addFn])) ?_
  refine hc _ _ ?_
  simpa [List.set_set] using HR
 ·replace hat := grp_num (n := 8589934592) hat (by decide)
  have e0 : IntKind.u64.wrap (8589934592 + 4294967296) = 12884901888 := by decide
  refine ⟨_,w₂.setCell (stA G.wg) (.int .u64 12884901888),_,12884901888,0,3,(stepG_add_atomic rfl rfl (by k_ne) rfl H.f_addU64 (x_addU64_n L) (x_addU64_b L) (x_addU64_x L) .u64 (x_addU64_f L) rfl rfl (Go.ConcR.WgAt.cellSt hat) (Go.ConcR.WgAt.thaw hat 0)).trans (by rw [e0]),aside_setCell w₂ (stA G.wg) _,Go.ConcR.WgAt.setSt hat _,bk3_rwA _,⟨by omega,fun e => by omega⟩,by simp [deafBehind,deafX],(Phase.added (c := 2) (.inl rfl)).num (by decide),fun ft hF HR => ?_⟩
  have bbA : bits .and .u64 12884901888 2147483648 = 0 := by decide
  have bbB : bits .and .u64 12884901888 2147483647 = 0 := by decide
  have hg3 := hg2.set (y := 3) (by omega)
  refine JG.goes 200 _ _ ft hF HR ?_
  walk_nrm
  u_op live_rely hF
  u_c stepG_region_end live_rely hF
  u_c stepG_ret' live_rely hF
  u_leave1 H.f_uAdd live_rely hF
  u_op live_rely hF
  u_c stepG_region_end live_rely hF
  u_c stepG_seq live_rely hF
  u_c stepG_seq live_rely hF
  u_reg live_rely hF
  u_op live_rely hF
  u_op live_rely hF
  u_op live_rely hF
  u_op live_rely hF
  u_skip live_rely hF
  u_skip live_rely hF
  u_op live_rely hF
  u_c stepG_region_end live_rely hF
  u_cond false live_rely hF
  u_c stepG_skip live_rely hF
  u_c stepG_seq live_rely hF
  u_reg live_rely hF
  u_op live_rely hF
  u_op live_rely hF
  u_op live_rely hF
  u_op live_rely hF
  u_c stepG_region_end live_rely hF
  u_c stepG_seq live_rely hF
  u_reg live_rely hF
  u_op live_rely hF
  u_op live_rely hF
  u_op live_rely hF
  u_op live_rely hF
  u_c stepG_region_end live_rely hF
  u_c stepG_seq live_rely hF
  u_c stepG_seq live_rely hF
  u_reg live_rely hF
  u_op live_rely hF
  u_op live_rely hF
  u_op live_rely hF
  u_op live_rely hF
  u_op live_rely hF
  u_op live_rely hF
  u_op live_rely hF
  u_op live_rely hF
  u_op live_rely hF
  u_op live_rely hF
  u_c stepG_region_end live_rely hF
  u_cond false live_rely hF
  u_c stepG_skip live_rely hF
  u_c stepG_seq live_rely hF
  u_c stepG_seq live_rely hF
  u_reg live_rely hF
  u_op live_rely hF
  u_op live_rely hF
  u_c stepG_region_end live_rely hF
  u_cond false live_rely hF
  u_c stepG_skip live_rely hF
  u_c stepG_seq live_rely hF
  u_c stepG_seq live_rely hF
  u_reg live_rely hF
  u_op live_rely hF
  u_op live_rely hF
  u_op live_rely hF
  u_skip live_rely hF
  u_skip live_rely hF
  u_op live_rely hF
  u_op live_rely hF
  u_skip live_rely hF
  u_skip live_rely hF
  u_skip live_rely hF
  u_skip live_rely hF
  u_op live_rely hF
  u_c stepG_region_end live_rely hF
  u_cond false live_rely hF
  u_c stepG_skip live_rely hF
  u_c stepG_seq live_rely hF
  u_c stepG_seq live_rely hF
  u_reg live_rely hF
  u_op live_rely hF
  u_op live_rely hF
  u_op live_rely hF
  u_skip live_rely hF
  u_skip live_rely hF
  u_op live_rely hF
  u_c stepG_region_end live_rely hF
  u_cond true live_rely hF
  u_c stepG_ret' live_rely hF
  refine Goes.stop (fun w₁ _ ft hl HR => ?_)
  clear hF
  refine JG.act_at hg3 HR rfl fun w₂ cn l st sm hb hc3 hat hph => ⟨_,w₂,_,st,sm,4,stepG_unwind_entry (v := .tuple #[]) (evs := #[mk .enable]) rfl H.f_enable (x_enable_n L) (x_enable_b L) (x_enable_x L) (x_enable_f L) (by simp [Extern.Race.none_]) (by simp [mk]) (by simp [mk]),.refl _ _,hat,bk3_markA _ (.inr rfl),⟨by omega,fun e => by omega⟩,by simp [deafBehind,deafX,mk],hph.bump (by omega),fun ft hF HR => ?_⟩
  refine (JG.closed P W0 Post G k).ctrl rfl rfl (fun w => stepG_leave rfl rfl H.f_add (v := .tuple #[]) (by simp [results,addFn]) (by simp [results,addFn])) ?_
  refine hc _ _ ?_
  simpa [List.set_set] using HR
 ·replace hat := grp_num (n := 12884901888) hat (by decide)
  have e0 : IntKind.u64.wrap (12884901888 + 4294967296) = 17179869184 := by decide
  refine ⟨_,w₂.setCell (stA G.wg) (.int .u64 17179869184),_,17179869184,0,3,(stepG_add_atomic rfl rfl (by k_ne) rfl H.f_addU64 (x_addU64_n L) (x_addU64_b L) (x_addU64_x L) .u64 (x_addU64_f L) rfl rfl (Go.ConcR.WgAt.cellSt hat) (Go.ConcR.WgAt.thaw hat 0)).trans (by rw [e0]),aside_setCell w₂ (stA G.wg) _,Go.ConcR.WgAt.setSt hat _,bk3_rwA _,⟨by omega,fun e => by omega⟩,by simp [deafBehind,deafX],(Phase.added (c := 3) (.inl rfl)).num (by decide),fun ft hF HR => ?_⟩
  have bbA : bits .and .u64 17179869184 2147483648 = 0 := by decide
  have bbB : bits .and .u64 17179869184 2147483647 = 0 := by decide
  have hg3 := hg2.set (y := 3) (by omega)
  refine JG.goes 200 _ _ ft hF HR ?_
  walk_nrm
  u_op live_rely hF
  u_c stepG_region_end live_rely hF
  u_c stepG_ret' live_rely hF
  u_leave1 H.f_uAdd live_rely hF
  u_op live_rely hF
  u_c stepG_region_end live_rely hF
  u_c stepG_seq live_rely hF
  u_c stepG_seq live_rely hF
  u_reg live_rely hF
  u_op live_rely hF
  u_op live_rely hF
  u_op live_rely hF
  u_op live_rely hF
  u_skip live_rely hF
  u_skip live_rely hF
  u_op live_rely hF
  u_c stepG_region_end live_rely hF
  u_cond false live_rely hF
  u_c stepG_skip live_rely hF
  u_c stepG_seq live_rely hF
  u_reg live_rely hF
  u_op live_rely hF
  u_op live_rely hF
  u_op live_rely hF
  u_op live_rely hF
  u_c stepG_region_end live_rely hF
  u_c stepG_seq live_rely hF
  u_reg live_rely hF
  u_op live_rely hF
  u_op live_rely hF
  u_op live_rely hF
  u_op live_rely hF
  u_c stepG_region_end live_rely hF
  u_c stepG_seq live_rely hF
  u_c stepG_seq live_rely hF
  u_reg live_rely hF
  u_op live_rely hF
  u_op live_rely hF
  u_op live_rely hF
  u_op live_rely hF
  u_op live_rely hF
  u_op live_rely hF
  u_op live_rely hF
  u_op live_rely hF
  u_op live_rely hF
  u_op live_rely hF
  u_c stepG_region_end live_rely hF
  u_cond false live_rely hF
  u_c stepG_skip live_rely hF
  u_c stepG_seq live_rely hF
  u_c stepG_seq live_rely hF
  u_reg live_rely hF
  u_op live_rely hF
  u_op live_rely hF
  u_c stepG_region_end live_rely hF
  u_cond false live_rely hF
  u_c stepG_skip live_rely hF
  u_c stepG_seq live_rely hF
  u_c stepG_seq live_rely hF
  u_reg live_rely hF
  u_op live_rely hF
  u_op live_rely hF
  u_op live_rely hF
  u_skip live_rely hF
  u_skip live_rely hF
  u_op live_rely hF
  u_op live_rely hF
  u_skip live_rely hF
  u_skip live_rely hF
  u_skip live_rely hF
  u_skip live_rely hF
  u_op live_rely hF
  u_c stepG_region_end live_rely hF
  u_cond false live_rely hF
  u_c stepG_skip live_rely hF
  u_c stepG_seq live_rely hF
  u_c stepG_seq live_rely hF
  u_reg live_rely hF
  u_op live_rely hF
  u_op live_rely hF
  u_op live_rely hF
  u_skip live_rely hF
  u_skip live_rely hF
  u_op live_rely hF
  u_c stepG_region_end live_rely hF
  u_cond true live_rely hF
  u_c stepG_ret' live_rely hF
  refine Goes.stop (fun w₁ _ ft hl HR => ?_)
  clear hF
  refine JG.act_at hg3 HR rfl fun w₂ cn l st sm hb hc3 hat hph => ⟨_,w₂,_,st,sm,4,stepG_unwind_entry (v := .tuple #[]) (evs := #[mk .enable]) rfl H.f_enable (x_enable_n L) (x_enable_b L) (x_enable_x L) (x_enable_f L) (by simp [Extern.Race.none_]) (by simp [mk]) (by simp [mk]),.refl _ _,hat,bk3_markA _ (.inr rfl),⟨by omega,fun e => by omega⟩,by simp [deafBehind,deafX,mk],hph.bump (by omega),fun ft hF HR => ?_⟩
  refine (JG.closed P W0 Post G k).ctrl rfl rfl (fun w => stepG_leave rfl rfl H.f_add (v := .tuple #[]) (by simp [results,addFn]) (by simp [results,addFn])) ?_
  refine hc _ _ ?_
  simpa [List.set_set] using HR
end
section
variable {P : Program} {W0 : World} {Post : Value → World → Prop} {G : Grp} {k : List Nat} {ρ : Env} {FC : Frm} {h : List AObj} {p x : Nat}
theorem kk_val : KK = 4294967296 := rfl
theorem JG.acq_at (hg : GrpAt h p 11) {g : Goroutine} {w : World} {ft : Foot} (H : HRel ρ h FC w ft) (hrun : g.status = .running)
  (hs : ∀ w₁,ρ.blk p = G.wg → ∃ g',stepG P true g w₁ = .go g' w₁ #[Go.ConcR.mk (.acquire (stA G.wg))] ∧ ∀ ft',WgLive G.ty G.wg w₁ → HRel ρ (h.set p (.group 12)) FC w₁ ft' → JG P W0 Post G k g' w₁ ft') : JG P W0 Post G k g w ft := by
 have htag := H.tag p 11 hg.here
 refine JG.acquire hrun (by omega) fun w₁ h₁ htw hlv => ?_
 have e2 : ρ.blk p = G.wg := by omega
 obtain ⟨g',hgo,hJ⟩ := hs w₁ e2
 have H2 := (H.rely h₁).tell hg.here (y := 12) hg.one
 have e3 : ft.tag + 1 = 12 + 32 * ρ.blk p := by omega
 rw [e3]
 exact ⟨g',hgo,hJ _ hlv H2⟩
theorem JG.sem_at (hg : GrpAt h p 9) {g : Goroutine} {w : World} {ft : Foot} (H : HRel ρ h FC w ft) (hrun : g.status = .running) (hoff : g.offers = none)
  (hwait : ∀ w₁ st,ρ.blk p = G.wg → G.at_ w₁ st 0 → stepG P true g w₁ = .go { g with status := .blocked } w₁ #[])
  (hgo : ∀ w₁,ρ.blk p = G.wg → G.at_ w₁ 0 1 → ∃ g',stepG P true g w₁ = .go g' (w₁.setCell (smA G.wg) (.int .u32 0)) (semEvents (smA G.wg)) ∧ ∀ ft',WgLive G.ty G.wg (w₁.setCell (smA G.wg) (.int .u32 0)) → HRel ρ (h.set p (.group 10)) FC (w₁.setCell (smA G.wg) (.int .u32 0)) ft' → JG P W0 Post G k g' (w₁.setCell (smA G.wg) (.int .u32 0)) ft') : JG P W0 Post G k g w ft := by
 have htag := H.tag p 9 hg.here
 refine JG.sema hrun hoff (by omega) (fun w₁ st h₁ htw hat => hwait w₁ st (by omega) hat) fun w₁ h₁ htw hnw hat => ?_
 have hb : ρ.blk p = G.wg := by omega
 obtain ⟨g',h1,hJ⟩ := hgo w₁ hb hat
 refine ⟨g',h1,hJ _ ⟨0,0,Go.ConcR.WgAt.setSm hat 0⟩ ?_⟩
 have A := aside_setCell w₁ (smA G.wg) (.int .u32 0)
 have H2 := (H.rely h₁).tell hg.here (y := 10) hg.one
 rw [hb] at H2
 refine H2.rely ⟨fun b hb' => A.block b fun e => hnw ?_,Nat.le_of_eq A.size.symm,A.tape,A.os,A.output⟩
 rw [e] at hb'
 exact hb'
set_option maxRecDepth 100000 in
set_option maxHeartbeats 32000000 in
theorem wait_walk {L : WgLink} (H : WgLib P L) (hty : G.ty = L.tWg) (hg : GrpAt h p 5) {w : World} {ft : Foot} (HR : HRel ρ h FC w ft) {c : Frame} {cs : List Frame} (hF : WgLive G.ty G.wg w)
  (hc : ∀ w' ft',HRel ρ (h.set p (.group 12)) FC w' ft' → JG P W0 Post G k (Go.Conc.G (c.finish (.tuple #[])) cs) w' ft') :
  JG P W0 Post G k (Go.Conc.G ((base L.wait).at ⟨#[.pointer (some ⟨G.wg,0,none⟩)] ++ Array.replicate 83 undef,[]⟩ [.code (Go.ConcR.Gen.body_wait L)]) (c :: cs)) w ft := by
 letI pl : Payload := ⟨0⟩
 have er : (#[.pointer (some ⟨G.wg,0,none⟩)] ++ Array.replicate 83 undef : Array Value) = #[.pointer (some ⟨G.wg,0,none⟩),undef,undef,undef,undef,undef,undef,undef,undef,undef,undef,undef,undef,undef,undef,undef,undef,undef,undef,undef,undef,undef,undef,undef,undef,undef,undef,undef,undef,undef,undef,undef,undef,undef,undef,undef,undef,undef,undef,undef,undef,undef,undef,undef,undef,undef,undef,undef,undef,undef,undef,undef,undef,undef,undef,undef,undef,undef,undef,undef,undef,undef,undef,undef,undef,undef,undef,undef,undef,undef,undef,undef,undef,undef,undef,undef,undef,undef,undef,undef,undef,undef,undef,undef] := by kernel_rfl
 rw [er]
 clear er
 refine JG.goes 100 _ _ ft hF HR ?_
 rw [hty] at *
 lib_facts
 simp only [Go.ConcR.Gen.body_wait,waitFn,Option.getD_some]
 u_c stepG_seq live_rely hF
 u_cond true live_rely hF
 u_reg live_rely hF
 refine Goes.stop (fun w₁ _ ft hl HR => ?_)
 clear hF
 refine JG.act_at hg HR rfl fun w₂ cn l st sm hb hc3 hat hph => ⟨_,w₂,_,st,sm,6,stepG_mark0 .disable (by simp) rfl rfl (by k_ne) rfl H.f_disable (x_disable_n L) (x_disable_b L) (x_disable_x L) (x_disable_f L),.refl _ _,hat,bk3_markA _ (.inl rfl),⟨by omega,fun e => by omega⟩,by simp [deafBehind,deafX],hph.bump (by omega),fun ft hF HR => ?_⟩
 have hg6 := hg.set (y := 6) (by omega)
 refine JG.goes 300 _ _ ft hF HR ?_
 walk_nrm
 u_c stepG_region_end live_rely hF
 u_c stepG_block live_rely hF
 u_c stepG_loop live_rely hF
 u_c stepG_block live_rely hF
 u_c stepG_seq live_rely hF
 u_reg live_rely hF
 u_op live_rely hF
 u_op live_rely hF
 u_op live_rely hF
 u_call H.f_uLoad (nm_uLoad L) uLoadFn live_rely hF
 u_c stepG_seq live_rely hF
 u_reg live_rely hF
 u_op live_rely hF
 u_c stepG_region_end live_rely hF
 u_c stepG_seq live_rely hF
 u_reg live_rely hF
 u_op live_rely hF
 u_op live_rely hF
 u_op live_rely hF
 refine Goes.stop (fun w₁ _ ft hl HR => ?_)
 clear hF
 refine JG.act_at hg6 HR rfl fun w₂ cn l st sm hb hc3 hat hph => ?_
 obtain ⟨rfl,hle,rfl,rfl⟩ := hph.at_idle (by unfold idleX; omega)
 replace hle : cn ≤ 3 := hle
 rcases (by omega : cn = 0 ∨ cn = 1 ∨ cn = 2 ∨ cn = 3) with rfl | rfl | rfl | rfl
 ·replace hat := grp_num (n := 0) hat (by decide)
  refine ⟨_,w₂,_,0,0,8,stepG_load_atomic rfl rfl (by k_ne) rfl H.f_loadU64 (x_loadU64_n L) (x_loadU64_b L) (x_loadU64_x L) .u64 (x_loadU64_f L) rfl (Go.ConcR.WgAt.cellSt hat),.refl _ _,hat,bk3_rA _,⟨by omega,fun e => by omega⟩,by simp [deafBehind,deafX],.out (by omega),fun ft hF HR => ?_⟩
  have hg1 := hg6.set (y := 8) (by omega)
  refine JG.goes 300 _ _ ft hF HR ?_
  walk_nrm
  u_op live_rely hF
  u_c stepG_region_end live_rely hF
  u_c stepG_ret' live_rely hF
  u_leave1 H.f_uLoad live_rely hF
  u_op live_rely hF
  u_c stepG_region_end live_rely hF
  u_c stepG_seq live_rely hF
  u_reg live_rely hF
  u_op live_rely hF
  u_op live_rely hF
  u_op live_rely hF
  u_op live_rely hF
  u_c stepG_region_end live_rely hF
  u_c stepG_seq live_rely hF
  u_reg live_rely hF
  u_op live_rely hF
  u_op live_rely hF
  u_op live_rely hF
  u_op live_rely hF
  u_c stepG_region_end live_rely hF
  u_c stepG_seq live_rely hF
  u_c stepG_seq live_rely hF
  u_reg live_rely hF
  u_op live_rely hF
  u_op live_rely hF
  u_c stepG_region_end live_rely hF
  u_cond true live_rely hF
  u_c stepG_seq live_rely hF
  u_cond true live_rely hF
  u_c stepG_seq live_rely hF
  u_reg live_rely hF
  refine Goes.stop (fun w₁ _ ft hl HR => ?_)
  clear hF
  refine JG.act_at hg1 HR rfl fun w₂ cn l st sm hb hc3 hat hph => ⟨_,w₂,_,st,sm,11,stepG_mark0 .enable (by simp) rfl rfl (by k_ne) rfl H.f_enable (x_enable_n L) (x_enable_b L) (x_enable_x L) (x_enable_f L),.refl _ _,hat,bk3_markA _ (.inr rfl),⟨by omega,fun e => by omega⟩,by simp [deafBehind,deafX],hph.bump (by omega),fun ft hF HR => ?_⟩
  have hg2 := hg1.set (y := 11) (by omega)
  refine JG.goes 300 _ _ ft hF HR ?_
  walk_nrm
  u_c stepG_region_end live_rely hF
  u_reg live_rely hF
  u_op live_rely hF
  u_conv H.underlying_tWgP H.room_tWg (Go.ConcN.Gen.WgLive.cell0 hF).choose_spec live_rely hF
  refine Goes.stop (fun w₁ _ ft hl HR => ?_)
  clear hF
  refine JG.acq_at hg2 HR rfl (fun w₂ hb => ⟨_,stepG_markAt .acquire (by simp) rfl rfl (by k_ne) rfl H.f_acquire (x_acquire_n L) (x_acquire_b L) (x_acquire_x L) (x_acquire_f L) (ad := ⟨G.wg,0,none⟩) (by simp [Act.eval]),fun ft hF HR => ?_⟩)
  have hg3 := hg2.set (y := 12) (by omega)
  refine JG.goes 300 _ _ ft hF HR ?_
  walk_nrm
  u_c stepG_region_end live_rely hF
  u_c stepG_seq live_rely hF
  u_c stepG_seq live_rely hF
  u_reg live_rely hF
  u_op live_rely hF
  u_op live_rely hF
  u_op live_rely hF
  u_op live_rely hF
  u_op live_rely hF
  u_op live_rely hF
  u_op live_rely hF
  u_op live_rely hF
  u_skip live_rely hF
  u_skip live_rely hF
  u_op live_rely hF
  u_c stepG_region_end live_rely hF
  u_cond false live_rely hF
  u_c stepG_skip live_rely hF
  u_c stepG_ret' live_rely hF
  refine Goes.stop (fun w₁ _ ft hl HR => ?_)
  refine (JG.closed P W0 Post G k).ctrl rfl rfl (fun w => stepG_leave rfl rfl H.f_wait (v := .tuple #[]) (by simp [results,waitFn]) (by simp [results,waitFn])) ?_
  refine hc _ _ ?_
  simpa [List.set_set] using HR
 ·replace hat := grp_num (n := 4294967296) hat (by decide)
  have bbA : bits .and .u64 4294967296 2147483648 = 0 := by decide
  have bbB : bits .and .u64 4294967296 2147483647 = 0 := by decide
  refine ⟨_,w₂,_,4294967296,0,18,stepG_load_atomic rfl rfl (by k_ne) rfl H.f_loadU64 (x_loadU64_n L) (x_loadU64_b L) (x_loadU64_x L) .u64 (x_loadU64_f L) rfl (Go.ConcR.WgAt.cellSt hat),.refl _ _,hat,bk3_rA _,⟨by omega,fun e => by omega⟩,by simp [deafBehind,deafX],(Phase.idle (c := 1) (by unfold idleX; omega) (by decide)).num (by decide),fun ft hF HR => ?_⟩
  have hg4 := hg6.set (y := 18) (by omega)
  refine JG.goes 300 _ _ ft hF HR ?_
  walk_nrm
  u_op live_rely hF
  u_c stepG_region_end live_rely hF
  u_c stepG_ret' live_rely hF
  u_leave1 H.f_uLoad live_rely hF
  u_op live_rely hF
  u_c stepG_region_end live_rely hF
  u_c stepG_seq live_rely hF
  u_reg live_rely hF
  u_op live_rely hF
  u_op live_rely hF
  u_op live_rely hF
  u_op live_rely hF
  u_c stepG_region_end live_rely hF
  u_c stepG_seq live_rely hF
  u_reg live_rely hF
  u_op live_rely hF
  u_op live_rely hF
  u_op live_rely hF
  u_op live_rely hF
  u_c stepG_region_end live_rely hF
  u_c stepG_seq live_rely hF
  u_c stepG_seq live_rely hF
  u_reg live_rely hF
  u_op live_rely hF
  u_op live_rely hF
  u_c stepG_region_end live_rely hF
  u_cond false live_rely hF
  u_c stepG_skip live_rely hF
  u_c stepG_seq live_rely hF
  u_reg live_rely hF
  u_op live_rely hF
  u_op live_rely hF
  u_op live_rely hF
  u_op live_rely hF
  u_op live_rely hF
  u_op live_rely hF
  u_call H.f_uCas (nm_uCas L) uCasFn live_rely hF
  u_c stepG_seq live_rely hF
  u_reg live_rely hF
  u_op live_rely hF
  u_c stepG_region_end live_rely hF
  u_c stepG_seq live_rely hF
  u_reg live_rely hF
  u_op live_rely hF
  u_op live_rely hF
  u_op live_rely hF
  u_op live_rely hF
  u_op live_rely hF
  refine Goes.stop (fun w₁ _ ft hl HR => ?_)
  clear hF
  refine JG.act_at hg4 HR rfl fun w₂ cn l st sm hb hc3 hat hph => ?_
  obtain ⟨rfl,hle,rfl,rfl⟩ := hph.at_idle (by unfold idleX; omega)
  replace hle : cn ≤ 1 := hle
  by_cases hcn : cn = 1
  ·subst hcn
   replace hat := grp_num (n := 4294967296) hat (by decide)
   refine ⟨_,w₂.setCell (stA G.wg) (.int .u64 4294967297),_,4294967297,0,9,stepG_cas_hit (v := 4294967296) (n := 4294967297) rfl rfl (by k_ne) rfl H.f_casU64 (x_casU64_n L) (x_casU64_b L) (x_casU64_x L) .u64 (x_casU64_f L) rfl rfl rfl (Go.ConcR.WgAt.cellSt hat) (Go.ConcR.WgAt.thaw hat 0),aside_setCell w₂ (stA G.wg) _,Go.ConcR.WgAt.setSt hat _,bk3_rwA _,⟨by omega,fun e => by omega⟩,by simp [deafBehind,deafX],(Phase.reg (c := 1) (by omega)).num (by decide),fun ft hF HR => ?_⟩
   have hg5 := hg4.set (y := 9) (by omega)
   refine JG.goes 300 _ _ ft hF HR ?_
   walk_nrm
   u_op live_rely hF
   u_c stepG_region_end live_rely hF
   u_c stepG_ret' live_rely hF
   u_leave1 H.f_uCas live_rely hF
   u_c stepG_region_end live_rely hF
   u_cond true live_rely hF
   u_c stepG_seq live_rely hF
   u_c stepG_seq live_rely hF
   u_reg live_rely hF
   u_op live_rely hF
   u_op live_rely hF
   u_op live_rely hF
   u_op live_rely hF
   u_c stepG_region_end live_rely hF
   u_cond true live_rely hF
   u_reg live_rely hF
   u_op live_rely hF
   u_op live_rely hF
   u_op live_rely hF
   u_conv H.underlying_tPU32 H.room_tU32 (Go.ConcN.Gen.WgLive.cell1 hF).choose_spec live_rely hF
   refine Goes.stop (fun w₁ _ ft hl HR => ?_)
   clear hF
   refine JG.act_at hg5 HR rfl fun w₂ cn l st sm hb hc3 hat hph => ⟨_,w₂,_,st,sm,9,stepG_markAt .write (by simp) rfl rfl (by k_ne) rfl H.f_raceWrite (x_raceWrite_n L) (x_raceWrite_b L) (x_raceWrite_x L) (x_raceWrite_f L) (ad := ⟨G.wg,1,none⟩) (by simp [Act.eval]),.refl _ _,hat,bk3_saidA _ (.inr rfl),⟨by omega,fun e => by omega⟩,by simp [deafBehind,deafX],hph.bump (by omega),fun ft hF HR => ?_⟩
   have hg6 := hg5.set (y := 9) (by omega)
   refine JG.goes 300 _ _ ft hF HR ?_
   walk_nrm
   u_c stepG_region_end live_rely hF
   u_c stepG_seq live_rely hF
   u_reg live_rely hF
   u_op live_rely hF
   u_c stepG_region_end live_rely hF
   u_c stepG_seq live_rely hF
   u_c stepG_seq live_rely hF
   u_reg live_rely hF
   u_op live_rely hF
   u_op live_rely hF
   u_op live_rely hF
   u_op live_rely hF
   u_skip live_rely hF
   u_op live_rely hF
   u_c stepG_region_end live_rely hF
   u_cond false live_rely hF
   u_c stepG_skip live_rely hF
   u_c stepG_seq live_rely hF
   u_reg live_rely hF
   u_op live_rely hF
   u_op live_rely hF
   u_op live_rely hF
   u_op live_rely hF
   refine Goes.stop (fun w₁ _ ft hl HR => ?_)
   clear hF
   refine JG.sem_at hg6 HR rfl rfl (fun w₂ st hb hat => stepG_semacquire_wait rfl rfl rfl H.f_semacquire (x_semacquire_n L) (x_semacquire_b L) (x_semacquire_x L) (x_semacquire_f L) (ad := ⟨G.wg,1,none⟩) (by simp [Act.eval]) (Go.ConcR.WgAt.cellSm hat)) fun w₂ hb hat => ⟨_,stepG_semacquire rfl rfl (by k_ne) rfl H.f_semacquire (x_semacquire_n L) (x_semacquire_b L) (x_semacquire_x L) (x_semacquire_f L) (ad := ⟨G.wg,1,none⟩) (n := 1) (by simp [Act.eval]) (Go.ConcR.WgAt.cellSm hat) (by decide) (Go.ConcR.WgAt.thaw hat 1),fun ft hF HR => ?_⟩
   have hg7 := hg6.set (y := 10) (by omega)
   refine JG.goes 300 _ _ ft hF HR ?_
   walk_nrm
   u_c stepG_region_end live_rely hF
   u_c stepG_seq live_rely hF
   u_reg live_rely hF
   u_op live_rely hF
   u_op live_rely hF
   u_op live_rely hF
   u_call H.f_uLoad (nm_uLoad L) uLoadFn live_rely hF
   u_c stepG_seq live_rely hF
   u_reg live_rely hF
   u_op live_rely hF
   u_c stepG_region_end live_rely hF
   u_c stepG_seq live_rely hF
   u_reg live_rely hF
   u_op live_rely hF
   u_op live_rely hF
   u_op live_rely hF
   refine Goes.stop (fun w₁ _ ft hl HR => ?_)
   clear hF
   refine JG.act_at hg7 HR rfl fun w₂ cn l st sm hb hc3 hat hph => ?_
   obtain ⟨rfl,rfl,rfl,rfl⟩ := hph.at_out (by omega)
   refine ⟨_,w₂,_,0,0,10,stepG_load_atomic rfl rfl (by k_ne) rfl H.f_loadU64 (x_loadU64_n L) (x_loadU64_b L) (x_loadU64_x L) .u64 (x_loadU64_f L) rfl (Go.ConcR.WgAt.cellSt hat),.refl _ _,hat,bk3_rA _,⟨by omega,fun e => by omega⟩,by simp [deafBehind,deafX],hph,fun ft hF HR => ?_⟩
   have hg8 := hg7.set (y := 10) (by omega)
   refine JG.goes 300 _ _ ft hF HR ?_
   walk_nrm
   u_op live_rely hF
   u_c stepG_region_end live_rely hF
   u_c stepG_ret' live_rely hF
   u_leave1 H.f_uLoad live_rely hF
   u_op live_rely hF
   u_op live_rely hF
   u_c stepG_region_end live_rely hF
   u_c stepG_seq live_rely hF
   u_cond true live_rely hF
   u_c stepG_seq live_rely hF
   u_reg live_rely hF
   refine Goes.stop (fun w₁ _ ft hl HR => ?_)
   clear hF
   refine JG.act_at hg8 HR rfl fun w₂ cn l st sm hb hc3 hat hph => ⟨_,w₂,_,st,sm,11,stepG_mark0 .enable (by simp) rfl rfl (by k_ne) rfl H.f_enable (x_enable_n L) (x_enable_b L) (x_enable_x L) (x_enable_f L),.refl _ _,hat,bk3_markA _ (.inr rfl),⟨by omega,fun e => by omega⟩,by simp [deafBehind,deafX],hph.bump (by omega),fun ft hF HR => ?_⟩
   have hg9 := hg8.set (y := 11) (by omega)
   refine JG.goes 300 _ _ ft hF HR ?_
   walk_nrm
   u_c stepG_region_end live_rely hF
   u_reg live_rely hF
   u_op live_rely hF
   u_conv H.underlying_tWgP H.room_tWg (Go.ConcN.Gen.WgLive.cell0 hF).choose_spec live_rely hF
   refine Goes.stop (fun w₁ _ ft hl HR => ?_)
   clear hF
   refine JG.acq_at hg9 HR rfl (fun w₂ hb => ⟨_,stepG_markAt .acquire (by simp) rfl rfl (by k_ne) rfl H.f_acquire (x_acquire_n L) (x_acquire_b L) (x_acquire_x L) (x_acquire_f L) (ad := ⟨G.wg,0,none⟩) (by simp [Act.eval]),fun ft hF HR => ?_⟩)
   have hg10 := hg9.set (y := 12) (by omega)
   refine JG.goes 300 _ _ ft hF HR ?_
   walk_nrm
   u_c stepG_region_end live_rely hF
   u_c stepG_seq live_rely hF
   u_c stepG_seq live_rely hF
   u_reg live_rely hF
   u_op live_rely hF
   u_c stepG_region_end live_rely hF
   u_cond false live_rely hF
   u_c stepG_skip live_rely hF
   u_c stepG_ret' live_rely hF
   refine Goes.stop (fun w₁ _ ft hl HR => ?_)
   refine (JG.closed P W0 Post G k).ctrl rfl rfl (fun w => stepG_leave rfl rfl H.f_wait (v := .tuple #[]) (by simp [results,waitFn]) (by simp [results,waitFn])) ?_
   refine hc _ _ ?_
   simpa [List.set_set] using HR
  ·refine ⟨_,w₂,_,_,0,19,stepG_cas_miss (old := 4294967296) (n := 4294967297) rfl rfl (by k_ne) rfl H.f_casU64 (x_casU64_n L) (x_casU64_b L) (x_casU64_x L) .u64 (x_casU64_f L) rfl rfl rfl (Go.ConcR.WgAt.cellSt hat) (Go.ConcR.WgAt.thaw hat 0) (by simp only [kk_val]; omega),.refl _ _,hat,bk3_rA _,⟨by omega,fun e => by omega⟩,by simp [deafBehind,deafX],.idle (by unfold idleX; omega) (by show cn ≤ 0; omega),fun ft hF HR => ?_⟩
   have hg11 := hg4.set (y := 19) (by omega)
   refine JG.goes 300 _ _ ft hF HR ?_
   walk_nrm
   u_op live_rely hF
   u_c stepG_region_end live_rely hF
   u_c stepG_ret' live_rely hF
   u_leave1 H.f_uCas live_rely hF
   u_c stepG_region_end live_rely hF
   u_cond false live_rely hF
   u_c stepG_skip live_rely hF
   u_c stepG_inBlock live_rely hF
   u_c stepG_inLoop live_rely hF
   u_c stepG_block live_rely hF
   u_c stepG_seq live_rely hF
   u_reg live_rely hF
   u_op live_rely hF
   u_op live_rely hF
   u_op live_rely hF
   u_call H.f_uLoad (nm_uLoad L) uLoadFn live_rely hF
   u_c stepG_seq live_rely hF
   u_reg live_rely hF
   u_op live_rely hF
   u_c stepG_region_end live_rely hF
   u_c stepG_seq live_rely hF
   u_reg live_rely hF
   u_op live_rely hF
   u_op live_rely hF
   u_op live_rely hF
   refine Goes.stop (fun w₁ _ ft hl HR => ?_)
   clear hF
   refine JG.act_at hg11 HR rfl fun w₂ cn l st sm hb hc3 hat hph => ?_
   obtain ⟨rfl,hle,rfl,rfl⟩ := hph.at_idle (by unfold idleX; omega)
   replace hle : cn ≤ 0 := hle
   obtain rfl : cn = 0 := by omega
   replace hat := grp_num (n := 0) hat (by decide)
   refine ⟨_,w₂,_,0,0,8,stepG_load_atomic rfl rfl (by k_ne) rfl H.f_loadU64 (x_loadU64_n L) (x_loadU64_b L) (x_loadU64_x L) .u64 (x_loadU64_f L) rfl (Go.ConcR.WgAt.cellSt hat),.refl _ _,hat,bk3_rA _,⟨by omega,fun e => by omega⟩,by simp [deafBehind,deafX],.out (by omega),fun ft hF HR => ?_⟩
   have hg12 := hg11.set (y := 8) (by omega)
   refine JG.goes 300 _ _ ft hF HR ?_
   walk_nrm
   u_op live_rely hF
   u_c stepG_region_end live_rely hF
   u_c stepG_ret' live_rely hF
   u_leave1 H.f_uLoad live_rely hF
   u_op live_rely hF
   u_c stepG_region_end live_rely hF
   u_c stepG_seq live_rely hF
   u_reg live_rely hF
   u_op live_rely hF
   u_op live_rely hF
   u_op live_rely hF
   u_op live_rely hF
   u_c stepG_region_end live_rely hF
   u_c stepG_seq live_rely hF
   u_reg live_rely hF
   u_op live_rely hF
   u_op live_rely hF
   u_op live_rely hF
   u_op live_rely hF
   u_c stepG_region_end live_rely hF
   u_c stepG_seq live_rely hF
   u_c stepG_seq live_rely hF
   u_reg live_rely hF
   u_op live_rely hF
   u_op live_rely hF
   u_c stepG_region_end live_rely hF
   u_cond true live_rely hF
   u_c stepG_seq live_rely hF
   u_cond true live_rely hF
   u_c stepG_seq live_rely hF
   u_reg live_rely hF
   refine Goes.stop (fun w₁ _ ft hl HR => ?_)
   clear hF
   refine JG.act_at hg12 HR rfl fun w₂ cn l st sm hb hc3 hat hph => ⟨_,w₂,_,st,sm,11,stepG_mark0 .enable (by simp) rfl rfl (by k_ne) rfl H.f_enable (x_enable_n L) (x_enable_b L) (x_enable_x L) (x_enable_f L),.refl _ _,hat,bk3_markA _ (.inr rfl),⟨by omega,fun e => by omega⟩,by simp [deafBehind,deafX],hph.bump (by omega),fun ft hF HR => ?_⟩
   have hg13 := hg12.set (y := 11) (by omega)
   refine JG.goes 300 _ _ ft hF HR ?_
   walk_nrm
   u_c stepG_region_end live_rely hF
   u_reg live_rely hF
   u_op live_rely hF
   u_conv H.underlying_tWgP H.room_tWg (Go.ConcN.Gen.WgLive.cell0 hF).choose_spec live_rely hF
   refine Goes.stop (fun w₁ _ ft hl HR => ?_)
   clear hF
   refine JG.acq_at hg13 HR rfl (fun w₂ hb => ⟨_,stepG_markAt .acquire (by simp) rfl rfl (by k_ne) rfl H.f_acquire (x_acquire_n L) (x_acquire_b L) (x_acquire_x L) (x_acquire_f L) (ad := ⟨G.wg,0,none⟩) (by simp [Act.eval]),fun ft hF HR => ?_⟩)
   have hg14 := hg13.set (y := 12) (by omega)
   refine JG.goes 300 _ _ ft hF HR ?_
   walk_nrm
   u_c stepG_region_end live_rely hF
   u_c stepG_seq live_rely hF
   u_c stepG_seq live_rely hF
   u_reg live_rely hF
   u_op live_rely hF
   u_op live_rely hF
   u_op live_rely hF
   u_op live_rely hF
   u_op live_rely hF
   u_op live_rely hF
   u_op live_rely hF
   u_op live_rely hF
   u_skip live_rely hF
   u_skip live_rely hF
   u_op live_rely hF
   u_c stepG_region_end live_rely hF
   u_cond false live_rely hF
   u_c stepG_skip live_rely hF
   u_c stepG_ret' live_rely hF
   refine Goes.stop (fun w₁ _ ft hl HR => ?_)
   refine (JG.closed P W0 Post G k).ctrl rfl rfl (fun w => stepG_leave rfl rfl H.f_wait (v := .tuple #[]) (by simp [results,waitFn]) (by simp [results,waitFn])) ?_
   refine hc _ _ ?_
   simpa [List.set_set] using HR
 ·replace hat := grp_num (n := 8589934592) hat (by decide)
  have bbA : bits .and .u64 8589934592 2147483648 = 0 := by decide
  have bbB : bits .and .u64 8589934592 2147483647 = 0 := by decide
  refine ⟨_,w₂,_,8589934592,0,20,stepG_load_atomic rfl rfl (by k_ne) rfl H.f_loadU64 (x_loadU64_n L) (x_loadU64_b L) (x_loadU64_x L) .u64 (x_loadU64_f L) rfl (Go.ConcR.WgAt.cellSt hat),.refl _ _,hat,bk3_rA _,⟨by omega,fun e => by omega⟩,by simp [deafBehind,deafX],(Phase.idle (c := 2) (by unfold idleX; omega) (by decide)).num (by decide),fun ft hF HR => ?_⟩
  have hg15 := hg6.set (y := 20) (by omega)
  refine JG.goes 300 _ _ ft hF HR ?_
  walk_nrm
  u_op live_rely hF
  u_c stepG_region_end live_rely hF
  u_c stepG_ret' live_rely hF
  u_leave1 H.f_uLoad live_rely hF
  u_op live_rely hF
  u_c stepG_region_end live_rely hF
  u_c stepG_seq live_rely hF
  u_reg live_rely hF
  u_op live_rely hF
  u_op live_rely hF
  u_op live_rely hF
  u_op live_rely hF
  u_c stepG_region_end live_rely hF
  u_c stepG_seq live_rely hF
  u_reg live_rely hF
  u_op live_rely hF
  u_op live_rely hF
  u_op live_rely hF
  u_op live_rely hF
  u_c stepG_region_end live_rely hF
  u_c stepG_seq live_rely hF
  u_c stepG_seq live_rely hF
  u_reg live_rely hF
  u_op live_rely hF
  u_op live_rely hF
  u_c stepG_region_end live_rely hF
  u_cond false live_rely hF
  u_c stepG_skip live_rely hF
  u_c stepG_seq live_rely hF
  u_reg live_rely hF
  u_op live_rely hF
  u_op live_rely hF
  u_op live_rely hF
  u_op live_rely hF
  u_op live_rely hF
  u_op live_rely hF
  u_call H.f_uCas (nm_uCas L) uCasFn live_rely hF
  u_c stepG_seq live_rely hF
  u_reg live_rely hF
  u_op live_rely hF
  u_c stepG_region_end live_rely hF
  u_c stepG_seq live_rely hF
  u_reg live_rely hF
  u_op live_rely hF
  u_op live_rely hF
  u_op live_rely hF
  u_op live_rely hF
  u_op live_rely hF
  refine Goes.stop (fun w₁ _ ft hl HR => ?_)
  clear hF
  refine JG.act_at hg15 HR rfl fun w₂ cn l st sm hb hc3 hat hph => ?_
  obtain ⟨rfl,hle,rfl,rfl⟩ := hph.at_idle (by unfold idleX; omega)
  replace hle : cn ≤ 2 := hle
  by_cases hcn : cn = 2
  ·subst hcn
   replace hat := grp_num (n := 8589934592) hat (by decide)
   refine ⟨_,w₂.setCell (stA G.wg) (.int .u64 8589934593),_,8589934593,0,9,stepG_cas_hit (v := 8589934592) (n := 8589934593) rfl rfl (by k_ne) rfl H.f_casU64 (x_casU64_n L) (x_casU64_b L) (x_casU64_x L) .u64 (x_casU64_f L) rfl rfl rfl (Go.ConcR.WgAt.cellSt hat) (Go.ConcR.WgAt.thaw hat 0),aside_setCell w₂ (stA G.wg) _,Go.ConcR.WgAt.setSt hat _,bk3_rwA _,⟨by omega,fun e => by omega⟩,by simp [deafBehind,deafX],(Phase.reg (c := 2) (by omega)).num (by decide),fun ft hF HR => ?_⟩
   have hg16 := hg15.set (y := 9) (by omega)
   refine JG.goes 300 _ _ ft hF HR ?_
   walk_nrm
   u_op live_rely hF
   u_c stepG_region_end live_rely hF
   u_c stepG_ret' live_rely hF
   u_leave1 H.f_uCas live_rely hF
   u_c stepG_region_end live_rely hF
   u_cond true live_rely hF
   u_c stepG_seq live_rely hF
   u_c stepG_seq live_rely hF
   u_reg live_rely hF
   u_op live_rely hF
   u_op live_rely hF
   u_op live_rely hF
   u_op live_rely hF
   u_c stepG_region_end live_rely hF
   u_cond true live_rely hF
   u_reg live_rely hF
   u_op live_rely hF
   u_op live_rely hF
   u_op live_rely hF
   u_conv H.underlying_tPU32 H.room_tU32 (Go.ConcN.Gen.WgLive.cell1 hF).choose_spec live_rely hF
   refine Goes.stop (fun w₁ _ ft hl HR => ?_)
   clear hF
   refine JG.act_at hg16 HR rfl fun w₂ cn l st sm hb hc3 hat hph => ⟨_,w₂,_,st,sm,9,stepG_markAt .write (by simp) rfl rfl (by k_ne) rfl H.f_raceWrite (x_raceWrite_n L) (x_raceWrite_b L) (x_raceWrite_x L) (x_raceWrite_f L) (ad := ⟨G.wg,1,none⟩) (by simp [Act.eval]),.refl _ _,hat,bk3_saidA _ (.inr rfl),⟨by omega,fun e => by omega⟩,by simp [deafBehind,deafX],hph.bump (by omega),fun ft hF HR => ?_⟩
   have hg17 := hg16.set (y := 9) (by omega)
   refine JG.goes 300 _ _ ft hF HR ?_
   walk_nrm
   u_c stepG_region_end live_rely hF
   u_c stepG_seq live_rely hF
   u_reg live_rely hF
   u_op live_rely hF
   u_c stepG_region_end live_rely hF
   u_c stepG_seq live_rely hF
   u_c stepG_seq live_rely hF
   u_reg live_rely hF
   u_op live_rely hF
   u_op live_rely hF
   u_op live_rely hF
   u_op live_rely hF
   u_skip live_rely hF
   u_op live_rely hF
   u_c stepG_region_end live_rely hF
   u_cond false live_rely hF
   u_c stepG_skip live_rely hF
   u_c stepG_seq live_rely hF
   u_reg live_rely hF
   u_op live_rely hF
   u_op live_rely hF
   u_op live_rely hF
   u_op live_rely hF
   refine Goes.stop (fun w₁ _ ft hl HR => ?_)
   clear hF
   refine JG.sem_at hg17 HR rfl rfl (fun w₂ st hb hat => stepG_semacquire_wait rfl rfl rfl H.f_semacquire (x_semacquire_n L) (x_semacquire_b L) (x_semacquire_x L) (x_semacquire_f L) (ad := ⟨G.wg,1,none⟩) (by simp [Act.eval]) (Go.ConcR.WgAt.cellSm hat)) fun w₂ hb hat => ⟨_,stepG_semacquire rfl rfl (by k_ne) rfl H.f_semacquire (x_semacquire_n L) (x_semacquire_b L) (x_semacquire_x L) (x_semacquire_f L) (ad := ⟨G.wg,1,none⟩) (n := 1) (by simp [Act.eval]) (Go.ConcR.WgAt.cellSm hat) (by decide) (Go.ConcR.WgAt.thaw hat 1),fun ft hF HR => ?_⟩
   have hg18 := hg17.set (y := 10) (by omega)
   refine JG.goes 300 _ _ ft hF HR ?_
   walk_nrm
   u_c stepG_region_end live_rely hF
   u_c stepG_seq live_rely hF
   u_reg live_rely hF
   u_op live_rely hF
   u_op live_rely hF
   u_op live_rely hF
   u_call H.f_uLoad (nm_uLoad L) uLoadFn live_rely hF
   u_c stepG_seq live_rely hF
   u_reg live_rely hF
   u_op live_rely hF
   u_c stepG_region_end live_rely hF
   u_c stepG_seq live_rely hF
   u_reg live_rely hF
   u_op live_rely hF
   u_op live_rely hF
   u_op live_rely hF
   refine Goes.stop (fun w₁ _ ft hl HR => ?_)
   clear hF
   refine JG.act_at hg18 HR rfl fun w₂ cn l st sm hb hc3 hat hph => ?_
   obtain ⟨rfl,rfl,rfl,rfl⟩ := hph.at_out (by omega)
   refine ⟨_,w₂,_,0,0,10,stepG_load_atomic rfl rfl (by k_ne) rfl H.f_loadU64 (x_loadU64_n L) (x_loadU64_b L) (x_loadU64_x L) .u64 (x_loadU64_f L) rfl (Go.ConcR.WgAt.cellSt hat),.refl _ _,hat,bk3_rA _,⟨by omega,fun e => by omega⟩,by simp [deafBehind,deafX],hph,fun ft hF HR => ?_⟩
   have hg19 := hg18.set (y := 10) (by omega)
   refine JG.goes 300 _ _ ft hF HR ?_
   walk_nrm
   u_op live_rely hF
   u_c stepG_region_end live_rely hF
   u_c stepG_ret' live_rely hF
   u_leave1 H.f_uLoad live_rely hF
   u_op live_rely hF
   u_op live_rely hF
   u_c stepG_region_end live_rely hF
   u_c stepG_seq live_rely hF
   u_cond true live_rely hF
   u_c stepG_seq live_rely hF
   u_reg live_rely hF
   refine Goes.stop (fun w₁ _ ft hl HR => ?_)
   clear hF
   refine JG.act_at hg19 HR rfl fun w₂ cn l st sm hb hc3 hat hph => ⟨_,w₂,_,st,sm,11,stepG_mark0 .enable (by simp) rfl rfl (by k_ne) rfl H.f_enable (x_enable_n L) (x_enable_b L) (x_enable_x L) (x_enable_f L),.refl _ _,hat,bk3_markA _ (.inr rfl),⟨by omega,fun e => by omega⟩,by simp [deafBehind,deafX],hph.bump (by omega),fun ft hF HR => ?_⟩
   have hg20 := hg19.set (y := 11) (by omega)
   refine JG.goes 300 _ _ ft hF HR ?_
   walk_nrm
   u_c stepG_region_end live_rely hF
   u_reg live_rely hF
   u_op live_rely hF
   u_conv H.underlying_tWgP H.room_tWg (Go.ConcN.Gen.WgLive.cell0 hF).choose_spec live_rely hF
   refine Goes.stop (fun w₁ _ ft hl HR => ?_)
   clear hF
   refine JG.acq_at hg20 HR rfl (fun w₂ hb => ⟨_,stepG_markAt .acquire (by simp) rfl rfl (by k_ne) rfl H.f_acquire (x_acquire_n L) (x_acquire_b L) (x_acquire_x L) (x_acquire_f L) (ad := ⟨G.wg,0,none⟩) (by simp [Act.eval]),fun ft hF HR => ?_⟩)
   have hg21 := hg20.set (y := 12) (by omega)
   refine JG.goes 300 _ _ ft hF HR ?_
   walk_nrm
   u_c stepG_region_end live_rely hF
   u_c stepG_seq live_rely hF
   u_c stepG_seq live_rely hF
   u_reg live_rely hF
   u_op live_rely hF
   u_c stepG_region_end live_rely hF
   u_cond false live_rely hF
   u_c stepG_skip live_rely hF
   u_c stepG_ret' live_rely hF
   refine Goes.stop (fun w₁ _ ft hl HR => ?_)
   refine (JG.closed P W0 Post G k).ctrl rfl rfl (fun w => stepG_leave rfl rfl H.f_wait (v := .tuple #[]) (by simp [results,waitFn]) (by simp [results,waitFn])) ?_
   refine hc _ _ ?_
   simpa [List.set_set] using HR
  ·refine ⟨_,w₂,_,_,0,21,stepG_cas_miss (old := 8589934592) (n := 8589934593) rfl rfl (by k_ne) rfl H.f_casU64 (x_casU64_n L) (x_casU64_b L) (x_casU64_x L) .u64 (x_casU64_f L) rfl rfl rfl (Go.ConcR.WgAt.cellSt hat) (Go.ConcR.WgAt.thaw hat 0) (by simp only [kk_val]; omega),.refl _ _,hat,bk3_rA _,⟨by omega,fun e => by omega⟩,by simp [deafBehind,deafX],.idle (by unfold idleX; omega) (by show cn ≤ 1; omega),fun ft hF HR => ?_⟩
   have hg22 := hg15.set (y := 21) (by omega)
   refine JG.goes 300 _ _ ft hF HR ?_
   walk_nrm
   u_op live_rely hF
   u_c stepG_region_end live_rely hF
   u_c stepG_ret' live_rely hF
   u_leave1 H.f_uCas live_rely hF
   u_c stepG_region_end live_rely hF
   u_cond false live_rely hF
   u_c stepG_skip live_rely hF
   u_c stepG_inBlock live_rely hF
   u_c stepG_inLoop live_rely hF
   u_c stepG_block live_rely hF
   u_c stepG_seq live_rely hF
   u_reg live_rely hF
   u_op live_rely hF
   u_op live_rely hF
   u_op live_rely hF
   u_call H.f_uLoad (nm_uLoad L) uLoadFn live_rely hF
   u_c stepG_seq live_rely hF
   u_reg live_rely hF
   u_op live_rely hF
   u_c stepG_region_end live_rely hF
   u_c stepG_seq live_rely hF
   u_reg live_rely hF
   u_op live_rely hF
   u_op live_rely hF
   u_op live_rely hF
   refine Goes.stop (fun w₁ _ ft hl HR => ?_)
   clear hF
   refine JG.act_at hg22 HR rfl fun w₂ cn l st sm hb hc3 hat hph => ?_
   obtain ⟨rfl,hle,rfl,rfl⟩ := hph.at_idle (by unfold idleX; omega)
   replace hle : cn ≤ 1 := hle
   rcases (by omega : cn = 0 ∨ cn = 1) with rfl | rfl
   ·replace hat := grp_num (n := 0) hat (by decide)
    refine ⟨_,w₂,_,0,0,8,stepG_load_atomic rfl rfl (by k_ne) rfl H.f_loadU64 (x_loadU64_n L) (x_loadU64_b L) (x_loadU64_x L) .u64 (x_loadU64_f L) rfl (Go.ConcR.WgAt.cellSt hat),.refl _ _,hat,bk3_rA _,⟨by omega,fun e => by omega⟩,by simp [deafBehind,deafX],.out (by omega),fun ft hF HR => ?_⟩
    have hg23 := hg22.set (y := 8) (by omega)
    refine JG.goes 300 _ _ ft hF HR ?_
    walk_nrm
    u_op live_rely hF
    u_c stepG_region_end live_rely hF
    u_c stepG_ret' live_rely hF
    u_leave1 H.f_uLoad live_rely hF
    u_op live_rely hF
    u_c stepG_region_end live_rely hF
    u_c stepG_seq live_rely hF
    u_reg live_rely hF
    u_op live_rely hF
    u_op live_rely hF
    u_op live_rely hF
    u_op live_rely hF
    u_c stepG_region_end live_rely hF
    u_c stepG_seq live_rely hF
    u_reg live_rely hF
    u_op live_rely hF
    u_op live_rely hF
    u_op live_rely hF
    u_op live_rely hF
    u_c stepG_region_end live_rely hF
    u_c stepG_seq live_rely hF
    u_c stepG_seq live_rely hF
    u_reg live_rely hF
    u_op live_rely hF
    u_op live_rely hF
    u_c stepG_region_end live_rely hF
    u_cond true live_rely hF
    u_c stepG_seq live_rely hF
    u_cond true live_rely hF
    u_c stepG_seq live_rely hF
    u_reg live_rely hF
    refine Goes.stop (fun w₁ _ ft hl HR => ?_)
    clear hF
    refine JG.act_at hg23 HR rfl fun w₂ cn l st sm hb hc3 hat hph => ⟨_,w₂,_,st,sm,11,stepG_mark0 .enable (by simp) rfl rfl (by k_ne) rfl H.f_enable (x_enable_n L) (x_enable_b L) (x_enable_x L) (x_enable_f L),.refl _ _,hat,bk3_markA _ (.inr rfl),⟨by omega,fun e => by omega⟩,by simp [deafBehind,deafX],hph.bump (by omega),fun ft hF HR => ?_⟩
    have hg24 := hg23.set (y := 11) (by omega)
    refine JG.goes 300 _ _ ft hF HR ?_
    walk_nrm
    u_c stepG_region_end live_rely hF
    u_reg live_rely hF
    u_op live_rely hF
    u_conv H.underlying_tWgP H.room_tWg (Go.ConcN.Gen.WgLive.cell0 hF).choose_spec live_rely hF
    refine Goes.stop (fun w₁ _ ft hl HR => ?_)
    clear hF
    refine JG.acq_at hg24 HR rfl (fun w₂ hb => ⟨_,stepG_markAt .acquire (by simp) rfl rfl (by k_ne) rfl H.f_acquire (x_acquire_n L) (x_acquire_b L) (x_acquire_x L) (x_acquire_f L) (ad := ⟨G.wg,0,none⟩) (by simp [Act.eval]),fun ft hF HR => ?_⟩)
    have hg25 := hg24.set (y := 12) (by omega)
    refine JG.goes 300 _ _ ft hF HR ?_
    walk_nrm
    u_c stepG_region_end live_rely hF
    u_c stepG_seq live_rely hF
    u_c stepG_seq live_rely hF
    u_reg live_rely hF
    u_op live_rely hF
    u_op live_rely hF
    u_op live_rely hF
    u_op live_rely hF
    u_op live_rely hF
    u_op live_rely hF
    u_op live_rely hF
    u_op live_rely hF
    u_skip live_rely hF
    u_skip live_rely hF
    u_op live_rely hF
    u_c stepG_region_end live_rely hF
    u_cond false live_rely hF
    u_c stepG_skip live_rely hF
    u_c stepG_ret' live_rely hF
    refine Goes.stop (fun w₁ _ ft hl HR => ?_)
    refine (JG.closed P W0 Post G k).ctrl rfl rfl (fun w => stepG_leave rfl rfl H.f_wait (v := .tuple #[]) (by simp [results,waitFn]) (by simp [results,waitFn])) ?_
    refine hc _ _ ?_
    simpa [List.set_set] using HR
   ·replace hat := grp_num (n := 4294967296) hat (by decide)
    have bbA : bits .and .u64 4294967296 2147483648 = 0 := by decide
    have bbB : bits .and .u64 4294967296 2147483647 = 0 := by decide
    refine ⟨_,w₂,_,4294967296,0,18,stepG_load_atomic rfl rfl (by k_ne) rfl H.f_loadU64 (x_loadU64_n L) (x_loadU64_b L) (x_loadU64_x L) .u64 (x_loadU64_f L) rfl (Go.ConcR.WgAt.cellSt hat),.refl _ _,hat,bk3_rA _,⟨by omega,fun e => by omega⟩,by simp [deafBehind,deafX],(Phase.idle (c := 1) (by unfold idleX; omega) (by decide)).num (by decide),fun ft hF HR => ?_⟩
    have hg26 := hg22.set (y := 18) (by omega)
    refine JG.goes 300 _ _ ft hF HR ?_
    walk_nrm
    u_op live_rely hF
    u_c stepG_region_end live_rely hF
    u_c stepG_ret' live_rely hF
    u_leave1 H.f_uLoad live_rely hF
    u_op live_rely hF
    u_c stepG_region_end live_rely hF
    u_c stepG_seq live_rely hF
    u_reg live_rely hF
    u_op live_rely hF
    u_op live_rely hF
    u_op live_rely hF
    u_op live_rely hF
    u_c stepG_region_end live_rely hF
    u_c stepG_seq live_rely hF
    u_reg live_rely hF
    u_op live_rely hF
    u_op live_rely hF
    u_op live_rely hF
    u_op live_rely hF
    u_c stepG_region_end live_rely hF
    u_c stepG_seq live_rely hF
    u_c stepG_seq live_rely hF
    u_reg live_rely hF
    u_op live_rely hF
    u_op live_rely hF
    u_c stepG_region_end live_rely hF
    u_cond false live_rely hF
    u_c stepG_skip live_rely hF
    u_c stepG_seq live_rely hF
    u_reg live_rely hF
    u_op live_rely hF
    u_op live_rely hF
    u_op live_rely hF
    u_op live_rely hF
    u_op live_rely hF
    u_op live_rely hF
    u_call H.f_uCas (nm_uCas L) uCasFn live_rely hF
    u_c stepG_seq live_rely hF
    u_reg live_rely hF
    u_op live_rely hF
    u_c stepG_region_end live_rely hF
    u_c stepG_seq live_rely hF
    u_reg live_rely hF
    u_op live_rely hF
    u_op live_rely hF
    u_op live_rely hF
    u_op live_rely hF
    u_op live_rely hF
    refine Goes.stop (fun w₁ _ ft hl HR => ?_)
    clear hF
    refine JG.act_at hg26 HR rfl fun w₂ cn l st sm hb hc3 hat hph => ?_
    obtain ⟨rfl,hle,rfl,rfl⟩ := hph.at_idle (by unfold idleX; omega)
    replace hle : cn ≤ 1 := hle
    by_cases hcn : cn = 1
    ·subst hcn
     replace hat := grp_num (n := 4294967296) hat (by decide)
     refine ⟨_,w₂.setCell (stA G.wg) (.int .u64 4294967297),_,4294967297,0,9,stepG_cas_hit (v := 4294967296) (n := 4294967297) rfl rfl (by k_ne) rfl H.f_casU64 (x_casU64_n L) (x_casU64_b L) (x_casU64_x L) .u64 (x_casU64_f L) rfl rfl rfl (Go.ConcR.WgAt.cellSt hat) (Go.ConcR.WgAt.thaw hat 0),aside_setCell w₂ (stA G.wg) _,Go.ConcR.WgAt.setSt hat _,bk3_rwA _,⟨by omega,fun e => by omega⟩,by simp [deafBehind,deafX],(Phase.reg (c := 1) (by omega)).num (by decide),fun ft hF HR => ?_⟩
     have hg27 := hg26.set (y := 9) (by omega)
     refine JG.goes 300 _ _ ft hF HR ?_
     walk_nrm
     u_op live_rely hF
     u_c stepG_region_end live_rely hF
     u_c stepG_ret' live_rely hF
     u_leave1 H.f_uCas live_rely hF
     u_c stepG_region_end live_rely hF
     u_cond true live_rely hF
     u_c stepG_seq live_rely hF
     u_c stepG_seq live_rely hF
     u_reg live_rely hF
     u_op live_rely hF
     u_op live_rely hF
     u_op live_rely hF
     u_op live_rely hF
     u_c stepG_region_end live_rely hF
     u_cond true live_rely hF
     u_reg live_rely hF
     u_op live_rely hF
     u_op live_rely hF
     u_op live_rely hF
     u_conv H.underlying_tPU32 H.room_tU32 (Go.ConcN.Gen.WgLive.cell1 hF).choose_spec live_rely hF
     refine Goes.stop (fun w₁ _ ft hl HR => ?_)
     clear hF
     refine JG.act_at hg27 HR rfl fun w₂ cn l st sm hb hc3 hat hph => ⟨_,w₂,_,st,sm,9,stepG_markAt .write (by simp) rfl rfl (by k_ne) rfl H.f_raceWrite (x_raceWrite_n L) (x_raceWrite_b L) (x_raceWrite_x L) (x_raceWrite_f L) (ad := ⟨G.wg,1,none⟩) (by simp [Act.eval]),.refl _ _,hat,bk3_saidA _ (.inr rfl),⟨by omega,fun e => by omega⟩,by simp [deafBehind,deafX],hph.bump (by omega),fun ft hF HR => ?_⟩
     have hg28 := hg27.set (y := 9) (by omega)
     refine JG.goes 300 _ _ ft hF HR ?_
     walk_nrm
     u_c stepG_region_end live_rely hF
     u_c stepG_seq live_rely hF
     u_reg live_rely hF
     u_op live_rely hF
     u_c stepG_region_end live_rely hF
     u_c stepG_seq live_rely hF
     u_c stepG_seq live_rely hF
     u_reg live_rely hF
     u_op live_rely hF
     u_op live_rely hF
     u_op live_rely hF
     u_op live_rely hF
     u_skip live_rely hF
     u_op live_rely hF
     u_c stepG_region_end live_rely hF
     u_cond false live_rely hF
     u_c stepG_skip live_rely hF
     u_c stepG_seq live_rely hF
     u_reg live_rely hF
     u_op live_rely hF
     u_op live_rely hF
     u_op live_rely hF
     u_op live_rely hF
     refine Goes.stop (fun w₁ _ ft hl HR => ?_)
     clear hF
     refine JG.sem_at hg28 HR rfl rfl (fun w₂ st hb hat => stepG_semacquire_wait rfl rfl rfl H.f_semacquire (x_semacquire_n L) (x_semacquire_b L) (x_semacquire_x L) (x_semacquire_f L) (ad := ⟨G.wg,1,none⟩) (by simp [Act.eval]) (Go.ConcR.WgAt.cellSm hat)) fun w₂ hb hat => ⟨_,stepG_semacquire rfl rfl (by k_ne) rfl H.f_semacquire (x_semacquire_n L) (x_semacquire_b L) (x_semacquire_x L) (x_semacquire_f L) (ad := ⟨G.wg,1,none⟩) (n := 1) (by simp [Act.eval]) (Go.ConcR.WgAt.cellSm hat) (by decide) (Go.ConcR.WgAt.thaw hat 1),fun ft hF HR => ?_⟩
     have hg29 := hg28.set (y := 10) (by omega)
     refine JG.goes 300 _ _ ft hF HR ?_
     walk_nrm
     u_c stepG_region_end live_rely hF
     u_c stepG_seq live_rely hF
     u_reg live_rely hF
     u_op live_rely hF
     u_op live_rely hF
     u_op live_rely hF
     u_call H.f_uLoad (nm_uLoad L) uLoadFn live_rely hF
     u_c stepG_seq live_rely hF
     u_reg live_rely hF
     u_op live_rely hF
     u_c stepG_region_end live_rely hF
     u_c stepG_seq live_rely hF
     u_reg live_rely hF
     u_op live_rely hF
     u_op live_rely hF
     u_op live_rely hF
     refine Goes.stop (fun w₁ _ ft hl HR => ?_)
     clear hF
     refine JG.act_at hg29 HR rfl fun w₂ cn l st sm hb hc3 hat hph => ?_
     obtain ⟨rfl,rfl,rfl,rfl⟩ := hph.at_out (by omega)
     refine ⟨_,w₂,_,0,0,10,stepG_load_atomic rfl rfl (by k_ne) rfl H.f_loadU64 (x_loadU64_n L) (x_loadU64_b L) (x_loadU64_x L) .u64 (x_loadU64_f L) rfl (Go.ConcR.WgAt.cellSt hat),.refl _ _,hat,bk3_rA _,⟨by omega,fun e => by omega⟩,by simp [deafBehind,deafX],hph,fun ft hF HR => ?_⟩
     have hg30 := hg29.set (y := 10) (by omega)
     refine JG.goes 300 _ _ ft hF HR ?_
     walk_nrm
     u_op live_rely hF
     u_c stepG_region_end live_rely hF
     u_c stepG_ret' live_rely hF
     u_leave1 H.f_uLoad live_rely hF
     u_op live_rely hF
     u_op live_rely hF
     u_c stepG_region_end live_rely hF
     u_c stepG_seq live_rely hF
     u_cond true live_rely hF
     u_c stepG_seq live_rely hF
     u_reg live_rely hF
     refine Goes.stop (fun w₁ _ ft hl HR => ?_)
     clear hF
     refine JG.act_at hg30 HR rfl fun w₂ cn l st sm hb hc3 hat hph => ⟨_,w₂,_,st,sm,11,stepG_mark0 .enable (by simp) rfl rfl (by k_ne) rfl H.f_enable (x_enable_n L) (x_enable_b L) (x_enable_x L) (x_enable_f L),.refl _ _,hat,bk3_markA _ (.inr rfl),⟨by omega,fun e => by omega⟩,by simp [deafBehind,deafX],hph.bump (by omega),fun ft hF HR => ?_⟩
     have hg31 := hg30.set (y := 11) (by omega)
     refine JG.goes 300 _ _ ft hF HR ?_
     walk_nrm
     u_c stepG_region_end live_rely hF
     u_reg live_rely hF
     u_op live_rely hF
     u_conv H.underlying_tWgP H.room_tWg (Go.ConcN.Gen.WgLive.cell0 hF).choose_spec live_rely hF
     refine Goes.stop (fun w₁ _ ft hl HR => ?_)
     clear hF
     refine JG.acq_at hg31 HR rfl (fun w₂ hb => ⟨_,stepG_markAt .acquire (by simp) rfl rfl (by k_ne) rfl H.f_acquire (x_acquire_n L) (x_acquire_b L) (x_acquire_x L) (x_acquire_f L) (ad := ⟨G.wg,0,none⟩) (by simp [Act.eval]),fun ft hF HR => ?_⟩)
     have hg32 := hg31.set (y := 12) (by omega)
     refine JG.goes 300 _ _ ft hF HR ?_
     walk_nrm
     u_c stepG_region_end live_rely hF
     u_c stepG_seq live_rely hF
     u_c stepG_seq live_rely hF
     u_reg live_rely hF
     u_op live_rely hF
     u_c stepG_region_end live_rely hF
     u_cond false live_rely hF
     u_c stepG_skip live_rely hF
     u_c stepG_ret' live_rely hF
     refine Goes.stop (fun w₁ _ ft hl HR => ?_)
     refine (JG.closed P W0 Post G k).ctrl rfl rfl (fun w => stepG_leave rfl rfl H.f_wait (v := .tuple #[]) (by simp [results,waitFn]) (by simp [results,waitFn])) ?_
     refine hc _ _ ?_
     simpa [List.set_set] using HR
    ·refine ⟨_,w₂,_,_,0,19,stepG_cas_miss (old := 4294967296) (n := 4294967297) rfl rfl (by k_ne) rfl H.f_casU64 (x_casU64_n L) (x_casU64_b L) (x_casU64_x L) .u64 (x_casU64_f L) rfl rfl rfl (Go.ConcR.WgAt.cellSt hat) (Go.ConcR.WgAt.thaw hat 0) (by simp only [kk_val]; omega),.refl _ _,hat,bk3_rA _,⟨by omega,fun e => by omega⟩,by simp [deafBehind,deafX],.idle (by unfold idleX; omega) (by show cn ≤ 0; omega),fun ft hF HR => ?_⟩
     have hg33 := hg26.set (y := 19) (by omega)
     refine JG.goes 300 _ _ ft hF HR ?_
     walk_nrm
     u_op live_rely hF
     u_c stepG_region_end live_rely hF
     u_c stepG_ret' live_rely hF
     u_leave1 H.f_uCas live_rely hF
     u_c stepG_region_end live_rely hF
     u_cond false live_rely hF
     u_c stepG_skip live_rely hF
     u_c stepG_inBlock live_rely hF
     u_c stepG_inLoop live_rely hF
     u_c stepG_block live_rely hF
     u_c stepG_seq live_rely hF
     u_reg live_rely hF
     u_op live_rely hF
     u_op live_rely hF
     u_op live_rely hF
     u_call H.f_uLoad (nm_uLoad L) uLoadFn live_rely hF
     u_c stepG_seq live_rely hF
     u_reg live_rely hF
     u_op live_rely hF
     u_c stepG_region_end live_rely hF
     u_c stepG_seq live_rely hF
     u_reg live_rely hF
     u_op live_rely hF
     u_op live_rely hF
     u_op live_rely hF
     refine Goes.stop (fun w₁ _ ft hl HR => ?_)
     clear hF
     refine JG.act_at hg33 HR rfl fun w₂ cn l st sm hb hc3 hat hph => ?_
     obtain ⟨rfl,hle,rfl,rfl⟩ := hph.at_idle (by unfold idleX; omega)
     replace hle : cn ≤ 0 := hle
     obtain rfl : cn = 0 := by omega
     replace hat := grp_num (n := 0) hat (by decide)
     refine ⟨_,w₂,_,0,0,8,stepG_load_atomic rfl rfl (by k_ne) rfl H.f_loadU64 (x_loadU64_n L) (x_loadU64_b L) (x_loadU64_x L) .u64 (x_loadU64_f L) rfl (Go.ConcR.WgAt.cellSt hat),.refl _ _,hat,bk3_rA _,⟨by omega,fun e => by omega⟩,by simp [deafBehind,deafX],.out (by omega),fun ft hF HR => ?_⟩
     have hg34 := hg33.set (y := 8) (by omega)
     refine JG.goes 300 _ _ ft hF HR ?_
     walk_nrm
     u_op live_rely hF
     u_c stepG_region_end live_rely hF
     u_c stepG_ret' live_rely hF
     u_leave1 H.f_uLoad live_rely hF
     u_op live_rely hF
     u_c stepG_region_end live_rely hF
     u_c stepG_seq live_rely hF
     u_reg live_rely hF
     u_op live_rely hF
     u_op live_rely hF
     u_op live_rely hF
     u_op live_rely hF
     u_c stepG_region_end live_rely hF
     u_c stepG_seq live_rely hF
     u_reg live_rely hF
     u_op live_rely hF
     u_op live_rely hF
     u_op live_rely hF
     u_op live_rely hF
     u_c stepG_region_end live_rely hF
     u_c stepG_seq live_rely hF
     u_c stepG_seq live_rely hF
     u_reg live_rely hF
     u_op live_rely hF
     u_op live_rely hF
     u_c stepG_region_end live_rely hF
     u_cond true live_rely hF
     u_c stepG_seq live_rely hF
     u_cond true live_rely hF
     u_c stepG_seq live_rely hF
     u_reg live_rely hF
     refine Goes.stop (fun w₁ _ ft hl HR => ?_)
     clear hF
     refine JG.act_at hg34 HR rfl fun w₂ cn l st sm hb hc3 hat hph => ⟨_,w₂,_,st,sm,11,stepG_mark0 .enable (by simp) rfl rfl (by k_ne) rfl H.f_enable (x_enable_n L) (x_enable_b L) (x_enable_x L) (x_enable_f L),.refl _ _,hat,bk3_markA _ (.inr rfl),⟨by omega,fun e => by omega⟩,by simp [deafBehind,deafX],hph.bump (by omega),fun ft hF HR => ?_⟩
     have hg35 := hg34.set (y := 11) (by omega)
     refine JG.goes 300 _ _ ft hF HR ?_
     walk_nrm
     u_c stepG_region_end live_rely hF
     u_reg live_rely hF
     u_op live_rely hF
     u_conv H.underlying_tWgP H.room_tWg (Go.ConcN.Gen.WgLive.cell0 hF).choose_spec live_rely hF
     refine Goes.stop (fun w₁ _ ft hl HR => ?_)
     clear hF
     refine JG.acq_at hg35 HR rfl (fun w₂ hb => ⟨_,stepG_markAt .acquire (by simp) rfl rfl (by k_ne) rfl H.f_acquire (x_acquire_n L) (x_acquire_b L) (x_acquire_x L) (x_acquire_f L) (ad := ⟨G.wg,0,none⟩) (by simp [Act.eval]),fun ft hF HR => ?_⟩)
     have hg36 := hg35.set (y := 12) (by omega)
     refine JG.goes 300 _ _ ft hF HR ?_
     walk_nrm
     u_c stepG_region_end live_rely hF
     u_c stepG_seq live_rely hF
     u_c stepG_seq live_rely hF
     u_reg live_rely hF
     u_op live_rely hF
     u_op live_rely hF
     u_op live_rely hF
     u_op live_rely hF
     u_op live_rely hF
     u_op live_rely hF
     u_op live_rely hF
     u_op live_rely hF
     u_skip live_rely hF
     u_skip live_rely hF
     u_op live_rely hF
     u_c stepG_region_end live_rely hF
     u_cond false live_rely hF
     u_c stepG_skip live_rely hF
     u_c stepG_ret' live_rely hF
     refine Goes.stop (fun w₁ _ ft hl HR => ?_)
     refine (JG.closed P W0 Post G k).ctrl rfl rfl (fun w => stepG_leave rfl rfl H.f_wait (v := .tuple #[]) (by simp [results,waitFn]) (by simp [results,waitFn])) ?_
     refine hc _ _ ?_
     simpa [List.set_set] using HR
 ·replace hat := grp_num (n := 12884901888) hat (by decide)
  have bbA : bits .and .u64 12884901888 2147483648 = 0 := by decide
  have bbB : bits .and .u64 12884901888 2147483647 = 0 := by decide
  refine ⟨_,w₂,_,12884901888,0,22,stepG_load_atomic rfl rfl (by k_ne) rfl H.f_loadU64 (x_loadU64_n L) (x_loadU64_b L) (x_loadU64_x L) .u64 (x_loadU64_f L) rfl (Go.ConcR.WgAt.cellSt hat),.refl _ _,hat,bk3_rA _,⟨by omega,fun e => by omega⟩,by simp [deafBehind,deafX],(Phase.idle (c := 3) (by unfold idleX; omega) (by decide)).num (by decide),fun ft hF HR => ?_⟩
  have hg37 := hg6.set (y := 22) (by omega)
  refine JG.goes 300 _ _ ft hF HR ?_
  walk_nrm
  u_op live_rely hF
  u_c stepG_region_end live_rely hF
  u_c stepG_ret' live_rely hF
  u_leave1 H.f_uLoad live_rely hF
  u_op live_rely hF
  u_c stepG_region_end live_rely hF
  u_c stepG_seq live_rely hF
  u_reg live_rely hF
  u_op live_rely hF
  u_op live_rely hF
  u_op live_rely hF
  u_op live_rely hF
  u_c stepG_region_end live_rely hF
  u_c stepG_seq live_rely hF
  u_reg live_rely hF
  u_op live_rely hF
  u_op live_rely hF
  u_op live_rely hF
  u_op live_rely hF
  u_c stepG_region_end live_rely hF
  u_c stepG_seq live_rely hF
  u_c stepG_seq live_rely hF
  u_reg live_rely hF
  u_op live_rely hF
  u_op live_rely hF
  u_c stepG_region_end live_rely hF
  u_cond false live_rely hF
  u_c stepG_skip live_rely hF
  u_c stepG_seq live_rely hF
  u_reg live_rely hF
  u_op live_rely hF
  u_op live_rely hF
  u_op live_rely hF
  u_op live_rely hF
  u_op live_rely hF
  u_op live_rely hF
  u_call H.f_uCas (nm_uCas L) uCasFn live_rely hF
  u_c stepG_seq live_rely hF
  u_reg live_rely hF
  u_op live_rely hF
  u_c stepG_region_end live_rely hF
  u_c stepG_seq live_rely hF
  u_reg live_rely hF
  u_op live_rely hF
  u_op live_rely hF
  u_op live_rely hF
  u_op live_rely hF
  u_op live_rely hF
  refine Goes.stop (fun w₁ _ ft hl HR => ?_)
  clear hF
  refine JG.act_at hg37 HR rfl fun w₂ cn l st sm hb hc3 hat hph => ?_
  obtain ⟨rfl,hle,rfl,rfl⟩ := hph.at_idle (by unfold idleX; omega)
  replace hle : cn ≤ 3 := hle
  by_cases hcn : cn = 3
  ·subst hcn
   replace hat := grp_num (n := 12884901888) hat (by decide)
   refine ⟨_,w₂.setCell (stA G.wg) (.int .u64 12884901889),_,12884901889,0,9,stepG_cas_hit (v := 12884901888) (n := 12884901889) rfl rfl (by k_ne) rfl H.f_casU64 (x_casU64_n L) (x_casU64_b L) (x_casU64_x L) .u64 (x_casU64_f L) rfl rfl rfl (Go.ConcR.WgAt.cellSt hat) (Go.ConcR.WgAt.thaw hat 0),aside_setCell w₂ (stA G.wg) _,Go.ConcR.WgAt.setSt hat _,bk3_rwA _,⟨by omega,fun e => by omega⟩,by simp [deafBehind,deafX],(Phase.reg (c := 3) (by omega)).num (by decide),fun ft hF HR => ?_⟩
   have hg38 := hg37.set (y := 9) (by omega)
   refine JG.goes 300 _ _ ft hF HR ?_
   walk_nrm
   u_op live_rely hF
   u_c stepG_region_end live_rely hF
   u_c stepG_ret' live_rely hF
   u_leave1 H.f_uCas live_rely hF
   u_c stepG_region_end live_rely hF
   u_cond true live_rely hF
   u_c stepG_seq live_rely hF
   u_c stepG_seq live_rely hF
   u_reg live_rely hF
   u_op live_rely hF
   u_op live_rely hF
   u_op live_rely hF
   u_op live_rely hF
   u_c stepG_region_end live_rely hF
   u_cond true live_rely hF
   u_reg live_rely hF
   u_op live_rely hF
   u_op live_rely hF
   u_op live_rely hF
   u_conv H.underlying_tPU32 H.room_tU32 (Go.ConcN.Gen.WgLive.cell1 hF).choose_spec live_rely hF
   refine Goes.stop (fun w₁ _ ft hl HR => ?_)
   clear hF
   refine JG.act_at hg38 HR rfl fun w₂ cn l st sm hb hc3 hat hph => ⟨_,w₂,_,st,sm,9,stepG_markAt .write (by simp) rfl rfl (by k_ne) rfl H.f_raceWrite (x_raceWrite_n L) (x_raceWrite_b L) (x_raceWrite_x L) (x_raceWrite_f L) (ad := ⟨G.wg,1,none⟩) (by simp [Act.eval]),.refl _ _,hat,bk3_saidA _ (.inr rfl),⟨by omega,fun e => by omega⟩,by simp [deafBehind,deafX],hph.bump (by omega),fun ft hF HR => ?_⟩
   have hg39 := hg38.set (y := 9) (by omega)
   refine JG.goes 300 _ _ ft hF HR ?_
   walk_nrm
   u_c stepG_region_end live_rely hF
   u_c stepG_seq live_rely hF
   u_reg live_rely hF
   u_op live_rely hF
   u_c stepG_region_end live_rely hF
   u_c stepG_seq live_rely hF
   u_c stepG_seq live_rely hF
   u_reg live_rely hF
   u_op live_rely hF
   u_op live_rely hF
   u_op live_rely hF
   u_op live_rely hF
   u_skip live_rely hF
   u_op live_rely hF
   u_c stepG_region_end live_rely hF
   u_cond false live_rely hF
   u_c stepG_skip live_rely hF
   u_c stepG_seq live_rely hF
   u_reg live_rely hF
   u_op live_rely hF
   u_op live_rely hF
   u_op live_rely hF
   u_op live_rely hF
   refine Goes.stop (fun w₁ _ ft hl HR => ?_)
   clear hF
   refine JG.sem_at hg39 HR rfl rfl (fun w₂ st hb hat => stepG_semacquire_wait rfl rfl rfl H.f_semacquire (x_semacquire_n L) (x_semacquire_b L) (x_semacquire_x L) (x_semacquire_f L) (ad := ⟨G.wg,1,none⟩) (by simp [Act.eval]) (Go.ConcR.WgAt.cellSm hat)) fun w₂ hb hat => ⟨_,stepG_semacquire rfl rfl (by k_ne) rfl H.f_semacquire (x_semacquire_n L) (x_semacquire_b L) (x_semacquire_x L) (x_semacquire_f L) (ad := ⟨G.wg,1,none⟩) (n := 1) (by simp [Act.eval]) (Go.ConcR.WgAt.cellSm hat) (by decide) (Go.ConcR.WgAt.thaw hat 1),fun ft hF HR => ?_⟩
   have hg40 := hg39.set (y := 10) (by omega)
   refine JG.goes 300 _ _ ft hF HR ?_
   walk_nrm
   u_c stepG_region_end live_rely hF
   u_c stepG_seq live_rely hF
   u_reg live_rely hF
   u_op live_rely hF
   u_op live_rely hF
   u_op live_rely hF
   u_call H.f_uLoad (nm_uLoad L) uLoadFn live_rely hF
   u_c stepG_seq live_rely hF
   u_reg live_rely hF
   u_op live_rely hF
   u_c stepG_region_end live_rely hF
   u_c stepG_seq live_rely hF
   u_reg live_rely hF
   u_op live_rely hF
   u_op live_rely hF
   u_op live_rely hF
   refine Goes.stop (fun w₁ _ ft hl HR => ?_)
   clear hF
   refine JG.act_at hg40 HR rfl fun w₂ cn l st sm hb hc3 hat hph => ?_
   obtain ⟨rfl,rfl,rfl,rfl⟩ := hph.at_out (by omega)
   refine ⟨_,w₂,_,0,0,10,stepG_load_atomic rfl rfl (by k_ne) rfl H.f_loadU64 (x_loadU64_n L) (x_loadU64_b L) (x_loadU64_x L) .u64 (x_loadU64_f L) rfl (Go.ConcR.WgAt.cellSt hat),.refl _ _,hat,bk3_rA _,⟨by omega,fun e => by omega⟩,by simp [deafBehind,deafX],hph,fun ft hF HR => ?_⟩
   have hg41 := hg40.set (y := 10) (by omega)
   refine JG.goes 300 _ _ ft hF HR ?_
   walk_nrm
   u_op live_rely hF
   u_c stepG_region_end live_rely hF
   u_c stepG_ret' live_rely hF
   u_leave1 H.f_uLoad live_rely hF
   u_op live_rely hF
   u_op live_rely hF
   u_c stepG_region_end live_rely hF
   u_c stepG_seq live_rely hF
   u_cond true live_rely hF
   u_c stepG_seq live_rely hF
   u_reg live_rely hF
   refine Goes.stop (fun w₁ _ ft hl HR => ?_)
   clear hF
   refine JG.act_at hg41 HR rfl fun w₂ cn l st sm hb hc3 hat hph => ⟨_,w₂,_,st,sm,11,stepG_mark0 .enable (by simp) rfl rfl (by k_ne) rfl H.f_enable (x_enable_n L) (x_enable_b L) (x_enable_x L) (x_enable_f L),.refl _ _,hat,bk3_markA _ (.inr rfl),⟨by omega,fun e => by omega⟩,by simp [deafBehind,deafX],hph.bump (by omega),fun ft hF HR => ?_⟩
   have hg42 := hg41.set (y := 11) (by omega)
   refine JG.goes 300 _ _ ft hF HR ?_
   walk_nrm
   u_c stepG_region_end live_rely hF
   u_reg live_rely hF
   u_op live_rely hF
   u_conv H.underlying_tWgP H.room_tWg (Go.ConcN.Gen.WgLive.cell0 hF).choose_spec live_rely hF
   refine Goes.stop (fun w₁ _ ft hl HR => ?_)
   clear hF
   refine JG.acq_at hg42 HR rfl (fun w₂ hb => ⟨_,stepG_markAt .acquire (by simp) rfl rfl (by k_ne) rfl H.f_acquire (x_acquire_n L) (x_acquire_b L) (x_acquire_x L) (x_acquire_f L) (ad := ⟨G.wg,0,none⟩) (by simp [Act.eval]),fun ft hF HR => ?_⟩)
   have hg43 := hg42.set (y := 12) (by omega)
   refine JG.goes 300 _ _ ft hF HR ?_
   walk_nrm
   u_c stepG_region_end live_rely hF
   u_c stepG_seq live_rely hF
   u_c stepG_seq live_rely hF
   u_reg live_rely hF
   u_op live_rely hF
   u_c stepG_region_end live_rely hF
   u_cond false live_rely hF
   u_c stepG_skip live_rely hF
   u_c stepG_ret' live_rely hF
   refine Goes.stop (fun w₁ _ ft hl HR => ?_)
   refine (JG.closed P W0 Post G k).ctrl rfl rfl (fun w => stepG_leave rfl rfl H.f_wait (v := .tuple #[]) (by simp [results,waitFn]) (by simp [results,waitFn])) ?_
   refine hc _ _ ?_
   simpa [List.set_set] using HR
  ·refine ⟨_,w₂,_,_,0,23,stepG_cas_miss (old := 12884901888) (n := 12884901889) rfl rfl (by k_ne) rfl H.f_casU64 (x_casU64_n L) (x_casU64_b L) (x_casU64_x L) .u64 (x_casU64_f L) rfl rfl rfl (Go.ConcR.WgAt.cellSt hat) (Go.ConcR.WgAt.thaw hat 0) (by simp only [kk_val]; omega),.refl _ _,hat,bk3_rA _,⟨by omega,fun e => by omega⟩,by simp [deafBehind,deafX],.idle (by unfold idleX; omega) (by show cn ≤ 2; omega),fun ft hF HR => ?_⟩
   have hg44 := hg37.set (y := 23) (by omega)
   refine JG.goes 300 _ _ ft hF HR ?_
   walk_nrm
   u_op live_rely hF
   u_c stepG_region_end live_rely hF
   u_c stepG_ret' live_rely hF
   u_leave1 H.f_uCas live_rely hF
   u_c stepG_region_end live_rely hF
   u_cond false live_rely hF
   u_c stepG_skip live_rely hF
   u_c stepG_inBlock live_rely hF
   u_c stepG_inLoop live_rely hF
   u_c stepG_block live_rely hF
   u_c stepG_seq live_rely hF
   u_reg live_rely hF
   u_op live_rely hF
   u_op live_rely hF
   u_op live_rely hF
   u_call H.f_uLoad (nm_uLoad L) uLoadFn live_rely hF
   u_c stepG_seq live_rely hF
   u_reg live_rely hF
   u_op live_rely hF
   u_c stepG_region_end live_rely hF
   u_c stepG_seq live_rely hF
   u_reg live_rely hF
   u_op live_rely hF
   u_op live_rely hF
   u_op live_rely hF
   refine Goes.stop (fun w₁ _ ft hl HR => ?_)
   clear hF
   refine JG.act_at hg44 HR rfl fun w₂ cn l st sm hb hc3 hat hph => ?_
   obtain ⟨rfl,hle,rfl,rfl⟩ := hph.at_idle (by unfold idleX; omega)
   replace hle : cn ≤ 2 := hle
   rcases (by omega : cn = 0 ∨ cn = 1 ∨ cn = 2) with rfl | rfl | rfl
   ·replace hat := grp_num (n := 0) hat (by decide)
    refine ⟨_,w₂,_,0,0,8,stepG_load_atomic rfl rfl (by k_ne) rfl H.f_loadU64 (x_loadU64_n L) (x_loadU64_b L) (x_loadU64_x L) .u64 (x_loadU64_f L) rfl (Go.ConcR.WgAt.cellSt hat),.refl _ _,hat,bk3_rA _,⟨by omega,fun e => by omega⟩,by simp [deafBehind,deafX],.out (by omega),fun ft hF HR => ?_⟩
    have hg45 := hg44.set (y := 8) (by omega)
    refine JG.goes 300 _ _ ft hF HR ?_
    walk_nrm
    u_op live_rely hF
    u_c stepG_region_end live_rely hF
    u_c stepG_ret' live_rely hF
    u_leave1 H.f_uLoad live_rely hF
    u_op live_rely hF
    u_c stepG_region_end live_rely hF
    u_c stepG_seq live_rely hF
    u_reg live_rely hF
    u_op live_rely hF
    u_op live_rely hF
    u_op live_rely hF
    u_op live_rely hF
    u_c stepG_region_end live_rely hF
    u_c stepG_seq live_rely hF
    u_reg live_rely hF
    u_op live_rely hF
    u_op live_rely hF
    u_op live_rely hF
    u_op live_rely hF
    u_c stepG_region_end live_rely hF
    u_c stepG_seq live_rely hF
    u_c stepG_seq live_rely hF
    u_reg live_rely hF
    u_op live_rely hF
    u_op live_rely hF
    u_c stepG_region_end live_rely hF
    u_cond true live_rely hF
    u_c stepG_seq live_rely hF
    u_cond true live_rely hF
    u_c stepG_seq live_rely hF
    u_reg live_rely hF
    refine Goes.stop (fun w₁ _ ft hl HR => ?_)
    clear hF
    refine JG.act_at hg45 HR rfl fun w₂ cn l st sm hb hc3 hat hph => ⟨_,w₂,_,st,sm,11,stepG_mark0 .enable (by simp) rfl rfl (by k_ne) rfl H.f_enable (x_enable_n L) (x_enable_b L) (x_enable_x L) (x_enable_f L),.refl _ _,hat,bk3_markA _ (.inr rfl),⟨by omega,fun e => by omega⟩,by simp [deafBehind,deafX],hph.bump (by omega),fun ft hF HR => ?_⟩
    have hg46 := hg45.set (y := 11) (by omega)
    refine JG.goes 300 _ _ ft hF HR ?_
    walk_nrm
    u_c stepG_region_end live_rely hF
    u_reg live_rely hF
    u_op live_rely hF
    u_conv H.underlying_tWgP H.room_tWg (Go.ConcN.Gen.WgLive.cell0 hF).choose_spec live_rely hF
    refine Goes.stop (fun w₁ _ ft hl HR => ?_)
    clear hF
    refine JG.acq_at hg46 HR rfl (fun w₂ hb => ⟨_,stepG_markAt .acquire (by simp) rfl rfl (by k_ne) rfl H.f_acquire (x_acquire_n L) (x_acquire_b L) (x_acquire_x L) (x_acquire_f L) (ad := ⟨G.wg,0,none⟩) (by simp [Act.eval]),fun ft hF HR => ?_⟩)
    have hg47 := hg46.set (y := 12) (by omega)
    refine JG.goes 300 _ _ ft hF HR ?_
    walk_nrm
    u_c stepG_region_end live_rely hF
    u_c stepG_seq live_rely hF
    u_c stepG_seq live_rely hF
    u_reg live_rely hF
    u_op live_rely hF
    u_op live_rely hF
    u_op live_rely hF
    u_op live_rely hF
    u_op live_rely hF
    u_op live_rely hF
    u_op live_rely hF
    u_op live_rely hF
    u_skip live_rely hF
    u_skip live_rely hF
    u_op live_rely hF
    u_c stepG_region_end live_rely hF
    u_cond false live_rely hF
    u_c stepG_skip live_rely hF
    u_c stepG_ret' live_rely hF
    refine Goes.stop (fun w₁ _ ft hl HR => ?_)
    refine (JG.closed P W0 Post G k).ctrl rfl rfl (fun w => stepG_leave rfl rfl H.f_wait (v := .tuple #[]) (by simp [results,waitFn]) (by simp [results,waitFn])) ?_
    refine hc _ _ ?_
    simpa [List.set_set] using HR
   ·replace hat := grp_num (n := 4294967296) hat (by decide)
    have bbA : bits .and .u64 4294967296 2147483648 = 0 := by decide
    have bbB : bits .and .u64 4294967296 2147483647 = 0 := by decide
    refine ⟨_,w₂,_,4294967296,0,18,stepG_load_atomic rfl rfl (by k_ne) rfl H.f_loadU64 (x_loadU64_n L) (x_loadU64_b L) (x_loadU64_x L) .u64 (x_loadU64_f L) rfl (Go.ConcR.WgAt.cellSt hat),.refl _ _,hat,bk3_rA _,⟨by omega,fun e => by omega⟩,by simp [deafBehind,deafX],(Phase.idle (c := 1) (by unfold idleX; omega) (by decide)).num (by decide),fun ft hF HR => ?_⟩
    have hg48 := hg44.set (y := 18) (by omega)
    refine JG.goes 300 _ _ ft hF HR ?_
    walk_nrm
    u_op live_rely hF
    u_c stepG_region_end live_rely hF
    u_c stepG_ret' live_rely hF
    u_leave1 H.f_uLoad live_rely hF
    u_op live_rely hF
    u_c stepG_region_end live_rely hF
    u_c stepG_seq live_rely hF
    u_reg live_rely hF
    u_op live_rely hF
    u_op live_rely hF
    u_op live_rely hF
    u_op live_rely hF
    u_c stepG_region_end live_rely hF
    u_c stepG_seq live_rely hF
    u_reg live_rely hF
    u_op live_rely hF
    u_op live_rely hF
    u_op live_rely hF
    u_op live_rely hF
    u_c stepG_region_end live_rely hF
    u_c stepG_seq live_rely hF
    u_c stepG_seq live_rely hF
    u_reg live_rely hF
    u_op live_rely hF
    u_op live_rely hF
    u_c stepG_region_end live_rely hF
    u_cond false live_rely hF
    u_c stepG_skip live_rely hF
    u_c stepG_seq live_rely hF
    u_reg live_rely hF
    u_op live_rely hF
    u_op live_rely hF
    u_op live_rely hF
    u_op live_rely hF
    u_op live_rely hF
    u_op live_rely hF
    u_call H.f_uCas (nm_uCas L) uCasFn live_rely hF
    u_c stepG_seq live_rely hF
    u_reg live_rely hF
    u_op live_rely hF
    u_c stepG_region_end live_rely hF
    u_c stepG_seq live_rely hF
    u_reg live_rely hF
    u_op live_rely hF
    u_op live_rely hF
    u_op live_rely hF
    u_op live_rely hF
    u_op live_rely hF
    refine Goes.stop (fun w₁ _ ft hl HR => ?_)
    clear hF
    refine JG.act_at hg48 HR rfl fun w₂ cn l st sm hb hc3 hat hph => ?_
    obtain ⟨rfl,hle,rfl,rfl⟩ := hph.at_idle (by unfold idleX; omega)
    replace hle : cn ≤ 1 := hle
    by_cases hcn : cn = 1
    ·subst hcn
     replace hat := grp_num (n := 4294967296) hat (by decide)
     refine ⟨_,w₂.setCell (stA G.wg) (.int .u64 4294967297),_,4294967297,0,9,stepG_cas_hit (v := 4294967296) (n := 4294967297) rfl rfl (by k_ne) rfl H.f_casU64 (x_casU64_n L) (x_casU64_b L) (x_casU64_x L) .u64 (x_casU64_f L) rfl rfl rfl (Go.ConcR.WgAt.cellSt hat) (Go.ConcR.WgAt.thaw hat 0),aside_setCell w₂ (stA G.wg) _,Go.ConcR.WgAt.setSt hat _,bk3_rwA _,⟨by omega,fun e => by omega⟩,by simp [deafBehind,deafX],(Phase.reg (c := 1) (by omega)).num (by decide),fun ft hF HR => ?_⟩
     have hg49 := hg48.set (y := 9) (by omega)
     refine JG.goes 300 _ _ ft hF HR ?_
     walk_nrm
     u_op live_rely hF
     u_c stepG_region_end live_rely hF
     u_c stepG_ret' live_rely hF
     u_leave1 H.f_uCas live_rely hF
     u_c stepG_region_end live_rely hF
     u_cond true live_rely hF
     u_c stepG_seq live_rely hF
     u_c stepG_seq live_rely hF
     u_reg live_rely hF
     u_op live_rely hF
     u_op live_rely hF
     u_op live_rely hF
     u_op live_rely hF
     u_c stepG_region_end live_rely hF
     u_cond true live_rely hF
     u_reg live_rely hF
     u_op live_rely hF
     u_op live_rely hF
     u_op live_rely hF
     u_conv H.underlying_tPU32 H.room_tU32 (Go.ConcN.Gen.WgLive.cell1 hF).choose_spec live_rely hF
     refine Goes.stop (fun w₁ _ ft hl HR => ?_)
     clear hF
     refine JG.act_at hg49 HR rfl fun w₂ cn l st sm hb hc3 hat hph => ⟨_,w₂,_,st,sm,9,stepG_markAt .write (by simp) rfl rfl (by k_ne) rfl H.f_raceWrite (x_raceWrite_n L) (x_raceWrite_b L) (x_raceWrite_x L) (x_raceWrite_f L) (ad := ⟨G.wg,1,none⟩) (by simp [Act.eval]),.refl _ _,hat,bk3_saidA _ (.inr rfl),⟨by omega,fun e => by omega⟩,by simp [deafBehind,deafX],hph.bump (by omega),fun ft hF HR => ?_⟩
     have hg50 := hg49.set (y := 9) (by omega)
     refine JG.goes 300 _ _ ft hF HR ?_
     walk_nrm
     u_c stepG_region_end live_rely hF
     u_c stepG_seq live_rely hF
     u_reg live_rely hF
     u_op live_rely hF
     u_c stepG_region_end live_rely hF
     u_c stepG_seq live_rely hF
     u_c stepG_seq live_rely hF
     u_reg live_rely hF
     u_op live_rely hF
     u_op live_rely hF
     u_op live_rely hF
     u_op live_rely hF
     u_skip live_rely hF
     u_op live_rely hF
     u_c stepG_region_end live_rely hF
     u_cond false live_rely hF
     u_c stepG_skip live_rely hF
     u_c stepG_seq live_rely hF
     u_reg live_rely hF
     u_op live_rely hF
     u_op live_rely hF
     u_op live_rely hF
     u_op live_rely hF
     refine Goes.stop (fun w₁ _ ft hl HR => ?_)
     clear hF
     refine JG.sem_at hg50 HR rfl rfl (fun w₂ st hb hat => stepG_semacquire_wait rfl rfl rfl H.f_semacquire (x_semacquire_n L) (x_semacquire_b L) (x_semacquire_x L) (x_semacquire_f L) (ad := ⟨G.wg,1,none⟩) (by simp [Act.eval]) (Go.ConcR.WgAt.cellSm hat)) fun w₂ hb hat => ⟨_,stepG_semacquire rfl rfl (by k_ne) rfl H.f_semacquire (x_semacquire_n L) (x_semacquire_b L) (x_semacquire_x L) (x_semacquire_f L) (ad := ⟨G.wg,1,none⟩) (n := 1) (by simp [Act.eval]) (Go.ConcR.WgAt.cellSm hat) (by decide) (Go.ConcR.WgAt.thaw hat 1),fun ft hF HR => ?_⟩
     have hg51 := hg50.set (y := 10) (by omega)
     refine JG.goes 300 _ _ ft hF HR ?_
     walk_nrm
     u_c stepG_region_end live_rely hF
     u_c stepG_seq live_rely hF
     u_reg live_rely hF
     u_op live_rely hF
     u_op live_rely hF
     u_op live_rely hF
     u_call H.f_uLoad (nm_uLoad L) uLoadFn live_rely hF
     u_c stepG_seq live_rely hF
     u_reg live_rely hF
     u_op live_rely hF
     u_c stepG_region_end live_rely hF
     u_c stepG_seq live_rely hF
     u_reg live_rely hF
     u_op live_rely hF
     u_op live_rely hF
     u_op live_rely hF
     refine Goes.stop (fun w₁ _ ft hl HR => ?_)
     clear hF
     refine JG.act_at hg51 HR rfl fun w₂ cn l st sm hb hc3 hat hph => ?_
     obtain ⟨rfl,rfl,rfl,rfl⟩ := hph.at_out (by omega)
     refine ⟨_,w₂,_,0,0,10,stepG_load_atomic rfl rfl (by k_ne) rfl H.f_loadU64 (x_loadU64_n L) (x_loadU64_b L) (x_loadU64_x L) .u64 (x_loadU64_f L) rfl (Go.ConcR.WgAt.cellSt hat),.refl _ _,hat,bk3_rA _,⟨by omega,fun e => by omega⟩,by simp [deafBehind,deafX],hph,fun ft hF HR => ?_⟩
     have hg52 := hg51.set (y := 10) (by omega)
     refine JG.goes 300 _ _ ft hF HR ?_
     walk_nrm
     u_op live_rely hF
     u_c stepG_region_end live_rely hF
     u_c stepG_ret' live_rely hF
     u_leave1 H.f_uLoad live_rely hF
     u_op live_rely hF
     u_op live_rely hF
     u_c stepG_region_end live_rely hF
     u_c stepG_seq live_rely hF
     u_cond true live_rely hF
     u_c stepG_seq live_rely hF
     u_reg live_rely hF
     refine Goes.stop (fun w₁ _ ft hl HR => ?_)
     clear hF
     refine JG.act_at hg52 HR rfl fun w₂ cn l st sm hb hc3 hat hph => ⟨_,w₂,_,st,sm,11,stepG_mark0 .enable (by simp) rfl rfl (by k_ne) rfl H.f_enable (x_enable_n L) (x_enable_b L) (x_enable_x L) (x_enable_f L),.refl _ _,hat,bk3_markA _ (.inr rfl),⟨by omega,fun e => by omega⟩,by simp [deafBehind,deafX],hph.bump (by omega),fun ft hF HR => ?_⟩
     have hg53 := hg52.set (y := 11) (by omega)
     refine JG.goes 300 _ _ ft hF HR ?_
     walk_nrm
     u_c stepG_region_end live_rely hF
     u_reg live_rely hF
     u_op live_rely hF
     u_conv H.underlying_tWgP H.room_tWg (Go.ConcN.Gen.WgLive.cell0 hF).choose_spec live_rely hF
     refine Goes.stop (fun w₁ _ ft hl HR => ?_)
     clear hF
     refine JG.acq_at hg53 HR rfl (fun w₂ hb => ⟨_,stepG_markAt .acquire (by simp) rfl rfl (by k_ne) rfl H.f_acquire (x_acquire_n L) (x_acquire_b L) (x_acquire_x L) (x_acquire_f L) (ad := ⟨G.wg,0,none⟩) (by simp [Act.eval]),fun ft hF HR => ?_⟩)
     have hg54 := hg53.set (y := 12) (by omega)
     refine JG.goes 300 _ _ ft hF HR ?_
     walk_nrm
     u_c stepG_region_end live_rely hF
     u_c stepG_seq live_rely hF
     u_c stepG_seq live_rely hF
     u_reg live_rely hF
     u_op live_rely hF
     u_c stepG_region_end live_rely hF
     u_cond false live_rely hF
     u_c stepG_skip live_rely hF
     u_c stepG_ret' live_rely hF
     refine Goes.stop (fun w₁ _ ft hl HR => ?_)
     refine (JG.closed P W0 Post G k).ctrl rfl rfl (fun w => stepG_leave rfl rfl H.f_wait (v := .tuple #[]) (by simp [results,waitFn]) (by simp [results,waitFn])) ?_
     refine hc _ _ ?_
     simpa [List.set_set] using HR
    ·refine ⟨_,w₂,_,_,0,19,stepG_cas_miss (old := 4294967296) (n := 4294967297) rfl rfl (by k_ne) rfl H.f_casU64 (x_casU64_n L) (x_casU64_b L) (x_casU64_x L) .u64 (x_casU64_f L) rfl rfl rfl (Go.ConcR.WgAt.cellSt hat) (Go.ConcR.WgAt.thaw hat 0) (by simp only [kk_val]; omega),.refl _ _,hat,bk3_rA _,⟨by omega,fun e => by omega⟩,by simp [deafBehind,deafX],.idle (by unfold idleX; omega) (by show cn ≤ 0; omega),fun ft hF HR => ?_⟩
     have hg55 := hg48.set (y := 19) (by omega)
     refine JG.goes 300 _ _ ft hF HR ?_
     walk_nrm
     u_op live_rely hF
     u_c stepG_region_end live_rely hF
     u_c stepG_ret' live_rely hF
     u_leave1 H.f_uCas live_rely hF
     u_c stepG_region_end live_rely hF
     u_cond false live_rely hF
     u_c stepG_skip live_rely hF
     u_c stepG_inBlock live_rely hF
     u_c stepG_inLoop live_rely hF
     u_c stepG_block live_rely hF
     u_c stepG_seq live_rely hF
     u_reg live_rely hF
     u_op live_rely hF
     u_op live_rely hF
     u_op live_rely hF
     u_call H.f_uLoad (nm_uLoad L) uLoadFn live_rely hF
     u_c stepG_seq live_rely hF
     u_reg live_rely hF
     u_op live_rely hF
     u_c stepG_region_end live_rely hF
     u_c stepG_seq live_rely hF
     u_reg live_rely hF
     u_op live_rely hF
     u_op live_rely hF
     u_op live_rely hF
     refine Goes.stop (fun w₁ _ ft hl HR => ?_)
     clear hF
     refine JG.act_at hg55 HR rfl fun w₂ cn l st sm hb hc3 hat hph => ?_
     obtain ⟨rfl,hle,rfl,rfl⟩ := hph.at_idle (by unfold idleX; omega)
     replace hle : cn ≤ 0 := hle
     obtain rfl : cn = 0 := by omega
     replace hat := grp_num (n := 0) hat (by decide)
     refine ⟨_,w₂,_,0,0,8,stepG_load_atomic rfl rfl (by k_ne) rfl H.f_loadU64 (x_loadU64_n L) (x_loadU64_b L) (x_loadU64_x L) .u64 (x_loadU64_f L) rfl (Go.ConcR.WgAt.cellSt hat),.refl _ _,hat,bk3_rA _,⟨by omega,fun e => by omega⟩,by simp [deafBehind,deafX],.out (by omega),fun ft hF HR => ?_⟩
     have hg56 := hg55.set (y := 8) (by omega)
     refine JG.goes 300 _ _ ft hF HR ?_
     walk_nrm
     u_op live_rely hF
     u_c stepG_region_end live_rely hF
     u_c stepG_ret' live_rely hF
     u_leave1 H.f_uLoad live_rely hF
     u_op live_rely hF
     u_c stepG_region_end live_rely hF
     u_c stepG_seq live_rely hF
     u_reg live_rely hF
     u_op live_rely hF
     u_op live_rely hF
     u_op live_rely hF
     u_op live_rely hF
     u_c stepG_region_end live_rely hF
     u_c stepG_seq live_rely hF
     u_reg live_rely hF
     u_op live_rely hF
     u_op live_rely hF
     u_op live_rely hF
     u_op live_rely hF
     u_c stepG_region_end live_rely hF
     u_c stepG_seq live_rely hF
     u_c stepG_seq live_rely hF
     u_reg live_rely hF
     u_op live_rely hF
     u_op live_rely hF
     u_c stepG_region_end live_rely hF
     u_cond true live_rely hF
     u_c stepG_seq live_rely hF
     u_cond true live_rely hF
     u_c stepG_seq live_rely hF
     u_reg live_rely hF
     refine Goes.stop (fun w₁ _ ft hl HR => ?_)
     clear hF
     refine JG.act_at hg56 HR rfl fun w₂ cn l st sm hb hc3 hat hph => ⟨_,w₂,_,st,sm,11,stepG_mark0 .enable (by simp) rfl rfl (by k_ne) rfl H.f_enable (x_enable_n L) (x_enable_b L) (x_enable_x L) (x_enable_f L),.refl _ _,hat,bk3_markA _ (.inr rfl),⟨by omega,fun e => by omega⟩,by simp [deafBehind,deafX],hph.bump (by omega),fun ft hF HR => ?_⟩
     have hg57 := hg56.set (y := 11) (by omega)
     refine JG.goes 300 _ _ ft hF HR ?_
     walk_nrm
     u_c stepG_region_end live_rely hF
     u_reg live_rely hF
     u_op live_rely hF
     u_conv H.underlying_tWgP H.room_tWg (Go.ConcN.Gen.WgLive.cell0 hF).choose_spec live_rely hF
     refine Goes.stop (fun w₁ _ ft hl HR => ?_)
     clear hF
     refine JG.acq_at hg57 HR rfl (fun w₂ hb => ⟨_,stepG_markAt .acquire (by simp) rfl rfl (by k_ne) rfl H.f_acquire (x_acquire_n L) (x_acquire_b L) (x_acquire_x L) (x_acquire_f L) (ad := ⟨G.wg,0,none⟩) (by simp [Act.eval]),fun ft hF HR => ?_⟩)
     have hg58 := hg57.set (y := 12) (by omega)
     refine JG.goes 300 _ _ ft hF HR ?_
     walk_nrm
     u_c stepG_region_end live_rely hF
     u_c stepG_seq live_rely hF
     u_c stepG_seq live_rely hF
     u_reg live_rely hF
     u_op live_rely hF
     u_op live_rely hF
     u_op live_rely hF
     u_op live_rely hF
     u_op live_rely hF
     u_op live_rely hF
     u_op live_rely hF
     u_op live_rely hF
     u_skip live_rely hF
     u_skip live_rely hF
     u_op live_rely hF
     u_c stepG_region_end live_rely hF
     u_cond false live_rely hF
     u_c stepG_skip live_rely hF
     u_c stepG_ret' live_rely hF
     refine Goes.stop (fun w₁ _ ft hl HR => ?_)
     refine (JG.closed P W0 Post G k).ctrl rfl rfl (fun w => stepG_leave rfl rfl H.f_wait (v := .tuple #[]) (by simp [results,waitFn]) (by simp [results,waitFn])) ?_
     refine hc _ _ ?_
     simpa [List.set_set] using HR
   ·replace hat := grp_num (n := 8589934592) hat (by decide)
    have bbA : bits .and .u64 8589934592 2147483648 = 0 := by decide
    have bbB : bits .and .u64 8589934592 2147483647 = 0 := by decide
    refine ⟨_,w₂,_,8589934592,0,20,stepG_load_atomic rfl rfl (by k_ne) rfl H.f_loadU64 (x_loadU64_n L) (x_loadU64_b L) (x_loadU64_x L) .u64 (x_loadU64_f L) rfl (Go.ConcR.WgAt.cellSt hat),.refl _ _,hat,bk3_rA _,⟨by omega,fun e => by omega⟩,by simp [deafBehind,deafX],(Phase.idle (c := 2) (by unfold idleX; omega) (by decide)).num (by decide),fun ft hF HR => ?_⟩
    have hg59 := hg44.set (y := 20) (by omega)
    refine JG.goes 300 _ _ ft hF HR ?_
    walk_nrm
    u_op live_rely hF
    u_c stepG_region_end live_rely hF
    u_c stepG_ret' live_rely hF
    u_leave1 H.f_uLoad live_rely hF
    u_op live_rely hF
    u_c stepG_region_end live_rely hF
    u_c stepG_seq live_rely hF
    u_reg live_rely hF
    u_op live_rely hF
    u_op live_rely hF
    u_op live_rely hF
    u_op live_rely hF
    u_c stepG_region_end live_rely hF
    u_c stepG_seq live_rely hF
    u_reg live_rely hF
    u_op live_rely hF
    u_op live_rely hF
    u_op live_rely hF
    u_op live_rely hF
    u_c stepG_region_end live_rely hF
    u_c stepG_seq live_rely hF
    u_c stepG_seq live_rely hF
    u_reg live_rely hF
    u_op live_rely hF
    u_op live_rely hF
    u_c stepG_region_end live_rely hF
    u_cond false live_rely hF
    u_c stepG_skip live_rely hF
    u_c stepG_seq live_rely hF
    u_reg live_rely hF
    u_op live_rely hF
    u_op live_rely hF
    u_op live_rely hF
    u_op live_rely hF
    u_op live_rely hF
    u_op live_rely hF
    u_call H.f_uCas (nm_uCas L) uCasFn live_rely hF
    u_c stepG_seq live_rely hF
    u_reg live_rely hF
    u_op live_rely hF
    u_c stepG_region_end live_rely hF
    u_c stepG_seq live_rely hF
    u_reg live_rely hF
    u_op live_rely hF
    u_op live_rely hF
    u_op live_rely hF
    u_op live_rely hF
    u_op live_rely hF
    refine Goes.stop (fun w₁ _ ft hl HR => ?_)
    clear hF
    refine JG.act_at hg59 HR rfl fun w₂ cn l st sm hb hc3 hat hph => ?_
    obtain ⟨rfl,hle,rfl,rfl⟩ := hph.at_idle (by unfold idleX; omega)
    replace hle : cn ≤ 2 := hle
    by_cases hcn : cn = 2
    ·subst hcn
     replace hat := grp_num (n := 8589934592) hat (by decide)
     refine ⟨_,w₂.setCell (stA G.wg) (.int .u64 8589934593),_,8589934593,0,9,stepG_cas_hit (v := 8589934592) (n := 8589934593) rfl rfl (by k_ne) rfl H.f_casU64 (x_casU64_n L) (x_casU64_b L) (x_casU64_x L) .u64 (x_casU64_f L) rfl rfl rfl (Go.ConcR.WgAt.cellSt hat) (Go.ConcR.WgAt.thaw hat 0),aside_setCell w₂ (stA G.wg) _,Go.ConcR.WgAt.setSt hat _,bk3_rwA _,⟨by omega,fun e => by omega⟩,by simp [deafBehind,deafX],(Phase.reg (c := 2) (by omega)).num (by decide),fun ft hF HR => ?_⟩
     have hg60 := hg59.set (y := 9) (by omega)
     refine JG.goes 300 _ _ ft hF HR ?_
     walk_nrm
     u_op live_rely hF
     u_c stepG_region_end live_rely hF
     u_c stepG_ret' live_rely hF
     u_leave1 H.f_uCas live_rely hF
     u_c stepG_region_end live_rely hF
     u_cond true live_rely hF
     u_c stepG_seq live_rely hF
     u_c stepG_seq live_rely hF
     u_reg live_rely hF
     u_op live_rely hF
     u_op live_rely hF
     u_op live_rely hF
     u_op live_rely hF
     u_c stepG_region_end live_rely hF
     u_cond true live_rely hF
     u_reg live_rely hF
     u_op live_rely hF
     u_op live_rely hF
     u_op live_rely hF
     u_conv H.underlying_tPU32 H.room_tU32 (Go.ConcN.Gen.WgLive.cell1 hF).choose_spec live_rely hF
     refine Goes.stop (fun w₁ _ ft hl HR => ?_)
     clear hF
     refine JG.act_at hg60 HR rfl fun w₂ cn l st sm hb hc3 hat hph => ⟨_,w₂,_,st,sm,9,stepG_markAt .write (by simp) rfl rfl (by k_ne) rfl H.f_raceWrite (x_raceWrite_n L) (x_raceWrite_b L) (x_raceWrite_x L) (x_raceWrite_f L) (ad := ⟨G.wg,1,none⟩) (by simp [Act.eval]),.refl _ _,hat,bk3_saidA _ (.inr rfl),⟨by omega,fun e => by omega⟩,by simp [deafBehind,deafX],hph.bump (by omega),fun ft hF HR => ?_⟩
     have hg61 := hg60.set (y := 9) (by omega)
     refine JG.goes 300 _ _ ft hF HR ?_
     walk_nrm
     u_c stepG_region_end live_rely hF
     u_c stepG_seq live_rely hF
     u_reg live_rely hF
     u_op live_rely hF
     u_c stepG_region_end live_rely hF
     u_c stepG_seq live_rely hF
     u_c stepG_seq live_rely hF
     u_reg live_rely hF
     u_op live_rely hF
     u_op live_rely hF
     u_op live_rely hF
     u_op live_rely hF
     u_skip live_rely hF
     u_op live_rely hF
     u_c stepG_region_end live_rely hF
     u_cond false live_rely hF
     u_c stepG_skip live_rely hF
     u_c stepG_seq live_rely hF
     u_reg live_rely hF
     u_op live_rely hF
     u_op live_rely hF
     u_op live_rely hF
     u_op live_rely hF
     refine Goes.stop (fun w₁ _ ft hl HR => ?_)
     clear hF
     refine JG.sem_at hg61 HR rfl rfl (fun w₂ st hb hat => stepG_semacquire_wait rfl rfl rfl H.f_semacquire (x_semacquire_n L) (x_semacquire_b L) (x_semacquire_x L) (x_semacquire_f L) (ad := ⟨G.wg,1,none⟩) (by simp [Act.eval]) (Go.ConcR.WgAt.cellSm hat)) fun w₂ hb hat => ⟨_,stepG_semacquire rfl rfl (by k_ne) rfl H.f_semacquire (x_semacquire_n L) (x_semacquire_b L) (x_semacquire_x L) (x_semacquire_f L) (ad := ⟨G.wg,1,none⟩) (n := 1) (by simp [Act.eval]) (Go.ConcR.WgAt.cellSm hat) (by decide) (Go.ConcR.WgAt.thaw hat 1),fun ft hF HR => ?_⟩
     have hg62 := hg61.set (y := 10) (by omega)
     refine JG.goes 300 _ _ ft hF HR ?_
     walk_nrm
     u_c stepG_region_end live_rely hF
     u_c stepG_seq live_rely hF
     u_reg live_rely hF
     u_op live_rely hF
     u_op live_rely hF
     u_op live_rely hF
     u_call H.f_uLoad (nm_uLoad L) uLoadFn live_rely hF
     u_c stepG_seq live_rely hF
     u_reg live_rely hF
     u_op live_rely hF
     u_c stepG_region_end live_rely hF
     u_c stepG_seq live_rely hF
     u_reg live_rely hF
     u_op live_rely hF
     u_op live_rely hF
     u_op live_rely hF
     refine Goes.stop (fun w₁ _ ft hl HR => ?_)
     clear hF
     refine JG.act_at hg62 HR rfl fun w₂ cn l st sm hb hc3 hat hph => ?_
     obtain ⟨rfl,rfl,rfl,rfl⟩ := hph.at_out (by omega)
     refine ⟨_,w₂,_,0,0,10,stepG_load_atomic rfl rfl (by k_ne) rfl H.f_loadU64 (x_loadU64_n L) (x_loadU64_b L) (x_loadU64_x L) .u64 (x_loadU64_f L) rfl (Go.ConcR.WgAt.cellSt hat),.refl _ _,hat,bk3_rA _,⟨by omega,fun e => by omega⟩,by simp [deafBehind,deafX],hph,fun ft hF HR => ?_⟩
     have hg63 := hg62.set (y := 10) (by omega)
     refine JG.goes 300 _ _ ft hF HR ?_
     walk_nrm
     u_op live_rely hF
     u_c stepG_region_end live_rely hF
     u_c stepG_ret' live_rely hF
     u_leave1 H.f_uLoad live_rely hF
     u_op live_rely hF
     u_op live_rely hF
     u_c stepG_region_end live_rely hF
     u_c stepG_seq live_rely hF
     u_cond true live_rely hF
     u_c stepG_seq live_rely hF
     u_reg live_rely hF
     refine Goes.stop (fun w₁ _ ft hl HR => ?_)
     clear hF
     refine JG.act_at hg63 HR rfl fun w₂ cn l st sm hb hc3 hat hph => ⟨_,w₂,_,st,sm,11,stepG_mark0 .enable (by simp) rfl rfl (by k_ne) rfl H.f_enable (x_enable_n L) (x_enable_b L) (x_enable_x L) (x_enable_f L),.refl _ _,hat,bk3_markA _ (.inr rfl),⟨by omega,fun e => by omega⟩,by simp [deafBehind,deafX],hph.bump (by omega),fun ft hF HR => ?_⟩
     have hg64 := hg63.set (y := 11) (by omega)
     refine JG.goes 300 _ _ ft hF HR ?_
     walk_nrm
     u_c stepG_region_end live_rely hF
     u_reg live_rely hF
     u_op live_rely hF
     u_conv H.underlying_tWgP H.room_tWg (Go.ConcN.Gen.WgLive.cell0 hF).choose_spec live_rely hF
     refine Goes.stop (fun w₁ _ ft hl HR => ?_)
     clear hF
     refine JG.acq_at hg64 HR rfl (fun w₂ hb => ⟨_,stepG_markAt .acquire (by simp) rfl rfl (by k_ne) rfl H.f_acquire (x_acquire_n L) (x_acquire_b L) (x_acquire_x L) (x_acquire_f L) (ad := ⟨G.wg,0,none⟩) (by simp [Act.eval]),fun ft hF HR => ?_⟩)
     have hg65 := hg64.set (y := 12) (by omega)
     refine JG.goes 300 _ _ ft hF HR ?_
     walk_nrm
     u_c stepG_region_end live_rely hF
     u_c stepG_seq live_rely hF
     u_c stepG_seq live_rely hF
     u_reg live_rely hF
     u_op live_rely hF
     u_c stepG_region_end live_rely hF
     u_cond false live_rely hF
     u_c stepG_skip live_rely hF
     u_c stepG_ret' live_rely hF
     refine Goes.stop (fun w₁ _ ft hl HR => ?_)
     refine (JG.closed P W0 Post G k).ctrl rfl rfl (fun w => stepG_leave rfl rfl H.f_wait (v := .tuple #[]) (by simp [results,waitFn]) (by simp [results,waitFn])) ?_
     refine hc _ _ ?_
     simpa [List.set_set] using HR
    ·refine ⟨_,w₂,_,_,0,21,stepG_cas_miss (old := 8589934592) (n := 8589934593) rfl rfl (by k_ne) rfl H.f_casU64 (x_casU64_n L) (x_casU64_b L) (x_casU64_x L) .u64 (x_casU64_f L) rfl rfl rfl (Go.ConcR.WgAt.cellSt hat) (Go.ConcR.WgAt.thaw hat 0) (by simp only [kk_val]; omega),.refl _ _,hat,bk3_rA _,⟨by omega,fun e => by omega⟩,by simp [deafBehind,deafX],.idle (by unfold idleX; omega) (by show cn ≤ 1; omega),fun ft hF HR => ?_⟩
     have hg66 := hg59.set (y := 21) (by omega)
     refine JG.goes 300 _ _ ft hF HR ?_
     walk_nrm
     u_op live_rely hF
     u_c stepG_region_end live_rely hF
     u_c stepG_ret' live_rely hF
     u_leave1 H.f_uCas live_rely hF
     u_c stepG_region_end live_rely hF
     u_cond false live_rely hF
     u_c stepG_skip live_rely hF
     u_c stepG_inBlock live_rely hF
     u_c stepG_inLoop live_rely hF
     u_c stepG_block live_rely hF
     u_c stepG_seq live_rely hF
     u_reg live_rely hF
     u_op live_rely hF
     u_op live_rely hF
     u_op live_rely hF
     u_call H.f_uLoad (nm_uLoad L) uLoadFn live_rely hF
     u_c stepG_seq live_rely hF
     u_reg live_rely hF
     u_op live_rely hF
     u_c stepG_region_end live_rely hF
     u_c stepG_seq live_rely hF
     u_reg live_rely hF
     u_op live_rely hF
     u_op live_rely hF
     u_op live_rely hF
     refine Goes.stop (fun w₁ _ ft hl HR => ?_)
     clear hF
     refine JG.act_at hg66 HR rfl fun w₂ cn l st sm hb hc3 hat hph => ?_
     obtain ⟨rfl,hle,rfl,rfl⟩ := hph.at_idle (by unfold idleX; omega)
     replace hle : cn ≤ 1 := hle
     rcases (by omega : cn = 0 ∨ cn = 1) with rfl | rfl
     ·replace hat := grp_num (n := 0) hat (by decide)
      refine ⟨_,w₂,_,0,0,8,stepG_load_atomic rfl rfl (by k_ne) rfl H.f_loadU64 (x_loadU64_n L) (x_loadU64_b L) (x_loadU64_x L) .u64 (x_loadU64_f L) rfl (Go.ConcR.WgAt.cellSt hat),.refl _ _,hat,bk3_rA _,⟨by omega,fun e => by omega⟩,by simp [deafBehind,deafX],.out (by omega),fun ft hF HR => ?_⟩
      have hg67 := hg66.set (y := 8) (by omega)
      refine JG.goes 300 _ _ ft hF HR ?_
      walk_nrm
      u_op live_rely hF
      u_c stepG_region_end live_rely hF
      u_c stepG_ret' live_rely hF
      u_leave1 H.f_uLoad live_rely hF
      u_op live_rely hF
      u_c stepG_region_end live_rely hF
      u_c stepG_seq live_rely hF
      u_reg live_rely hF
      u_op live_rely hF
      u_op live_rely hF
      u_op live_rely hF
      u_op live_rely hF
      u_c stepG_region_end live_rely hF
      u_c stepG_seq live_rely hF
      u_reg live_rely hF
      u_op live_rely hF
      u_op live_rely hF
      u_op live_rely hF
      u_op live_rely hF
      u_c stepG_region_end live_rely hF
      u_c stepG_seq live_rely hF
      u_c stepG_seq live_rely hF
      u_reg live_rely hF
      u_op live_rely hF
      u_op live_rely hF
      u_c stepG_region_end live_rely hF
      u_cond true live_rely hF
      u_c stepG_seq live_rely hF
      u_cond true live_rely hF
      u_c stepG_seq live_rely hF
      u_reg live_rely hF
      refine Goes.stop (fun w₁ _ ft hl HR => ?_)
      clear hF
      refine JG.act_at hg67 HR rfl fun w₂ cn l st sm hb hc3 hat hph => ⟨_,w₂,_,st,sm,11,stepG_mark0 .enable (by simp) rfl rfl (by k_ne) rfl H.f_enable (x_enable_n L) (x_enable_b L) (x_enable_x L) (x_enable_f L),.refl _ _,hat,bk3_markA _ (.inr rfl),⟨by omega,fun e => by omega⟩,by simp [deafBehind,deafX],hph.bump (by omega),fun ft hF HR => ?_⟩
      have hg68 := hg67.set (y := 11) (by omega)
      refine JG.goes 300 _ _ ft hF HR ?_
      walk_nrm
      u_c stepG_region_end live_rely hF
      u_reg live_rely hF
      u_op live_rely hF
      u_conv H.underlying_tWgP H.room_tWg (Go.ConcN.Gen.WgLive.cell0 hF).choose_spec live_rely hF
      refine Goes.stop (fun w₁ _ ft hl HR => ?_)
      clear hF
      refine JG.acq_at hg68 HR rfl (fun w₂ hb => ⟨_,stepG_markAt .acquire (by simp) rfl rfl (by k_ne) rfl H.f_acquire (x_acquire_n L) (x_acquire_b L) (x_acquire_x L) (x_acquire_f L) (ad := ⟨G.wg,0,none⟩) (by simp [Act.eval]),fun ft hF HR => ?_⟩)
      have hg69 := hg68.set (y := 12) (by omega)
      refine JG.goes 300 _ _ ft hF HR ?_
      walk_nrm
      u_c stepG_region_end live_rely hF
      u_c stepG_seq live_rely hF
      u_c stepG_seq live_rely hF
      u_reg live_rely hF
      u_op live_rely hF
      u_op live_rely hF
      u_op live_rely hF
      u_op live_rely hF
      u_op live_rely hF
      u_op live_rely hF
      u_op live_rely hF
      u_op live_rely hF
      u_skip live_rely hF
      u_skip live_rely hF
      u_op live_rely hF
      u_c stepG_region_end live_rely hF
      u_cond false live_rely hF
      u_c stepG_skip live_rely hF
      u_c stepG_ret' live_rely hF
      refine Goes.stop (fun w₁ _ ft hl HR => ?_)
      refine (JG.closed P W0 Post G k).ctrl rfl rfl (fun w => stepG_leave rfl rfl H.f_wait (v := .tuple #[]) (by simp [results,waitFn]) (by simp [results,waitFn])) ?_
      refine hc _ _ ?_
      simpa [List.set_set] using HR
     ·replace hat := grp_num (n := 4294967296) hat (by decide)
      have bbA : bits .and .u64 4294967296 2147483648 = 0 := by decide
      have bbB : bits .and .u64 4294967296 2147483647 = 0 := by decide
      refine ⟨_,w₂,_,4294967296,0,18,stepG_load_atomic rfl rfl (by k_ne) rfl H.f_loadU64 (x_loadU64_n L) (x_loadU64_b L) (x_loadU64_x L) .u64 (x_loadU64_f L) rfl (Go.ConcR.WgAt.cellSt hat),.refl _ _,hat,bk3_rA _,⟨by omega,fun e => by omega⟩,by simp [deafBehind,deafX],(Phase.idle (c := 1) (by unfold idleX; omega) (by decide)).num (by decide),fun ft hF HR => ?_⟩
      have hg70 := hg66.set (y := 18) (by omega)
      refine JG.goes 300 _ _ ft hF HR ?_
      walk_nrm
      u_op live_rely hF
      u_c stepG_region_end live_rely hF
      u_c stepG_ret' live_rely hF
      u_leave1 H.f_uLoad live_rely hF
      u_op live_rely hF
      u_c stepG_region_end live_rely hF
      u_c stepG_seq live_rely hF
      u_reg live_rely hF
      u_op live_rely hF
      u_op live_rely hF
      u_op live_rely hF
      u_op live_rely hF
      u_c stepG_region_end live_rely hF
      u_c stepG_seq live_rely hF
      u_reg live_rely hF
      u_op live_rely hF
      u_op live_rely hF
      u_op live_rely hF
      u_op live_rely hF
      u_c stepG_region_end live_rely hF
      u_c stepG_seq live_rely hF
      u_c stepG_seq live_rely hF
      u_reg live_rely hF
      u_op live_rely hF
      u_op live_rely hF
      u_c stepG_region_end live_rely hF
      u_cond false live_rely hF
      u_c stepG_skip live_rely hF
      u_c stepG_seq live_rely hF
      u_reg live_rely hF
      u_op live_rely hF
      u_op live_rely hF
      u_op live_rely hF
      u_op live_rely hF
      u_op live_rely hF
      u_op live_rely hF
      u_call H.f_uCas (nm_uCas L) uCasFn live_rely hF
      u_c stepG_seq live_rely hF
      u_reg live_rely hF
      u_op live_rely hF
      u_c stepG_region_end live_rely hF
      u_c stepG_seq live_rely hF
      u_reg live_rely hF
      u_op live_rely hF
      u_op live_rely hF
      u_op live_rely hF
      u_op live_rely hF
      u_op live_rely hF
      refine Goes.stop (fun w₁ _ ft hl HR => ?_)
      clear hF
      refine JG.act_at hg70 HR rfl fun w₂ cn l st sm hb hc3 hat hph => ?_
      obtain ⟨rfl,hle,rfl,rfl⟩ := hph.at_idle (by unfold idleX; omega)
      replace hle : cn ≤ 1 := hle
      by_cases hcn : cn = 1
      ·subst hcn
       replace hat := grp_num (n := 4294967296) hat (by decide)
       refine ⟨_,w₂.setCell (stA G.wg) (.int .u64 4294967297),_,4294967297,0,9,stepG_cas_hit (v := 4294967296) (n := 4294967297) rfl rfl (by k_ne) rfl H.f_casU64 (x_casU64_n L) (x_casU64_b L) (x_casU64_x L) .u64 (x_casU64_f L) rfl rfl rfl (Go.ConcR.WgAt.cellSt hat) (Go.ConcR.WgAt.thaw hat 0),aside_setCell w₂ (stA G.wg) _,Go.ConcR.WgAt.setSt hat _,bk3_rwA _,⟨by omega,fun e => by omega⟩,by simp [deafBehind,deafX],(Phase.reg (c := 1) (by omega)).num (by decide),fun ft hF HR => ?_⟩
       have hg71 := hg70.set (y := 9) (by omega)
       refine JG.goes 300 _ _ ft hF HR ?_
       walk_nrm
       u_op live_rely hF
       u_c stepG_region_end live_rely hF
       u_c stepG_ret' live_rely hF
       u_leave1 H.f_uCas live_rely hF
       u_c stepG_region_end live_rely hF
       u_cond true live_rely hF
       u_c stepG_seq live_rely hF
       u_c stepG_seq live_rely hF
       u_reg live_rely hF
       u_op live_rely hF
       u_op live_rely hF
       u_op live_rely hF
       u_op live_rely hF
       u_c stepG_region_end live_rely hF
       u_cond true live_rely hF
       u_reg live_rely hF
       u_op live_rely hF
       u_op live_rely hF
       u_op live_rely hF
       u_conv H.underlying_tPU32 H.room_tU32 (Go.ConcN.Gen.WgLive.cell1 hF).choose_spec live_rely hF
       refine Goes.stop (fun w₁ _ ft hl HR => ?_)
       clear hF
       refine JG.act_at hg71 HR rfl fun w₂ cn l st sm hb hc3 hat hph => ⟨_,w₂,_,st,sm,9,stepG_markAt .write (by simp) rfl rfl (by k_ne) rfl H.f_raceWrite (x_raceWrite_n L) (x_raceWrite_b L) (x_raceWrite_x L) (x_raceWrite_f L) (ad := ⟨G.wg,1,none⟩) (by simp [Act.eval]),.refl _ _,hat,bk3_saidA _ (.inr rfl),⟨by omega,fun e => by omega⟩,by simp [deafBehind,deafX],hph.bump (by omega),fun ft hF HR => ?_⟩
       have hg72 := hg71.set (y := 9) (by omega)
       refine JG.goes 300 _ _ ft hF HR ?_
       walk_nrm
       u_c stepG_region_end live_rely hF
       u_c stepG_seq live_rely hF
       u_reg live_rely hF
       u_op live_rely hF
       u_c stepG_region_end live_rely hF
       u_c stepG_seq live_rely hF
       u_c stepG_seq live_rely hF
       u_reg live_rely hF
       u_op live_rely hF
       u_op live_rely hF
       u_op live_rely hF
       u_op live_rely hF
       u_skip live_rely hF
       u_op live_rely hF
       u_c stepG_region_end live_rely hF
       u_cond false live_rely hF
       u_c stepG_skip live_rely hF
       u_c stepG_seq live_rely hF
       u_reg live_rely hF
       u_op live_rely hF
       u_op live_rely hF
       u_op live_rely hF
       u_op live_rely hF
       refine Goes.stop (fun w₁ _ ft hl HR => ?_)
       clear hF
       refine JG.sem_at hg72 HR rfl rfl (fun w₂ st hb hat => stepG_semacquire_wait rfl rfl rfl H.f_semacquire (x_semacquire_n L) (x_semacquire_b L) (x_semacquire_x L) (x_semacquire_f L) (ad := ⟨G.wg,1,none⟩) (by simp [Act.eval]) (Go.ConcR.WgAt.cellSm hat)) fun w₂ hb hat => ⟨_,stepG_semacquire rfl rfl (by k_ne) rfl H.f_semacquire (x_semacquire_n L) (x_semacquire_b L) (x_semacquire_x L) (x_semacquire_f L) (ad := ⟨G.wg,1,none⟩) (n := 1) (by simp [Act.eval]) (Go.ConcR.WgAt.cellSm hat) (by decide) (Go.ConcR.WgAt.thaw hat 1),fun ft hF HR => ?_⟩
       have hg73 := hg72.set (y := 10) (by omega)
       refine JG.goes 300 _ _ ft hF HR ?_
       walk_nrm
       u_c stepG_region_end live_rely hF
       u_c stepG_seq live_rely hF
       u_reg live_rely hF
       u_op live_rely hF
       u_op live_rely hF
       u_op live_rely hF
       u_call H.f_uLoad (nm_uLoad L) uLoadFn live_rely hF
       u_c stepG_seq live_rely hF
       u_reg live_rely hF
       u_op live_rely hF
       u_c stepG_region_end live_rely hF
       u_c stepG_seq live_rely hF
       u_reg live_rely hF
       u_op live_rely hF
       u_op live_rely hF
       u_op live_rely hF
       refine Goes.stop (fun w₁ _ ft hl HR => ?_)
       clear hF
       refine JG.act_at hg73 HR rfl fun w₂ cn l st sm hb hc3 hat hph => ?_
       obtain ⟨rfl,rfl,rfl,rfl⟩ := hph.at_out (by omega)
       refine ⟨_,w₂,_,0,0,10,stepG_load_atomic rfl rfl (by k_ne) rfl H.f_loadU64 (x_loadU64_n L) (x_loadU64_b L) (x_loadU64_x L) .u64 (x_loadU64_f L) rfl (Go.ConcR.WgAt.cellSt hat),.refl _ _,hat,bk3_rA _,⟨by omega,fun e => by omega⟩,by simp [deafBehind,deafX],hph,fun ft hF HR => ?_⟩
       have hg74 := hg73.set (y := 10) (by omega)
       refine JG.goes 300 _ _ ft hF HR ?_
       walk_nrm
       u_op live_rely hF
       u_c stepG_region_end live_rely hF
       u_c stepG_ret' live_rely hF
       u_leave1 H.f_uLoad live_rely hF
       u_op live_rely hF
       u_op live_rely hF
       u_c stepG_region_end live_rely hF
       u_c stepG_seq live_rely hF
       u_cond true live_rely hF
       u_c stepG_seq live_rely hF
       u_reg live_rely hF
       refine Goes.stop (fun w₁ _ ft hl HR => ?_)
       clear hF
       refine JG.act_at hg74 HR rfl fun w₂ cn l st sm hb hc3 hat hph => ⟨_,w₂,_,st,sm,11,stepG_mark0 .enable (by simp) rfl rfl (by k_ne) rfl H.f_enable (x_enable_n L) (x_enable_b L) (x_enable_x L) (x_enable_f L),.refl _ _,hat,bk3_markA _ (.inr rfl),⟨by omega,fun e => by omega⟩,by simp [deafBehind,deafX],hph.bump (by omega),fun ft hF HR => ?_⟩
       have hg75 := hg74.set (y := 11) (by omega)
       refine JG.goes 300 _ _ ft hF HR ?_
       walk_nrm
       u_c stepG_region_end live_rely hF
       u_reg live_rely hF
       u_op live_rely hF
       u_conv H.underlying_tWgP H.room_tWg (Go.ConcN.Gen.WgLive.cell0 hF).choose_spec live_rely hF
       refine Goes.stop (fun w₁ _ ft hl HR => ?_)
       clear hF
       refine JG.acq_at hg75 HR rfl (fun w₂ hb => ⟨_,stepG_markAt .acquire (by simp) rfl rfl (by k_ne) rfl H.f_acquire (x_acquire_n L) (x_acquire_b L) (x_acquire_x L) (x_acquire_f L) (ad := ⟨G.wg,0,none⟩) (by simp [Act.eval]),fun ft hF HR => ?_⟩)
       have hg76 := hg75.set (y := 12) (by omega)
       refine JG.goes 300 _ _ ft hF HR ?_
       walk_nrm
       u_c stepG_region_end live_rely hF
       u_c stepG_seq live_rely hF
       u_c stepG_seq live_rely hF
       u_reg live_rely hF
       u_op live_rely hF
       u_c stepG_region_end live_rely hF
       u_cond false live_rely hF
       u_c stepG_skip live_rely hF
       u_c stepG_ret' live_rely hF
       refine Goes.stop (fun w₁ _ ft hl HR => ?_)
       refine (JG.closed P W0 Post G k).ctrl rfl rfl (fun w => stepG_leave rfl rfl H.f_wait (v := .tuple #[]) (by simp [results,waitFn]) (by simp [results,waitFn])) ?_
       refine hc _ _ ?_
       simpa [List.set_set] using HR
      ·refine ⟨_,w₂,_,_,0,19,stepG_cas_miss (old := 4294967296) (n := 4294967297) rfl rfl (by k_ne) rfl H.f_casU64 (x_casU64_n L) (x_casU64_b L) (x_casU64_x L) .u64 (x_casU64_f L) rfl rfl rfl (Go.ConcR.WgAt.cellSt hat) (Go.ConcR.WgAt.thaw hat 0) (by simp only [kk_val]; omega),.refl _ _,hat,bk3_rA _,⟨by omega,fun e => by omega⟩,by simp [deafBehind,deafX],.idle (by unfold idleX; omega) (by show cn ≤ 0; omega),fun ft hF HR => ?_⟩
       have hg77 := hg70.set (y := 19) (by omega)
       refine JG.goes 300 _ _ ft hF HR ?_
       walk_nrm
       u_op live_rely hF
       u_c stepG_region_end live_rely hF
       u_c stepG_ret' live_rely hF
       u_leave1 H.f_uCas live_rely hF
       u_c stepG_region_end live_rely hF
       u_cond false live_rely hF
       u_c stepG_skip live_rely hF
       u_c stepG_inBlock live_rely hF
       u_c stepG_inLoop live_rely hF
       u_c stepG_block live_rely hF
       u_c stepG_seq live_rely hF
       u_reg live_rely hF
       u_op live_rely hF
       u_op live_rely hF
       u_op live_rely hF
       u_call H.f_uLoad (nm_uLoad L) uLoadFn live_rely hF
       u_c stepG_seq live_rely hF
       u_reg live_rely hF
       u_op live_rely hF
       u_c stepG_region_end live_rely hF
       u_c stepG_seq live_rely hF
       u_reg live_rely hF
       u_op live_rely hF
       u_op live_rely hF
       u_op live_rely hF
       refine Goes.stop (fun w₁ _ ft hl HR => ?_)
       clear hF
       refine JG.act_at hg77 HR rfl fun w₂ cn l st sm hb hc3 hat hph => ?_
       obtain ⟨rfl,hle,rfl,rfl⟩ := hph.at_idle (by unfold idleX; omega)
       replace hle : cn ≤ 0 := hle
       obtain rfl : cn = 0 := by omega
       replace hat := grp_num (n := 0) hat (by decide)
       refine ⟨_,w₂,_,0,0,8,stepG_load_atomic rfl rfl (by k_ne) rfl H.f_loadU64 (x_loadU64_n L) (x_loadU64_b L) (x_loadU64_x L) .u64 (x_loadU64_f L) rfl (Go.ConcR.WgAt.cellSt hat),.refl _ _,hat,bk3_rA _,⟨by omega,fun e => by omega⟩,by simp [deafBehind,deafX],.out (by omega),fun ft hF HR => ?_⟩
       have hg78 := hg77.set (y := 8) (by omega)
       refine JG.goes 300 _ _ ft hF HR ?_
       walk_nrm
       u_op live_rely hF
       u_c stepG_region_end live_rely hF
       u_c stepG_ret' live_rely hF
       u_leave1 H.f_uLoad live_rely hF
       u_op live_rely hF
       u_c stepG_region_end live_rely hF
       u_c stepG_seq live_rely hF
       u_reg live_rely hF
       u_op live_rely hF
       u_op live_rely hF
       u_op live_rely hF
       u_op live_rely hF
       u_c stepG_region_end live_rely hF
       u_c stepG_seq live_rely hF
       u_reg live_rely hF
       u_op live_rely hF
       u_op live_rely hF
       u_op live_rely hF
       u_op live_rely hF
       u_c stepG_region_end live_rely hF
       u_c stepG_seq live_rely hF
       u_c stepG_seq live_rely hF
       u_reg live_rely hF
       u_op live_rely hF
       u_op live_rely hF
       u_c stepG_region_end live_rely hF
       u_cond true live_rely hF
       u_c stepG_seq live_rely hF
       u_cond true live_rely hF
       u_c stepG_seq live_rely hF
       u_reg live_rely hF
       refine Goes.stop (fun w₁ _ ft hl HR => ?_)
       clear hF
       refine JG.act_at hg78 HR rfl fun w₂ cn l st sm hb hc3 hat hph => ⟨_,w₂,_,st,sm,11,stepG_mark0 .enable (by simp) rfl rfl (by k_ne) rfl H.f_enable (x_enable_n L) (x_enable_b L) (x_enable_x L) (x_enable_f L),.refl _ _,hat,bk3_markA _ (.inr rfl),⟨by omega,fun e => by omega⟩,by simp [deafBehind,deafX],hph.bump (by omega),fun ft hF HR => ?_⟩
       have hg79 := hg78.set (y := 11) (by omega)
       refine JG.goes 300 _ _ ft hF HR ?_
       walk_nrm
       u_c stepG_region_end live_rely hF
       u_reg live_rely hF
       u_op live_rely hF
       u_conv H.underlying_tWgP H.room_tWg (Go.ConcN.Gen.WgLive.cell0 hF).choose_spec live_rely hF
       refine Goes.stop (fun w₁ _ ft hl HR => ?_)
       clear hF
       refine JG.acq_at hg79 HR rfl (fun w₂ hb => ⟨_,stepG_markAt .acquire (by simp) rfl rfl (by k_ne) rfl H.f_acquire (x_acquire_n L) (x_acquire_b L) (x_acquire_x L) (x_acquire_f L) (ad := ⟨G.wg,0,none⟩) (by simp [Act.eval]),fun ft hF HR => ?_⟩)
       have hg80 := hg79.set (y := 12) (by omega)
       refine JG.goes 300 _ _ ft hF HR ?_
       walk_nrm
       u_c stepG_region_end live_rely hF
       u_c stepG_seq live_rely hF
       u_c stepG_seq live_rely hF
       u_reg live_rely hF
       u_op live_rely hF
       u_op live_rely hF
       u_op live_rely hF
       u_op live_rely hF
       u_op live_rely hF
       u_op live_rely hF
       u_op live_rely hF
       u_op live_rely hF
       u_skip live_rely hF
       u_skip live_rely hF
       u_op live_rely hF
       u_c stepG_region_end live_rely hF
       u_cond false live_rely hF
       u_c stepG_skip live_rely hF
       u_c stepG_ret' live_rely hF
       refine Goes.stop (fun w₁ _ ft hl HR => ?_)
       refine (JG.closed P W0 Post G k).ctrl rfl rfl (fun w => stepG_leave rfl rfl H.f_wait (v := .tuple #[]) (by simp [results,waitFn]) (by simp [results,waitFn])) ?_
       refine hc _ _ ?_
       simpa [List.set_set] using HR
end
end Go.Proofs.Yteoenhhmcpipoaa
