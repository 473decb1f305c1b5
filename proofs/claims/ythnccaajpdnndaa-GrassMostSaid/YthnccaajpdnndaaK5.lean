/- Parts of the proof, 5. No conditions. -/
import Derived.Test.YthnccaajpdnndaaK4
import Derived.Test.YthnccaajpdnndaaK2
import Derived.Test.YthnccaajpdnndaaK3
set_option linter.unusedSimpArgs false
set_option linter.unusedVariables false
namespace Go.Proofs.Ythnccaajpdnndaa
open Go.Conc
def At (J : JT) (N : Nat) (b : FB) (cs : List Frame) (FC : Frm) (ρ0 : Env) (m : Nat) (k : List Item) (f : RG) (h : List AObj) : Prop :=
  ∀ (a : Act) (ρ : Env) (w : World) (ft : Foot), ActRel h.length ρ N f a → HRel ρ h FC w ft → Env.upto m ρ0 ρ → m ≤ h.length → J (G (b.at a k) cs) w ft
section
variable {P : Program} {main : Bool} {J : JT} {N m n1 : Nat} {fn : FuncId} {b : FB} {cs : List Frame} {FC : Frm} {ρ0 : Env} {k : List Item} {f : RG} {h : List AObj} {Q : QT} {c x y : Code} {ops : Array Oper} {i : Nat} {rest : List Nat} {o : Oper}
theorem At.ctrl (hJ : Closed P main J) {k' : List Item} (hst : ∀ a w, stepG P main (G (b.at a k) cs) w = .go (G (b.at a k') cs) w #[]) (h' : At J N b cs FC ρ0 m k' f h) : At J N b cs FC ρ0 m k f h :=
  fun a ρ w ft A H hu hm => hJ.ctrl rfl rfl (hst a) (h' a ρ w ft A H hu hm)
theorem At.seq (hJ : Closed P main J) (h' : At J N b cs FC ρ0 m (.code x :: .code y :: k) f h) : At J N b cs FC ρ0 m (.code (.seq x y) :: k) f h :=
  At.ctrl hJ (fun a w => by simp [G, stepG, stepG.exec, FB.at]) h'
theorem At.block (hJ : Closed P main J) {id : Nat} (h' : At J N b cs FC ρ0 m (.code c :: .inBlock id :: k) f h) : At J N b cs FC ρ0 m (.code (.block id c) :: k) f h :=
  At.ctrl hJ (fun a w => by simp [G, stepG, stepG.exec, FB.at]) h'
theorem At.inBlock (hJ : Closed P main J) {id : Nat} (h' : At J N b cs FC ρ0 m k f h) : At J N b cs FC ρ0 m (.inBlock id :: k) f h :=
  At.ctrl hJ (fun a w => by simp [G, stepG, stepG.exec, FB.at]) h'
theorem At.loop (hJ : Closed P main J) (h' : At J N b cs FC ρ0 m (.code c :: .inLoop c :: k) f h) : At J N b cs FC ρ0 m (.code (.loop c) :: k) f h :=
  At.ctrl hJ (fun a w => by simp [G, stepG, stepG.exec, FB.at]) h'
theorem At.inLoop (hJ : Closed P main J) (h' : At J N b cs FC ρ0 m (.code c :: .inLoop c :: k) f h) : At J N b cs FC ρ0 m (.inLoop c :: k) f h :=
  At.ctrl hJ (fun a w => by simp [G, stepG, stepG.exec, FB.at]) h'
theorem At.region (hJ : Closed P main J) {id : Nat} (h' : At J N b cs FC ρ0 m (.inRegion ops (List.range ops.size) :: k) f h) : At J N b cs FC ρ0 m (.code (.region id ops false) :: k) f h :=
  At.ctrl hJ (fun a w => by simp [G, stepG, stepG.exec, FB.at]) h'
theorem At.ops_nil (hJ : Closed P main J) (h' : At J N b cs FC ρ0 m k f h) : At J N b cs FC ρ0 m (.inRegion ops [] :: k) f h :=
  At.ctrl hJ (fun a w => by simp [G, stepG, stepG.exec, FB.at]) h'
theorem At.piece (hb : b.tag = fn) (hk : b.kind ≠ .early) (hs : Sem J N n1 fn c f h Q) (h1 : m ≤ n1) (h2 : n1 ≤ h.length) (hq : ∀ e f' h', Q e f' h' → (e = .normal ∧ At J N b cs FC ρ0 m k f' h') ∨ ∃ id k', e = .exit id ∧ exitTo id k = some k' ∧ At J N b cs FC ρ0 m k' f' h') : At J N b cs FC ρ0 m (.code c :: k) f h := by
  intro a ρ w ft A H hu hm
  refine hs b a k cs (fun _ _ _ _ => False) ρ FC w ft hb hk (fun _ _ _ _ _ hf _ => hf.elim) A H h2 fun e f' h' ρ' w' ft' a' q A' H' hu' hl' => ?_
  have up : Env.upto m ρ0 ρ' := Env.upto_trans hu (Env.upto_le hu' h1)
  rcases hq e f' h' q with ⟨rfl, hat⟩ | ⟨id, k', rfl, hex, hat⟩
  · exact hat a' ρ' w' ft' A' H' up (Nat.le_trans h1 hl')
  · unfold AfterJ
    simp only [hex]
    exact hat a' ρ' w' ft' A' H' up (Nat.le_trans h1 hl')
theorem At.op (hJ : Closed P main J) (hk : b.kind ≠ .early) (ho : ops[i]? = some o) (hd : dstOk N o = true) (hg : gd ops o f.r = some true) (hop : opW P (Good P J) o f.r h fun v h' => h.length ≤ h'.length → At J N b cs FC ρ0 m (.inRegion ops rest :: k) (f.putO o.dst v) h') :
    At J N b cs FC ρ0 m (.inRegion ops (i :: rest) :: k) f h := fun _a _ρ _w _ft A H hu hm =>
  step_any hJ hk ho hg (dstOk_lt hd) A H hop fun _v _h' ρ' w' ft' a' hK A' H' hu' hl' => hK hl' a' ρ' w' ft' A' H' (Env.upto_trans hu (Env.upto_le hu' hm)) (Nat.le_trans hm hl')
theorem At.drop {g : List AObj} {f' : RG} (ok : heapOk h) (hf : ∀ t, f'.r t = unk ∨ (f'.r t = f.r t ∧ VOk h.length (f'.r t))) (hd : f'.ds = f.ds) (hds : ∀ b ∈ f.ds, b < h.length) (hm' : m ≤ h.length) (h' : At J N b cs FC ρ0 m k f' h) : At J N b cs FC ρ0 m k f (h ++ g) := by
  intro a ρ w ft A H hu hm
  have gc := gc_drop (g := g) ok (Nat.le_refl h.length)
  have hcomp : ρ.comp id = ρ := rfl
  have H2 := gc.rel H
  rw [hcomp] at H2
  refine h' a ρ w ft ⟨fun t => ?_, A.size, by rw [hd]; exact A.defers, by rw [hd]; exact hds⟩ H2 hu hm'
  rcases hf t with e | ⟨e, hv⟩
  · exact .inl e
  · rcases A.regs t with e2 | ⟨_, e2⟩
    · exact .inl (e.trans e2)
    · exact .inr ⟨hv, by rw [e2, e]⟩
end
section
variable {P : Program} {W0 : World} {Post : Value → World → Prop} {T : Crew} {N m : Nat} {b : FB} {cs : List Frame} {FC : Frm} {ρ0 : Env} {K : List Item} {f : RG} {h : List AObj} {ops : Array Oper} {i : Nat} {rest : List Nat} {o : Oper}
theorem At.go (hk : b.kind ≠ .early) (ho : ops[i]? = some o) (hg : gd ops o f.r = some true) {x : Operand} {ats : Array TypeId} (hop : o.op = .go { callee := .value x, args := #[], argTypes := ats }) (hdst : o.dst = none)
    {g : FuncId} {cap : List Value} (hx : ev f.r x = .func (.func g) ⟨[]⟩ ⟨cap⟩) (hcl : callable P g = true) {k : Nat} (hkp : k ∉ T.pend) (hown : T.ch T.c = some (0, #[], false))
    {h0 hd : List AObj} (hh : h = h0 ++ hd) (hn : ∀ o ∈ h0, o.wrt = false) (hw : ∀ b, ¬ FC.wr b) (ok : heapOk h0) (hm0 : m ≤ h0.length)
    (hto : ∀ (ρ : Env) (w : World) (ft : Foot), HRel ρ (frz h) (keepF ρ h w ft) w ft.lend → Env.upto m ρ0 ρ → Toward P (AtSend P T.c (T.phi k)) (G (Frame.enter P g ⟨cap.map (ren ρ)⟩ .deferred) [base0 P]) w ft.lend)
    (hnc : ∀ cap, .chan cap ∉ h)
    {f' : RG} (hf : ∀ t, f'.r t = unk ∨ (f'.r t = f.r t ∧ VOk h0.length (f'.r t))) (hfd : f'.ds = f.ds) (hds : ∀ b ∈ f.ds, b < h0.length)
    (hJ : At (JC P W0 Post (T.more k)) N b cs FC ρ0 m (.inRegion ops rest :: K) f' h0) :
    At (JC P W0 Post T) N b cs FC ρ0 m (.inRegion ops (i :: rest) :: K) f h := by
  intro a ρ w ft A H hu hm
  have nc : ∀ b, ¬ Chs ρ h b := fun b ⟨j, cap, hj, _⟩ => hnc cap (List.mem_of_getElem? hj)
  refine go_step hk ho hg A hop hx hcl hkp hown (fun w₁ h₁ => ?_) fun w₁ h₁ => ?_
  · have hlf : lentF ρ h ft = ft.lend := by
      unfold lentF Foot.lend
      simp only [Foot.mk.injEq, and_true]
      funext b
      simp [nc b]
    have hfr := frz_rel (H.rely h₁)
    rw [hlf] at hfr
    exact hto ρ w₁ ft hfr hu
  · subst hh
    have gc := gc_drop (g := hd) ok (Nat.le_refl h0.length)
    have H2 := gc.rel (H.rely h₁)
    rw [show ρ.comp id = ρ from rfl] at H2
    refine hJ _ ρ w₁ ft.lend ⟨fun t => ?_, by simp [Act.put, hdst, A.size], by simp [Act.put, hdst, hfd, A.defers], by rw [hfd]; exact hds⟩ (lend_rel H2 hn hw) hu hm0
    simp only [Act.put, hdst]
    rcases hf t with e | ⟨e, hv⟩
    · exact .inl e
    · rcases A.regs t with e2 | ⟨_, e2⟩
      · exact .inl (e.trans e2)
      · exact .inr ⟨hv, by rw [e2, e]⟩
end
end Go.Proofs.Ythnccaajpdnndaa
namespace Go.Proofs.Ythnccaajpdnndaa
open Go.Conc Go.Conc.Lib Go.Proofs.Try
open Go.ConcR (Bk stA smA rd wr mk KK WgAt)
open Go.ConcN (sumTo upd sumTo_upd upd_ne upd_same)
section
variable {W0 : World} {Post : Value → World → Prop} {G : Grp} {h : List AObj} {K : Value → List AObj → Prop} {p : Nat}
theorem good_wadd (hty : G.ty = wgLink.tWg) (hg : GrpAt h p 1) (hK : K (.tuple ⟨[]⟩) (h.set p (.group 4))) : Good prog (JG prog W0 Post G) 74 [ptr p 0, vint 1] h K := by
  have hf : prog.funcs[(74 : Nat)]? = some (addFn wgLink) := wgLib.f_add
  refine .inl ⟨.inl ⟨(Array.getElem?_eq_some_iff.1 hf).1, by unfold callable; rw [hf]; rfl⟩, fun ρ FC w ft cs c cargs fr H hr hl hent hc => ?_⟩
  obtain rfl : fr = Frame.enter prog 74 ⟨cargs⟩ .normal := by
    rcases hent with ⟨_, e⟩ | ⟨hge, _⟩
    · exact e
    · exact absurd (Array.getElem?_eq_some_iff.1 hf).1 (Nat.not_lt.2 hge)
  refine JG.there fun w₁ h₁ htw hlv => ?_
  have H1 := H.rely h₁
  have htag := H.tag p 1 hg.here
  have hb : ρ.blk p = G.wg := by omega
  rw [two_of hl, ptr_arg (hr 0), fine_arg (hr 1) (by simp [vint, VOk]) (by simp [vint, unk]), hb, enter_at _ hf (c := Go.ConcR.Gen.body_add wgLink) rfl]
  exact add_walk wgLib hty hg H1 hlv fun w' ft' H' => hc (.tuple ⟨[]⟩) _ ρ w' ft' _ hK H' (Env.upto_refl _ _) (by rw [List.length_set]; exact Nat.le_refl _) (.inr ⟨by simp [VOk, AOk, LOk], rfl⟩)
theorem good_wwait (hty : G.ty = wgLink.tWg) (hg : GrpAt h p 5) (hK : K (.tuple ⟨[]⟩) (h.set p (.group 12))) : Good prog (JG prog W0 Post G) 80 [ptr p 0] h K := by
  have hf : prog.funcs[(80 : Nat)]? = some (waitFn wgLink) := wgLib.f_wait
  refine .inl ⟨.inl ⟨(Array.getElem?_eq_some_iff.1 hf).1, by unfold callable; rw [hf]; rfl⟩, fun ρ FC w ft cs c cargs fr H hr hl hent hc => ?_⟩
  obtain rfl : fr = Frame.enter prog 80 ⟨cargs⟩ .normal := by
    rcases hent with ⟨_, e⟩ | ⟨hge, _⟩
    · exact e
    · exact absurd (Array.getElem?_eq_some_iff.1 hf).1 (Nat.not_lt.2 hge)
  refine JG.there fun w₁ h₁ htw hlv => ?_
  have H1 := H.rely h₁
  have htag := H.tag p 5 hg.here
  have hb : ρ.blk p = G.wg := by omega
  rw [one_of hl, ptr_arg (hr 0), hb, enter_at _ hf (c := Go.ConcR.Gen.body_wait wgLink) rfl]
  exact wait_walk wgLib hty hg H1 hlv fun w' ft' H' => hc (.tuple ⟨[]⟩) _ ρ w' ft' _ hK H' (Env.upto_refl _ _) (by rw [List.length_set]; exact Nat.le_refl _) (.inr ⟨by simp [VOk, AOk, LOk], rfl⟩)
end
section
variable {P : Program} {W0 : World} {Post : Value → World → Prop} {g : Goroutine} {w : World} {ft : Foot}
theorem J2.main (hrun : g.status = .running)
    (h : ∀ gs w₁ sl t q S, (∀ b, ft.rd b → b < w₁.heap.size) → (∀ b, ft.wr b → ft.rd b) → RelyW ft w w₁ → Base W0 w₁ → gs[0]? = some g → Leavers P t gs q → PastS S ft w₁.heap.size t → ∃ m' ops, runT P (crowd gs w₁ sl) 0 = (.next m', ops) ∧ Ends P Post m' (t ++ ops)) : J2 P W0 Post g w ft := by
  intro gs w₁ sl t q S hbd hsub hrel hbase h0 hL hP
  generalize hM : sumTo gs.size q = M
  induction M using Nat.strongRecOn generalizing gs w₁ sl t q with
  | ind M ih =>
    have haw : ∀ g ∈ gs, awake g := by
      intro x hx
      obtain ⟨i, hi, rfl⟩ := Array.mem_iff_getElem.1 hx
      rcases Nat.eq_zero_or_pos i with rfl | hpos
      · have : gs[0] = g := by simpa [Array.getElem?_eq_getElem hi] using h0
        rw [this]; exact awake_of (.inl hrun)
      · exact awake_of ((hL.old i _ hpos (Array.getElem?_eq_getElem hi)).status.elim .inl fun x => .inr (.inr x))
    obtain ⟨i, x, d, sl', hi, hg, hst⟩ := crowd_pick (P := P) (w := w₁) (sl := sl) haw ⟨0, g, h0, hrun⟩
    rcases Nat.eq_zero_or_pos i with rfl | hpos
    · obtain ⟨m', ops, hr, he⟩ := h gs (w₁.at d) sl' t q S hbd hsub (hrel.trans (relyW_at ft w₁ d)) ⟨hbase.tape, hbase.os, hbase.output, hbase.size⟩ h0 hL hP
      exact Ends.next (hst.trans hr) he
    · have hq := hL.old i x hpos hi
      have hi0 : (i == 0) = false := by simp; omega
      have hlt : i < gs.size := (Array.getElem?_eq_some_iff.1 hi).1
      cases hqi : q i with
      | zero => rw [hqi] at hq; rw [hq.1] at hg; cases hg
      | succ k =>
        rw [hqi] at hq
        rcases hq with ⟨hf, _⟩ | ⟨_, g', es, hm, hstp, hq'⟩
        · rw [hf] at hg; cases hg
        have hrunT := runT_crowd_go (P := P) (sl := sl') (i := i) hi (by rw [hi0]; exact hstp (w₁.at d))
        have hsz : ((gs.map (woken P x g' (w₁.at d))).setIfInBounds i g').size = gs.size := by simp
        have hsum : sumTo gs.size (upd q i k) + (k + 1) = sumTo gs.size q + k := by
          have := sumTo_upd q k id hlt
          simpa [hqi] using this
        refine Ends.next (hst.trans hrunT) (ih (sumTo gs.size (upd q i k)) (by omega) _ (w₁.at d) sl' _ (upd q i k) hbd (hrel.trans (relyW_at ft w₁ d)) ⟨hbase.tape, hbase.os, hbase.output, hbase.size⟩ ?_ ⟨fun j y hj hy => ?_, fun j hj => ?_⟩ (hP.mute (by omega) hm) (by rw [hsz]))
        · have hne : i ≠ 0 := by omega
          rw [Array.getElem?_setIfInBounds_ne hne, Array.getElem?_map, h0]
          simp [woken_run hrun]
        · by_cases hji : i = j
          · subst hji
            rw [Array.getElem?_setIfInBounds_self_of_lt (by simpa using hlt)] at hy
            obtain rfl := Option.some.inj hy
            rw [upd_same, Deaf_own]
            exact hq'
          · rw [Array.getElem?_setIfInBounds_ne hji, Array.getElem?_map] at hy
            obtain ⟨z, hz, rfl⟩ := Option.map_eq_some_iff.1 hy
            have hqj := hL.old j z hj hz
            rw [woken_quitsD hqj, upd_ne q k (Ne.symm hji), Deaf_other t hji _ (fun op hop => mem_g hop)]
            exact hqj
        · rw [Deaf_other t (g' := i) (by simp at hj; omega) _ (fun op hop => mem_g hop)]
          exact hL.above j (by simpa using hj)
theorem J2.opens (hrun : g.status = .running)
    (h : ∀ w₁, RelyW ft w w₁ → (∀ b, ft.rd b → b < w₁.heap.size) → ∃ (G : Grp) (g' : Goroutine) (es : Array Event), G.wg = w₁.heap.size ∧ stepG P true g w₁ = .go g' { w₁ with heap := w₁.heap.push (ConcR.wgBlock G.ty 0 0) } es ∧ (∀ e ∈ es, EvOk ft e) ∧
      JG P W0 Post G g' { w₁ with heap := w₁.heap.push (ConcR.wgBlock G.ty 0 0) } { ft with tag := 1 + 32 * G.wg }) : J2 P W0 Post g w ft :=
  J2.main hrun fun gs w₁ sl t q S hbd hsub hrel hbase h0 hL hP => by
    obtain ⟨G, g', es, hwg, hgo, hes, hJ⟩ := h w₁ hrel hbd
    refine ⟨_, _, runT_crowd_go (P := P) (sl := sl) (i := 0) h0 (show stepG P (0 == 0) g w₁ = _ from hgo), ?_⟩
    have hlt0 : 0 < gs.size := (Array.getElem?_eq_some_iff.1 h0).1
    generalize hw' : ({ w₁ with heap := w₁.heap.push (ConcR.wgBlock G.ty 0 0) } : World) = w' at hJ
    have hsz : w'.heap.size = w₁.heap.size + 1 := by rw [← hw']; simp
    have hP' := hP.own (fn := g.frame.fn) (pos := g.frame.place) hes hbd (B' := w'.heap.size) (by omega)
    have hdf := fun j => deaf_evs (t := t) (i := 0) (fn := g.frame.fn) (pos := g.frame.place) hes hbd j
    have nt : ∀ {j : Nat} {a : Touch}, touchAt (t ++ MemOp.ofEvents 0 g.frame.fn g.frame.place es) j = some a → locBlk a.loc ≠ some G.wg := fun {j a} ha e => by
      rcases touch_app ha with ⟨_, h⟩ | ⟨op, hop, _, h⟩
      · obtain ⟨z, hz, hza⟩ := touch_of h
        have := touch_low (hP.past.seen z (Array.mem_of_getElem? hz)) hza e
        omega
      · obtain ⟨ev, hev, rfl⟩ := Go.Conc.mem_ofEvents hop
        obtain ⟨bl, e1, e2, _⟩ := evOk_touch (hes ev hev) h
        rw [e1] at e
        cases e
        have := hbd _ e2
        omega
    refine hJ _ w' sl _ gs.size 0 q .none S ?_ (moved_own h0) { base := ?_, lt := fun b hb => by have := hbd b hb; omega, sub := hsub, nwg := fun hr => by have := hbd _ hr; omega, tagw := by show (1 + 32 * G.wg) / 32 = G.wg; omega, grp := ⟨0, 0, ?_, ?_⟩, hears := ?_, ipos := hlt0, wk := trivial, old := fun j y hj hy _ => ?_, above := fun j hj => ?_, clean := hP'.past.clean, known := fun j a ha hm => ?_, done := fun j a ha hm => ?_, over := fun j x h1 h2 h3 => .inl (hP'.past.over j x h1 h2 h3), quiet := fun j a ha e => absurd e (nt ha), late := fun _ _ _ _ _ h => ?_, seen := hP'.past.seen, shun := fun b hS => ⟨(hP.shun b hS).1, by have := (hP.shun b hS).2; omega, by have := (hP.shun b hS).2; omega⟩, norel := fun a ha => ?_, acq := fun h => ?_ }
    · exact ⟨fun b hb => rfl, Nat.le_refl _, rfl, rfl, rfl⟩
    · rw [← hw']
      exact ⟨hbase.tape, hbase.os, hbase.output, Nat.le_trans hbase.size (by simp)⟩
    · unfold Grp.at_ WgAt
      rw [← hw', hwg]
      simp
    · show Phase ((1 + 32 * G.wg) % 32) 9 0 0
      have : (1 + 32 * G.wg) % 32 = 1 := by omega
      rw [this]
      exact .opened (.inl rfl)
    · rw [hdf, hP.past.hears]
      show 0 = deafX ((1 + 32 * G.wg) % 32)
      have : (1 + 32 * G.wg) % 32 = 1 := by omega
      rw [this]
      rfl
    · obtain ⟨z, hz, rfl⟩ := moved_get (by omega) hy
      have := hL.old j z hj hz
      rw [woken_quitsD this, hdf]
      exact this
    · rw [hdf]
      exact hL.above j (by simpa using hj)
    · rcases hP'.past.known j a ha hm with hk | ⟨⟨b, e1, e2⟩, _⟩
      · exact .inl hk
      · refine .inr fun b' hb' => ?_
        rw [e1] at hb'
        cases hb'
        exact ⟨fun hw => (hP.shun _ e2).1 (hsub _ hw), fun _ hr => (hP.shun _ e2).1 hr⟩
    · exact (hP'.past.known j a ha hm).imp id .inr
    · have : (9 : Nat) ≤ 6 := h
      omega
    · refine NoRelease.app ?_ (ok_norel hes a)
      rcases ha with ha | ha
      · exact hP.norel a ha
      · exact norel_fresh hP.past.seen (by omega)
    · have h : (1 + 32 * G.wg) % 32 = 12 := h
      omega
end
end Go.Proofs.Ythnccaajpdnndaa
namespace Go.Proofs.Ythnccaajpdnndaa
open Go.Conc
def nilS : Value := .slice none 0 0
def leftP (F : Nat) (R : Option (List Int)) (w : World) (fi : Foot) : Prop :=
  fi.rd F ∧ fi.wr F ∧ ∃ cs ty fr, w.heap[F]? = some (.cells cs ty fr) ∧ match R with
    | none => cs = #[nilS, nilS, nilS]
    | some l => ∃ b c ds ty' fr', fi.rd b ∧ fi.wr b ∧ b ≠ F ∧ cs = #[.slice (some ⟨b, 0, none⟩) l.length c, nilS, nilS] ∧ w.heap[b]? = some (.cells ds ty' fr') ∧ ds.size = c ∧ (∀ (i : Nat) (x : Int), l[i]? = some x → ds[i]? = some (vint x)) ∧ l.length ≤ c
theorem leftP_keep {F : Nat} {R : Option (List Int)} {w w' : World} {fi : Foot} (hk : ∀ b, fi.rd b → w'.heap[b]? = w.heap[b]?) (h : leftP F R w fi) : leftP F R w' fi := by
  obtain ⟨h1, h1', cs, ty, fr, h2, h3⟩ := h
  refine ⟨h1, h1', cs, ty, fr, (hk F h1).trans h2, ?_⟩
  cases R with
  | none => exact h3
  | some l =>
    obtain ⟨b, c, ds, ty', fr', a1, a2, a3, a4, a5, a6⟩ := h3
    exact ⟨b, c, ds, ty', fr', a1, a2, a3, a4, (hk b a1).trans a5, a6⟩
def mkG (ty : TypeId) (wg F : Nat) (R : Option (List Int)) : Grp := ⟨ty, wg, F, leftP F R, fun _ _ _ hk h => leftP_keep hk h⟩
def lentM (h : List AObj) (p fI x : Nat) : List AObj := ((frz h).set fI .dead).set p (.group x)
def lentW (h : List AObj) (fI : Nat) (cs : List Value) : List AObj := (frz h).set fI (.cells cs true 0)
open Classical in
noncomputable def keepG (w : World) (ft : Foot) (F : Nat) : Frm := ⟨fun b => if ft.rd b ∧ b ≠ F then w.heap[b]? else none, fun _ => False⟩
def mainF (ft : Foot) (F : Nat) : Foot := ⟨fun b => ft.rd b ∧ b ≠ F, fun _ => False, ft.tag + 1⟩
def workF (ft : Foot) (F : Nat) : Foot := ⟨ft.rd, fun b => b = F, 0⟩
def noFrm : Frm := ⟨fun _ => none, fun _ => False⟩
section
variable {ρ ρ' : Env} {h g : List AObj} {FC : Frm} {w w' : World} {ft ft' : Foot} {p fI x : Nat} {cs : List Value}
theorem lentM_len : (lentM h p fI x).length = h.length := by simp [lentM, frz_len]
theorem lentW_len : (lentW h fI cs).length = h.length := by simp [lentW, frz_len]
theorem lentM_get {i : Nat} {o : AObj} (e : (lentM h p fI x)[i]? = some o) : (i = p ∧ o = .group x) ∨ (i ≠ p ∧ i = fI ∧ o = .dead) ∨ (i ≠ p ∧ i ≠ fI ∧ ∃ y, h[i]? = some y ∧ frzO y = o) := by
  unfold lentM at e
  rcases set_get e with ⟨rfl, rfl, _⟩ | ⟨h1, e⟩
  · exact .inl ⟨rfl, rfl⟩
  · rcases set_get e with ⟨rfl, rfl, _⟩ | ⟨h2, e⟩
    · exact .inr (.inl ⟨h1, rfl, rfl⟩)
    · exact .inr (.inr ⟨h1, h2, frz_get e⟩)
theorem lentW_get {i : Nat} {o : AObj} (e : (lentW h fI cs)[i]? = some o) : (i = fI ∧ o = .cells cs true 0) ∨ (i ≠ fI ∧ ∃ y, h[i]? = some y ∧ frzO y = o) := by
  unfold lentW at e
  rcases set_get e with ⟨rfl, rfl, _⟩ | ⟨h1, e⟩
  · exact .inl ⟨rfl, rfl⟩
  · exact .inr ⟨h1, frz_get e⟩
theorem lentM_rel (H : HRel ρ h FC w ft) (hg : GrpAt h p 4) (hf : h[fI]? = some (.cells cs true 0)) : HRel ρ (lentM h p fI 5) (keepG w ft (ρ.blk fI)) w (mainF ft (ρ.blk fI)) := by
  have ne : ∀ {i : Nat} {y : AObj}, h[i]? = some y → y.live = true → i ≠ fI → ρ.blk i ≠ ρ.blk fI := fun hy l hn e => hn (H.inj _ _ _ _ hy hf l rfl e)
  refine ⟨fun i o hi => ?_, fun i j o o' hi hj l l' e => ?_, fun i o hi l => ?_, fun i o hi l => ?_, fun b hb => H.lt b hb.1, fun b hb => hb.elim, fun b o hb => ?_, fun b hb => hb.elim, fun i z hi => ?_⟩
  · rw [lentM_len]
    rcases lentM_get hi with ⟨_, rfl⟩ | ⟨_, _, rfl⟩ | ⟨_, _, y, hy, rfl⟩
    · trivial
    · trivial
    · exact frz_orel (H.obj i y hy)
  · rcases lentM_get hi with ⟨_, rfl⟩ | ⟨_, _, rfl⟩ | ⟨_, _, y, hy, rfl⟩
    · cases l
    · cases l
    · rcases lentM_get hj with ⟨_, rfl⟩ | ⟨_, _, rfl⟩ | ⟨_, _, y', hy', rfl⟩
      · cases l'
      · cases l'
      · exact H.inj i j y y' hy hy' (frz_live l).1 (frz_live l').1 e
  · rcases lentM_get hi with ⟨_, rfl⟩ | ⟨_, _, rfl⟩ | ⟨_, hn, y, hy, rfl⟩
    · cases l
    · cases l
    · exact ⟨H.rd i y hy (frz_live l).1, ne hy (frz_live l).1 hn⟩
  · rcases lentM_get hi with ⟨_, rfl⟩ | ⟨_, _, rfl⟩ | ⟨_, _, y, hy, rfl⟩
    · cases l
    · cases l
    · rw [frz_wrt] at l
      cases l
  · unfold keepG at hb
    simp only at hb
    split at hb
    · rename_i hc
      refine ⟨hb, hc, fun a oa ha hw => ?_⟩
      rcases lentM_get ha with ⟨_, rfl⟩ | ⟨_, _, rfl⟩ | ⟨_, _, y, hy, rfl⟩
      · cases hw
      · cases hw
      · rw [frz_wrt] at hw
        cases hw
    · cases hb
  · rcases lentM_get hi with ⟨rfl, e⟩ | ⟨_, _, e⟩ | ⟨_, _, y, hy, e⟩
    · cases e
      have := H.tag i 4 hg.here
      show ft.tag + 1 = 5 + 32 * ρ.blk i
      omega
    · cases e
    · cases y <;> cases e
theorem lentW_rel (H : HRel ρ h FC w ft) (hf : h[fI]? = some (.cells cs true 0)) : HRel ρ (lentW h fI cs) noFrm w (workF ft (ρ.blk fI)) := by
  refine ⟨fun i o hi => ?_, fun i j o o' hi hj l l' e => ?_, fun i o hi l => ?_, fun i o hi l => ?_, H.lt, fun b hb => ?_, fun b o hb => (by cases hb), fun b hb => hb.elim, fun i z hi => ?_⟩
  · rw [lentW_len]
    rcases lentW_get hi with ⟨rfl, rfl⟩ | ⟨_, y, hy, rfl⟩
    · exact H.obj i _ hf
    · exact frz_orel (H.obj i y hy)
  · have src : ∀ {i : Nat} {o : AObj}, (lentW h fI cs)[i]? = some o → o.live = true → ∃ y, h[i]? = some y ∧ y.live = true := fun hi l => by
      rcases lentW_get hi with ⟨rfl, rfl⟩ | ⟨_, y, hy, rfl⟩
      · exact ⟨_, hf, rfl⟩
      · exact ⟨y, hy, (frz_live l).1⟩
    obtain ⟨y, hy, l1⟩ := src hi l
    obtain ⟨y', hy', l2⟩ := src hj l'
    exact H.inj i j y y' hy hy' l1 l2 e
  · rcases lentW_get hi with ⟨rfl, rfl⟩ | ⟨_, y, hy, rfl⟩
    · exact H.rd i _ hf rfl
    · exact H.rd i y hy (frz_live l).1
  · rcases lentW_get hi with ⟨rfl, rfl⟩ | ⟨_, y, hy, rfl⟩
    · exact rfl
    · rw [frz_wrt] at l
      cases l
  · have hb : b = ρ.blk fI := hb
    rw [hb]
    exact H.rd fI _ hf rfl
  · rcases lentW_get hi with ⟨rfl, e⟩ | ⟨_, y, hy, e⟩
    · cases e
    · cases y <;> cases e
def thawG (h g : List AObj) (fI : Nat) (c : List Value) (o : AObj) : List AObj := (unch h).set fI (.cells c false 0) ++ (g ++ [o])
def joinF (ft ft' : Foot) (F R : Nat) : Foot := ⟨fun b => ft'.rd b ∨ b = F ∨ b = R, fun b => ft.wr b ∨ ft'.wr b, 0⟩
theorem thawG_len {c : List Value} {o : AObj} : (thawG h g fI c o).length = h.length + (g.length + 1) := by simp [thawG, unch_len]
theorem thawG_get {c : List Value} {o : AObj} {i : Nat} {y : AObj} (e : (thawG h g fI c o)[i]? = some y) : (i = fI ∧ y = .cells c false 0) ∨ (i < h.length ∧ i ≠ fI ∧ ∃ z, h[i]? = some z ∧ unchO z = y) ∨ (h.length ≤ i ∧ g[i - h.length]? = some y) ∨ (i = h.length + g.length ∧ y = o) := by
  unfold thawG at e
  rw [List.getElem?_append] at e
  split at e
  · rename_i hlt
    rw [List.length_set, unch_len] at hlt
    rcases set_get e with ⟨rfl, rfl, _⟩ | ⟨h1, e⟩
    · exact .inl ⟨rfl, rfl⟩
    · unfold unch at e
      rw [List.getElem?_map] at e
      obtain ⟨z, hz, ez⟩ := Option.map_eq_some_iff.1 e
      exact .inr (.inl ⟨hlt, h1, z, hz, ez⟩)
  · rename_i hge
    rw [List.length_set, unch_len] at hge e
    rw [List.getElem?_append] at e
    split at e
    · exact .inr (.inr (.inl ⟨by omega, e⟩))
    · rename_i h2
      have hl := (List.getElem?_eq_some_iff.1 e).1
      simp only [List.length_cons, List.length_nil] at hl
      have h3 : i - h.length - g.length = 0 := by omega
      rw [h3] at e
      simp only [List.getElem?_cons_zero, Option.some.injEq] at e
      exact .inr (.inr (.inr ⟨by omega, e.symm⟩))
theorem thawG_rel (H : HRel ρ h FC w ft) (hf : h[fI]? = some (.cells cs true 0)) (H' : HRel ρ' (lentM h p fI x ++ g) (keepG w ft (ρ.blk fI)) w' ft') (hu : Env.upto h.length ρ ρ') (hgl : ∀ o ∈ g, o.live = true → o.wrt = true) (hng : ∀ z, .group z ∉ g)
    {R κ : Nat} {c : List Value} {o : AObj} (hFl : ρ.blk fI < w'.heap.size) (hRl : R < w'.heap.size) (hng' : ∀ z, o ≠ .group z) (hwo : o.wrt = false) (hR : o.live = true → R ≠ ρ.blk fI ∧ ¬ ft'.rd R)
    (hoF : ORel (h.length + (g.length + 1)) (ρ'.put (h.length + g.length) R κ) fI (.cells c false 0) w'.heap[ρ.blk fI]?) (hoR : ORel (h.length + (g.length + 1)) (ρ'.put (h.length + g.length) R κ) (h.length + g.length) o w'.heap[R]?) (hFn : ¬ ft'.rd (ρ.blk fI)) :
    HRel (ρ'.put (h.length + g.length) R κ) (thawG h g fI c o) FC w' (joinF ft ft' (ρ.blk fI) R) := by
  have hlM : (lentM h p fI x ++ g).length = h.length + g.length := by rw [List.length_append, lentM_len]
  have hup : Env.upto (h.length + g.length) ρ' (ρ'.put (h.length + g.length) R κ) := Env.put_upto _ _ _ _
  have hfl : fI < h.length := (List.getElem?_eq_some_iff.1 hf).1
  have hbl : ∀ {i : Nat}, i < h.length → (ρ'.put (h.length + g.length) R κ).blk i = ρ.blk i := fun {i} hi => (hup i (by omega)).1.trans (hu i hi).1
  have hbg : ∀ {i : Nat}, i < h.length + g.length → (ρ'.put (h.length + g.length) R κ).blk i = ρ'.blk i := fun hi => (hup _ hi).1
  have hbR : (ρ'.put (h.length + g.length) R κ).blk (h.length + g.length) = R := (Env.put_self _ _ _ _).1
  have stay : ∀ b, ft.rd b → b ≠ ρ.blk fI → w'.heap[b]? = w.heap[b]? ∧ ft'.rd b ∧ ∀ (a : Nat) (oa : AObj), (lentM h p fI x ++ g)[a]? = some oa → oa.wrt = true → ρ'.blk a ≠ b := fun b hr hc => by
    have hlt := H.lt b hr
    have := H'.kept b w.heap[b] (by unfold keepG; simp only; rw [if_pos ⟨hr, hc⟩, Array.getElem?_eq_getElem hlt])
    exact ⟨by rw [this.1, Array.getElem?_eq_getElem hlt], this.2⟩
  have live : ∀ {y : AObj}, (unchO y).live = true → y.live = true ∧ unchO y = y := fun {y} l => by
    cases y <;> first | (cases l; done) | exact ⟨rfl, rfl⟩
  have wlive : ∀ {y : AObj}, y.wrt = true → y.live = true := fun {y} l => by cases y <;> first | (cases l; done) | rfl
  have ne : ∀ {i : Nat} {y : AObj}, h[i]? = some y → y.live = true → i ≠ fI → ρ.blk i ≠ ρ.blk fI := fun hy l hn e => hn (H.inj _ _ _ _ hy hf l rfl e)
  have gM : ∀ {i : Nat} {y : AObj}, h.length ≤ i → g[i - h.length]? = some y → (lentM h p fI x ++ g)[i]? = some y := fun hge hy => by
    rw [List.getElem?_append_right (by rw [lentM_len]; exact hge), lentM_len]
    exact hy
  -- where a live block lies
  have place : ∀ {i : Nat} {y : AObj}, (thawG h g fI c o)[i]? = some y → y.live = true → (i = fI ∧ (ρ'.put (h.length + g.length) R κ).blk i = ρ.blk fI) ∨ (i ≠ fI ∧ i < h.length + g.length ∧ (ρ'.put (h.length + g.length) R κ).blk i = ρ'.blk i ∧ ft'.rd (ρ'.blk i) ∧ ρ'.blk i ≠ ρ.blk fI) ∨ (i = h.length + g.length ∧ y = o ∧ (ρ'.put (h.length + g.length) R κ).blk i = R) := fun {i y} hy l => by
    rcases thawG_get hy with ⟨rfl, _⟩ | ⟨hlt, hn, z, hz, rfl⟩ | ⟨hge, hgy⟩ | ⟨rfl, rfl⟩
    · exact .inl ⟨rfl, hbl hfl⟩
    · obtain ⟨l1, _⟩ := live l
      have hr := H.rd i z hz l1
      have hne := ne hz l1 hn
      have hs := (stay _ hr hne).2.1
      have e : ρ'.blk i = ρ.blk i := (hu i hlt).1
      exact .inr (.inl ⟨hn, by omega, hbg (by omega), by rw [e]; exact hs, by rw [e]; exact hne⟩)
    · have hil : i < h.length + g.length := by
        have := (List.getElem?_eq_some_iff.1 hgy).1
        omega
      have hr := H'.rd i y (gM hge hgy) l
      exact .inr (.inl ⟨by omega, hil, hbg hil, hr, fun e => hFn (e ▸ hr)⟩)
    · exact .inr (.inr ⟨rfl, rfl, hbR⟩)
  -- a live block beside found and the worker's, in the first one's own words
  have inM : ∀ {i : Nat} {y : AObj}, (thawG h g fI c o)[i]? = some y → y.live = true → i ≠ fI → i < h.length + g.length → (i < h.length ∧ ∃ z, h[i]? = some z ∧ z = y) ∨ (h.length ≤ i ∧ (lentM h p fI x ++ g)[i]? = some y) := fun {i y} hy l hn hlt => by
    rcases thawG_get hy with ⟨rfl, _⟩ | ⟨hlt', _, z, hz, rfl⟩ | ⟨hge, hgy⟩ | ⟨rfl, rfl⟩
    · exact absurd rfl hn
    · exact .inl ⟨hlt', z, hz, (live l).2.symm⟩
    · exact .inr ⟨hge, gM hge hgy⟩
    · omega
  have injM : ∀ {i j : Nat} {y z : AObj}, (thawG h g fI c o)[i]? = some y → (thawG h g fI c o)[j]? = some z → y.live = true → z.live = true → i ≠ fI → j ≠ fI → i < h.length + g.length → j < h.length + g.length → ρ'.blk i = ρ'.blk j → i = j := by
    intro i j y z hi hj l l' ni nj li lj e
    rcases inM hi l ni li with ⟨h1, y', hy, rfl⟩ | ⟨h1, hy⟩ <;> rcases inM hj l' nj lj with ⟨h2, z', hz, rfl⟩ | ⟨h2, hz⟩
    · rw [(hu i h1).1, (hu j h2).1] at e
      exact H.inj i j _ _ hy hz l l' e
    · exfalso
      rw [(hu i h1).1] at e
      have hzw : z.wrt = true := hgl z (by
        rw [List.getElem?_append_right (by rw [lentM_len]; exact h2)] at hz
        exact List.mem_of_getElem? hz) l'
      exact (stay _ (H.rd i _ hy l) (ne hy l ni)).2.2 j z hz hzw e.symm
    · exfalso
      rw [(hu j h2).1] at e
      have hyw : y.wrt = true := hgl y (by
        rw [List.getElem?_append_right (by rw [lentM_len]; exact h1)] at hy
        exact List.mem_of_getElem? hy) l
      exact (stay _ (H.rd j _ hz l') (ne hz l' nj)).2.2 i y hy hyw e
    · exact H'.inj i j y z hy hz l l' e
  have hsub : ∀ b, (joinF ft ft' (ρ.blk fI) R).wr b → (joinF ft ft' (ρ.blk fI) R).rd b := fun b hb => by
    rcases hb with hb | hb
    · by_cases e : b = ρ.blk fI
      · exact .inr (.inl e)
      · exact .inl (stay b (H.sub b hb) e).2.1
    · exact .inl (H'.sub b hb)
  refine ⟨fun i y hi => ?_, fun i j y z hi hj l l' e => ?_, fun i y hi l => ?_, fun i y hi l => ?_, fun b hb => ?_, hsub, fun b ob hb => ?_, fun b hb => .inl (H.keptW b hb), fun i z hi => ?_⟩
  · rw [thawG_len]
    rcases thawG_get hi with ⟨rfl, rfl⟩ | ⟨hlt, hn, z, hz, rfl⟩ | ⟨hge, hgy⟩ | ⟨rfl, rfl⟩
    · rw [hbl hfl]
      exact hoF
    · by_cases l : (unchO z).live = true
      · obtain ⟨l1, e⟩ := live l
        rw [e, hbl hlt, (stay _ (H.rd i z hz l1) (ne hz l1 hn)).1]
        exact (H.obj i z hz).congr (fun b hb => ⟨hbl hb, (hup b (by omega)).2.trans (hu b hb).2⟩) (by omega) hlt
      · cases hz' : unchO z <;> rw [hz'] at l <;> first | trivial | exact absurd rfl l
    · have hil : i < h.length + g.length := by
        have := (List.getElem?_eq_some_iff.1 hgy).1
        omega
      have := H'.obj i y (gM hge hgy)
      rw [hlM] at this
      rw [hbg hil]
      exact this.congr hup (by omega) hil
    · rw [hbR]
      exact hoR
  · rcases place hi l with ⟨rfl, e1⟩ | ⟨n1, l1, e1, r1, d1⟩ | ⟨rfl, ho, e1⟩ <;> rcases place hj l' with ⟨rfl, e2⟩ | ⟨n2, l2, e2, r2, d2⟩ | ⟨rfl, ho', e2⟩
    · rfl
    · rw [e1, e2] at e
      exact absurd e.symm d2
    · rw [e1, e2] at e
      exact absurd e.symm (hR (ho' ▸ l')).1
    · rw [e1, e2] at e
      exact absurd e d1
    · rw [e1, e2] at e
      exact injM hi hj l l' n1 n2 l1 l2 e
    · rw [e1, e2] at e
      exact absurd (e ▸ r1) (hR (ho' ▸ l')).2
    · rw [e1, e2] at e
      exact absurd e (hR (ho ▸ l)).1
    · rw [e1, e2] at e
      exact absurd (e ▸ r2) (hR (ho ▸ l)).2
    · rfl
  · rcases place hi l with ⟨rfl, e1⟩ | ⟨n1, l1, e1, r1, d1⟩ | ⟨rfl, ho, e1⟩
    · rw [e1]
      exact .inr (.inl rfl)
    · rw [e1]
      exact .inl r1
    · rw [e1]
      exact .inr (.inr rfl)
  · rcases thawG_get hi with ⟨rfl, rfl⟩ | ⟨hlt, hn, z, hz, rfl⟩ | ⟨hge, hgy⟩ | ⟨rfl, rfl⟩
    · cases l
    · have e := (live (wlive l)).2
      rw [e] at l
      rw [hbl hlt]
      exact .inl (H.wr i z hz l)
    · have hil : i < h.length + g.length := by
        have := (List.getElem?_eq_some_iff.1 hgy).1
        omega
      rw [hbg hil]
      exact .inr (H'.wr i y (gM hge hgy) l)
    · rw [hwo] at l
      cases l
  · rcases hb with hb | rfl | rfl
    · exact H'.lt b hb
    · exact hFl
    · exact hRl
  · obtain ⟨a1, a2, a3⟩ := H.kept b ob hb
    have hbF : b ≠ ρ.blk fI := fun e => a3 fI _ hf rfl e.symm
    obtain ⟨s1, s2, s3⟩ := stay b a2 hbF
    refine ⟨by rw [s1]; exact a1, .inl s2, fun i y hi l => ?_⟩
    rcases thawG_get hi with ⟨rfl, rfl⟩ | ⟨hlt, hn, z, hz, rfl⟩ | ⟨hge, hgy⟩ | ⟨rfl, rfl⟩
    · cases l
    · have e := (live (wlive l)).2
      rw [e] at l
      rw [hbl hlt]
      exact a3 i z hz l
    · have hil : i < h.length + g.length := by
        have := (List.getElem?_eq_some_iff.1 hgy).1
        omega
      rw [hbg hil]
      exact s3 i y (gM hge hgy) l
    · rw [hwo] at l
      cases l
  · rcases thawG_get hi with ⟨rfl, e⟩ | ⟨hlt, hn, y, hy, e⟩ | ⟨hge, hgy⟩ | ⟨rfl, e⟩
    · cases e
    · cases y <;> cases e
    · exact absurd (List.mem_of_getElem? hgy) (hng z)
    · exact absurd e.symm (hng' z)
end
section
variable {ρ ρ' : Env} {h : List AObj} {FC : Frm} {w w' : World} {ft : Foot}
theorem snoc_get {α : Type} {l : List α} {x y : α} {i : Nat} (e : (l ++ [x])[i]? = some y) : (i = l.length ∧ y = x) ∨ l[i]? = some y := by
  rw [List.getElem?_append] at e
  split at e
  · exact .inr e
  · rename_i hge
    have hl := (List.getElem?_eq_some_iff.1 e).1
    simp at hl
    have h0 : i - l.length = 0 := by omega
    rw [h0] at e
    simp at e
    exact .inl ⟨by omega, e.symm⟩
theorem HRel.group (H : HRel ρ h FC w ft) (hno : ∀ (q z : Nat), h[q]? ≠ some (.group z)) (x : Obj) (κ : Nat) : HRel (ρ.put h.length w.heap.size κ) (h ++ [.group 1]) FC { w with heap := w.heap.push x } { ft with tag := 1 + 32 * w.heap.size } := by
  have hup := Env.put_upto ρ h.length w.heap.size κ
  have hold : ∀ {i oi}, h[i]? = some oi → (ρ.put h.length w.heap.size κ).blk i = ρ.blk i := fun {i oi} hi => (hup i (List.getElem?_eq_some_iff.1 hi).1).1
  have hpush : ∀ i, i < w.heap.size → (w.heap.push x)[i]? = w.heap[i]? := fun i hi => by rw [Array.getElem?_push_lt hi, Array.getElem?_eq_getElem hi]
  have wl : ∀ {o : AObj}, o.wrt = true → o.live = true := fun {o} hw => by cases o <;> first | rfl | cases hw
  refine ⟨fun i oi hi => ?_, fun i j oi oj hi hj l1 l2 e => ?_, fun i oi hi hl => ?_, fun i oi hi hl => ?_, fun y hy => ?_, fun y hy => H.sub y hy, fun y oy hy => ?_, fun y hy => H.keptW y hy, fun i y hi => ?_⟩
  · rw [List.length_append]
    rcases snoc_get hi with ⟨rfl, rfl⟩ | hi
    · trivial
    · rw [hold hi]
      by_cases hl : oi.live = true
      · show ORel _ _ _ _ (w.heap.push x)[ρ.blk i]?
        rw [hpush _ (H.live_lt hi hl)]
        exact (H.obj i oi hi).congr hup (by simp) (List.getElem?_eq_some_iff.1 hi).1
      · cases oi <;> first | trivial | exact absurd rfl hl
  · rcases snoc_get hi with ⟨_, rfl⟩ | hi
    · cases l1
    · rcases snoc_get hj with ⟨_, rfl⟩ | hj
      · cases l2
      · rw [hold hi, hold hj] at e
        exact H.inj i j oi oj hi hj l1 l2 e
  · rcases snoc_get hi with ⟨_, rfl⟩ | hi
    · cases hl
    · rw [hold hi]
      exact H.rd i oi hi hl
  · rcases snoc_get hi with ⟨_, rfl⟩ | hi
    · cases hl
    · rw [hold hi]
      exact H.wr i oi hi hl
  · have := H.lt y hy
    show y < (w.heap.push x).size
    simp
    omega
  · obtain ⟨a1, a2, a3⟩ := H.kept y oy hy
    refine ⟨?_, a2, fun a oa ha hw => ?_⟩
    · show (w.heap.push x)[y]? = _
      rw [hpush y (H.lt y a2)]
      exact a1
    · rcases snoc_get ha with ⟨_, rfl⟩ | ha
      · cases hw
      · rw [hold ha]
        exact a3 a oa ha hw
  · rcases snoc_get hi with ⟨rfl, e⟩ | hi
    · cases e
      rw [(Env.put_self ρ h.length w.heap.size κ).1]
    · exact absurd hi (hno i y)
end
section
variable {P : Program} {W0 : World} {Post : Value → World → Prop} {G : Grp} {N m : Nat} {b : FB} {cs : List Frame} {FC : Frm} {ρ0 : Env} {K : List Item} {f : RG} {h : List AObj} {ops : Array Oper} {i : Nat} {rest : List Nat} {o : Oper}
theorem At.group (hk : b.kind ≠ .early) (ho : ops[i]? = some o) (hd : dstOk N o = true) (hg : gd ops o f.r = some true) {t : TypeId} (hop : o.op = .alloc t) {ti : TypeInfo} (hi : P.info? t = some ti) {z : Value} (hz : ti.zero = some z) (hzc : z.cells = #[.int .u64 0, .int .u32 0])
    (hno : ∀ (q z : Nat), h[q]? ≠ some (.group z)) {fI : Nat} (hfi : fI < h.length) (R : Option (List Int))
    (hJ : ∀ (ρ : Env) (G : Grp), Env.upto m ρ0 ρ → G.ty = t → G = mkG t G.wg (ρ.blk fI) R → ρ.blk h.length = G.wg → At (JG P W0 Post G) N b cs FC ρ (h.length + 1) (.inRegion ops rest :: K) (f.putO o.dst (ptr h.length 0)) (h ++ [.group 1])) :
    At (J2 P W0 Post) N b cs FC ρ0 m (.inRegion ops (i :: rest) :: K) f h := by
  intro a ρ w ft A H hu hm
  refine J2.opens rfl fun w₁ h₁ _ => ?_
  have H₁ := H.rely h₁
  have hw := gd_wanted A hg
  have hnd : ∀ c, o.op ≠ .defer c := fun c e => by rw [hop] at e; cases e
  have hk' : (b.kind == CallKind.early) = false := by simpa using hk
  have hr : (execOp a.eval o).runT P w₁ #[] = (.ok (.value (.pointer (some ⟨w₁.heap.size, 0, none⟩))) { w₁ with heap := w₁.heap.push (.cells z.cells t) }, #[]) := by
    have hrun : RunsTo P (fun _ => False) (execOp a.eval o) w₁ fun nx w' => nx = .value (.pointer (some ⟨w₁.heap.size, 0, none⟩)) ∧ w' = { w₁ with heap := w₁.heap.push (.cells z.cells t) } := by
      unfold execOp
      rw [hop]
      simp only [Instr.alloc]
      refine RunsTo.bind (RunsTo.bind (RunsTo.zeroValue hi hz ?_))
      unfold newVar newRow
      exact RunsTo.bind (RunsTo.bind (RunsTo.new (RunsTo.pure (RunsTo.pure (RunsTo.pure ⟨rfl, rfl⟩)))))
    obtain ⟨v, w', hr, rfl, rfl⟩ := quiet_run hrun
    exact hr
  refine ⟨mkG t w₁.heap.size (ρ.blk fI) R, G (b.at (a.put o.dst (.pointer (some ⟨w₁.heap.size, 0, none⟩))) (.inRegion ops rest :: K)) cs, #[], rfl, ?_, by simp, ?_⟩
  · have hf := FB.finish_at b a ops i rest K (.pointer (some ⟨w₁.heap.size, 0, none⟩))
    rw [ho] at hf
    simp only [Option.bind_some] at hf
    rw [stepG_op ho hw hnd, ← hf]
    simp only [stepG.apply, hr, if_true]
    simp [FB.at, hk', GStep.after, G, seen, ConcR.wgBlock, hzc, mkG]
  · have hup := Env.put_upto ρ h.length w₁.heap.size 0
    have hs := (Env.put_self ρ h.length w₁.heap.size 0).1
    refine hJ (ρ.put h.length w₁.heap.size 0) _ (Env.upto_trans hu (Env.upto_le hup hm)) rfl ?_ hs _ _ _ _ (act_put (upto_act hup (by simp) A) (dstOk_lt hd) (.inr ⟨by simp [VOk, AddrOk], by simp [ren, renAddr, hs]⟩)) (H₁.group hno _ 0) (Env.upto_refl _ _) (by simp)
    rw [(hup fI hfi).1]
    rfl
theorem At.hireG (hk : b.kind ≠ .early) (ho : ops[i]? = some o) (hg : gd ops o f.r = some true) {x : Operand} {ats : Array TypeId} (hop : o.op = .go { callee := .value x, args := #[], argTypes := ats }) (hdst : o.dst = none)
    {g : FuncId} {cap : List Value} (hx : ev f.r x = .func (.func g) ⟨[]⟩ ⟨cap⟩) (hcl : callable P g = true) {p fI : Nat} {cl : List Value} (hgr : GrpAt h p 4) (hf : h[fI]? = some (.cells cl true 0))
    (hto : ∀ (ρ : Env) (w : World) (ft : Foot), HRel ρ (lentW h fI cl) noFrm w (workF ft (ρ.blk fI)) → Env.upto m ρ0 ρ → ρ.blk p = G.wg → Toward P (AtDone P G) (Go.Conc.G (Frame.enter P g ⟨cap.map (ren ρ)⟩ .deferred) [base0 P]) w (workF ft (ρ.blk fI)))
    (hJ : ∀ (ρ : Env) (w : World) (ft : Foot), HRel ρ h FC w ft → Env.upto m ρ0 ρ → ρ.blk p = G.wg → At (JG P W0 Post G) N b cs (keepG w ft (ρ.blk fI)) ρ h.length (.inRegion ops rest :: K) f (lentM h p fI 5)) :
    At (JG P W0 Post G) N b cs FC ρ0 m (.inRegion ops (i :: rest) :: K) f h := by
  intro a ρ w ft A H hu hm
  have htag := H.tag p 4 hgr.here
  have hFr : ft.rd (ρ.blk fI) := H.rd fI _ hf rfl
  have hFw : ft.wr (ρ.blk fI) := H.wr fI _ hf rfl
  intro gs w₁ sl t ii r q ws S hrel h0 I
  have hwg : ρ.blk p = G.wg := by
    have := I.tagw
    omega
  refine (?_ : JG P W0 Post G (Go.Conc.G (b.at a (.inRegion ops (i :: rest) :: K)) cs) w ft) gs w₁ sl t ii r q ws S hrel h0 I
  clear I h0 hrel S ws q r ii t sl w₁ gs
  refine JG.spawn (fi := workF ft (ρ.blk fI)) (ft' := mainF ft (ρ.blk fI)) rfl (by omega) (fun b hb => hb) (fun b hb => ?_) (fun b hb => ?_) (fun b hb => hb.1) (fun b hb => hb.elim) (fun b hb => hb.elim) (fun b hb hr => hr.2 hb) (fun b hb => hb.elim) rfl fun w₁ h₁ => ?_
  · have hb : b = _ := hb
    subst hb
    exact hFr
  · have hb : b = _ := hb
    subst hb
    exact hFw
  have H₁ := H.rely h₁
  refine ⟨_, _, stepG_go hk ho hg A hop hx w₁, ?_, ?_⟩
  · exact born_toward rfl hcl (hto ρ w₁ ft (lentW_rel H₁ hf) hu hwg)
  · rw [show a.put o.dst undef = a by rw [hdst]; rfl]
    exact hJ ρ w₁ ft H₁ hu hwg a ρ w₁ _ (by rw [lentM_len]; exact A) (lentM_rel H₁ hgr hf) (Env.upto_refl _ _) (by rw [lentM_len]; exact Nat.le_refl _)
def cellsOf (n : Nat) : Option (List Int) → List Value
  | none => [nilS, nilS, nilS]
  | some l => [.slice (some ⟨n, 0, none⟩) l.length fz, nilS, nilS]
def objOf : Option (List Int) → AObj
  | none => .dead
  | some l => .cells (l.map vint) false 1
theorem At.join {p fI x : Nat} {cl : List Value} {R : Option (List Int)} {g : List AObj} {ty : TypeId} {wg : Nat} {w1 : World} {ft1 : Foot} (H : HRel ρ0 h FC w1 ft1) (hf : h[fI]? = some (.cells cl true 0)) (hpl : p < h.length) (hG : G = mkG ty wg (ρ0.blk fI) R) (hgl : ∀ o ∈ g, o.live = true → o.wrt = true) (hng : ∀ z, .group z ∉ g) {k : List Item}
    (hJ : ∀ ρ, Env.upto h.length ρ0 ρ → At (J2 P W0 Post) N b cs FC ρ (h.length + (g.length + 1)) k f (thawG h g fI (cellsOf (h.length + g.length) R) (objOf R))) :
    At (JG P W0 Post G) N b cs (keepG w1 ft1 (ρ0.blk fI)) ρ0 h.length k f (lentM h p fI 12 ++ g) := by
  subst hG
  intro a ρ w ft A H' hu hm
  have hp : (lentM h p fI 12 ++ g)[p]? = some (.group 12) := by
    rw [List.getElem?_append_left (by rw [lentM_len]; exact hpl)]
    unfold lentM
    rw [List.getElem?_set_self (by rw [List.length_set, frz_len]; exact hpl)]
  have htag := H'.tag p 12 hp
  have hlen : (lentM h p fI 12 ++ g).length = h.length + g.length := by rw [List.length_append, lentM_len]
  have hfl : fI < h.length := (List.getElem?_eq_some_iff.1 hf).1
  refine JG.last (by omega) fun w₁ fi h₁ hn1 hn2 hphi hlt hsub hd1 hlt1 => ?_
  have H₁ := H'.rely h₁
  obtain ⟨b1, b2, cs1, ty1, fr1, b3, b4⟩ := (hphi : leftP (ρ0.blk fI) R w₁ fi)
  have hFn : ¬ ft.rd (ρ0.blk fI) := hd1 _ b2
  rw [hlen] at A
  -- with the worker's block R
  have fin : ∀ (B κ : Nat), fi.rd B → ((objOf R).live = true → B ≠ ρ0.blk fI ∧ ¬ ft.rd B) → ORel (h.length + (g.length + 1)) (ρ.put (h.length + g.length) B κ) fI (.cells (cellsOf (h.length + g.length) R) false 0) w₁.heap[ρ0.blk fI]? → ORel (h.length + (g.length + 1)) (ρ.put (h.length + g.length) B κ) (h.length + g.length) (objOf R) w₁.heap[B]? →
      ∃ f' : Foot, (∀ b, f'.rd b → ft.rd b ∨ fi.rd b) ∧ (∀ b, f'.wr b → f'.rd b) ∧ J2 P W0 Post (Go.Conc.G (FB.at b a k) cs) w₁ f' := fun B κ hB hR hoF hoR => by
    have T := thawG_rel H hf H₁ hu hgl hng (hlt _ b1) (hlt _ hB) (by cases R <;> simp [objOf]) (by cases R <;> rfl) hR hoF hoR hFn
    have hup := Env.put_upto ρ (h.length + g.length) B κ
    refine ⟨joinF ft1 ft (ρ0.blk fI) B, fun b hb => ?_, T.sub, ?_⟩
    · rcases hb with hb | rfl | rfl
      · exact .inl hb
      · exact .inr b1
      · exact .inr hB
    · refine hJ _ (Env.upto_trans hu (Env.upto_le hup (by omega))) a _ w₁ _ ?_ T (Env.upto_refl _ _) (by rw [thawG_len]; exact Nat.le_refl _)
      rw [thawG_len]
      exact upto_act hup (by omega) A
  cases R with
  | none =>
    simp only at b4
    subst b4
    refine fin (ρ0.blk fI) 0 b1 (fun h => by cases h) ?_ trivial
    rw [b3]
    show CellsRel _ _ _ [nilS, nilS, nilS] false 0 #[nilS, nilS, nilS] fr1
    refine ⟨fun i v hv => ?_, fun _ => rfl, fun h => absurd rfl h, fun h => Bool.noConfusion h⟩
    have hv : [nilS, nilS, nilS][i]? = some v := hv
    have e : v = nilS := by
      have := List.mem_of_getElem? hv
      simpa using this
    subst e
    exact .inr ⟨by simp [nilS, VOk], rfl, by rw [show ren _ nilS = nilS by simp [nilS, ren]]; simpa using hv⟩
  | some l =>
    obtain ⟨B, c, ds, ty', fr', c1, c2, c3, rfl, c5, c6, c7, c8⟩ := b4
    refine fin B c c1 (fun _ => ⟨c3, hd1 _ c2⟩) ?_ ?_
    · rw [b3]
      show CellsRel _ _ _ [.slice (some ⟨h.length + g.length, 0, none⟩) l.length fz, nilS, nilS] false 0 #[.slice (some ⟨B, 0, none⟩) l.length c, nilS, nilS] fr1
      refine ⟨fun i v hv => ?_, fun _ => rfl, fun h => absurd rfl h, fun h => Bool.noConfusion h⟩
      have hs := Env.put_self ρ (h.length + g.length) B c
      match i, hv with
      | 0, hv =>
        cases hv
        exact .inr ⟨by simp [VOk, AddrOk], rfl, by simp [ren, renAddr, renCap, hs]⟩
      | 1, hv =>
        cases hv
        exact .inr ⟨by simp [nilS, VOk], rfl, by simp [nilS, ren]⟩
      | 2, hv =>
        cases hv
        exact .inr ⟨by simp [nilS, VOk], rfl, by simp [nilS, ren]⟩
    · rw [c5]
      have hs := Env.put_self ρ (h.length + g.length) B c
      show CellsRel _ _ _ (l.map vint) false 1 ds fr'
      refine ⟨fun i v hv => ?_, fun h => (by cases h), fun _ => ⟨by rw [hs.2]; omega, by simp; omega⟩, fun h => Bool.noConfusion h⟩
      rw [List.getElem?_map] at hv
      obtain ⟨y, hy, rfl⟩ := Option.map_eq_some_iff.1 hv
      exact .inr ⟨by simp [VOk], rfl, by rw [c7 i y hy]; simp [vint, ren]⟩
end
end Go.Proofs.Ythnccaajpdnndaa
namespace Go.Proofs.Ythnccaajpdnndaa
open Go.Conc Go.Conc.Lib Go.Proofs.Try
def LeftH (h : List AObj) (fI : Nat) : Option (List Int) → Prop
  | none => h[fI]? = some (.cells [nilS, nilS, nilS] true 0)
  | some l => ∃ r sz c L, h[fI]? = some (.cells [.slice (some ⟨r, 0, none⟩) l.length c, nilS, nilS] true 0) ∧ r ≠ fI ∧ h[r]? = some (.cells L true sz) ∧ (∀ (i : Nat) (x : Int), l[i]? = some x → L[i]? = some (vint x)) ∧ l.length ≤ L.length ∧ ((sz = 0 ∧ c = L.length ∧ c < fz) ∨ (sz = 1 ∧ c = fz))
section
variable {ρ : Env} {h : List AObj} {FC : Frm} {w : World} {ft : Foot} {fI : Nat}
theorem cells_obj {n b : Nat} {c : List Value} {wr : Bool} {sz : Nat} {x : Option Obj} (h : ORel n ρ b (.cells c wr sz) x) : ∃ c' ty fr, x = some (.cells c' ty fr) ∧ CellsRel n ρ b c wr sz c' fr := by
  match x, h with
  | some (.cells c' ty fr), h => exact ⟨c', ty, fr, rfl, h⟩
theorem nil_cell {n b : Nat} {c : List Value} {sz : Nat} {c' : Array Value} {fr : Nat × Nat} (R : CellsRel n ρ b c true sz c' fr) {i : Nat} (hi : c[i]? = some nilS) : c'[i]? = some nilS := by
  rcases R.1 i _ hi with ⟨e, _⟩ | ⟨_, _, e⟩
  · cases e
  · simpa [nilS, ren] using e
theorem three_cells {c' : Array Value} {x y z : Value} (hs : c'.size = 3) (h0 : c'[0]? = some x) (h1 : c'[1]? = some y) (h2 : c'[2]? = some z) : c' = #[x, y, z] := by
  apply Array.ext_getElem?
  intro i
  match i with
  | 0 => exact h0
  | 1 => exact h1
  | 2 => exact h2
  | i + 3 => rw [Array.getElem?_eq_none (by omega), Array.getElem?_eq_none (by simp)]
theorem left_of (H : HRel ρ h FC w ft) {R : Option (List Int)} (hL : LeftH h fI R) : leftP (ρ.blk fI) R w ft ∧ ∃ v, w.cell? ⟨ρ.blk fI, 0, none⟩ = some v := by
  cases R with
  | none =>
    have hf : h[fI]? = some (.cells [nilS, nilS, nilS] true 0) := hL
    obtain ⟨c', ty, fr, e, C⟩ := cells_obj (H.obj fI _ hf)
    have e3 := three_cells (C.2.1 rfl) (nil_cell C rfl) (nil_cell C rfl) (nil_cell C rfl)
    subst e3
    exact ⟨⟨H.rd _ _ hf rfl, H.wr _ _ hf rfl, _, ty, fr, e, rfl⟩, nilS, by simp [World.cell?, e]⟩
  | some l =>
    obtain ⟨r, sz, c, L, hf, hne, hr, hl, hlen, hc⟩ := hL
    obtain ⟨c', ty, fr, e, C⟩ := cells_obj (H.obj fI _ hf)
    obtain ⟨d', ty', fr', e', D⟩ := cells_obj (H.obj r _ hr)
    have h0 : c'[0]? = some (.slice (some ⟨ρ.blk r, 0, none⟩) l.length (renCap ρ r c)) := by
      rcases C.1 0 _ rfl with ⟨x, _⟩ | ⟨_, _, x⟩
      · cases x
      · rw [x]
        simp [ren, renAddr]
    have hcap : d'.size = renCap ρ r c ∧ l.length ≤ renCap ρ r c := by
      unfold renCap
      rcases hc with ⟨rfl, rfl, hlt⟩ | ⟨rfl, rfl⟩
      · rw [if_neg (by omega)]
        exact ⟨D.2.1 rfl, hlen⟩
      · rw [if_pos (Nat.le_refl _)]
        obtain ⟨a1, a2⟩ := D.2.2.1 (by omega)
        omega
    have e3 := three_cells (C.2.1 rfl) h0 (nil_cell C rfl) (nil_cell C rfl)
    subst e3
    refine ⟨⟨H.rd _ _ hf rfl, H.wr _ _ hf rfl, _, ty, fr, e, ρ.blk r, renCap ρ r c, d', ty', fr', H.rd _ _ hr rfl, H.wr _ _ hr rfl, fun x => hne (H.inj _ _ _ _ hr hf rfl rfl x), rfl, e', hcap.1, fun i x hx => ?_, hcap.2⟩, _, by simp [World.cell?, e]; rfl⟩
    rcases D.1 i _ (hl i x hx) with ⟨y, _⟩ | ⟨_, _, y⟩
    · cases y
    · simpa [vint, ren] using y
end
section
variable {P : Program} {main : Bool} {J : JT} {N m : Nat} {b : FB} {cs : List Frame} {FC : Frm} {ρ0 : Env} {K : List Item} {f : RG} {h : List AObj} {ops : Array Oper} {i : Nat} {rest : List Nat} {o : Oper}
theorem At.deferG (hJ : Closed P main J) (hk : b.kind ≠ .early) (hro : b.ro = none) (hbd : b.dfs = []) (ho : ops[i]? = some o) (hg : gd ops o f.r = some true) {fd : FuncId} {x : Operand} {ats : Array TypeId} (hop : o.op = .defer { callee := .value (.func fd), args := #[x], argTypes := ats }) (hdst : o.dst = none) {p : Nat} (hx : ev f.r x = ptr p 0) (hpm : p < m) (hds : f.ds = [])
    (h' : At J N { b with dfs := [dcall fd #[.pointer (some ⟨ρ0.blk p, 0, none⟩)]] } cs FC ρ0 m (.inRegion ops rest :: K) f h) : At J N b cs FC ρ0 m (.inRegion ops (i :: rest) :: K) f h := by
  intro a ρ w ft A H hu hm
  have hw := gd_wanted A hg
  have hk' : (b.kind == CallKind.early) = false := by simpa using hk
  have hxv := ((ev_rel A.regs x).val (by rw [hx]; simp [unk, ptr])).2
  rw [hx] at hxv
  simp only [ren, renAddr, (hu p hpm).1] at hxv
  have had : a.defers = [] := by rw [A.defers, hds]; rfl
  obtain ⟨bf, bk, br, bd⟩ := b
  simp only at hk hro hbd
  subst hro hbd
  refine hJ.ctrl rfl rfl (g' := G (FB.at ⟨bf, bk, none, [dcall fd #[.pointer (some ⟨ρ0.blk p, 0, none⟩)]]⟩ a (.inRegion ops rest :: K)) cs) (fun w => ?_) (h' a ρ w ft A H hu hm)
  have e1 : ∀ (ds : List Deferred) (todo : List Item), FB.at ⟨bf, bk, none, ds⟩ a todo = ({ (default : Frame) with fn := bf, kind := bk } : Frame).at ⟨a.tmps, ds⟩ todo := fun ds todo => by simp [FB.at, Frame.at, had]
  rw [e1, e1]
  have := stepG_defer (P := P) (main := main) (b := { (default : Frame) with fn := bf, kind := bk }) (a := ⟨a.tmps, []⟩) (k := K) (cs := cs) (w := w) (rest := rest) ho hw hk hop
  rw [this]
  have ex : (Act.eval ⟨a.tmps, []⟩ x) = a.eval x := rfl
  simp [hdst, Act.put, ex, hxv]
end
theorem At.doneG {N m : Nat} {b : FB} {FC : Frm} {ρ0 : Env} {f : RG} {h : List AObj} {G : Grp} {fn : Func} (hk : b.kind = .deferred) (hro : b.ro = none) (hbd : b.dfs = [dcall wgLink.done #[.pointer (some ⟨G.wg, 0, none⟩)]]) (hds : f.ds = []) (hf : prog.funcs[b.fn]? = some fn) (hres : fn.results = #[]) (hty : G.ty = wgLink.tWg) {fI : Nat} {R : Option (List Int)} (hG : G = mkG G.ty G.wg (ρ0.blk fI) R) (hfm : fI < m) (hR : LeftH h fI R) :
    At (Toward prog (AtDone prog G)) N b [base0 prog] FC ρ0 m [] f h := by
  intro a ρ w ft A H hu hm
  have had : a.defers = [] := by rw [A.defers, hds]; rfl
  obtain ⟨bf, bk, br, bd⟩ := b
  simp only at hk hro hbd hf
  subst hk hro hbd
  have hJ := Toward.closed prog (AtDone prog G)
  refine hJ.ctrl rfl rfl (g' := Go.Conc.G { FB.at ⟨bf, .deferred, none, [dcall wgLink.done #[.pointer (some ⟨G.wg, 0, none⟩)]]⟩ a [] with mode := .returning } [base0 prog]) (fun w => by simp [Go.Conc.G, stepG, stepG.exec, FB.at]) ?_
  have hfd := (wgLib.f_done : prog.funcs[wgLink.done]? = some (doneFn wgLink))
  refine hJ.ctrl rfl rfl (g' := Go.Conc.G ((baseD wgLink.done).at ⟨#[.pointer (some ⟨G.wg, 0, none⟩), undef, undef, undef], []⟩ [.code (Go.ConcR.Gen.body_done wgLink)]) ({ FB.at ⟨bf, .deferred, none, []⟩ a [] with mode := .returning } :: [base0 prog])) (fun w => ?_) ?_
  · have e1 : ∀ (ds : List Deferred) (todo : List Item), ({ FB.at ⟨bf, .deferred, none, ds⟩ a todo with mode := .returning } : Frame) = { (baseD bf).at ⟨a.tmps, ds⟩ todo with mode := .returning } := fun ds todo => by simp [FB.at, Frame.at, had, baseD]
    rw [e1, e1]
    exact stepG_unwind_enter (a := ⟨a.tmps, [dcall wgLink.done #[.pointer (some ⟨G.wg, 0, none⟩)]]⟩) rfl hfd (Go.ConcR.Gen.nm_done wgLink) rfl
  refine Toward.stop rfl fun w₁ h₁ => ?_
  have H₁ := H.rely h₁
  obtain ⟨hl, v, hv⟩ := left_of H₁ hR
  have hF : G.F = ρ.blk fI := by
    rw [hG, (hu fI hfm).1]
    rfl
  have hphi : G.phi w₁ ft := by
    rw [hG]
    show leftP (ρ0.blk fI) R w₁ ft
    rw [← (hu fI hfm).1]
    exact hl
  refine done_stop (qt := 2) (v := v) hty rfl ?_ (by rw [hF]; exact hl.1) hphi (by unfold Grp.has; rw [hF]; exact hv)
  refine .ctl (g' := Go.Conc.G (base0 prog) []) rfl (fun w => ?_) (base_quits (base_catches prog))
  have he : (results fn a.tmps).runT prog w #[] = (.ok (.tuple #[]) w, #[]) := by
    have hrun : RunsTo prog (fun _ => False) (results fn a.tmps) w fun v w' => v = .tuple #[] ∧ w' = w := by
      unfold results
      rw [hres, Array.mapM_eq_mapM_toList]
      exact RunsTo.bind (RunsTo.map (RunsTo.pure (RunsTo.pure ⟨by simp, rfl⟩)))
    obtain ⟨v, w', hr, rfl, rfl⟩ := quiet_run hrun
    exact hr
  simp only [Go.Conc.G, stepG, FB.at, unwind, had, hf, he, List.append_nil]
  simp [doReturn, base0, goexitEntry, GStep.after, seen]
end Go.Proofs.Ythnccaajpdnndaa
namespace Go.Proofs.Ythnccaajpdnndaa
open Go.Conc
def lastOk (ops ops' : Array Oper) (last : Nat) : Nat → Array Bool → Array Bool → Bool
  | 0, L, L' => (Region.ready .any ops L == [last]) && (Region.ready .any ops' L').isEmpty
  | n + 1, L, L' => (Region.ready .any ops L == Region.ready .any ops' L') && !(Region.ready .any ops L).isEmpty && (Region.ready .any ops L).all fun i => lastOk ops ops' last n (L.setIfInBounds i true) (L'.setIfInBounds i true)
section
variable {P : Program} {main : Bool} {J : JT} {N m : Nat} {b : FB} {cs : List Frame} {FC : Frm} {ρ0 : Env} {k : List Item} {f : RG} {h : List AObj} {ops ops' : Array Oper} {last : Nat}
theorem At.orders (hJ : Closed P main J) (hk : b.kind ≠ .early) (hsame : ∀ (i : Nat) (o : Oper), ops'[i]? = some o → ops[i]? = some o ∧ ∀ r, gd ops' o r = gd ops o r) {S : List AObj → Prop} {K : RG → List AObj → Prop}
    (hK : ∀ f h, K f h → At J N b cs FC ρ0 m (.inRegion ops [last] :: k) f h) : ∀ (n t : Nat) (L L' : Array Bool) (f : RG) (h : List AObj), lastOk ops ops' last n L L' = true → AnyH P (Good P J) N ops' S n L' f h K → At J N b cs FC ρ0 m (.inRegion ops (Region.linearise.go .any ops (n + 1) t L []) :: k) f h := by
  intro n
  induction n with
  | zero =>
    intro t L L' f h hc hA
    unfold lastOk at hc
    have hr : Region.ready .any ops L = [last] := by simp at hc; exact hc.1
    have e : Region.linearise.go .any ops (0 + 1) t L [] = [last] := by
      simp only [Region.linearise.go]
      change (match (Region.ready .any ops L)[t % (Region.ready .any ops L).length]? with
        | some i => [i].reverse
        | none => [].reverse) = [last]
      rw [hr]
      simp [Nat.mod_one]
    rw [e]
    exact hK f h hA.2
  | succ n ih =>
    intro t L L' f h hc hA
    obtain ⟨_, h₁⟩ := hA
    unfold lastOk at hc
    simp only [Bool.and_eq_true, beq_iff_eq, Bool.not_eq_true', List.all_eq_true] at hc
    obtain ⟨⟨hr, hne⟩, hall⟩ := hc
    rw [Region.linearise.go]
    change At J N b cs FC ρ0 m (.inRegion ops (match (Region.ready .any ops L)[t % (Region.ready .any ops L).length]? with
      | some i => Region.linearise.go .any ops (n + 1) (t / (Region.ready .any ops L).length) (L.setIfInBounds i true) [i]
      | none => [].reverse) :: k) f h
    cases hi : (Region.ready .any ops L)[t % (Region.ready .any ops L).length]? with
    | none =>
      exfalso
      have hpos : 0 < (Region.ready .any ops L).length := by
        cases hr2 : Region.ready .any ops L with
        | nil => rw [hr2] at hne; cases hne
        | cons x xs => simp
      have := Nat.mod_lt t hpos
      rw [List.getElem?_eq_none_iff] at hi
      omega
    | some i =>
      simp only []
      rw [linearise_go_acc, List.reverse_singleton, List.singleton_append]
      have hm := List.mem_of_getElem? hi
      have hm' : i ∈ Region.ready .any ops' L' := by rw [← hr]; exact hm
      have hm2 := hm'
      rw [mem_ready] at hm2
      obtain ⟨_, o, ho', _⟩ := hm2
      obtain ⟨ho, hgd⟩ := hsame i o ho'
      obtain ⟨hN, K', hK', hsub⟩ := h₁ i hm' o ho'
      intro a ρ w ft A H hu hm0
      unfold opG at hK'
      rw [hgd] at hK'
      split at hK'
      · rename_i hg
        exact step_any hJ hk ho hg hN A H hK' fun v h' ρ' w' ft' a' kk A' H' hu' hl' => ih _ _ _ _ _ (hall i hm) (hsub v h' kk).2 a' ρ' w' ft' A' H' (Env.upto_trans hu (Env.upto_le hu' hm0)) (Nat.le_trans hm0 hl')
      · rename_i hg
        refine step_skip hJ ho hg A ?_
        exact ih _ _ _ _ _ (hall i hm) (hsub _ _ hK').2 _ ρ w ft (act_put A hN (vrel_undef _ _)) H hu hm0
      · exact hK'.elim
theorem At.draw (hJ : Closed P main J) (hm : P.follows .mixedOrders = true) (hk : b.kind ≠ .early) (hsame : ∀ (i : Nat) (o : Oper), ops'[i]? = some o → ops[i]? = some o ∧ ∀ r, gd ops' o r = gd ops o r) {K : RG → List AObj → Prop} {id n : Nat} (hn : ops.size = n + 1) (_hn' : ops'.size = n)
    (hl : lastOk ops ops' last n (Array.replicate (n + 1) false) (Array.replicate n false) = true) {p : Plan} (hp : planOk P ops' p n (Array.replicate n false) none = true) {B : Option (List Nat)}
    (hq : planW P (Good P J) N ops' B h p true [] f h K) (hB : B ≠ none)
    (hK : ∀ f h, K f h → At J N b cs FC ρ0 m (.inRegion ops [last] :: k) f h) : At J N b cs FC ρ0 m (.code (.region id ops true) :: k) f h := by
  have hA : AnyH P (Good P J) N ops' (SameB B h) n (Array.replicate n false) f h K := by
    refine anyW_sound _ _ true [] f h down_init (fun j b e => by cases e) (fun _ => ?_) ?_
    · cases B with
      | none => exact absurd rfl hB
      | some B => exact fun _ _ => rfl
    · have := planW_eq (C := Good P J) (P := P) (N := N) (B := B) (h0 := h) (K := K) p n (Array.replicate n false) none true [] f h hp
      simp only [planT] at this
      rw [← this]
      exact hq
  intro a ρ w ft A H hu hm0
  refine hJ.step rfl fun w₁ h₁ => ⟨G (b.at a (.inRegion ops (Region.schedule (P.follows .mixedOrders) ops (w₁.tape w₁.drawn (.order b.fn id))) :: k)) cs, { w₁ with drawn := w₁.drawn + 1 }, #[], ?_, rfl, (Stays.drawn ft w₁ _).guar (by simp), ?_⟩
  · simp [G, stepG, stepG.exec, FB.at, choose, Go.Sem.run, Question.forced, Question.cut]
  · rw [show ({ w₁ with drawn := w₁.drawn + 1 } : World).heap = w₁.heap from rfl, Foot.ext_self]
    have H₁ := (H.rely h₁).of_drawn (w₁.drawn + 1)
    simp only [Region.schedule, hm, Bool.true_or, if_true]
    have := At.orders hJ hk hsame hK n (w₁.tape w₁.drawn (.order b.fn id)) _ _ f h hl hA a ρ _ ft A H₁ hu hm0
    rw [← hn] at this
    exact this
theorem At.enter {g : FuncId} {fn : Func} (hf : P.funcs[g]? = some fn) {c : Code} (hb : fn.body = some c) {args : List Value} (ha : args.length ≤ fn.ntmps) (hv : ∀ v ∈ args, VOk h.length v) {ρ : Env} {w : World} {ft : Foot} (H : HRel ρ h FC w ft)
    (hA : At J fn.ntmps ⟨g, .deferred, none, []⟩ cs FC ρ h.length [.code c] ⟨regs args, []⟩ h) : J (G (Frame.enter P g ⟨args.map (ren ρ)⟩ .deferred) cs) w ft := by
  have he : Frame.enter P g ⟨args.map (ren ρ)⟩ .deferred = FB.at ⟨g, .deferred, none, []⟩ ⟨⟨args.map (ren ρ)⟩ ++ Array.replicate (fn.ntmps - args.length) undef, []⟩ [.code c] := by
    simp [Frame.enter, FB.at, hf, hb]
  rw [he]
  refine hA _ ρ w ft ⟨fun t => ?_, by simp; omega, rfl, by simp⟩ H (fun _ _ => ⟨rfl, rfl⟩) (Nat.le_refl _)
  have ht : ((⟨args.map (ren ρ)⟩ : Array Value) ++ Array.replicate (fn.ntmps - args.length) undef).getD t undef = (args.map (ren ρ)).getD t undef := by
    rw [Array.getD_eq_getD_getElem?, List.getD_eq_getElem?_getD]
    by_cases hx : t < args.length
    · rw [Array.getElem?_append_left (by simpa using hx)]
      simp
    · rw [Array.getElem?_append_right (by simp; omega), List.getElem?_eq_none (by simp; omega)]
      simp only [Array.getElem?_replicate]
      split <;> rfl
  rw [ht]
  by_cases hx : t < args.length
  · refine .inr ?_
    show VOk h.length (regs args t) ∧ _
    have e1 : regs args t = args[t] := by simp [regs, List.getD_eq_getElem?_getD, List.getElem?_eq_getElem hx]
    rw [e1]
    refine ⟨hv _ (List.getElem_mem hx), ?_⟩
    show _ = ren ρ (regs args t)
    rw [e1]
    simp [List.getD_eq_getElem?_getD, List.getElem?_eq_getElem hx]
  · refine .inl ?_
    show regs args t = unk
    simp [regs, List.getD_eq_getElem?_getD, List.getElem?_eq_none (Nat.le_of_not_lt hx)]
end
end Go.Proofs.Ythnccaajpdnndaa
namespace Go.Proofs.Ythnccaajpdnndaa
open Go.Conc Go.Proofs.Try
set_option maxRecDepth 100000
def foundR (ls : List Pas) (s : SkyR) (heads : Int) (d : Nat) (at_ : Nat) : Option (List Int) :=
  if dawnB ls s at_ heads [startW ls] = true then (match restR ls s heads d (dawnL ls s at_ heads [startW ls]) with | some r => some ((at_ : Int) :: r) | none => none) else none
section
variable {main : Bool} {J : JT} {h H : List AObj} {K : Value → List AObj → Prop} {KV : Value → Prop} {HL : List AObj → Prop} {n0 : Nat}
theorem sliK {v : Value} {s n : Nat} {cs : List Value} (hs : Sli h v s n cs) : v.cells = #[v] ∧ one v = true ∧ kn1 v = true := by
  obtain ⟨base, c, rfl, _⟩ := hs
  exact ⟨rfl, rfl, rfl⟩
theorem sbL {X B : List Nat} (S : SameX X h H) (hB : ∀ p ∈ B, p < h.length ∧ p ∉ X) : SameB (some B) h H := fun b hb => by
  obtain ⟨h1, h2⟩ := hB b hb
  exact S.2 b h1 h2
structure Given (h : List AObj) (pl ps pa ph fI : Nat) (lv : Value) (ls : List Pas) (s : SkyR) (heads : Int) : Prop where
  gl : ∃ wr, h[pl]? = some (.cells [lv] wr 0)
  gsl : SliE h lv 6 Pas.cells ls
  gs : ∃ wr, h[ps]? = some (.cells s.cells wr 0)
  ga : ∃ wr, h[pa]? = some (.cells [vint (0 : Nat)] wr 0)
  gh : ∃ wr, h[ph]? = some (.cells [vint heads] wr 0)
  gf : h[fI]? = some (.cells [nilS, nilS, nilS] true 0)
theorem Given.more {pl ps pa ph fI : Nat} {lv : Value} {ls : List Pas} {s : SkyR} {heads : Int} (g : Given h pl ps pa ph fI lv ls s heads) (S : SameX [] h H) : Given H pl ps pa ph fI lv ls s heads := by
  obtain ⟨⟨w1, g1⟩, g2, ⟨w3, g3⟩, ⟨w4, g4⟩, ⟨w5, g5⟩, g6⟩ := g
  exact ⟨⟨w1, S.get g1 (by simp)⟩, S.sli g2 (by simp), ⟨w3, S.get g3 (by simp)⟩, ⟨w4, S.get g4 (by simp)⟩, ⟨w5, S.get g5 (by simp)⟩, S.get g6 (by simp)⟩
structure MidW (h H : List AObj) (F : RG) (pw pl ps pa ph fI : Nat) (ls : List Pas) (s : SkyR) (heads : Int) : Prop where
  S : SameX [] h H
  ds : F.ds = []
  r1 : F.r 1 = ptr pl 0
  r2 : F.r 2 = ptr ps 0
  r3 : F.r 3 = ptr pa 0
  r4 : F.r 4 = ptr ph 0
  r5 : F.r 5 = ptr fI 0
  r7 : F.r 7 = .bool (dawnB ls s 0 heads [startW ls])
  m : dawnB ls s 0 heads [startW ls] = true → ∃ M, MapW H (F.r 6) M ∧ SameW M (dawnL ls s 0 heads [startW ls])
theorem worker1 (hJ : Closed prog main J) {F : RG} {pw pl ps pa ph fI : Nat} {lv : Value} {ls : List Pas} {s : SkyR} {heads : Int} (L : LsOk ls) (f : skyOk s) (hh : 0 ≤ heads ∧ heads ≤ 40) (g : Given h pl ps pa ph fI lv ls s heads) (ds : F.ds = []) (r1 : F.r 1 = ptr pl 0) (r2 : F.r 2 = ptr ps 0) (r3 : F.r 3 = ptr pa 0) (r4 : F.r 4 = ptr ph 0) (r5 : F.r 5 = ptr fI 0) :
    W prog J 50 n0 75 (subC [1, 0] (codeOf f75)) F h (fun e F' H => e = .normal ∧ MidW h H F' pw pl ps pa ph fI ls s heads) := by
  rw [q75_1, r1, r2, r3, r4]
  obtain ⟨⟨w1, g1⟩, g2, ⟨w3, g3⟩, ⟨w4, g4⟩, ⟨w5, g5⟩, g6⟩ := id g
  have b1 := lt_of_get g1
  have b3 := lt_of_get g3
  have b4 := lt_of_get g4
  have b5 := lt_of_get g5
  have hB : ∀ {H : List AObj}, SameX [] h H → SameB (some [pl, ps, pa, ph]) h H := fun S => sbL S fun p hp => by
    simp only [List.mem_cons, List.not_mem_nil, or_false] at hp
    refine ⟨?_, by simp⟩
    rcases hp with rfl | rfl | rfl | rfl <;> assumption
  have k1 : kn1 lv = true := (sliK g2).2.2
  refine ⟨[pl, ps, pa, ph], ldI (v := lv) g1 rfl k1 ⟨by simp [RdOk, ptrBlk], ldI (v := lv) g1 rfl k1 ⟨by simp [RdOk, ptrBlk], load_part (c := s.cells) g3 (by simp [SkyR.cells]) rfl rfl ⟨by simp [RdOk, ptrBlk], ldI (v := vint (0 : Nat)) g4 rfl rfl ⟨by simp [RdOk, ptrBlk], ldI (v := vint heads) g5 rfl rfl ?_⟩⟩⟩⟩⟩
  -- behind both orders
  have fin : ∀ {mv : Value} {H1 : List AObj}, SameX [] h H1 → MapW H1 mv [] → ∀ (b : Nat), mv = .map (some b) → h.length ≤ b → H1[b]? = some (.map ([].map entW) true) → ∀ {HQ : Value → Value → Value → List AObj → Prop}, (∀ v11 v14 v13 H2, SameX [] h H2 → v14 = .bool (dawnB ls s 0 heads [startW ls]) → (dawnB ls s 0 heads [startW ls] = true → ∃ M, MapW H2 v13 M ∧ SameW M (dawnL ls s 0 heads [startW ls])) → HQ v11 v13 v14 H2) →
      (VOk H1.length (Value.bool true) ∧ one (Value.bool true) = true) ∧ aUpdX prog 102 mv (startW ls).val (.bool true) H1 fun h10 => SameB (some [pl, ps, pa, ph]) h h10 ∧ (Good prog J 77 [mv, lv, .agg ⟨s.cells⟩, vint (0 : Nat), vint heads] h10 fun v11 h12 => SameB (some [pl, ps, pa, ph]) h h12 ∧ (aExt v11 0 fun v13 => aExt v11 1 fun v14 => HQ v11 v13 v14 h12)) := by
    intro mv H1 S1 _ b e hb hm HQ hq
    subst e
    refine ⟨⟨by simp [VOk], rfl⟩, updW (N := []) hm List.nodup_nil fun H2 N' S2 c2 nd2 m2 l2 => ?_⟩
    have T2 : SameX [] h H2 := S1.thru S2 (by simp; omega)
    have hs : SameW N' [startW ls] := fun y => by rw [m2 y]; simp
    refine ⟨hB T2, good77 hJ L f (T2.sli g2 (by simp)) hh ⟨b, true, rfl, c2, nd2⟩ (fun w hw => ?_) (fun hd H3 mv' M' S3 hm' hs' => ?_) fun hd H3 S3 => ?_⟩
    · have := (hs w).1 hw
      rw [List.mem_singleton.1 this]
      exact startW_ok L
    · rw [dawnB_same hs] at hd
      refine ⟨hB (T2.trans S3), ext0 (ext1 (hq _ _ _ H3 (T2.trans S3) (by rw [hd]) fun _ => ⟨M', hm', fun y => ?_⟩))⟩
      rw [hs' y]
      exact dawnL_same hs y
    · rw [dawnB_same hs] at hd
      exact ⟨hB (T2.trans S3), ext0 (ext1 (hq _ _ _ H3 (T2.trans S3) (by rw [hd]) fun h => by rw [hd] at h; cases h))⟩
  have mid : ∀ {F' : RG} {H2 : List AObj} {v13 v14 : Value}, SameX [] h H2 → v14 = .bool (dawnB ls s 0 heads [startW ls]) → (dawnB ls s 0 heads [startW ls] = true → ∃ M, MapW H2 v13 M ∧ SameW M (dawnL ls s 0 heads [startW ls])) → F'.ds = [] → F'.r 1 = ptr pl 0 → F'.r 2 = ptr ps 0 → F'.r 3 = ptr pa 0 → F'.r 4 = ptr ph 0 → F'.r 5 = ptr fI 0 → F'.r 6 = v13 → F'.r 7 = v14 → MidW h H2 F' pw pl ps pa ph fI ls s heads := fun S e hm ds r1 r2 r3 r4 r5 r6 r7 => ⟨S, ds, r1, r2, r3, r4, r5, by rw [r7, e], fun h => by rw [r6]; exact hm h⟩
  refine ⟨by simp [RdOk, ptrBlk], ⟨qNewM fun H1 p1 e1 S1 c1 l1 => ⟨hB S1, good78 hJ L (S1.sli g2 (by simp)) fun H2 S2 => ⟨hB (S1.trans S2), ?_⟩⟩, good78 hJ L g2 fun H1 S1 => ⟨hB S1, qNewM fun H2 p2 e2 S2 c2 l2 => ⟨hB (S1.trans S2), ?_⟩⟩⟩⟩
  · have cm := S2.get c1 (by simp)
    exact fin (S1.trans S2) ⟨p1, true, rfl, cm, List.nodup_nil⟩ p1 rfl (by omega) cm fun v11 v14 v13 H3 S3 e hm => ⟨rfl, mid S3 e hm ds r1 r2 r3 r4 r5 rfl rfl⟩
  · exact fin (S1.trans S2) ⟨p2, true, rfl, c2, List.nodup_nil⟩ p2 rfl (by have := S1.1; omega) c2 fun v11 v14 v13 H3 S3 e hm => ⟨rfl, mid S3 e hm ds r1 r2 r3 r4 r5 rfl rfl⟩
theorem leave_some {fI p sz c : Nat} {l : List Int} (hf : H[fI]? = some (.cells [nilS, nilS, nilS] true 0)) (hp : H[p]? = some (.cells (l.map vint) true sz)) (hne : p ≠ fI) (hc : (sz = 0 ∧ c = l.length ∧ c < fz) ∨ (sz = 1 ∧ c = fz)) (hk : ∀ H', H.length ≤ H'.length → LeftH H' fI (some l) → HL H') : aIdxA 3 1 (ptr fI 0) (vint (0 : Nat)) fun v => aStore 1 v (.slice (some ⟨p, 0, none⟩) l.length c) H HL := by
  refine idxAz (by omega) (qSt hf (by simp) rfl rfl fun H' S' c' l' => hk H' S'.1 ⟨p, sz, c, l.map vint, c', hne, S'.get hp (by simp [hne]), fun i x hx => by rw [List.getElem?_map, hx]; rfl, by simp, ?_⟩)
  rw [List.length_map]
  exact hc
theorem worker2 (hJ : Closed prog main J) {h0 : List AObj} {F : RG} {pw pl ps pa ph fI : Nat} {lv : Value} {ls : List Pas} {s : SkyR} {heads : Int} (L : LsOk ls) (f : skyOk s) (hh : 0 ≤ heads ∧ heads ≤ 40) (d : Nat) (hs : s.days = (d : Int) + 1) (g : Given h pl ps pa ph fI lv ls s heads) (M : MidW h0 h F pw pl ps pa ph fI ls s heads) :
    W prog J 50 n0 75 (subC [1, 1] (codeOf f75)) F h (fun e F' H => e = .normal ∧ F'.ds = [] ∧ h.length ≤ H.length ∧ LeftH H fI (foundR ls s heads d 0)) := by
  obtain ⟨S0, ds, r1, r2, r3, r4, r5, r7, hm⟩ := M
  rw [q75_2, r1, r2, r3, r4, r5, r7]
  obtain ⟨⟨w1, g1⟩, g2, ⟨w3, g3⟩, ⟨w4, g4⟩, ⟨w5, g5⟩, g6⟩ := id g
  have k1 : kn1 lv = true := (sliK g2).2.2
  have hd8 : d ≤ 7 := by
    have := f.1
    omega
  have none_ : foundR ls s heads d 0 = none → LeftH h fI (foundR ls s heads d 0) := fun e => by
    rw [e]
    exact g6
  unfold foundR at none_ ⊢
  refine cndB (fun hB => ?_) fun hB => ?_
  rotate_left
  · rw [hB]
    refine cnd_false.2 ⟨rfl, ds, Nat.le_refl _, ?_⟩
    rw [hB] at none_
    exact none_ rfl
  rw [hB] at none_ ⊢
  rw [if_pos rfl] at none_ ⊢
  have oM : ∀ {M' : List Wd}, SameW M' (dawnL ls s 0 heads [startW ls]) → ∀ w ∈ M', WdOk ls w := fun {M'} hsame w hw => by
    have := (hsame w).1 hw
    unfold dawnL at this
    rw [List.mem_flatMap] at this
    obtain ⟨w0, h0, h1⟩ := this
    rw [List.mem_singleton.1 h0] at h1
    obtain ⟨z, hz, rfl⟩ := List.mem_map.1 h1
    exact afters_ok L f hh (startW_ok L) z hz
  have hfz : (1 : Nat) < fz := by
    have hf : fz = 1180591620717411303424 := rfl
    omega
  refine offI (ldI (v := vint s.days) g3 rfl rfl (eqlI (cndI (fun h1 => ?_) fun h1 => ?_)))
  · have : d = 0 := by omega
    subst this
    refine ldI (v := vint (0 : Nat)) g4 rfl rfl (ldI (v := vint (0 : Nat)) g4 rfl rfl ⟨⟨by decide, by decide, rfl⟩, fillO (l := [vint (0 : Nat)]) rfl rfl rfl (by decide) (fillI (qNew fun H1 p1 e1 S1 c1 l1 => ?_))⟩)
    have hlt := lt_of_get g6
    refine leave_some (l := [((0 : Nat) : Int)]) (S1.get g6 (by simp)) c1 (by omega) (.inl ⟨rfl, rfl, hfz⟩) fun H2 hlen hL => ⟨rfl, ds, by have := S1.1; omega, hL⟩
  · obtain ⟨d', rfl⟩ : ∃ d', d = d' + 1 := ⟨d - 1, by omega⟩
    obtain ⟨M, hmv, hsame⟩ := hm hB
    refine cnd_true.2 (ldI (v := lv) g1 rfl k1 (load_part (c := s.cells) g3 (by simp [SkyR.cells]) rfl rfl (ldI (v := vint heads) g5 rfl rfl (offI (ldI (v := vint s.days) g3 rfl rfl (subI (by have := f.1; omega) ?_))))))
    have e : s.days - 1 = (d' : Int) + 1 := by omega
    rw [e]
    refine good79 hJ L f hh d' (by omega) g2 hmv (oM hsame) fun H1 v S1 hv => ?_
    have hr : restR ls s heads (d' + 1) (dawnL ls s 0 heads [startW ls]) = turnR ls s heads d' M := (turnR_same d' _ _ hsame).symm
    rw [hr]
    rw [hr] at none_
    cases hR : turnR ls s heads d' M with
    | none =>
      rw [hR] at hv
      have hv : v = .slice none 0 0 := hv
      subst hv
      refine neqNilZ (e := 3) (by kernel_rfl) (by kernel_rfl) (cnd_false.2 ⟨rfl, ds, S1.1, S1.get g6 (by simp)⟩)
    | some l =>
      rw [hR] at hv
      have hlen := turnR_len _ _ _ hR
      obtain ⟨ob, O⟩ := hv
      obtain ⟨_, _, hO | ⟨i, c, sz, hi, rfl, _, _⟩⟩ := id O
      · cases hO.2.2
      have g4' := S1.get g4 (by simp)
      have hlt4 := lt_of_get g4'
      have hlt6 := lt_of_get (S1.get g6 (by simp))
      refine neqNilZ (e := 3) (by kernel_rfl) (by kernel_rfl) (cnd_true.2 ⟨[pa], ldI (v := vint (0 : Nat)) g4' rfl rfl ⟨by simp [RdOk, ptrBlk], ldI (v := vint (0 : Nat)) g4' rfl rfl ⟨by simp [RdOk, ptrBlk], ⟨by decide, by decide, rfl⟩, fillO (l := [vint (0 : Nat)]) rfl rfl rfl (by decide) (fillI (qNew fun H2 p2 e2 S2 c2 l2 => ?_))⟩⟩⟩)
      refine ⟨sbL S2 fun p hp => ⟨by rw [List.mem_singleton.1 hp]; exact hlt4, by simp⟩, ⟨rfl, by decide, by decide, by decide⟩, appF c2 rfl (by omega) (S2.sli (ownX_sli O) (by simp)) fun O3 => ?_⟩
      have S3 : SameX [] H2 (H2 ++ [.cells (vint (0 : Nat) :: l.map vint) true 1]) := SameX.refl.app
      refine ⟨sbL (S2.trans S3) fun p hp => ⟨by rw [List.mem_singleton.1 hp]; exact hlt4, by simp⟩, ?_⟩
      have e1 : 1 + l.length = (((0 : Nat) : Int) :: l).length := by rw [List.length_cons]; omega
      rw [e1]
      refine leave_some (l := ((0 : Nat) : Int) :: l) (p := H2.length) (sz := 1) (c := fz) ((S2.trans S3).get (S1.get g6 (by simp)) (by simp)) (by simp) (by have := S2.1; omega) (.inr ⟨rfl, rfl⟩) fun H4 hl4 hL => ⟨rfl, ds, by have := S1.1; have := S2.1; have := S3.1; omega, hL⟩
end
end Go.Proofs.Ythnccaajpdnndaa
namespace Go.Proofs.Ythnccaajpdnndaa
open Go.Conc Go.Conc.Lib Go.Proofs.Try
set_option maxRecDepth 100000
theorem shape75 : codeOf f75 = .seq (subC [0] (codeOf f75)) (.seq (subC [1, 0] (codeOf f75)) (subC [1, 1] (codeOf f75))) := by kernel_rfl
theorem op75 : p75_1_0.op = .defer { callee := .value (.func 76), args := #[.tmp 0], argTypes := #[100] } := by kernel_rfl
theorem worker_goes {ρ0 : Env} {h : List AObj} {w : World} {fi : Foot} {G : Grp} {p pl ps pa ph fI : Nat} {lv : Value} {ls : List Pas} {s : SkyR} {heads : Int} (L : LsOk ls) (f : skyOk s) (hh : 0 ≤ heads ∧ heads ≤ 40) (d : Nat) (hs : s.days = (d : Int) + 1) (g : Given h pl ps pa ph fI lv ls s heads) (hp : p < h.length)
    (hty : G.ty = wgLink.tWg) (hG : G = mkG G.ty G.wg (ρ0.blk fI) (foundR ls s heads d 0)) (hwg : ρ0.blk p = G.wg) (H : HRel ρ0 h noFrm w fi) :
    Toward prog (AtDone prog G) (Go.Conc.G (Frame.enter prog 75 ⟨([ptr p 0, ptr pl 0, ptr ps 0, ptr pa 0, ptr ph 0, ptr fI 0] : List Value).map (ren ρ0)⟩ .deferred) [base0 prog]) w fi := by
  have hJ := Toward.closed prog (AtDone prog G)
  obtain ⟨⟨w1, g1⟩, g2, ⟨w3, g3⟩, ⟨w4, g4⟩, ⟨w5, g5⟩, g6⟩ := id g
  have b1 := lt_of_get g1
  have b3 := lt_of_get g3
  have b4 := lt_of_get g4
  have b5 := lt_of_get g5
  have b6 := lt_of_get g6
  refine At.enter at75 body75 (Nat.le_of_ble_eq_true rfl) (fun v hv => ?_) H ?_
  · simp only [List.mem_cons, List.not_mem_nil, or_false] at hv
    rcases hv with rfl | rfl | rfl | rfl | rfl | rfl <;> simp [VOk, AddrOk] <;> assumption
  rw [show f75.ntmps = 50 from by kernel_rfl, shape75, r75_1]
  refine At.seq hJ (At.region hJ ?_)
  rw [show List.range ops75_1.size = [0] from by rw [z75_1]; rfl]
  obtain ⟨u1, u2, u3, u4, _⟩ := o75_1_0 (J := J1 prog w fun _ _ => True)
  have hop := op75
  refine At.deferG hJ (by decide) rfl rfl u1 (u4 _) hop u2 (p := p) rfl hp rfl ?_
  rw [hwg]
  refine At.ops_nil hJ (At.seq hJ (At.piece rfl (show CallKind.deferred ≠ CallKind.early by decide) (W_sound hJ mixed _ (worker1 hJ (pw := p) L f hh g rfl rfl rfl rfl rfl rfl)) (Nat.le_refl _) (Nat.le_refl _) ?_))
  rintro e F1 H1 ⟨rfl, M⟩
  refine .inl ⟨rfl, At.piece rfl (show CallKind.deferred ≠ CallKind.early by decide) (W_sound hJ mixed _ (worker2 hJ L f hh d hs (g.more M.S) M)) (Nat.le_refl _) M.S.1 ?_⟩
  rintro e F2 H2 ⟨rfl, ds2, hlen, hL⟩
  exact .inl ⟨rfl, At.doneG rfl rfl rfl ds2 at75 (by kernel_rfl) hty hG b6 hL⟩
end Go.Proofs.Ythnccaajpdnndaa
namespace Go.Proofs.Ythnccaajpdnndaa
open Go.Conc Go.Proofs.Try
set_option maxRecDepth 100000
structure MidT (h H : List AObj) (F : RG) (pl ps ph fI : Nat) (lv : Value) (s : SkyR) (heads : Int) : Prop where
  S : SameX [] h H
  ds : F.ds = []
  r3 : F.r 3 = ptr pl 0
  r4 : F.r 4 = ptr ps 0
  r5 : F.r 5 = ptr ph 0
  r13 : F.r 13 = ptr fI 0
  hl : H[pl]? = some (.cells [lv] true 0)
  hs : H[ps]? = some (.cells s.cells true 0)
  hh : H[ph]? = some (.cells [vint heads] true 0)
  hf : H[fI]? = some (.cells [nilS, nilS, nilS] true 0)
  fI : h.length ≤ fI
section
variable {main : Bool} {J : JT} {h : List AObj} {K : Value → List AObj → Prop} {Sx : RG → List AObj → Prop}
theorem front27 (hJ : Closed prog main J) {ls : List Pas} {lv : Value} {s : SkyR} {heads : Int} (L : LsOk ls) (f : skyOk s) (hh : 0 ≤ heads ∧ heads ≤ 40) (hl : SliE h lv 6 Pas.cells ls)
    (hS : ∀ F H pl ps ph fI, MidT h H F pl ps ph fI lv s heads → Sx F H) :
    W prog J 75 h.length 27 (trunc 6 (codeOf f27)) (RG.mk (regs [lv, .agg ⟨s.cells⟩, vint heads]) []) h (thenK Sx (RetQ prog [.tmp 6, .tmp 7] h.length K)) := by
  rw [e27]
  have few := L.few
  have kk := sliK hl
  refine qBox1 kk.1 kk.2.1 fun H1 pl e1 S1 c1 l1 => qBox (l := s.cells) rfl fun H2 ps e2 S2 c2 l2 => qBox1 rfl rfl fun H3 ph e3 S3 c3 l3 => ?_
  have c1' := S3.get (S2.get c1 (by simp)) (by simp)
  have c2' := S3.get c2 (by simp)
  have T := (S1.trans S2).trans S3
  have hcnt : cntE (ls.length : Nat) 1 3 = 0 := by
    unfold cntE
    rw [if_neg (by omega), if_neg (by omega)]
  refine ldI (v := lv) c1' rfl kk.2.2 ?_
  rw [sliE_len (T.sli hl (by simp))]
  refine good71 hJ (neqI (cndI (fun h1 => absurd hcnt h1) fun _ => ldI (v := lv) c1' rfl kk.2.2 ?_))
  rw [sliE_len (T.sli hl (by simp)), hcnt]
  refine l27_1 hJ (fun k : Nat => ls.length - k) (fun k F H' => k ≤ ls.length ∧ SameX [] h H' ∧ H'[pl]? = some (.cells [lv] true 0) ∧ H'[ps]? = some (.cells s.cells true 0) ∧ H'[ph]? = some (.cells [vint heads] true 0) ∧ F.ds = [] ∧ F.r 3 = ptr pl 0 ∧ F.r 4 = ptr ps 0 ∧ F.r 5 = ptr ph 0 ∧ F.r 24 = lv ∧ F.r 25 = vint (ls.length : Nat) ∧ F.r 26 = vint (k : Nat)) ?_ (s := 0)
    (.inl ⟨by omega, T, c1', c2', c3, rfl, rfl, rfl, rfl, rfl, rfl, rfl⟩)
  rintro k F H' ⟨hk, S, d1, d2, d3, ds, r3, r4, r5, r24, r25, r26⟩ okc hnc
  rw [s27_1, r4, r5, r24, r25, r26]
  refine lssI (cndI (fun hlt => ?_) fun hge => ?_)
  · have hkl : k < ls.length := by omega
    have hl' := S.sli hl (by simp)
    obtain ⟨b, o, cs, wr, sz, hidx, hb, hos, htk, hkn⟩ := sliE_elem (s := 6) (fun _ => rfl) (by decide) hl' hkl
    have fp := L.ok _ (List.getElem_mem hkl)
    generalize ls[k] = p at htk fp
    have q1 := lt_of_get d1
    have q2 := lt_of_get d2
    have q3 := lt_of_get d3
    refine hidx _ (load_part (c := p.cells) hb hos htk rfl (qAl fun H4 p4 e4 S4 c4 l4 => qStA (c := p.cells) c4 rfl rfl rfl fun H5 S5 c5 l5 => load_part (c := p.cells) c5 (by simp [Pas.cells]) rfl rfl ?_))
    have hz : pasE p = 0 := by unfold pasE; rw [if_pos fp]
    refine good36 hJ (neqI (cndI (fun h1 => absurd hz h1) fun _ => ?_))
    refine addI (by omega) ⟨k + 1, by dsimp only; omega, .inl ⟨by omega, (S.trans S4).thru S5 (by have := S.1; simp; omega), S5.get (S4.get d1 (by simp)) (by simp; omega), S5.get (S4.get d2 (by simp)) (by simp; omega), S5.get (S4.get d3 (by simp)) (by simp; omega), ds, r3, r4, r5, r24, r25, by show vint _ = vint _; congr 1⟩⟩
  · refine load_part (c := s.cells) d2 (by simp [SkyR.cells]) rfl rfl ?_
    have hz : skyE s = 0 := by unfold skyE; rw [if_pos f]
    refine good72 hJ (neqI (cndI (fun h1 => absurd hz h1) fun _ => ldI (v := vint heads) d3 rfl rfl (good73 hJ (notI (cndN (fun h1 => absurd hh h1) fun _ => ?_)))))
    refine qAl fun H4 fI e4 S4 c4 l4 => hS _ H4 pl ps ph fI ⟨S.trans S4, ds, r3, r4, r5, rfl, S4.get d1 (by simp), S4.get d2 (by simp), S4.get d3 (by simp), c4, ?_⟩
    have := S.1
    omega
end
end Go.Proofs.Ythnccaajpdnndaa
namespace Go.Proofs.Ythnccaajpdnndaa
open Go.Conc Go.Conc.Lib Go.Proofs.Try
set_option maxRecDepth 100000
theorem shape27 : subC [1, 1, 1, 1, 1, 1] (codeOf f27) = .seq (.region 17 ops27_1 false) (.seq (.seq (subC [1, 1, 1, 1, 1, 1, 1, 0, 0] (codeOf f27)) (.block 2 (.loop (subC [1, 1, 1, 1, 1, 1, 1, 0, 1, 0, 0] (codeOf f27))))) (.seq (subC [1, 1, 1, 1, 1, 1, 1, 1, 0] (codeOf f27)) (subC [1, 1, 1, 1, 1, 1, 1, 1, 1] (codeOf f27)))) := by kernel_rfl
theorem round27 : (subC [1, 1, 1, 1, 1, 1, 1, 0, 1, 0, 0] (codeOf f27)) = .seq (subC [1, 1, 1, 1, 1, 1, 1, 0, 1, 0, 0, 0] (codeOf f27)) (.seq (subC [1, 1, 1, 1, 1, 1, 1, 0, 1, 0, 0, 1, 0] (codeOf f27)) (.seq (.block 3 (.seq (subC [1, 1, 1, 1, 1, 1, 1, 0, 1, 0, 0, 1, 1, 0, 0, 0] (codeOf f27)) (.seq (subC [1, 1, 1, 1, 1, 1, 1, 0, 1, 0, 0, 1, 1, 0, 0, 1, 0] (codeOf f27)) (.seq (subC [1, 1, 1, 1, 1, 1, 1, 0, 1, 0, 0, 1, 1, 0, 0, 1, 1, 0] (codeOf f27)) (.region 23 ops27_2 false))))) (subC [1, 1, 1, 1, 1, 1, 1, 0, 1, 0, 0, 1, 1, 1] (codeOf f27)))) := by kernel_rfl
theorem teqP (p q : Pas) : teq prog 10000 31 (.agg ⟨p.cells⟩) (.agg ⟨q.cells⟩) = mB (some (p.grass == q.grass)) (mB (some (p.bears == q.bears)) (mB (some (p.dry == q.dry)) (mB (some (p.wet == q.wet)) (mB (some (p.stubble == q.stubble)) (mB (some (p.sleep == q.sleep)) (some true)))))) := by kernel_rfl
theorem eqlP {p : Pas} {KV : Value → Prop} (hk : KV (.bool true)) : aBin prog .eql 31 (.agg ⟨p.cells⟩) (.agg ⟨p.cells⟩) KV := by
  show aEq prog false 31 (.agg ⟨p.cells⟩) (.agg ⟨p.cells⟩) KV
  have : teq prog 10000 31 (.agg ⟨p.cells⟩) (.agg ⟨p.cells⟩) = some true := by
    rw [teqP]
    simp [mB_some]
  unfold aEq
  rw [this]
  exact ⟨by kernel_rfl, hk⟩
theorem sli_frz {h H : List AObj} {v : Value} {s n : Nat} {cs : List Value} (hs : Sli h v s n cs) (hk : ∀ (i : Nat) cs wr sz, h[i]? = some (.cells cs wr sz) → ∃ wr', H[i]? = some (.cells cs wr' sz)) : Sli H v s n cs := by
  obtain ⟨base, c, rfl, hkn, hh⟩ := hs
  refine ⟨base, c, rfl, hkn, hh.imp id ?_⟩
  rintro ⟨b, o, e, h0⟩
  refine ⟨b, o, e, h0.imp id fun ⟨cs, wr, sz, hb, ht⟩ => ?_⟩
  obtain ⟨wr', hb'⟩ := hk b cs wr sz hb
  exact ⟨cs, wr', sz, hb', ht⟩
theorem frzC {h : List AObj} {i : Nat} {c : List Value} {wr : Bool} {sz : Nat} (hb : h[i]? = some (.cells c wr sz)) : (frz h)[i]? = some (.cells c false sz) := by
  unfold frz
  rw [List.getElem?_map, hb]
  rfl
theorem lentM_cells {h : List AObj} {p fI x i : Nat} {c : List Value} {wr : Bool} {sz : Nat} (hb : h[i]? = some (.cells c wr sz)) (h1 : i ≠ p) (h2 : i ≠ fI) : (lentM h p fI x)[i]? = some (.cells c false sz) := by
  unfold lentM
  rw [List.getElem?_set_ne (Ne.symm h1), List.getElem?_set_ne (Ne.symm h2)]
  exact frzC hb
theorem lentW_cells {h : List AObj} {fI i : Nat} {l : List Value} {c : List Value} {wr : Bool} {sz : Nat} (hb : h[i]? = some (.cells c wr sz)) (h2 : i ≠ fI) : (lentW h fI l)[i]? = some (.cells c false sz) := by
  unfold lentW
  rw [List.getElem?_set_ne (Ne.symm h2)]
  exact frzC hb
theorem alloc1 {h : List AObj} {v : Value} (hc : v.cells = #[v]) (h1 : one v = true) {HL : Value → List AObj → Prop} (hk : HL (ptr h.length 0) (h ++ [AObj.cells [v] true 0])) : aAlloc [vint 0] h fun v1 h2 => aStore 1 v1 v h2 fun h3 => HL v1 h3 := by
  show aStore 1 (ptr h.length 0) v (h ++ [AObj.cells [vint 0] true 0]) _
  refine store_cell (c := [vint 0]) (sz := 0) (by simp) (by simp) hc h1 ?_
  have e : (h ++ [AObj.cells [vint 0] true 0]).set h.length (.cells ([vint 0].set 0 v) true 0) = h ++ [.cells [v] true 0] := by simp
  rw [e]
  exact hk
structure RT (f : RG) (p pl ps ph fI k : Nat) : Prop where
  ds : f.ds = []
  r3 : f.r 3 = ptr pl 0
  r4 : f.r 4 = ptr ps 0
  r5 : f.r 5 = ptr ph 0
  r13 : f.r 13 = ptr fI 0
  r14 : f.r 14 = ptr p 0
  r45 : f.r 45 = vint (2 : Nat)
  r46 : f.r 46 = vint (k : Nat)
section
variable {J : JT} {main : Bool} {m : Nat} {h : List AObj} {FC : Frm} {ρ0 : Env} {fs : List Frame} {b : FB} {k0 : List Item} {f : RG} {p pl ps ph fI : Nat} {lv : Value} {q : Pas}
theorem roundT (hJ : Closed prog main J) (hk : b.kind ≠ .early) (hb : b.tag = 27) (hm : m ≤ h.length) {k : Nat} (hk2 : k < 2) (R : RT f p pl ps ph fI k)
    (hnext : ∀ f', RT f' p pl ps ph fI k → f'.r 15 = ptr h.length 0 → At J 75 b fs FC ρ0 m (.code (.seq (subC [1, 1, 1, 1, 1, 1, 1, 0, 1, 0, 0, 1, 1, 0, 0, 1, 0] (codeOf f27)) (.seq (subC [1, 1, 1, 1, 1, 1, 1, 0, 1, 0, 0, 1, 1, 0, 0, 1, 1, 0] (codeOf f27)) (.region 23 ops27_2 false))) :: .inBlock 3 :: .code (subC [1, 1, 1, 1, 1, 1, 1, 0, 1, 0, 0, 1, 1, 1] (codeOf f27)) :: k0) f' (h ++ [AObj.cells [vint (k : Nat)] true 0])) :
    At J 75 b fs FC ρ0 m (.code (subC [1, 1, 1, 1, 1, 1, 1, 0, 1, 0, 0] (codeOf f27)) :: k0) f h := by
  obtain ⟨ds, r3, r4, r5, r13, r14, r45, r46⟩ := R
  rw [round27]
  refine At.seq hJ (At.piece (Q := fun e f' h' => e = .normal ∧ f' = f.p 47 (.bool true) ∧ h' = h) hb hk (W_sound hJ mixed _ ?_) hm (Nat.le_refl _) ?_)
  · rw [q27_2, r45, r46]
    refine lssI ⟨rfl, ?_, rfl⟩
    have : ((k : Int) < ((2 : Nat) : Int)) := by omega
    rw [decide_eq_true this]
  rintro e f1 h1 ⟨rfl, rfl, rfl⟩
  refine .inl ⟨rfl, At.seq hJ (At.piece (Q := fun e f' h' => e = .normal ∧ f' = f.p 47 (.bool true) ∧ h' = h1) hb hk (W_sound hJ mixed _ ?_) hm (Nat.le_refl _) ?_)⟩
  · rw [q27_3]
    exact cnd_true.2 ⟨rfl, rfl, rfl⟩
  rintro e f2 h2 ⟨rfl, rfl, rfl⟩
  refine .inl ⟨rfl, At.seq hJ (At.block hJ (At.seq hJ (At.piece (Q := fun e f' h' => e = .normal ∧ RT f' p pl ps ph fI k ∧ f'.r 15 = ptr h2.length 0 ∧ h' = h2 ++ [AObj.cells [vint (k : Nat)] true 0]) hb hk (W_sound hJ mixed _ ?_) hm (Nat.le_refl _) ?_)))⟩
  · rw [q27_4]
    rw [show (f.p 47 (.bool true)).r 46 = vint (k : Nat) from r46]
    exact alloc1 rfl rfl ⟨rfl, ⟨ds, r3, r4, r5, r13, r14, r45, r46⟩, rfl, rfl⟩
  rintro e f3 h3 ⟨rfl, R3, r15, rfl⟩
  exact .inl ⟨rfl, hnext f3 R3 r15⟩
theorem grp_snoc {h : List AObj} {p x : Nat} {c : List Value} {wr : Bool} {sz : Nat} (g : GrpAt h p x) : GrpAt (h ++ [.cells c wr sz]) p x := by
  refine ⟨by rw [List.getElem?_append_left (lt_of_get g.here)]; exact g.here, fun q z hq => ?_, g.lt⟩
  rcases snoc_get hq with ⟨_, e⟩ | hq
  · cases e
  · exact g.one q z hq
theorem endT (hJ : Closed prog main J) (hk : b.kind ≠ .early) (hb : b.tag = 27) (hm : m ≤ h.length) {k : Nat} (hk2 : k < 2) (R : RT f p pl ps ph fI k)
    (hnext : ∀ f', RT f' p pl ps ph fI (k + 1) → At J 75 b fs FC ρ0 m k0 f' h) : At J 75 b fs FC ρ0 m (.code (subC [1, 1, 1, 1, 1, 1, 1, 0, 1, 0, 0, 1, 1, 1] (codeOf f27)) :: k0) f h := by
  obtain ⟨ds, r3, r4, r5, r13, r14, r45, r46⟩ := R
  refine At.piece (Q := fun e f' h' => e = .normal ∧ RT f' p pl ps ph fI (k + 1) ∧ h' = h) hb hk (W_sound hJ mixed _ ?_) hm (Nat.le_refl _) ?_
  · rw [q27_7, r46]
    exact addI (by omega) ⟨rfl, ⟨ds, r3, r4, r5, r13, r14, r45, rfl⟩, rfl⟩
  rintro e f1 h1 ⟨rfl, R1, rfl⟩
  exact .inl ⟨rfl, hnext f1 R1⟩
theorem skipT (hJ : Closed prog main J) (hk : b.kind ≠ .early) (hb : b.tag = 27) (hm : m ≤ (h ++ [AObj.cells [vint (1 : Nat)] true 0]).length) (R : RT f p pl ps ph fI 1) (r15 : f.r 15 = ptr h.length 0) {wr : Bool} (hpl : h[pl]? = some (.cells [lv] wr 0)) (hs : SliE h lv 6 Pas.cells [q, q]) {c1 : Code}
    (hnext : ∀ f', RT f' p pl ps ph fI 1 → At J 75 b fs FC ρ0 m k0 f' (h ++ [AObj.cells [vint (1 : Nat)] true 0])) :
    At J 75 b fs FC ρ0 m (.code (.seq (subC [1, 1, 1, 1, 1, 1, 1, 0, 1, 0, 0, 1, 1, 0, 0, 1, 0] (codeOf f27)) c1) :: .inBlock 3 :: k0) f (h ++ [AObj.cells [vint (1 : Nat)] true 0]) := by
  obtain ⟨ds, r3, r4, r5, r13, r14, r45, r46⟩ := R
  refine At.seq hJ (At.piece (Q := fun e f' h' => e = .exit 3 ∧ RT f' p pl ps ph fI 1 ∧ h' = h ++ [AObj.cells [vint (1 : Nat)] true 0]) hb hk (W_sound hJ mixed _ ?_) hm (Nat.le_refl _) ?_)
  · rw [q27_5, r15, r3]
    have S : SameX [] h (h ++ [AObj.cells [vint (1 : Nat)] true 0]) := SameX.refl.app
    have c15 : (h ++ [AObj.cells [vint (1 : Nat)] true 0])[h.length]? = some (.cells [vint (1 : Nat)] true 0) := by simp
    have cpl := S.get hpl (by simp)
    have kk := (sliK hs).2.2
    have hs' : SliE (h ++ [AObj.cells [vint (1 : Nat)] true 0]) lv 6 Pas.cells [q, q] := S.sli hs (by simp)
    have el : ∀ {i : Nat}, i < 2 → ∀ {KV : Value → Value → Prop}, (∀ v, KV v (.agg ⟨q.cells⟩)) → aIdx 6 lv (vint (i : Nat)) fun v => aLoad true 6 v (h ++ [AObj.cells [vint (1 : Nat)] true 0]) (KV v) := fun {i} hi {KV} hk => by
      obtain ⟨bb, o, cs, wr, sz, hidx, hb, hos, htk, hkn⟩ := sliE_elem (s := 6) (fun _ => rfl) (by decide) hs' (i := i) hi
      have eq : [q, q][i] = q := by
        match i, hi with
        | 0, _ => rfl
        | 1, _ => rfl
      rw [eq] at htk
      exact hidx _ (load_part (c := q.cells) hb hos htk rfl (hk _))
    refine ldI (v := vint (1 : Nat)) c15 rfl rfl (gtrI (cndI (fun _ => ?_) fun h => absurd (by omega) h))
    refine ldI (v := lv) cpl rfl kk (ldI (v := vint (1 : Nat)) c15 rfl rfl ?_)
    refine el (i := 1) (by omega) fun _ => (ldI (v := lv) cpl rfl kk (ldI (v := vint (1 : Nat)) c15 rfl rfl (subI (by omega) ?_)))
    refine el (i := 0) (by omega) fun _ => (eqlP (cnd_true.2 ⟨rfl, ⟨ds, r3, r4, r5, r13, r14, r45, r46⟩, rfl⟩))
  rintro e f1 h1 ⟨rfl, R1, rfl⟩
  exact .inr ⟨3, k0, rfl, by simp [exitTo], hnext f1 R1⟩
end
section
variable {W0 : World} {Post : Value → World → Prop} {G : Grp} {m : Nat} {h : List AObj} {FC : Frm} {ρ0 : Env} {fs : List Frame} {b : FB} {k0 : List Item} {f : RG} {p pl ps ph fI : Nat} {lv : Value} {q : Pas}
theorem restT (hty : G.ty = wgLink.tWg) (hk : b.kind ≠ .early) (hb : b.tag = 27) (hm : m ≤ h.length) (R : RT f p pl ps ph fI 0) {wr : Bool} (hpl : h[pl]? = some (.cells [lv] wr 0)) (hs : SliE h lv 6 Pas.cells [q, q]) (hg : GrpAt h p 5)
    (hdone : ∀ f', f'.ds = [] → f'.r 13 = ptr fI 0 → At (JG prog W0 Post G) 75 b fs FC ρ0 m (.code (subC [1, 1, 1, 1, 1, 1, 1, 1, 1] (codeOf f27)) :: k0) f' ((h ++ [AObj.cells [vint (1 : Nat)] true 0]).set p (.group 12))) :
    At (JG prog W0 Post G) 75 b fs FC ρ0 m (.inRegion ops27_2 [] :: .inBlock 3 :: .code (subC [1, 1, 1, 1, 1, 1, 1, 0, 1, 0, 0, 1, 1, 1] (codeOf f27)) :: .inLoop (subC [1, 1, 1, 1, 1, 1, 1, 0, 1, 0, 0] (codeOf f27)) :: .inBlock 2 :: .code (.seq (subC [1, 1, 1, 1, 1, 1, 1, 1, 0] (codeOf f27)) (subC [1, 1, 1, 1, 1, 1, 1, 1, 1] (codeOf f27))) :: k0) f h := by
  have hJ := JG.closed prog W0 Post G
  have hm1 : m ≤ (h ++ [AObj.cells [vint (1 : Nat)] true 0]).length := by simp; omega
  refine At.ops_nil hJ (At.inBlock hJ (endT hJ hk hb hm (by omega) R fun f1 R1 => At.inLoop hJ (roundT hJ hk hb hm (by omega) R1 fun f2 R2 r15 => skipT hJ hk hb hm1 R2 r15 hpl hs fun f3 R3 => endT hJ hk hb hm1 (by omega) R3 fun f4 R4 => At.inLoop hJ ?_)))
  obtain ⟨ds, r3, r4, r5, r13, r14, r45, r46⟩ := R4
  rw [round27]
  refine At.seq hJ (At.piece (Q := fun e f' h' => e = .normal ∧ f' = RG.p f4 47 (.bool false) ∧ h' = h ++ [AObj.cells [vint (1 : Nat)] true 0]) hb hk (W_sound hJ mixed _ ?_) hm1 (Nat.le_refl _) ?_)
  · rw [q27_2, r45, r46]
    exact lssI ⟨rfl, rfl, rfl⟩
  rintro e f5 h5 ⟨rfl, rfl, rfl⟩
  refine .inl ⟨rfl, At.seq hJ (At.piece (Q := fun e f' h' => e = .exit 2 ∧ f' = RG.p f4 47 (.bool false) ∧ h' = h ++ [AObj.cells [vint (1 : Nat)] true 0]) hb hk (W_sound hJ mixed _ ?_) hm1 (Nat.le_refl _) ?_)⟩
  · rw [q27_3]
    exact cnd_false.2 ⟨rfl, rfl, rfl⟩
  rintro e f6 h6 ⟨rfl, rfl, rfl⟩
  refine .inr ⟨2, .code (.seq (subC [1, 1, 1, 1, 1, 1, 1, 1, 0] (codeOf f27)) (subC [1, 1, 1, 1, 1, 1, 1, 1, 1] (codeOf f27))) :: k0, rfl, by simp [exitTo], ?_⟩
  refine At.seq hJ (At.piece (Q := fun e f' h' => e = .normal ∧ f'.ds = [] ∧ f'.r 13 = ptr fI 0 ∧ h' = (h ++ [AObj.cells [vint (1 : Nat)] true 0]).set p (.group 12)) hb hk (W_sound hJ mixed _ ?_) hm1 (Nat.le_refl _) ?_)
  · rw [q27_8, show (RG.p f4 47 (.bool false)).r 14 = ptr p 0 from r14]
    exact good_wwait hty (grp_snoc hg) ⟨rfl, ds, r13, rfl⟩
  rintro e f7 h7 ⟨rfl, ds7, r7, rfl⟩
  exact .inl ⟨rfl, hdone f7 ds7 r7⟩
theorem hireT (hty : G.ty = wgLink.tWg) (hk : b.kind ≠ .early) (hb : b.tag = 27) (hm : m ≤ h.length) (_hpm : p < m) (hfm : fI < m) (R : RT f p pl ps ph fI 0) {s : SkyR} {heads : Int} (L : LsOk [q, q]) (fo : skyOk s) (hh : 0 ≤ heads ∧ heads ≤ 40) (d : Nat) (hd : s.days = (d : Int) + 1) (hG : G = mkG G.ty G.wg (ρ0.blk fI) (foundR [q, q] s heads d 0)) (_hwg : ρ0.blk p = G.wg)
    (hpl : h[pl]? = some (.cells [lv] true 0)) (hps : h[ps]? = some (.cells s.cells true 0)) (hph : h[ph]? = some (.cells [vint heads] true 0)) (hf : h[fI]? = some (.cells [nilS, nilS, nilS] true 0)) (hs : ∀ x, SliE ((lentM (h.set p (.group 4) ++ [AObj.cells [vint (0 : Nat)] true 0]) p fI x)) lv 6 Pas.cells [q, q]) (hsW : SliE (lentW (h.set p (.group 4) ++ [AObj.cells [vint (0 : Nat)] true 0]) fI [nilS, nilS, nilS]) lv 6 Pas.cells [q, q]) (hg : GrpAt h p 1)
    (hdone : ∀ (ρ : Env) (w : World) (ft : Foot) (f' : RG), HRel ρ (h.set p (.group 4) ++ [AObj.cells [vint (0 : Nat)] true 0]) FC w ft → Env.upto m ρ0 ρ → f'.ds = [] → f'.r 13 = ptr fI 0 → At (JG prog W0 Post G) 75 b fs (keepG w ft (ρ.blk fI)) ρ (h.set p (.group 4) ++ [AObj.cells [vint (0 : Nat)] true 0]).length (.code (subC [1, 1, 1, 1, 1, 1, 1, 1, 1] (codeOf f27)) :: k0) f' (lentM (h.set p (.group 4) ++ [AObj.cells [vint (0 : Nat)] true 0]) p fI 12 ++ [AObj.cells [vint (1 : Nat)] true 0])) :
    At (JG prog W0 Post G) 75 b fs FC ρ0 m (.code (subC [1, 1, 1, 1, 1, 1, 1, 0, 1, 0, 0] (codeOf f27)) :: .inLoop (subC [1, 1, 1, 1, 1, 1, 1, 0, 1, 0, 0] (codeOf f27)) :: .inBlock 2 :: .code (.seq (subC [1, 1, 1, 1, 1, 1, 1, 1, 0] (codeOf f27)) (subC [1, 1, 1, 1, 1, 1, 1, 1, 1] (codeOf f27))) :: k0) f h := by
  have hJ := JG.closed prog W0 Post G
  have hpl' := lt_of_get hg.here
  have hne : ∀ {i : Nat} {c : List Value} {wr : Bool} {sz : Nat}, h[i]? = some (.cells c wr sz) → i ≠ p := fun hi e => by
    rw [e, hg.here] at hi
    cases hi
  refine roundT hJ hk hb hm (by omega) R fun f1 R1 r15 => ?_
  obtain ⟨ds, r3, r4, r5, r13, r14, r45, r46⟩ := R1
  have hm1 : m ≤ (h ++ [AObj.cells [vint (0 : Nat)] true 0]).length := by simp; omega
  refine At.seq hJ (At.piece (Q := fun e f' h' => e = .normal ∧ RT f' p pl ps ph fI 0 ∧ f'.r 15 = ptr h.length 0 ∧ h' = h ++ [AObj.cells [vint (0 : Nat)] true 0]) hb hk (W_sound hJ mixed _ ?_) hm1 (Nat.le_refl _) ?_)
  · rw [q27_5, r15]
    have c15 : (h ++ [AObj.cells [vint (0 : Nat)] true 0])[h.length]? = some (.cells [vint (0 : Nat)] true 0) := by simp
    exact ldI (v := vint (0 : Nat)) c15 rfl rfl (gtrI (cnd_false.2 ⟨rfl, ⟨ds, r3, r4, r5, r13, r14, r45, r46⟩, r15, rfl⟩))
  rintro e f2 h2 ⟨rfl, R2, r15, rfl⟩
  obtain ⟨ds, r3, r4, r5, r13, r14, r45, r46⟩ := R2
  refine .inl ⟨rfl, At.seq hJ (At.piece (Q := fun e f' h' => e = .normal ∧ RT f' p pl ps ph fI 0 ∧ f'.r 15 = ptr h.length 0 ∧ h' = h.set p (.group 4) ++ [AObj.cells [vint (0 : Nat)] true 0]) hb hk (W_sound hJ mixed _ ?_) hm1 (Nat.le_refl _) ?_)⟩
  · rw [q27_6, r14]
    refine good_wadd hty (grp_snoc hg) ⟨rfl, ⟨ds, r3, r4, r5, r13, r14, r45, r46⟩, r15, ?_⟩
    rw [List.set_append_left _ _ hpl']
  rintro e f3 h3 ⟨rfl, R3, r15, rfl⟩
  obtain ⟨ds, r3, r4, r5, r13, r14, r45, r46⟩ := R3
  generalize hT : h.set p (.group 4) ++ [AObj.cells [vint (0 : Nat)] true 0] = hh' at *
  have gT : GrpAt hh' p 4 := hT ▸ grp_snoc (hg.set (by omega))
  have get : ∀ {i : Nat} {c : List Value} {wr : Bool} {sz : Nat}, h[i]? = some (.cells c wr sz) → hh'[i]? = some (.cells c wr sz) := fun {i c wr sz} hi => by
    rw [← hT, List.getElem?_append_left (by rw [List.length_set]; exact lt_of_get hi), List.getElem?_set_ne (Ne.symm (hne hi))]
    exact hi
  have ga : hh'[h.length]? = some (.cells [vint (0 : Nat)] true 0) := by
    rw [← hT]
    simp
  have hlT : hh'.length = h.length + 1 := by
    rw [← hT]
    simp
  have lfI := lt_of_get hf
  have nf : ∀ {i : Nat} {c : List Value} {wr : Bool} {sz : Nat}, hh'[i]? = some (.cells c wr sz) → c.length ≠ 3 → i ≠ fI := fun hi hc e => by
    rw [e, get hf] at hi
    cases hi
    exact hc rfl
  have nfs : ps ≠ fI := fun e => by
    rw [e, hf] at hps
    simp [SkyR.cells, nilS, vint] at hps
  have np : ∀ {i : Nat} {c : List Value} {wr : Bool} {sz : Nat}, hh'[i]? = some (.cells c wr sz) → i ≠ p := fun hi e => by
    rw [e, gT.here] at hi
    cases hi
  refine .inl ⟨rfl, At.region hJ ?_⟩
  rw [show List.range ops27_2.size = [0, 1] from by rw [z27_2]; rfl]
  obtain ⟨u1, u2, u3, u4, u5⟩ := o27_2_0 (J := JG prog W0 Post G)
  obtain ⟨w1, w2, w3, w4, w5⟩ := o27_2_1 (J := JG prog W0 Post G)
  refine At.op hJ hk u1 u3 (u4 _) ?_
  rw [u5, u2, r14, r3, r4, r15, r5, r13]
  refine ⟨rfl, fun _ => ?_⟩
  refine At.hireG hk w1 (w4 _) w5 w2 (cap := [ptr p 0, ptr pl 0, ptr ps 0, ptr h.length 0, ptr ph 0, ptr fI 0]) rfl (by kernel_rfl) gT (get hf) (fun ρ w ft HR hu hwgρ => ?_) fun ρ w ft HR hu hwgρ => ?_
  · refine worker_goes L fo hh d hd ⟨⟨_, lentW_cells (get hpl) (nf (get hpl) (by simp))⟩, hsW, ⟨_, lentW_cells (get hps) nfs⟩, ⟨_, lentW_cells ga (nf ga (by simp))⟩, ⟨_, lentW_cells (get hph) (nf (get hph) (by simp))⟩, ?_⟩ (by rw [lentW_len]; omega) hty ?_ hwgρ HR
    · unfold lentW
      rw [List.getElem?_set_self (by rw [frz_len]; omega)]
    · rw [(hu fI hfm).1]
      exact hG
  · have gM : GrpAt (lentM hh' p fI 5) p 5 := by
      refine ⟨?_, fun x z hx => ?_, by omega⟩
      · unfold lentM
        rw [List.getElem?_set_self (by rw [List.length_set, frz_len]; omega)]
      · rcases lentM_get hx with ⟨e, _⟩ | ⟨_, _, e⟩ | ⟨_, _, y, _, e⟩
        · exact e
        · cases e
        · cases y <;> cases e
    refine restT hty hk hb (by rw [lentM_len]; exact Nat.le_refl _) (q := q) (p := p) (pl := pl) (ps := ps) (ph := ph) (fI := fI) ⟨ds, r3, r4, r5, r13, r14, r45, r46⟩ (lentM_cells (get hpl) (np (get hpl)) (nf (get hpl) (by simp))) (hs 5) gM fun f' ds' r13' => ?_
    have e : (lentM hh' p fI 5 ++ [AObj.cells [vint (1 : Nat)] true 0]).set p (.group 12) = lentM hh' p fI 12 ++ [AObj.cells [vint (1 : Nat)] true 0] := by
      rw [List.set_append_left _ _ (by rw [lentM_len]; omega)]
      unfold lentM
      rw [List.set_set]
    rw [e]
    exact hdone ρ w ft f' HR hu ds' r13'
end
theorem opg27 : p27_1_0.op = .alloc 100 := by kernel_rfl
theorem wg_zero : zc prog 100 = some [.int .u64 0, .int .u32 0] := by kernel_rfl
theorem idxVI {cs : List Value} {k : Nat} {v : Value} {KV : Value → Prop} (h3 : k < 3) (hv : cs[k]? = some v) (hk : KV v) : aIdxV 3 1 false (.agg ⟨cs⟩) (vint (k : Nat)) KV := by
  refine ⟨by omega, ?_⟩
  unfold aField
  simp [hv, hk]
theorem cellsOf_get {n : Nat} {R : Option (List Int)} : (cellsOf n R).length = 3 ∧ kn (cellsOf n R) = true := by cases R <;> exact ⟨rfl, rfl⟩
theorem unchC {h : List AObj} {i : Nat} {c : List Value} {wr : Bool} {sz : Nat} (hb : h[i]? = some (.cells c wr sz)) : (unch h)[i]? = some (.cells c wr sz) := by
  unfold unch
  rw [List.getElem?_map, hb]
  rfl
theorem unch_get {h : List AObj} {i : Nat} {o : AObj} (e : (unch h)[i]? = some o) : ∃ y, h[i]? = some y ∧ unchO y = o := by
  unfold unch at e
  rw [List.getElem?_map] at e
  exact Option.map_eq_some_iff.1 e
theorem unch_rel {ρ : Env} {h : List AObj} {FC : Frm} {w : World} {ft : Foot} (H : HRel ρ h FC w ft) : HRel ρ (unch h) FC w ft := by
  have lv : ∀ {y : AObj}, (unchO y).live = true → y.live = true ∧ unchO y = y := fun {y} l => by
    cases y <;> first | (cases l; done) | exact ⟨rfl, rfl⟩
  have wr : ∀ {y : AObj}, (unchO y).wrt = true → unchO y = y := fun {y} l => by
    cases y <;> first | (cases l; done) | rfl
  refine ⟨fun i o hi => ?_, fun i j o o' hi hj l l' e => ?_, fun i o hi l => ?_, fun i o hi l => ?_, H.lt, H.sub, fun b o hb => ?_, H.keptW, fun i z hi => ?_⟩
  · rw [unch_len]
    obtain ⟨y, hy, rfl⟩ := unch_get hi
    have := H.obj i y hy
    cases y <;> first | trivial | exact this
  · obtain ⟨y, hy, rfl⟩ := unch_get hi
    obtain ⟨y', hy', rfl⟩ := unch_get hj
    exact H.inj i j y y' hy hy' (lv l).1 (lv l').1 e
  · obtain ⟨y, hy, rfl⟩ := unch_get hi
    exact H.rd i y hy (lv l).1
  · obtain ⟨y, hy, rfl⟩ := unch_get hi
    rw [wr l] at l
    exact H.wr i y hy l
  · obtain ⟨a1, a2, a3⟩ := H.kept b o hb
    refine ⟨a1, a2, fun a oa ha hw => ?_⟩
    obtain ⟨y, hy, rfl⟩ := unch_get ha
    rw [wr hw] at hw
    exact a3 a y hy hw
  · obtain ⟨y, hy, e⟩ := unch_get hi
    cases y <;> cases e
theorem At.unch {J : JT} {N m : Nat} {b : FB} {cs : List Frame} {FC : Frm} {ρ0 : Env} {k : List Item} {f : RG} {h : List AObj} (h' : At J N b cs FC ρ0 m k f (unch h)) : At J N b cs FC ρ0 m k f h := fun a ρ w ft A H hu hm =>
  h' a ρ w ft (by rw [unch_len]; exact A) (unch_rel H) hu (by rw [unch_len]; exact hm)
theorem unchO_twice (o : AObj) : unchO (unchO o) = unchO o := by cases o <;> rfl
theorem unch_sli {h : List AObj} {v : Value} {s n : Nat} {cs : List Value} (hs : Sli h v s n cs) : Sli (unch h) v s n cs := sli_frz hs fun _i _c wr _sz hi => ⟨wr, unchC hi⟩
section
variable {W0 : World} {Post : Value → World → Prop} {h : List AObj} {K : Value → List AObj → Prop}
def AnsT (h : List AObj) (K : Value → List AObj → Prop) : Option (List Int) → Prop
  | none => ∀ H', SameX [] h H' → K (.tuple ⟨[.slice none 0 0, vint 11]⟩) H'
  | some l => ∀ H' v, SameX [] h H' → Sli H' v 1 l.length (l.map vint) → K (.tuple ⟨[v, vint 0]⟩) H'
theorem tail27 {main : Bool} {J : JT} (hJ : Closed prog main J) {n0 n fI : Nat} {F : RG} {HT : List AObj} {R : Option (List Int)} (ds : F.ds = []) (r13 : F.r 13 = ptr fI 0) (hf : HT[fI]? = some (.cells (cellsOf n R) false 0)) (hn : HT[n]? = some (objOf R)) (S : SameX [] h HT) (hA : AnsT h K R) :
    W prog J 75 n0 27 (subC [1, 1, 1, 1, 1, 1, 1, 1, 1] (codeOf f27)) F HT (contX pl27t prog J 75 n0 27 ct27t [1, 1, 1, 1, 1, 1, 1, 1, 1] (codeOf f27) [] (RetQ prog [.tmp 6, .tmp 7] n0 K)) := by
  rw [s27t_1, r13]
  obtain ⟨z1, z2⟩ := cellsOf_get (n := n) (R := R)
  refine load_part (c := cellsOf n R) hf (by omega) (by rw [List.drop_zero]; exact List.take_of_length_le (by omega)) z2 ?_
  refine l27t_2 hJ (fun k : Nat => 3 - k) (fun k F H' => k ≤ 3 ∧ H' = HT ∧ (0 < k → R = none) ∧ F.ds = [] ∧ F.r 67 = .agg ⟨cellsOf n R⟩ ∧ F.r 68 = vint (k : Nat)) ?_ (s := 0)
    (.inl ⟨by omega, rfl, fun h => absurd h (Nat.lt_irrefl _), ds, rfl, rfl⟩)
  rintro k F2 H' ⟨hk, rfl, hR, ds2, r67, r68⟩ okc hnc
  rw [s27t_2, r67, r68, ds2]
  refine lssI (cndI (fun hlt => ?_) fun hge => ?_)
  · cases R with
    | none =>
      have hv : (cellsOf n none)[k]? = some nilS := by
        match k, hlt with
        | 0, _ => rfl
        | 1, _ => rfl
        | 2, _ => rfl
        | k + 3, h => exact absurd h (by omega)
      refine idxVI (by omega) hv (neqNilZ (e := 3) (by kernel_rfl) (by kernel_rfl) (cnd_false.2 (addI (by omega) ⟨k + 1, by dsimp only; omega, .inl ⟨by omega, rfl, fun _ => rfl, ds2, r67, rfl⟩⟩)))
    | some l =>
      have hk0 : k = 0 := by
        rcases Nat.eq_zero_or_pos k with h | h
        · exact h
        · cases hR h
      subst hk0
      refine idxVI (v := .slice (some ⟨n, 0, none⟩) l.length fz) (by omega) rfl (neqNilZ (e := 3) (by kernel_rfl) (by kernel_rfl) (cnd_true.2 (retL_same (by simp [unk]) (hA _ _ S ?_))))
      refine ⟨_, _, rfl, ⟨by simp, knV l⟩, .inr ⟨n, 0, rfl, .inr ⟨_, _, _, hn, ?_⟩⟩⟩
      rw [List.drop_zero]
      exact List.take_of_length_le (by simp)
  · have : k = 3 := by omega
    subst this
    have := hR (by omega)
    subst this
    exact retL_same (by simp [unk]) (hA _ S)
theorem good27 {q : Pas} {lv : Value} {s : SkyR} {heads : Int} (fq : pasOk q) (fo : skyOk s) (hh : 0 ≤ heads ∧ heads ≤ 40) (d : Nat) (hd : s.days = (d : Int) + 1) (hl : SliE h lv 6 Pas.cells [q, q]) (hA : AnsT (unch h) K (foundR [q, q] s heads d 0)) : Good prog (J2 prog W0 Post) 27 [lv, .agg ⟨s.cells⟩, vint heads] h K := by
  have hJ2 := J2.closed prog W0 Post
  have L : LsOk [q, q] := ⟨⟨by simp, by simp⟩, fun x hx => by
    simp only [List.mem_cons, List.not_mem_nil, or_false, or_self] at hx
    exact hx ▸ fq⟩
  refine good_of_sem hJ2 at27 body27 (by kernel_rfl) (Nat.le_of_ble_eq_true rfl) fun ok => ?_
  rw [show f27.ntmps = 75 from by kernel_rfl, show f27.results.toList = [.tmp 6, .tmp 7] from by kernel_rfl]
  refine trunc_sound hJ2 mixed 6 (codeOf f27) (by kernel_rfl) (front27 hJ2 L fo hh hl fun F H pl ps ph fI M => ?_)
  intro b a k fs LL ρ FC w ft hb hk hL A R hn hcont
  suffices hAt : At (J2 prog W0 Post) 75 b fs FC ρ (unch H).length (.code (subC [1, 1, 1, 1, 1, 1] (codeOf f27)) :: k) F (unch H) from At.unch hAt a ρ w ft A R (Env.upto_refl _ _) (by rw [unch_len]; exact Nat.le_refl _)
  have M2 : MidT (unch h) (unch H) F pl ps ph fI lv s heads := by
    refine ⟨⟨by rw [unch_len, unch_len]; exact M.S.1, fun i hi _ => ?_⟩, M.ds, M.r3, M.r4, M.r5, M.r13, unchC M.hl, unchC M.hs, unchC M.hh, unchC M.hf, by rw [unch_len]; exact M.fI⟩
    rw [unch_len] at hi
    unfold unch
    rw [List.getElem?_map, List.getElem?_map, M.S.2 i hi (by simp)]
  have nog : ∀ (q z : Nat), (unch H)[q]? ≠ some (.group z) := fun x z e => by
    obtain ⟨y, _, e⟩ := unch_get e
    cases y <;> cases e
  have hl2 : SliE (unch h) lv 6 Pas.cells [q, q] := unch_sli hl
  have hlh : (unch h).length = h.length := unch_len
  have upH : ∀ {i : Nat} {o : AObj}, (unch h)[i]? = some o → unchO o = o := fun e => by
    obtain ⟨y, _, rfl⟩ := unch_get e
    exact unchO_twice y
  clear A R hn M
  generalize unch H = U at M2 nog
  rw [shape27]
  have lfI := lt_of_get M2.hf
  have lpl := lt_of_get M2.hl
  refine At.seq hJ2 (At.region hJ2 ?_)
  rw [show List.range ops27_1.size = [0] from by rw [z27_1]; rfl]
  obtain ⟨u1, u2, u3, u4, u5⟩ := o27_1_0 (J := J2 prog W0 Post)
  obtain ⟨ti, z, hi, hz, hzl, _⟩ := zc_some wg_zero
  refine At.group hk u1 u3 (u4 _) opg27 hi hz (by rw [← Array.toList_inj, hzl]) nog lfI (foundR [q, q] s heads d 0) fun ρ1 G hu1 hty hG hwg => ?_
  have hJ := JG.closed prog W0 Post G
  rw [u2]
  replace hG : G = mkG G.ty G.wg (ρ1.blk fI) (foundR [q, q] s heads d 0) := by
    rw [hty]
    exact hG
  have get : ∀ {i : Nat} {c : List Value} {wr : Bool} {sz : Nat}, U[i]? = some (.cells c wr sz) → (U ++ [AObj.group 1])[i]? = some (.cells c wr sz) := fun hi => by
    rw [List.getElem?_append_left (lt_of_get hi)]
    exact hi
  have hg : GrpAt (U ++ [AObj.group 1]) U.length 1 := by
    refine ⟨by simp, fun x z hx => ?_, by omega⟩
    rcases snoc_get hx with ⟨e, _⟩ | hx
    · exact e
    · exact absurd hx (nog x z)
  have slL : SliE U lv 6 Pas.cells [q, q] := M2.S.sli hl2 (by simp)
  have kk := sliK hl
  refine At.ops_nil hJ (At.seq hJ (At.seq hJ (At.piece (Q := fun e f' h' => e = .normal ∧ RT f' U.length pl ps ph fI 0 ∧ h' = U ++ [AObj.group 1]) hb hk (W_sound hJ mixed _ ?_) (by simp) (Nat.le_refl _) ?_)))
  · rw [q27_1, show (F.putO (some 14) (ptr U.length 0)).r 3 = ptr pl 0 from M2.r3]
    refine ldI (v := lv) (get M2.hl) rfl kk.2.2 ?_
    have slg : SliE (U ++ [AObj.group 1]) lv 6 Pas.cells [q, q] := sli_app slL
    rw [sliE_len slg]
    exact ⟨rfl, ⟨M2.ds, M2.r3, M2.r4, M2.r5, M2.r13, rfl, rfl, rfl⟩, rfl⟩
  rintro e f1 h1 ⟨rfl, R1, rfl⟩
  refine .inl ⟨rfl, At.block hJ (At.loop hJ ?_)⟩
  have e4 : (U ++ [AObj.group 1]).set U.length (.group 4) = U ++ [AObj.group 4] := by simp
  -- what was a list in U is one while it is lent
  have keep : ∀ {i : Nat} {c : List Value} {wr : Bool} {sz : Nat}, (unch h)[i]? = some (.cells c wr sz) → ((U ++ [AObj.group 1]).set U.length (.group 4) ++ [AObj.cells [vint (0 : Nat)] true 0])[i]? = some (.cells c wr sz) ∧ i ≠ U.length ∧ i ≠ fI := fun {i c wr sz} hi => by
    have h1 := M2.S.get hi (by simp)
    have h2 := lt_of_get hi
    have h3 := lt_of_get h1
    have := M2.fI
    refine ⟨?_, by omega, by omega⟩
    rw [e4, List.getElem?_append_left (by simp; omega), List.getElem?_append_left h3]
    exact h1
  refine hireT hty hk hb (by simp) (by omega) (by omega) R1 L fo hh d hd hG hwg (get M2.hl) (get M2.hs) (get M2.hh) (get M2.hf) (fun x => sli_frz hl2 fun i c wr sz hi => ?_) (sli_frz hl2 fun i c wr sz hi => ?_) hg fun ρ2 w2 ft2 f2 HR hu2 ds2 r13 => ?_
  · obtain ⟨k1, k2, k3⟩ := keep hi
    exact ⟨_, lentM_cells k1 k2 k3⟩
  · obtain ⟨k1, k2, k3⟩ := keep hi
    exact ⟨_, lentW_cells k1 k3⟩
  generalize hT : (U ++ [AObj.group 1]).set U.length (.group 4) ++ [AObj.cells [vint (0 : Nat)] true 0] = hh' at *
  have gf : hh'[fI]? = some (.cells [nilS, nilS, nilS] true 0) := by
    rw [← hT, e4, List.getElem?_append_left (by simp; omega), List.getElem?_append_left lfI]
    exact M2.hf
  have hlT : hh'.length = U.length + 2 := by
    rw [← hT]
    simp
  refine At.join (x := 0) HR gf (by omega) (by rw [(hu2 fI (by omega)).1]; exact hG) (fun o ho _ => ?_) (fun z hz => ?_) fun ρ3 hu3 => ?_
  · rw [List.mem_singleton.1 ho]
    rfl
  · cases List.mem_singleton.1 hz
  generalize hHT : thawG hh' [AObj.cells [vint (1 : Nat)] true 0] fI (cellsOf (hh'.length + [AObj.cells [vint (1 : Nat)] true 0].length) (foundR [q, q] s heads d 0)) (objOf (foundR [q, q] s heads d 0)) = HT
  have hlHT : HT.length = hh'.length + 2 := by
    rw [← hHT, thawG_len]
    rfl
  have S : SameX [] (unch h) HT := by
    refine ⟨by have := M2.S.1; omega, fun i hi _ => ?_⟩
    have h1 := M2.S.2 i hi (by simp)
    have h2 := M2.S.1
    have h3 := M2.fI
    rw [← hHT]
    unfold thawG
    rw [List.getElem?_append_left (by rw [List.length_set, unch_len]; omega), List.getElem?_set_ne (by omega)]
    have g0 : (unch hh')[i]? = (hh'[i]?).map unchO := by
      unfold unch
      rw [List.getElem?_map]
    rw [g0, ← hT, e4, List.getElem?_append_left (by simp; omega), List.getElem?_append_left (by omega), h1]
    cases ho : (unch h)[i]? with
    | none => rfl
    | some o => rw [Option.map_some, upH ho]
  have t1 : HT[fI]? = some (.cells (cellsOf (hh'.length + 1) (foundR [q, q] s heads d 0)) false 0) := by
    rw [← hHT]
    unfold thawG
    rw [List.getElem?_append_left (by rw [List.length_set, unch_len]; omega), List.getElem?_set_self (by rw [unch_len]; omega)]
    rfl
  have t2 : HT[hh'.length + 1]? = some (objOf (foundR [q, q] s heads d 0)) := by
    rw [← hHT]
    unfold thawG
    rw [List.getElem?_append_right (by rw [List.length_set, unch_len]; omega), List.length_set, unch_len]
    simp
  intro a' ρ' w' ft' A' R' hu' hm'
  have hc : contX pl27t prog (J2 prog W0 Post) 75 h.length 27 ct27t [1, 1, 1, 1, 1, 1, 1, 1, 1] (codeOf f27) [] (RetQ prog [.tmp 6, .tmp 7] h.length K) = RetQ prog [.tmp 6, .tmp 7] h.length K := by kernel_rfl
  have tl : Sem (J2 prog W0 Post) 75 h.length 27 (subC [1, 1, 1, 1, 1, 1, 1, 1, 1] (codeOf f27)) f2 HT (RetQ prog [.tmp 6, .tmp 7] h.length K) := by
    rw [← hc]
    exact W_sound hJ2 mixed _ (tail27 hJ2 ds2 r13 t1 t2 S hA)
  have up : Env.upto h.length ρ ρ' := by
    have h1 := M2.S.1
    rw [hlh] at h1
    refine Env.upto_trans (Env.upto_le hu1 h1) (Env.upto_trans (Env.upto_le hu2 (by omega)) (Env.upto_trans (Env.upto_le hu3 (by omega)) (Env.upto_le hu' ?_)))
    show h.length ≤ hh'.length + 2
    omega
  exact tl b a' k fs LL ρ' FC w' _ hb hk hL A' R' (by rw [← hlh]; exact S.1) fun e f2 h2' ρ2 w2 ft2 a2 q q1 q2 q3 q4 => hcont e f2 h2' ρ2 w2 ft2 a2 q q1 q2 (Env.upto_trans up q3) q4
end
end Go.Proofs.Ythnccaajpdnndaa
namespace Go.Proofs.Ythnccaajpdnndaa
open Go.Conc Go.Proofs.Try
set_option maxRecDepth 100000
set_option maxHeartbeats 4000000
set_option linter.unusedVariables false
section
variable {main : Bool} {J : JT} {n0 : Nat} {h : List AObj} {K : Value → List AObj → Prop}
theorem at51 : prog.funcs[51]? = some f51 := by kernel_rfl
theorem body51 : f51.body = some (codeOf f51) := by kernel_rfl
def pl51 : Plans := [(12, true, .take 0 (.take 1 (.take 2 (.take 3 (.take 4 (.fin))))))]
def ct51 : Cuts := .go
theorem pok51 : plansOk prog pl51 (codeOf f51) = true := by kernel_rfl
theorem e51 {a0 a1 a2 : Value} : W prog J 45 h.length 51 (codeOf f51) (RG.mk (regs [a0, a1, a2]) []) h (RetQ prog [.tmp 6, .tmp 7, .tmp 8] h.length K) =
(aBox a0 h fun v1 h2 =>
 aBox a1 h2 fun v3 h4 =>
 aBox a2 h4 fun v5 h6 =>
 aLoad true 6 v1 h6 fun v7 =>
 aLoad false 1 v3 h6 fun v8 =>
 aLoad true 3 v5 h6 fun v9 =>
 Good prog J 92 [v7, v8, v9] h6 fun v10 h11 =>
 aBin prog .neq 37 v10 (vint 0) fun v12 =>
 cnd v12
(retL h.length K [] [(Value.string { data := #[] }), (vint 0), v10] h11)
(aAlloc [(Value.string { data := #[] })] h11 fun v13 h14 =>
 aAlloc [(vint 0)] h14 fun v15 h16 =>
 aStore 1 v13 (Value.string { data := #[] }) h16 fun h17 =>
 aStore 1 v15 (vint (-1)) h17 fun h18 =>
 aLoad true 3 v5 h18 fun v19 =>
 Good prog J 90 [v19] h18 fun v20 h21 =>
 Sem J 45 h.length 51 (subC [1, 1, 1, 0, 1, 0] (codeOf f51)) (RG.p (RG.p (RG.p (RG.p (RG.p (RG.p (RG.p (RG.p (RG.p (RG.p (RG.p (RG.p (RG.p (RG.p (RG.p (RG.p (RG.p (RG.mk (regs [a0, a1, a2]) []) 3 v1) 4 v3) 5 v5) 6 (Value.string { data := #[] })) 7 (vint 0)) 8 (vint 0)) 14 v7) 15 v8) 16 v9) 17 v10) 9 v10) 18 v10) 19 v12) 10 v13) 11 v15) 21 v19) 22 v20) h21 (contX pl51 prog J 45 h.length 51 ct51 [1, 1, 1, 0, 1, 0] (codeOf f51) [] (RetQ prog [.tmp 6, .tmp 7, .tmp 8] h.length K)))) := top_eq pok51 ct51 (by kernel_rfl)
theorem g51 (hJ : Closed prog main J) {a0 a1 a2 : Value} (hs : heapOk h → W prog J 45 h.length 51 (codeOf f51) (RG.mk (regs [a0, a1, a2]) []) h (RetQ prog [.tmp 6, .tmp 7, .tmp 8] h.length K)) : Good prog J 51 [a0, a1, a2] h K :=
  good_of_W hJ mixed at51 body51 (by kernel_rfl) (Nat.le_of_ble_eq_true rfl) hs
theorem a51_1 {f : RG} {fr : FuncId} {Q : QT} : W prog J 45 n0 fr (subC [1, 1, 1, 0, 1, 0, 0] (codeOf f51)) f h Q =
(Q .normal (RG.p f 12 (f.r 23)) h) := sub_eq pok51 ct51 (by kernel_rfl)
theorem b51_1 {f : RG} {fr : FuncId} {Q : QT} : W prog J 45 n0 fr (subC [1, 1, 1, 0, 1, 0, 1] (codeOf f51)) f h Q =
(aLoad true 6 (f.r 3) h fun v1 =>
 aLoad false 1 (f.r 4) h fun v2 =>
 Good prog J 98 [v1, v2, (f.r 12)] h fun v3 h4 =>
 aBin prog .geq 3 v3 (vint 0) fun v5 =>
 cnd v5
(aLoad false 1 (f.r 11) h4 fun v6 =>
 aBin prog .lss 3 v6 (vint 0) fun v7 =>
 cnd v7
(aStore 1 (f.r 10) (f.r 12) h4 fun h8 =>
 aStore 1 (f.r 11) v3 h8 fun h9 =>
 Q .normal (RG.p (RG.p (RG.p (RG.p (RG.p (RG.p (RG.p (RG.p (RG.p (RG.p (RG.p (RG.p (RG.p (RG.p (RG.p (RG.p (RG.p (RG.p (RG.p (RG.p f 24 v1) 25 v2) 26 (f.r 12)) 27 v3) 13 v3) 28 v3) 29 v5) 30 v5) 30 (Value.bool true)) 31 v6) 32 v7) 33 v7) 33 (Value.bool true)) 34 undef) 35 undef) 36 undef) 37 (Value.bool true)) 38 (Value.bool true)) 39 (f.r 12)) 40 v3) h9)
(aLoad false 1 (f.r 11) h4 fun v10 =>
 aBin prog .lss 3 v3 v10 fun v11 =>
 cnd v11
(aStore 1 (f.r 10) (f.r 12) h4 fun h12 =>
 aStore 1 (f.r 11) v3 h12 fun h13 =>
 Q .normal (RG.p (RG.p (RG.p (RG.p (RG.p (RG.p (RG.p (RG.p (RG.p (RG.p (RG.p (RG.p (RG.p (RG.p (RG.p (RG.p (RG.p (RG.p (RG.p (RG.p f 24 v1) 25 v2) 26 (f.r 12)) 27 v3) 13 v3) 28 v3) 29 v5) 30 v5) 30 (Value.bool true)) 31 v6) 32 v7) 33 v7) 33 (Value.bool false)) 34 v3) 35 v10) 36 v11) 37 v11) 38 v11) 39 (f.r 12)) 40 v3) h13)
(Q .normal (RG.p (RG.p (RG.p (RG.p (RG.p (RG.p (RG.p (RG.p (RG.p (RG.p (RG.p (RG.p (RG.p (RG.p (RG.p (RG.p (RG.p (RG.p f 24 v1) 25 v2) 26 (f.r 12)) 27 v3) 13 v3) 28 v3) 29 v5) 30 v5) 30 (Value.bool true)) 31 v6) 32 v7) 33 v7) 33 (Value.bool false)) 34 v3) 35 v10) 36 v11) 37 v11) 38 v11) h4)))
(Q .normal (RG.p (RG.p (RG.p (RG.p (RG.p (RG.p (RG.p (RG.p (RG.p (RG.p (RG.p (RG.p (RG.p (RG.p (RG.p (RG.p (RG.p f 24 v1) 25 v2) 26 (f.r 12)) 27 v3) 13 v3) 28 v3) 29 v5) 30 v5) 30 (Value.bool false)) 31 undef) 32 undef) 33 undef) 34 undef) 35 undef) 36 undef) 37 undef) 38 (Value.bool false)) h4)) := sub_eq pok51 ct51 (by kernel_rfl)
theorem c51_1 {f : RG} : (contX pl51 prog J 45 n0 51 ct51 [1, 1, 1, 0, 1, 0] (codeOf f51) [] (RetQ prog [.tmp 6, .tmp 7, .tmp 8] n0 K)) .normal f h =
(aLoad false 1 (f.r 11) h fun v1 =>
 aBin prog .lss 3 v1 (vint 0) fun v2 =>
 cnd v2
(retL n0 K f.ds [(Value.string { data := #[] }), (vint 0), (vint 11)] h)
(aLoad false 1 (f.r 10) h fun v3 =>
 aLoad false 1 (f.r 11) h fun v4 =>
 retL n0 K f.ds [v3, v4, (vint 0)] h)) := by kernel_rfl
theorem l51_1 (hJ : Closed prog main J) {f : RG} {g : FuncId} {first cap : List Value} (hx : ev f.r ((Go.Operand.tmp 22)) = .func (.func g) ⟨first⟩ ⟨cap⟩) (hg : g < prog.funcs.size)
  (hs : Good prog J g (first ++ [.func (.yield (h.length + 1)) ⟨[]⟩ ⟨[]⟩] ++ cap) (h ++ [.deferred] ++ [.loop .ready none 51 f.r 45 #[23] (subC [1, 1, 1, 0, 1, 0, 0] (codeOf f51)) (subC [1, 1, 1, 0, 1, 0, 1] (codeOf f51)) h.length]) (endQ h.length f (contX pl51 prog J 45 n0 51 ct51 [1, 1, 1, 0, 1, 0] (codeOf f51) [] (RetQ prog [.tmp 6, .tmp 7, .tmp 8] n0 K)))) (hcall : callable prog g = true := by kernel_rfl) : Sem J 45 n0 51 (subC [1, 1, 1, 0, 1, 0] (codeOf f51)) f h (contX pl51 prog J 45 n0 51 ct51 [1, 1, 1, 0, 1, 0] (codeOf f51) [] (RetQ prog [.tmp 6, .tmp 7, .tmp 8] n0 K)) :=
  Sem_range hJ (by decide) (fop := (Go.Operand.tmp 22)) (params := #[23]) (assign := subC [1, 1, 1, 0, 1, 0, 0] (codeOf f51)) (body := subC [1, 1, 1, 0, 1, 0, 1] (codeOf f51)) hx hg hs hcall
end
section
variable {main : Bool} {J : JT} {n0 : Nat} {h : List AObj} {K : Value → List AObj → Prop}
theorem at92 : prog.funcs[92]? = some f92 := by kernel_rfl
theorem body92 : f92.body = some (codeOf f92) := by kernel_rfl
def pl92 : Plans := [(1, false, .take 0 (.take 2 (.last 1 true (.last 3 true (.last 4 true (.last 5 true (.take 6 (.fin))))))))]
def ct92 : Cuts := .go
theorem pok92 : plansOk prog pl92 (codeOf f92) = true := by kernel_rfl
theorem e92 {a0 a1 a2 : Value} : W prog J 21 h.length 92 (codeOf f92) (RG.mk (regs [a0, a1, a2]) []) h (RetQ prog [.tmp 6] h.length K) =
(aBox a0 h fun v1 h2 =>
 aBox a2 h2 fun v3 h4 =>
(∃ B, aLoad true 6 v1 h4 fun v5 =>
 RdOk (some B) (ptrBlk v1) ∧ (aLoad true 3 v3 h4 fun v6 =>
 RdOk (some B) (ptrBlk v3) ∧ (Good prog J 36 [v5] h4 fun v7 h8 =>
 SameB (some B) h4 h8 ∧ (Good prog J 72 [v6] h8 fun v9 h10 =>
 SameB (some B) h4 h10 ∧ ((((2 * 1 : Nat) ≤ 16777216 ∧ (2 : Nat) ≤ 16777216 ∧ List.length [(vint 0)] = 1) ∧ aFill (zrep [(vint 0)] 2) [(0, 1, v7), (1, 1, v9)] fun c11 =>
 aNewS 2 c11 h10 fun v12 h13 =>
 SameB (some B) h4 h13 ∧ (Good prog J 88 [v12] h13 fun v14 h15 =>
 SameB (some B) h4 h15 ∧ (aBin prog .neq 37 v14 (vint 0) fun v16 =>
 cnd v16
(retL h.length K [] [v14] h15)
(aOff v3 0 fun v17 =>
 aLoad false 1 v17 h15 fun v18 =>
 Good prog J 124 [a1, v18] h15 fun v19 h20 =>
 retL h.length K [] [v19] h20)))))))))) := top_eq pok92 ct92 (by kernel_rfl)
theorem g92 (hJ : Closed prog main J) {a0 a1 a2 : Value} (hs : heapOk h → W prog J 21 h.length 92 (codeOf f92) (RG.mk (regs [a0, a1, a2]) []) h (RetQ prog [.tmp 6] h.length K)) : Good prog J 92 [a0, a1, a2] h K :=
  good_of_W hJ mixed at92 body92 (by kernel_rfl) (Nat.le_of_ble_eq_true rfl) hs
theorem at49 : prog.funcs[49]? = some f49 := by kernel_rfl
theorem body49 : f49.body = some (codeOf f49) := by kernel_rfl
def pl49 : Plans := []
def ct49 : Cuts := .go
theorem pok49 : plansOk prog pl49 (codeOf f49) = true := by kernel_rfl
theorem e49 {a0 a1 a2 : Value} : W prog J 33 h.length 49 (codeOf f49) (RG.mk (regs [a0, a1, a2]) []) h (RetQ prog [.tmp 6, .tmp 7] h.length K) =
(aBox a0 h fun v1 h2 =>
 aBox a1 h2 fun v3 h4 =>
 aBox a2 h4 fun v5 h6 =>
 aLoad true 6 v1 h6 fun v7 =>
 aLoad false 1 v3 h6 fun v8 =>
 aLoad true 3 v5 h6 fun v9 =>
 Good prog J 92 [v7, v8, v9] h6 fun v10 h11 =>
 aBin prog .neq 37 v10 (vint 0) fun v12 =>
 cnd v12
(retL h.length K [] [(vint 0), v10] h11)
(aAlloc [(Value.bool false)] h11 fun v13 h14 =>
 aAlloc [(Value.bool false)] h14 fun v15 h16 =>
 aStore 1 v13 (Value.bool false) h16 fun h17 =>
 aStore 1 v15 (Value.bool false) h17 fun h18 =>
 aLoad true 3 v5 h18 fun v19 =>
 Good prog J 90 [v19] h18 fun v20 h21 =>
 Sem J 33 h.length 49 (subC [1, 1, 1, 0, 1, 0] (codeOf f49)) (RG.p (RG.p (RG.p (RG.p (RG.p (RG.p (RG.p (RG.p (RG.p (RG.p (RG.p (RG.p (RG.p (RG.p (RG.p (RG.p (RG.mk (regs [a0, a1, a2]) []) 3 v1) 4 v3) 5 v5) 6 (vint 0)) 7 (vint 0)) 12 v7) 13 v8) 14 v9) 15 v10) 8 v10) 16 v10) 17 v12) 9 v13) 10 v15) 19 v19) 20 v20) h21 (contX pl49 prog J 33 h.length 49 ct49 [1, 1, 1, 0, 1, 0] (codeOf f49) [] (RetQ prog [.tmp 6, .tmp 7] h.length K)))) := top_eq pok49 ct49 (by kernel_rfl)
theorem g49 (hJ : Closed prog main J) {a0 a1 a2 : Value} (hs : heapOk h → W prog J 33 h.length 49 (codeOf f49) (RG.mk (regs [a0, a1, a2]) []) h (RetQ prog [.tmp 6, .tmp 7] h.length K)) : Good prog J 49 [a0, a1, a2] h K :=
  good_of_W hJ mixed at49 body49 (by kernel_rfl) (Nat.le_of_ble_eq_true rfl) hs
theorem a49_1 {f : RG} {fr : FuncId} {Q : QT} : W prog J 33 n0 fr (subC [1, 1, 1, 0, 1, 0, 0] (codeOf f49)) f h Q =
(Q .normal (RG.p f 11 (f.r 21)) h) := sub_eq pok49 ct49 (by kernel_rfl)
theorem b49_1 {f : RG} {fr : FuncId} {Q : QT} : W prog J 33 n0 fr (subC [1, 1, 1, 0, 1, 0, 1] (codeOf f49)) f h Q =
(aLoad true 6 (f.r 3) h fun v1 =>
 aLoad false 1 (f.r 4) h fun v2 =>
 Good prog J 98 [v1, v2, (f.r 11)] h fun v3 h4 =>
 aBin prog .lss 3 v3 (vint 0) fun v5 =>
 cnd v5
(aStore 1 (f.r 9) (Value.bool true) h4 fun h6 =>
 Q .normal (RG.p (RG.p (RG.p (RG.p (RG.p f 22 v1) 23 v2) 24 (f.r 11)) 25 v3) 26 v5) h6)
(aStore 1 (f.r 10) (Value.bool true) h4 fun h7 =>
 Q .normal (RG.p (RG.p (RG.p (RG.p (RG.p f 22 v1) 23 v2) 24 (f.r 11)) 25 v3) 26 v5) h7)) := sub_eq pok49 ct49 (by kernel_rfl)
theorem c49_1 {f : RG} : (contX pl49 prog J 33 n0 49 ct49 [1, 1, 1, 0, 1, 0] (codeOf f49) [] (RetQ prog [.tmp 6, .tmp 7] n0 K)) .normal f h =
(aLoad false 1 (f.r 10) h fun v1 =>
 aUn .not v1 fun v2 =>
 cnd v2
(retL n0 K f.ds [(vint 1), (vint 0)] h)
(aLoad false 1 (f.r 9) h fun v3 =>
 aUn .not v3 fun v4 =>
 cnd v4
(retL n0 K f.ds [(vint 2), (vint 0)] h)
(retL n0 K f.ds [(vint 3), (vint 0)] h))) := by kernel_rfl
theorem l49_1 (hJ : Closed prog main J) {f : RG} {g : FuncId} {first cap : List Value} (hx : ev f.r ((Go.Operand.tmp 20)) = .func (.func g) ⟨first⟩ ⟨cap⟩) (hg : g < prog.funcs.size)
  (hs : Good prog J g (first ++ [.func (.yield (h.length + 1)) ⟨[]⟩ ⟨[]⟩] ++ cap) (h ++ [.deferred] ++ [.loop .ready none 49 f.r 33 #[21] (subC [1, 1, 1, 0, 1, 0, 0] (codeOf f49)) (subC [1, 1, 1, 0, 1, 0, 1] (codeOf f49)) h.length]) (endQ h.length f (contX pl49 prog J 33 n0 49 ct49 [1, 1, 1, 0, 1, 0] (codeOf f49) [] (RetQ prog [.tmp 6, .tmp 7] n0 K)))) (hcall : callable prog g = true := by kernel_rfl) : Sem J 33 n0 49 (subC [1, 1, 1, 0, 1, 0] (codeOf f49)) f h (contX pl49 prog J 33 n0 49 ct49 [1, 1, 1, 0, 1, 0] (codeOf f49) [] (RetQ prog [.tmp 6, .tmp 7] n0 K)) :=
  Sem_range hJ (by decide) (fop := (Go.Operand.tmp 20)) (params := #[21]) (assign := subC [1, 1, 1, 0, 1, 0, 0] (codeOf f49)) (body := subC [1, 1, 1, 0, 1, 0, 1] (codeOf f49)) hx hg hs hcall
end
section
variable {main : Bool} {J : JT} {n0 : Nat} {h : List AObj} {K : Value → List AObj → Prop}
theorem at89 : prog.funcs[89]? = some f89 := by kernel_rfl
theorem body89 : f89.body = some (codeOf f89) := by kernel_rfl
def pl89 : Plans := [(14, false, .take 0 (.take 1 (.take 2 (.take 3 (.take 4 (.take 5 (.take 6 (.take 7 (.take 8 (.last 9 true (.take 10 (.take 11 (.take 12 (.take 13 (.take 14 (.fin))))))))))))))))]
def ct89 : Cuts := .go
theorem pok89 : plansOk prog pl89 (codeOf f89) = true := by kernel_rfl
theorem e89 {a0 a1 a2 a3 a4 : Value} : W prog J 60 h.length 89 (codeOf f89) (RG.mk (regs [a0, a1, a2, a3, a4]) []) h (RetQ prog [.tmp 10] h.length K) =
(aBox a0 h fun v1 h2 =>
 aBox a1 h2 fun v3 h4 =>
 aBox a3 h4 fun v5 h6 =>
 aBox a4 h6 fun v7 h8 =>
 aOff v3 0 fun v9 =>
 aLoad false 1 v9 h8 fun v10 =>
((List.length [(vint 0)] = 1 ∧ (8 : Nat) ≤ 1024) ∧ aMkS [(vint 0)] v10 v10 h8 fun v11 h12 =>
 aAlloc [(Value.slice none 0 0)] h12 fun v13 h14 =>
 aStore 1 v13 v11 h14 fun h15 =>
 aLoad false 1 v7 h15 fun v16 =>
 Sem J 60 h.length 89 (subC [1, 0, 1, 0, 1, 0] (codeOf f89)) (RG.p (RG.p (RG.p (RG.p (RG.p (RG.p (RG.p (RG.p (RG.p (RG.p (RG.p (RG.mk (regs [a0, a1, a2, a3, a4]) []) 5 v1) 6 v3) 8 v5) 9 v7) 10 (Value.bool false)) 19 v9) 20 v10) 21 v11) 11 v13) 22 v16) 23 (vint 0)) h15 (contX pl89 prog J 60 h.length 89 ct89 [1, 0, 1, 0, 1, 0] (codeOf f89) [] (RetQ prog [.tmp 10] h.length K)))) := top_eq pok89 ct89 (by kernel_rfl)
theorem g89 (hJ : Closed prog main J) {a0 a1 a2 a3 a4 : Value} (hs : heapOk h → W prog J 60 h.length 89 (codeOf f89) (RG.mk (regs [a0, a1, a2, a3, a4]) []) h (RetQ prog [.tmp 10] h.length K)) : Good prog J 89 [a0, a1, a2, a3, a4] h K :=
  good_of_W hJ mixed at89 body89 (by kernel_rfl) (Nat.le_of_ble_eq_true rfl) hs
theorem s89_1 {f : RG} {nx0 : RG → List AObj → Prop} : W prog J 60 n0 89 (subC [1, 0, 1, 0, 1, 0, 0] (codeOf f89)) f h (thenK nx0 (contX pl89 prog J 60 n0 89 ct89 [1, 0, 1, 0, 1, 0] (codeOf f89) [] (RetQ prog [.tmp 10] n0 K))) =
(aBin prog .lss 3 (f.r 23) (f.r 22) fun v1 =>
 cnd v1
(aLoad false 1 (f.r 11) h fun v2 =>
 aLoad false 1 (f.r 8) h fun v3 =>
 aBin prog .add 3 v3 (f.r 23) fun v4 =>
 aIdx 1 v2 v4 fun v5 =>
 aStore 1 v5 (f.r 2) h fun h6 =>
 aBin prog .add 3 (f.r 23) (vint 1) fun v7 =>
 nx0 (RG.p (RG.p (RG.p (RG.p (RG.p (RG.p (RG.p (RG.p (RG.p (RG.p (RG.p f 24 v1) 25 (f.r 23)) 12 (f.r 23)) 26 v2) 27 v3) 28 (f.r 23)) 29 v4) 30 (f.r 2)) 31 v5) 32 v7) 23 v7) h6)
(aAlloc [(Value.bool false)] h fun v8 h9 =>
 aStore 1 v8 (Value.bool true) h9 fun h10 =>
 aLoad true 3 (f.r 6) h10 fun v11 =>
 Good prog J 90 [v11] h10 fun v12 h13 =>
 Sem J 60 n0 89 (subC [1, 0, 1, 1, 1, 1, 0, 1, 0] (codeOf f89)) (RG.p (RG.p (RG.p (RG.p f 24 v1) 13 v8) 33 v11) 34 v12) h13 (contX pl89 prog J 60 n0 89 ct89 [1, 0, 1, 1, 1, 1, 0, 1, 0] (codeOf f89) [] (RetQ prog [.tmp 10] n0 K)))) := sub_eq pok89 ct89 (by kernel_rfl)
theorem l89_1 (hJ : Closed prog main J) {S : Type} (μ : S → Nat) (I : S → RG → List AObj → Prop) (hI : ∀ s f h, I s f h → heapOk h → n0 ≤ h.length → W prog J 60 n0 89 (subC [1, 0, 1, 0, 1, 0, 0] (codeOf f89)) f h (thenK (Nx n0 μ I s) (contX pl89 prog J 60 n0 89 ct89 [1, 0, 1, 0, 1, 0] (codeOf f89) [] (RetQ prog [.tmp 10] n0 K))))
  {s : S} {f : RG} (hi : Gets n0 I s f h) : Sem J 60 n0 89 (subC [1, 0, 1, 0, 1, 0] (codeOf f89)) f h (contX pl89 prog J 60 n0 89 ct89 [1, 0, 1, 0, 1, 0] (codeOf f89) [] (RetQ prog [.tmp 10] n0 K)) :=
  loop_rule hJ mixed (b := subC [1, 0, 1, 0, 1, 0, 0] (codeOf f89)) (by kernel_rfl) μ I hI hi
theorem a89_2 {f : RG} {fr : FuncId} {Q : QT} : W prog J 60 n0 fr (subC [1, 0, 1, 1, 1, 1, 0, 1, 0, 0] (codeOf f89)) f h Q =
(Q .normal (RG.p f 14 (f.r 35)) h) := sub_eq pok89 ct89 (by kernel_rfl)
theorem b89_2 {f : RG} {fr : FuncId} {Q : QT} : W prog J 60 n0 fr (subC [1, 0, 1, 1, 1, 1, 0, 1, 0, 1] (codeOf f89)) f h Q =
(aLoad true 6 (f.r 5) h fun v1 =>
 Good prog J 125 [v1] h fun v2 h3 =>
 aLoad false 1 (f.r 8) h3 fun v4 =>
 aLoad false 1 (f.r 9) h3 fun v5 =>
 aBin prog .add 3 v4 v5 fun v6 =>
 Sem J 60 n0 fr (subC [1, 0, 1, 1, 1, 1, 0, 1, 0, 1, 0, 1, 1, 0] (codeOf f89)) (RG.p (RG.p (RG.p (RG.p (RG.p (RG.p (RG.p f 36 v1) 37 v2) 15 v2) 38 v4) 39 v5) 40 v6) 41 (vint 0)) h3 (contX pl89 prog J 60 n0 fr .go [0, 1, 1, 0] (subC [1, 0, 1, 1, 1, 1, 0, 1, 0, 1] (codeOf f89)) [] Q)) := sub_eq pok89 ct89 (by kernel_rfl)
theorem c89_2x2 {f : RG} : (contX pl89 prog J 60 n0 89 ct89 [1, 0, 1, 1, 1, 1, 0, 1, 0] (codeOf f89) [] (RetQ prog [.tmp 10] n0 K)) (.exit 2) f h =
(aLoad false 1 (f.r 13) h fun v1 =>
 retL n0 K f.ds [v1] h) := by kernel_rfl
theorem c89_2 {f : RG} : (contX pl89 prog J 60 n0 89 ct89 [1, 0, 1, 1, 1, 1, 0, 1, 0] (codeOf f89) [] (RetQ prog [.tmp 10] n0 K)) .normal f h =
(aLoad false 1 (f.r 13) h fun v1 =>
 retL n0 K f.ds [v1] h) := by kernel_rfl
theorem l89_2 (hJ : Closed prog main J) {f : RG} {g : FuncId} {first cap : List Value} (hx : ev f.r ((Go.Operand.tmp 34)) = .func (.func g) ⟨first⟩ ⟨cap⟩) (hg : g < prog.funcs.size)
  (hs : Good prog J g (first ++ [.func (.yield (h.length + 1)) ⟨[]⟩ ⟨[]⟩] ++ cap) (h ++ [.deferred] ++ [.loop .ready none 89 f.r 60 #[35] (subC [1, 0, 1, 1, 1, 1, 0, 1, 0, 0] (codeOf f89)) (subC [1, 0, 1, 1, 1, 1, 0, 1, 0, 1] (codeOf f89)) h.length]) (endQ h.length f (contX pl89 prog J 60 n0 89 ct89 [1, 0, 1, 1, 1, 1, 0, 1, 0] (codeOf f89) [] (RetQ prog [.tmp 10] n0 K)))) (hcall : callable prog g = true := by kernel_rfl) : Sem J 60 n0 89 (subC [1, 0, 1, 1, 1, 1, 0, 1, 0] (codeOf f89)) f h (contX pl89 prog J 60 n0 89 ct89 [1, 0, 1, 1, 1, 1, 0, 1, 0] (codeOf f89) [] (RetQ prog [.tmp 10] n0 K)) :=
  Sem_range hJ (by decide) (fop := (Go.Operand.tmp 34)) (params := #[35]) (assign := subC [1, 0, 1, 1, 1, 1, 0, 1, 0, 0] (codeOf f89)) (body := subC [1, 0, 1, 1, 1, 1, 0, 1, 0, 1] (codeOf f89)) hx hg hs hcall
theorem s89_3 {f : RG} {fr : FuncId} {Q : QT} {nx0 : RG → List AObj → Prop} : W prog J 60 n0 fr (subC [1, 0, 1, 1, 1, 1, 0, 1, 0, 1, 0, 1, 1, 0, 0] (codeOf f89)) f h (thenK nx0 (contX pl89 prog J 60 n0 fr .go [0, 1, 1, 0] (subC [1, 0, 1, 1, 1, 1, 0, 1, 0, 1] (codeOf f89)) [] Q)) =
(aBin prog .lss 3 (f.r 41) (f.r 40) fun v1 =>
 cnd v1
((∃ B, aLoad false 1 (f.r 11) h fun v2 =>
 RdOk (some B) (ptrBlk (f.r 11)) ∧ (aIdx 1 v2 (f.r 41) fun v3 =>
 aLoad false 1 v3 h fun v4 =>
 RdOk (some B) (ptrBlk v3) ∧ (aIdxStr (f.r 14) (f.r 41) fun v5 =>
 aBin prog .eql 5 v5 (Value.int .u8 119) fun v6 =>
 Good prog J 126 [(f.r 15), v4, v6] h fun v7 h8 =>
 SameB (some B) h h8 ∧ (aExt v7 0 fun v9 =>
 aExt v7 1 fun v10 =>
 cnd v9
(aStore 1 (f.r 13) (Value.bool false) h8 fun h11 =>
 Q (.exit 2) (RG.p (RG.p (RG.p (RG.p (RG.p (RG.p (RG.p (RG.p (RG.p (RG.p (RG.p (RG.p (RG.p (RG.p (RG.p (RG.p (RG.p (RG.p (RG.p f 42 v1) 43 (f.r 41)) 16 (f.r 41)) 45 (f.r 15)) 46 v2) 47 (f.r 41)) 48 v3) 49 v4) 50 (f.r 14)) 51 (f.r 41)) 52 v5) 53 v6) 54 v7) 44 v7) 55 v9) 56 v10) 17 v9) 18 v10) 57 v9) h11)
(aBin prog .add 3 (f.r 41) (vint 1) fun v12 =>
 nx0 (RG.p (RG.p (RG.p (RG.p (RG.p (RG.p (RG.p (RG.p (RG.p (RG.p (RG.p (RG.p (RG.p (RG.p (RG.p (RG.p (RG.p (RG.p (RG.p (RG.p (RG.p f 42 v1) 43 (f.r 41)) 16 (f.r 41)) 45 (f.r 15)) 46 v2) 47 (f.r 41)) 48 v3) 49 v4) 50 (f.r 14)) 51 (f.r 41)) 52 v5) 53 v6) 54 v7) 44 v7) 55 v9) 56 v10) 17 v9) 18 v10) 57 v9) 58 v12) 41 v12) h8))))))
(Q .normal (RG.p f 42 v1) h)) := sub_eq pok89 ct89 (by kernel_rfl)
theorem l89_3 (hJ : Closed prog main J) {fr : FuncId} {Q : QT} {S : Type} (μ : S → Nat) (I : S → RG → List AObj → Prop) (hI : ∀ s f h, I s f h → heapOk h → n0 ≤ h.length → W prog J 60 n0 fr (subC [1, 0, 1, 1, 1, 1, 0, 1, 0, 1, 0, 1, 1, 0, 0] (codeOf f89)) f h (thenK (Nx n0 μ I s) (contX pl89 prog J 60 n0 fr .go [0, 1, 1, 0] (subC [1, 0, 1, 1, 1, 1, 0, 1, 0, 1] (codeOf f89)) [] Q)))
  {s : S} {f : RG} (hi : Gets n0 I s f h) : Sem J 60 n0 fr (subC [1, 0, 1, 1, 1, 1, 0, 1, 0, 1, 0, 1, 1, 0] (codeOf f89)) f h (contX pl89 prog J 60 n0 fr .go [0, 1, 1, 0] (subC [1, 0, 1, 1, 1, 1, 0, 1, 0, 1] (codeOf f89)) [] Q) :=
  loop_rule hJ mixed (b := subC [1, 0, 1, 1, 1, 1, 0, 1, 0, 1, 0, 1, 1, 0, 0] (codeOf f89)) (by kernel_rfl) μ I hI hi
theorem at98 : prog.funcs[98]? = some f98 := by kernel_rfl
theorem body98 : f98.body = some (codeOf f98) := by kernel_rfl
def pl98 : Plans := [(5, true, .take 0 (.take 1 (.take 2 (.take 3 (.take 4 (.take 5 (.take 6 (.take 7 (.take 8 (.last 9 false (.take 10 (.take 11 (.take 12 (.take 13 (.take 14 (.fin))))))))))))))))]
def ct98 : Cuts := .go
theorem pok98 : plansOk prog pl98 (codeOf f98) = true := by kernel_rfl
theorem e98 {a0 a1 a2 : Value} : W prog J 34 h.length 98 (codeOf f98) (RG.mk (regs [a0, a1, a2]) []) h (RetQ prog [.tmp 6] h.length K) =
(aBox a0 h fun v1 h2 =>
 aLoad true 6 v1 h2 fun v3 =>
 Good prog J 125 [v3] h2 fun v4 h5 =>
 aLenStr a2 fun v6 =>
 Sem J 34 h.length 98 (subC [1, 1, 0, 1, 0] (codeOf f98)) (RG.p (RG.p (RG.p (RG.p (RG.p (RG.p (RG.p (RG.p (RG.mk (regs [a0, a1, a2]) []) 3 v1) 6 (vint 0)) 11 v3) 12 v4) 7 v4) 13 a2) 14 v6) 15 (vint 0)) h5 (contX pl98 prog J 34 h.length 98 ct98 [1, 1, 0, 1, 0] (codeOf f98) [] (RetQ prog [.tmp 6] h.length K))) := top_eq pok98 ct98 (by kernel_rfl)
theorem g98 (hJ : Closed prog main J) {a0 a1 a2 : Value} (hs : heapOk h → W prog J 34 h.length 98 (codeOf f98) (RG.mk (regs [a0, a1, a2]) []) h (RetQ prog [.tmp 6] h.length K)) : Good prog J 98 [a0, a1, a2] h K :=
  good_of_W hJ mixed at98 body98 (by kernel_rfl) (Nat.le_of_ble_eq_true rfl) hs
theorem s98_1 {f : RG} {nx0 : RG → List AObj → Prop} : W prog J 34 n0 98 (subC [1, 1, 0, 1, 0, 0] (codeOf f98)) f h (thenK nx0 (contX pl98 prog J 34 n0 98 ct98 [1, 1, 0, 1, 0] (codeOf f98) [] (RetQ prog [.tmp 6] n0 K))) =
(aBin prog .lss 3 (f.r 15) (f.r 14) fun v1 =>
 cnd v1
(aIdx 1 (f.r 1) (f.r 15) fun v2 =>
 aLoad false 1 v2 h fun v3 =>
 aIdxStr (f.r 2) (f.r 15) fun v4 =>
 aBin prog .eql 5 v4 (Value.int .u8 119) fun v5 =>
 Good prog J 126 [(f.r 7), v3, v5] h fun v6 h7 =>
 aExt v6 0 fun v8 =>
 aExt v6 1 fun v9 =>
 cnd v8
(retL n0 K f.ds [(f.r 15)] h7)
(aBin prog .add 3 (f.r 15) (vint 1) fun v10 =>
 nx0 (RG.p (RG.p (RG.p (RG.p (RG.p (RG.p (RG.p (RG.p (RG.p (RG.p (RG.p (RG.p (RG.p (RG.p (RG.p (RG.p (RG.p (RG.p (RG.p (RG.p (RG.p f 16 v1) 17 (f.r 15)) 8 (f.r 15)) 19 (f.r 7)) 20 (f.r 1)) 21 (f.r 15)) 22 v2) 23 v3) 24 (f.r 2)) 25 (f.r 15)) 26 v4) 27 v5) 28 v6) 18 v6) 29 v8) 30 v9) 9 v8) 10 v9) 31 v8) 33 v10) 15 v10) h7))
(retL n0 K f.ds [(vint (-1))] h)) := sub_eq pok98 ct98 (by kernel_rfl)
theorem l98_1 (hJ : Closed prog main J) {S : Type} (μ : S → Nat) (I : S → RG → List AObj → Prop) (hI : ∀ s f h, I s f h → heapOk h → n0 ≤ h.length → W prog J 34 n0 98 (subC [1, 1, 0, 1, 0, 0] (codeOf f98)) f h (thenK (Nx n0 μ I s) (contX pl98 prog J 34 n0 98 ct98 [1, 1, 0, 1, 0] (codeOf f98) [] (RetQ prog [.tmp 6] n0 K))))
  {s : S} {f : RG} (hi : Gets n0 I s f h) : Sem J 34 n0 98 (subC [1, 1, 0, 1, 0] (codeOf f98)) f h (contX pl98 prog J 34 n0 98 ct98 [1, 1, 0, 1, 0] (codeOf f98) [] (RetQ prog [.tmp 6] n0 K)) :=
  loop_rule hJ mixed (b := subC [1, 1, 0, 1, 0, 0] (codeOf f98)) (by kernel_rfl) μ I hI hi
theorem at33 : prog.funcs[33]? = some f33 := by kernel_rfl
theorem body33 : f33.body = some (codeOf f33) := by kernel_rfl
def pl33 : Plans := [(1, false, .take 0 (.take 2 (.last 1 true (.last 3 true (.last 4 true (.last 5 true (.take 6 (.fin))))))))]
def ct33 : Cuts := .bin (.go) (.bin (.go) (.bin (.go) (.bin (.go) (.bin (.go) (.bin (.un (.un (.bin (.bin (.go) (.cut (.go))) (.go)))) (.go))))))
theorem pok33 : plansOk prog pl33 (codeOf f33) = true := by kernel_rfl
theorem e33 {a0 a1 a2 a3 : Value} : W prog J 48 h.length 33 (codeOf f33) (RG.mk (regs [a0, a1, a2, a3]) []) h (RetQ prog [.tmp 8, .tmp 9] h.length K) =
(aBox a0 h fun v1 h2 =>
 aBox a1 h2 fun v3 h4 =>
(∃ B, aLoad true 6 v1 h4 fun v5 =>
 RdOk (some B) (ptrBlk v1) ∧ (aLoad true 3 v3 h4 fun v6 =>
 RdOk (some B) (ptrBlk v3) ∧ (Good prog J 36 [v5] h4 fun v7 h8 =>
 SameB (some B) h4 h8 ∧ (Good prog J 72 [v6] h8 fun v9 h10 =>
 SameB (some B) h4 h10 ∧ ((((2 * 1 : Nat) ≤ 16777216 ∧ (2 : Nat) ≤ 16777216 ∧ List.length [(vint 0)] = 1) ∧ aFill (zrep [(vint 0)] 2) [(0, 1, v7), (1, 1, v9)] fun c11 =>
 aNewS 2 c11 h10 fun v12 h13 =>
 SameB (some B) h4 h13 ∧ (Good prog J 88 [v12] h13 fun v14 h15 =>
 SameB (some B) h4 h15 ∧ (aBin prog .neq 37 v14 (vint 0) fun v16 =>
 cnd v16
(retL h.length K [] [(vint 0), v14] h15)
(aOff v3 0 fun v17 =>
 aLoad false 1 v17 h15 fun v18 =>
 aBin prog .sub 3 v18 (vint 1) fun v19 =>
 Good prog J 73 [a2, (vint 0), v19] h15 fun v20 h21 =>
 aUn .not v20 fun v22 =>
 cnd v22
(retL h.length K [] [(vint 0), (vint 3)] h21)
(aOff v3 0 fun v23 =>
 aLoad false 1 v23 h21 fun v24 =>
 aBin prog .sub 3 v24 a2 fun v25 =>
 Good prog J 73 [a3, (vint 1), v25] h21 fun v26 h27 =>
 aUn .not v26 fun v28 =>
 cnd v28
(retL h.length K [] [(vint 0), (vint 1)] h27)
(Sem J 48 h.length 33 (subC [1, 1, 1, 1, 1, 0, 0] (codeOf f33)) (RG.p (RG.p (RG.p (RG.p (RG.p (RG.p (RG.p (RG.p (RG.p (RG.p (RG.p (RG.p (RG.p (RG.p (RG.p (RG.p (RG.p (RG.p (RG.p (RG.p (RG.p (RG.p (RG.p (RG.p (RG.p (RG.p (RG.p (RG.mk (regs [a0, a1, a2, a3]) []) 4 v1) 5 v3) 8 (vint 0)) 9 (vint 0)) 12 v5) 14 v6) 13 v7) 15 v9) 16 v12) 17 v14) 10 v14) 18 v14) 19 v16) 21 a2) 22 v17) 23 v18) 24 v19) 25 v20) 26 v22) 27 a3) 28 v23) 29 v24) 30 a2) 31 v25) 32 v26) 33 v28) 11 (vint 40)) h27 (contX pl33 prog J 48 h.length 33 ct33 [1, 1, 1, 1, 1, 0, 0] (codeOf f33) [] (RetQ prog [.tmp 8, .tmp 9] h.length K)))))))))))))) := top_eq pok33 ct33 (by kernel_rfl)
theorem g33 (hJ : Closed prog main J) {a0 a1 a2 a3 : Value} (hs : heapOk h → W prog J 48 h.length 33 (codeOf f33) (RG.mk (regs [a0, a1, a2, a3]) []) h (RetQ prog [.tmp 8, .tmp 9] h.length K)) : Good prog J 33 [a0, a1, a2, a3] h K :=
  good_of_W hJ mixed at33 body33 (by kernel_rfl) (Nat.le_of_ble_eq_true rfl) hs
theorem s33_1 {f : RG} {nx0 : RG → List AObj → Prop} : W prog J 48 n0 33 (subC [1, 1, 1, 1, 1, 0, 0, 0] (codeOf f33)) f h (thenK nx0 (contX pl33 prog J 48 n0 33 ct33 [1, 1, 1, 1, 1, 0, 0] (codeOf f33) [] (RetQ prog [.tmp 8, .tmp 9] n0 K))) =
(aBin prog .gtr 3 (f.r 11) (vint 0) fun v1 =>
 cnd v1
(aLoad true 6 (f.r 4) h fun v2 =>
 aLoad true 3 (f.r 5) h fun v3 =>
 Good prog J 89 [v2, v3, (f.r 11), (f.r 2), (f.r 3)] h fun v4 h5 =>
 aUn .not v4 fun v6 =>
 Hold (W prog J 48 n0 33 (subC [1, 1, 1, 1, 1, 0, 0, 0, 0, 1] (codeOf f33)) (RG.p (RG.p (RG.p (RG.p (RG.p (RG.p (RG.p (RG.p (RG.p (RG.p (RG.p (RG.p f 34 (f.r 11)) 35 v1) 36 v1) 36 (Value.bool true)) 37 v2) 38 v3) 39 (f.r 11)) 40 (f.r 2)) 41 (f.r 3)) 42 v4) 43 v6) 44 v6) h5 (contX pl33 prog J 48 n0 33 ct33 [1, 1, 1, 1, 1, 0, 0, 0, 0, 1] (codeOf f33) [nx0] (RetQ prog [.tmp 8, .tmp 9] n0 K))))
(Hold (W prog J 48 n0 33 (subC [1, 1, 1, 1, 1, 0, 0, 0, 0, 1] (codeOf f33)) (RG.p (RG.p (RG.p (RG.p (RG.p (RG.p (RG.p (RG.p (RG.p (RG.p (RG.p (RG.p f 34 (f.r 11)) 35 v1) 36 v1) 36 (Value.bool false)) 37 undef) 38 undef) 39 undef) 40 undef) 41 undef) 42 undef) 43 undef) 44 (Value.bool false)) h (contX pl33 prog J 48 n0 33 ct33 [1, 1, 1, 1, 1, 0, 0, 0, 0, 1] (codeOf f33) [nx0] (RetQ prog [.tmp 8, .tmp 9] n0 K))))) := sub_eq pok33 ct33 (by kernel_rfl)
theorem l33_1 (hJ : Closed prog main J) {S : Type} (μ : S → Nat) (I : S → RG → List AObj → Prop) (hI : ∀ s f h, I s f h → heapOk h → n0 ≤ h.length → W prog J 48 n0 33 (subC [1, 1, 1, 1, 1, 0, 0, 0] (codeOf f33)) f h (thenK (Nx n0 μ I s) (contX pl33 prog J 48 n0 33 ct33 [1, 1, 1, 1, 1, 0, 0] (codeOf f33) [] (RetQ prog [.tmp 8, .tmp 9] n0 K))))
  {s : S} {f : RG} (hi : Gets n0 I s f h) : Sem J 48 n0 33 (subC [1, 1, 1, 1, 1, 0, 0] (codeOf f33)) f h (contX pl33 prog J 48 n0 33 ct33 [1, 1, 1, 1, 1, 0, 0] (codeOf f33) [] (RetQ prog [.tmp 8, .tmp 9] n0 K)) :=
  loop_rule hJ mixed (b := subC [1, 1, 1, 1, 1, 0, 0, 0] (codeOf f33)) (by kernel_rfl) μ I hI hi
theorem s33_2 {f : RG} {nx0 : RG → List AObj → Prop} : W prog J 48 n0 33 (subC [1, 1, 1, 1, 1, 0, 0, 0, 0, 1] (codeOf f33)) f h (contX pl33 prog J 48 n0 33 ct33 [1, 1, 1, 1, 1, 0, 0, 0, 0, 1] (codeOf f33) [nx0] (RetQ prog [.tmp 8, .tmp 9] n0 K)) =
(cnd (f.r 44)
(aBin prog .sub 3 (f.r 11) (vint 1) fun v1 =>
 nx0 (RG.p (RG.p (RG.p f 45 (f.r 11)) 46 v1) 11 v1) h)
(retL n0 K f.ds [(f.r 11), (vint 0)] h)) := sub_eq pok33 ct33 (by kernel_rfl)
end
section
variable {main : Bool} {J : JT} {n0 : Nat} {h : List AObj} {K : Value → List AObj → Prop}
theorem at90 : prog.funcs[90]? = some f90 := by kernel_rfl
theorem body90 : f90.body = some (codeOf f90) := by kernel_rfl
def pl90 : Plans := []
def ct90 : Cuts := .go
theorem pok90 : plansOk prog pl90 (codeOf f90) = true := by kernel_rfl
theorem e90 {a0 : Value} : W prog J 4 h.length 90 (codeOf f90) (RG.mk (regs [a0]) []) h (RetQ prog [.tmp 2] h.length K) =
(aBox a0 h fun v1 h2 =>
 aMkF 127 [] [v1] fun v3 =>
 retL h.length K [] [v3] h2) := top_eq pok90 ct90 (by kernel_rfl)
theorem g90 (hJ : Closed prog main J) {a0 : Value} (hs : heapOk h → W prog J 4 h.length 90 (codeOf f90) (RG.mk (regs [a0]) []) h (RetQ prog [.tmp 2] h.length K)) : Good prog J 90 [a0] h K :=
  good_of_W hJ mixed at90 body90 (by kernel_rfl) (Nat.le_of_ble_eq_true rfl) hs
theorem at127 : prog.funcs[127]? = some f127 := by kernel_rfl
theorem body127 : f127.body = some (codeOf f127) := by kernel_rfl
def pl127 : Plans := [(3, false, .take 0 (.take 1 (.take 2 (.take 4 (.last 3 true (.last 5 true (.fin)))))))]
def ct127 : Cuts := .go
theorem pok127 : plansOk prog pl127 (codeOf f127) = true := by kernel_rfl
theorem e127 {a0 a1 : Value} : W prog J 11 h.length 127 (codeOf f127) (RG.mk (regs [a0, a1]) []) h (RetQ prog [] h.length K) =
(aBox a0 h fun v1 h2 =>
 aAlloc [(Value.nilFunc)] h2 fun v3 h4 =>
 aMkF 128 [] [a1, v1, v3] fun v5 =>
 aStore 1 v3 v5 h4 fun h6 =>
(∃ B, aLoad false 1 v3 h6 fun v7 =>
 RdOk (some B) (ptrBlk v3) ∧ (aOff a1 0 fun v8 =>
 aLoad false 1 v8 h6 fun v9 =>
 RdOk (some B) (ptrBlk v8) ∧ (aFill [(Value.int .u8 0), (vint 0)] [] fun c10 =>
((List.length [(Value.int .u8 0)] = 1 ∧ (1 : Nat) ≤ 1024) ∧ aMkS [(Value.int .u8 0)] (vint 0) v9 h6 fun v11 h12 =>
 SameB (some B) h6 h12 ∧ (callV prog (Good prog J) v7 [v11, (Value.agg ⟨c10⟩)] h12 fun v13 h14 =>
 SameB (some B) h6 h14 ∧ (retL h.length K [] [] h14))))))) := top_eq pok127 ct127 (by kernel_rfl)
theorem g127 (hJ : Closed prog main J) {a0 a1 : Value} (hs : heapOk h → W prog J 11 h.length 127 (codeOf f127) (RG.mk (regs [a0, a1]) []) h (RetQ prog [] h.length K)) : Good prog J 127 [a0, a1] h K :=
  good_of_W hJ mixed at127 body127 (by kernel_rfl) (Nat.le_of_ble_eq_true rfl) hs
theorem at128 : prog.funcs[128]? = some f128 := by kernel_rfl
theorem body128 : f128.body = some (codeOf f128) := by kernel_rfl
def pl128 : Plans := [(7, false, .take 0 (.take 1 (.take 2 (.take 3 (.take 4 (.take 7 (.last 5 true (.last 6 true (.last 8 false (.take 9 (.take 10 (.fin))))))))))))]
def ct128 : Cuts := .bin (.go) (.bin (.go) (.bin (.bin (.go) (.un (.un (.bin (.go) (.bin (.go) (.bin (.un (.bin (.go) (.bin (.go) (.bin (.go) (.cut (.go)))))) (.go))))))) (.go)))
theorem pok128 : plansOk prog pl128 (codeOf f128) = true := by kernel_rfl
theorem e128 {a0 a1 a2 a3 a4 : Value} : W prog J 44 h.length 128 (codeOf f128) (RG.mk (regs [a0, a1, a2, a3, a4]) []) h (RetQ prog [.tmp 7] h.length K) =
(aBox a1 h fun v1 h2 =>
 aLenS a0 fun v3 =>
 aOff a2 0 fun v4 =>
 aLoad false 1 v4 h2 fun v5 =>
 aBin prog .eql 3 v3 v5 fun v6 =>
 cnd v6
(aLoad false 1 a3 h2 fun v7 =>
 aB2S a0 h2 fun v8 =>
 callV prog (Good prog J) v7 [v8] h2 fun v9 h10 =>
 retL h.length K [] [v9] h10)
(aFill [(Value.int .u8 0), (Value.int .u8 0)] [(0, 1, (Value.int .u8 100)), (1, 1, (Value.int .u8 119))] fun c11 =>
 Sem J 44 h.length 128 (subC [1, 1, 0, 1, 0] (codeOf f128)) (RG.p (RG.p (RG.p (RG.p (RG.p (RG.p (RG.p (RG.p (RG.p (RG.mk (regs [a0, a1, a2, a3, a4]) []) 6 v1) 7 (Value.bool false)) 12 a0) 13 v3) 14 v4) 15 v5) 16 v6) 21 (Value.agg ⟨c11⟩)) 22 (vint 0)) h2 (contX pl128 prog J 44 h.length 128 ct128 [1, 1, 0, 1, 0] (codeOf f128) [] (RetQ prog [.tmp 7] h.length K)))) := top_eq pok128 ct128 (by kernel_rfl)
theorem g128 (hJ : Closed prog main J) {a0 a1 a2 a3 a4 : Value} (hs : heapOk h → W prog J 44 h.length 128 (codeOf f128) (RG.mk (regs [a0, a1, a2, a3, a4]) []) h (RetQ prog [.tmp 7] h.length K)) : Good prog J 128 [a0, a1, a2, a3, a4] h K :=
  good_of_W hJ mixed at128 body128 (by kernel_rfl) (Nat.le_of_ble_eq_true rfl) hs
theorem s128_1 {f : RG} {nx0 : RG → List AObj → Prop} : W prog J 44 n0 128 (subC [1, 1, 0, 1, 0, 0] (codeOf f128)) f h (thenK nx0 (contX pl128 prog J 44 n0 128 ct128 [1, 1, 0, 1, 0] (codeOf f128) [] (RetQ prog [.tmp 7] n0 K))) =
(aBin prog .lss 3 (f.r 22) (vint 2) fun v1 =>
 cnd v1
(aIdxV 2 1 false (f.r 21) (f.r 22) fun v2 =>
 aLoad true 2 (f.r 6) h fun v3 =>
 aLoad true 3 (f.r 2) h fun v4 =>
 Good prog J 117 [v3, v4, v2] h fun v5 h6 =>
 aExt v5 0 fun v7 =>
 aExt v5 1 fun v8 =>
 aAlloc [(Value.int .u8 0), (vint 0)] h6 fun v9 h10 =>
 aStore 2 v9 v7 h10 fun h11 =>
(∃ B, cnd v8
(aLoad false 1 (f.r 4) h11 fun v12 =>
 RdOk (some B) (ptrBlk (f.r 4)) ∧ (aLoad true 2 v9 h11 fun v13 =>
 RdOk (some B) (ptrBlk v9) ∧ ((((1 * 1 : Nat) ≤ 16777216 ∧ (1 : Nat) ≤ 16777216 ∧ List.length [(Value.int .u8 0)] = 1) ∧ aFill (zrep [(Value.int .u8 0)] 1) [(0, 1, v2)] fun c14 =>
 aNewS 1 c14 h11 fun v15 h16 =>
 SameB (some B) h11 h16 ∧ (((List.length [(Value.int .u8 0)] = 1 ∧ 0 < (1 : Nat) ∧ 0 < (1 : Nat) ∧ (1 : Nat) ≤ 1024) ∧ aApp 1 (f.r 0) v15 h16 fun v17 h18 =>
 SameB (some B) h11 h18 ∧ (callV prog (Good prog J) v12 [v17, v13] h18 fun v19 h20 =>
 aUn .not v19 fun v21 =>
 Hold (W prog J 44 n0 128 (subC [1, 1, 0, 1, 0, 0, 1, 1, 0, 0, 1, 1, 1] (codeOf f128)) (RG.p (RG.p (RG.p (RG.p (RG.p (RG.p (RG.p (RG.p (RG.p (RG.p (RG.p (RG.p (RG.p (RG.p (RG.p (RG.p (RG.p (RG.p (RG.p (RG.p (RG.p (RG.p (RG.p (RG.p f 23 v1) 24 v2) 9 v2) 26 v3) 27 v4) 28 v2) 29 v5) 25 v5) 30 v7) 31 v8) 10 v9) 11 v8) 32 v8) 33 v8) 33 (Value.bool true)) 34 v12) 35 (f.r 0)) 36 v2) 39 v13) 37 v15) 38 v17) 40 v19) 41 v21) 42 v21) h20 (contX pl128 prog J 44 n0 128 ct128 [1, 1, 0, 1, 0, 0, 1, 1, 0, 0, 1, 1, 1] (codeOf f128) [nx0] (RetQ prog [.tmp 7] n0 K))))))))))
(Hold (W prog J 44 n0 128 (subC [1, 1, 0, 1, 0, 0, 1, 1, 0, 0, 1, 1, 1] (codeOf f128)) (RG.p (RG.p (RG.p (RG.p (RG.p (RG.p (RG.p (RG.p (RG.p (RG.p (RG.p (RG.p (RG.p (RG.p (RG.p (RG.p (RG.p (RG.p (RG.p (RG.p (RG.p (RG.p (RG.p (RG.p f 23 v1) 24 v2) 9 v2) 26 v3) 27 v4) 28 v2) 29 v5) 25 v5) 30 v7) 31 v8) 10 v9) 11 v8) 32 v8) 33 v8) 33 (Value.bool false)) 34 undef) 35 undef) 36 undef) 39 undef) 37 undef) 38 undef) 40 undef) 41 undef) 42 (Value.bool false)) h11 (contX pl128 prog J 44 n0 128 ct128 [1, 1, 0, 1, 0, 0, 1, 1, 0, 0, 1, 1, 1] (codeOf f128) [nx0] (RetQ prog [.tmp 7] n0 K))))))
(retL n0 K f.ds [(Value.bool true)] h)) := sub_eq pok128 ct128 (by kernel_rfl)
theorem l128_1 (hJ : Closed prog main J) {S : Type} (μ : S → Nat) (I : S → RG → List AObj → Prop) (hI : ∀ s f h, I s f h → heapOk h → n0 ≤ h.length → W prog J 44 n0 128 (subC [1, 1, 0, 1, 0, 0] (codeOf f128)) f h (thenK (Nx n0 μ I s) (contX pl128 prog J 44 n0 128 ct128 [1, 1, 0, 1, 0] (codeOf f128) [] (RetQ prog [.tmp 7] n0 K))))
  {s : S} {f : RG} (hi : Gets n0 I s f h) : Sem J 44 n0 128 (subC [1, 1, 0, 1, 0] (codeOf f128)) f h (contX pl128 prog J 44 n0 128 ct128 [1, 1, 0, 1, 0] (codeOf f128) [] (RetQ prog [.tmp 7] n0 K)) :=
  loop_rule hJ mixed (b := subC [1, 1, 0, 1, 0, 0] (codeOf f128)) (by kernel_rfl) μ I hI hi
theorem s128_2 {f : RG} {nx0 : RG → List AObj → Prop} : W prog J 44 n0 128 (subC [1, 1, 0, 1, 0, 0, 1, 1, 0, 0, 1, 1, 1] (codeOf f128)) f h (contX pl128 prog J 44 n0 128 ct128 [1, 1, 0, 1, 0, 0, 1, 1, 0, 0, 1, 1, 1] (codeOf f128) [nx0] (RetQ prog [.tmp 7] n0 K)) =
(cnd (f.r 42)
(retL n0 K f.ds [(Value.bool false)] h)
(aBin prog .add 3 (f.r 22) (vint 1) fun v1 =>
 nx0 (RG.p (RG.p f 43 v1) 22 v1) h)) := sub_eq pok128 ct128 (by kernel_rfl)
end
end Go.Proofs.Ythnccaajpdnndaa
namespace Go.Proofs.Ythnccaajpdnndaa
open Go.Conc Go.Proofs.Try
set_option maxRecDepth 100000
def bV (b : UInt8) : Value := .int .u8 b.toNat
def strV (w : List UInt8) : Value := .string ⟨⟨w⟩⟩
theorem kn_bV (w : List UInt8) : kn (w.map bV) = true := by
  simp [kn, kn1, bV]
theorem bytes_bV : ∀ w : List UInt8, bytesOf (w.map bV) = some w
  | [] => rfl
  | b :: w => by
    show (match byteOf (bV b), bytesOf (w.map bV) with
      | some b, some bs => some (b :: bs)
      | _, _ => none) = _
    rw [bytes_bV w]
    have : byteOf (bV b) = some b := by
      show some (UInt8.ofNat ((b.toNat : Nat) : Int).toNat) = some b
      rw [Int.toNat_natCast, UInt8.ofNat_toNat]
    rw [this]
def growF (ps py pg : Nat) : Value := .func (.func 128) ⟨[]⟩ ⟨[ptr ps 0, ptr py 0, ptr pg 0]⟩
def TillZ (n : Nat) (O : List Nat) (h H : List AObj) : Prop := h.length ≤ H.length ∧ ∀ i, i < n ∨ i ∈ O → H[i]? = h[i]?
structure Rnd (J : JT) (L : List (List UInt8)) (y : Value) (X : List Nat) (Hs : List AObj) (I : Nat → List Nat → List AObj → Prop) (St : List AObj → Prop) : Prop where
  hX : ∀ x ∈ X, x < Hs.length
  hO : ∀ {k O H'}, I k O H' → ∀ x ∈ O, x < H'.length
  hI : ∀ {k O H1 H2}, TillZ Hs.length O H1 H2 → I k O H1 → I k O H2
  round : ∀ (k : Nat) (w : List UInt8) (O : List Nat) (H1 : List AObj) (Q : Value → List AObj → Prop), L[k]? = some w → SameX X Hs H1 → (∀ x ∈ O, Hs.length ≤ x) → I k O H1 → (∀ O' H2, SameX (X ++ O) H1 H2 → (∀ x ∈ O', x ∈ O ∨ H1.length ≤ x) → I (k + 1) O' H2 → Q (.bool true) H2) → (∀ H2, SameX (X ++ O) H1 H2 → St H2 → Q (.bool false) H2) → callV prog (Good prog J) y [strV w] H1 Q
section
variable {main : Bool} {J : JT} {h H : List AObj} {K : Value → List AObj → Prop} {KV : Value → Prop} {HL : List AObj → Prop} {n0 : Nat}
theorem strI {b n m : Nat} {cs : List Value} {wr : Bool} {sz : Nat} {w : List UInt8} (hb : H[b]? = some (.cells cs wr sz)) (hn : w.length = n) (ht : cs.take n = w.map bV) (hk : KV (strV w)) : aB2S (.slice (some ⟨b, 0, none⟩) n m) H KV := by
  unfold aB2S
  simp only [hb]
  have hl : n ≤ cs.length := by
    have := congrArg List.length ht
    simp at this
    omega
  refine ⟨by omega, ?_⟩
  rw [List.drop_zero, ht, bytes_bV]
  exact hk
theorem appB {b k m : Nat} {cs : List Value} {v y : Value} (hb : H[b]? = some (.cells cs true 0)) (hl : cs.length = m) (hk : k < m) (hm : m < 1000) (hc : kn (cs.take k) = true) (hy : Sli H y 1 1 [v])
    (hK : ∀ H', SameX [b] H H' → H'[b]? = some (.cells (cs.set k v) true 0) → H'.length = H.length → K (.slice (some ⟨b, 0, none⟩) (k + 1) m) H') : aApp 1 (.slice (some ⟨b, 0, none⟩) k m) y H K := appIn hb hl hk hm hc hy hK
theorem good128 (hJ : Closed prog main J) {s : SkyR} {L : List (List UInt8)} {y : Value} {X : List Nat} {Hs : List AObj} {I : Nat → List Nat → List AObj → Prop} {St : List AObj → Prop} (R : Rnd J L y X Hs I St) (ky : y.cells = #[y] ∧ one y = true ∧ kn1 y = true)
    {ps py pg pb m : Nat} (hm : m ≤ 8) (hdays : s.days = (m : Int)) (cs0 : Hs[ps]? = some (.cells s.cells true 0)) (nX : ps ∉ X) (n1 : Hs.length ≤ py) (n2 : Hs.length ≤ pg) (n3 : Hs.length ≤ pb) (d1 : pb ≠ py) (d2 : pb ≠ pg) :
    ∀ (left : Nat) (w : List UInt8) (x : Spl) (k : Nat) (O : List Nat) (cs : List Value) {H : List AObj} {K : Value → List AObj → Prop},
    w.length + left = m → 0 ≤ x.2 ∧ x.2 ≤ 100 + w.length → (∀ j, j < (growB s left w x).length → L[k + j]? = (growB s left w x)[j]?) →
    SameX X Hs H → H[py]? = some (.cells [y] true 0) → H[pg]? = some (.cells [growF ps py pg] true 0) → H[pb]? = some (.cells cs true 0) → cs.length = m → cs.take w.length = w.map bV →
    I k O H → (∀ z ∈ O, Hs.length ≤ z ∧ z ≠ py ∧ z ≠ pg ∧ z ≠ pb) →
    (∀ H' O' cs', SameX (pb :: (X ++ O)) H H' → (∀ z ∈ O', z ∈ O ∨ H.length ≤ z) → H'[pb]? = some (.cells cs' true 0) → cs'.length = m → cs'.take w.length = w.map bV → I (k + (growB s left w x).length) O' H' → K (.bool true) H') →
    (∀ H', SameX (pb :: (X ++ O)) H H' → St H' → K (.bool false) H') →
    Good prog J 128 [.slice (some ⟨pb, 0, none⟩) w.length m, .agg ⟨spC x⟩, ptr ps 0, ptr py 0, ptr pg 0] H K
  | 0, w, x, k, O, cs, H, K, hwl, hx, hL, S0, cy, cg, cb, hcl, htk, ik, hO, hK1, hK2 => by
    refine g128 hJ fun ok => ?_
    rw [e128]
    refine qBox (l := spC x) rfl fun H1 p1 e1 S1 c1 l1 => ?_
    have lps := lt_of_get cs0
    have cps := S0.get cs0 nX
    have hs : Sli H1 (.slice (some ⟨pb, 0, none⟩) w.length m) 1 w.length (w.map bV) := ⟨_, _, rfl, ⟨by simp, kn_bV w⟩, .inr ⟨pb, 0, rfl, .inr ⟨cs, true, 0, S1.get cb (by simp), by simpa using htk⟩⟩⟩
    refine lenI hs (offI (ldI (v := vint s.days) (S1.get cps (by simp)) rfl rfl (eqlI (cndI (fun _ => ?_) fun hne => absurd (by rw [hdays]; congr 1) hne))))
    refine ldI (v := y) (S1.get cy (by simp)) rfl ky.2.2 (strI (S1.get cb (by simp)) rfl htk ?_)
    have hS0 := S0.1
    have hlH := lt_of_get cb
    have u : ∀ {H2 : List AObj}, SameX (X ++ O) H1 H2 → SameX (pb :: (X ++ O)) H H2 := fun S => (S1.weak0.trans (S.weak fun x hx => List.mem_cons_of_mem _ hx))
    have n4 : pb ∉ X ++ O := by
      intro hz
      rcases List.mem_append.1 hz with hz | hz
      · have := R.hX _ hz
        omega
      · exact (hO _ hz).2.2.2 rfl
    refine R.round k w O H1 _ (by have := hL 0 (by simp [growB]); simpa [growB] using this) (S0.thru S1.weak0 (Y := X) fun _ h => .inl h) (fun z hz => (hO z hz).1) (R.hI ⟨S1.1, fun i hi => S1.2 i (by rcases hi with hi | hi; omega; exact R.hO ik i hi) (by simp)⟩ ik) (fun O' H2 S2 hO' i2 => ?_) fun H2 S2 st => ?_
    · exact retL_same (by simp [unk]) (hK1 H2 O' cs (u S2) (fun z hz => (hO' z hz).imp id fun h => by have := S1.1; omega) (S2.get (S1.get cb (by simp)) n4) hcl htk i2)
    · exact retL_same (by simp [unk]) (hK2 H2 (u S2) st)
  | left + 1, w, x, k, O, cs, H, K, hwl, hx, hL, S0, cy, cg, cb, hcl, htk, ik, hO, hK1, hK2 => by
    refine g128 hJ fun ok => ?_
    rw [e128]
    have hfz : (1000 : Nat) < fz := by decide
    refine qBox (l := spC x) rfl fun Ha p1 e1 S1 c1 l1 => ?_
    have lps := lt_of_get cs0
    have hs : Sli Ha (.slice (some ⟨pb, 0, none⟩) w.length m) 1 w.length (w.map bV) := ⟨_, _, rfl, ⟨by simp, kn_bV w⟩, .inr ⟨pb, 0, rfl, .inr ⟨cs, true, 0, S1.get cb (by simp), by simpa using htk⟩⟩⟩
    have hS0 := S0.1
    have lpb := lt_of_get cb
    have lpy := lt_of_get cy
    have lpg := lt_of_get cg
    refine lenI hs (offI (ldI (v := vint s.days) (S1.get (S0.get cs0 nX) (by simp)) rfl rfl (eqlI (cndI (fun he => absurd he (by rw [hdays]; omega)) fun _ => ?_))))
    refine fillO (l := [bV 100]) rfl rfl rfl (by decide) (fillO (l := [bV 119]) rfl rfl rfl (by rw [wrAt_length]; decide) (fillI ?_))
    -- what both letters come to
    let A : List (List UInt8) := if nextOk s x 100 = true then growB s left (w ++ [100]) (nextX x 100) else []
    let B : List (List UInt8) := if nextOk s x 119 = true then growB s left (w ++ [119]) (nextX x 119) else []
    have hAB : growB s (left + 1) w x = A ++ B := rfl
    let off : Nat → Nat := fun i => if i = 0 then 0 else if i = 1 then A.length else A.length + B.length
    refine l128_1 hJ (fun i : Nat => 2 - i) (fun i F H' => ∃ O' cs', i ≤ 2 ∧ SameX (pb :: (X ++ O)) Ha H' ∧ (∀ z ∈ O', z ∈ O ∨ Ha.length ≤ z) ∧ H'[pb]? = some (.cells cs' true 0) ∧ cs'.length = m ∧ cs'.take w.length = w.map bV ∧ I (k + off i) O' H' ∧
        F.ds = [] ∧ F.r 0 = .slice (some ⟨pb, 0, none⟩) w.length m ∧ F.r 2 = ptr ps 0 ∧ F.r 4 = ptr pg 0 ∧ F.r 6 = ptr p1 0 ∧ F.r 21 = .agg ⟨[bV 100, bV 119]⟩ ∧ F.r 22 = vint (i : Nat)) ?_ (s := 0)
      (.inl ⟨O, cs, by omega, SameX.refl, fun z hz => .inl hz, S1.get cb (by simp), hcl, htk, R.hI ⟨S1.1, fun i hi => S1.2 i (by rcases hi with hi | hi; omega; exact R.hO ik i hi) (by simp)⟩ ik, rfl, rfl, rfl, rfl, rfl, rfl, rfl⟩)
    rintro i F Hc ⟨O1, cs1, hi, Sc, hO1, cb1, hcl1, htk1, ik1, ds, r0, r2, r4, r6, r21, r22⟩ okc hnc
    rw [s128_1, r0, r2, r4, r6, r21, r22, ds]
    have hSc := Sc.1
    have hOo : ∀ z ∈ O1, Hs.length ≤ z ∧ z ≠ py ∧ z ≠ pg ∧ z ≠ pb ∧ z ≠ p1 := fun z hz => by
      rcases hO1 z hz with h | h
      · have := hO z h
        have := R.hO ik z h
        omega
      · omega
    have notin : ∀ q, q < Hs.length → q ∉ X → q ∉ pb :: (X ++ O) := fun q h1 h2 hm' => by
      rcases List.mem_cons.1 hm' with hz | hz
      · omega
      · rcases List.mem_append.1 hz with hz | hz
        · exact h2 hz
        · have := (hO _ hz).1
          omega
    have notin2 : ∀ q, Hs.length ≤ q → q ≠ pb → q ∉ O → q ∉ pb :: (X ++ O) := fun q h1 h2 h3 hm' => by
      rcases List.mem_cons.1 hm' with hz | hz
      · exact h2 hz
      · rcases List.mem_append.1 hz with hz | hz
        · have := R.hX _ hz
          omega
        · exact h3 hz
    have cpsc := Sc.get (S1.get (S0.get cs0 nX) (by simp)) (notin ps lps nX)
    have cyc := Sc.get (S1.get cy (by simp)) (notin2 py n1 (by omega) (fun hz => (hO _ hz).2.1 rfl))
    have cgc := Sc.get (S1.get cg (by simp)) (notin2 pg n2 (by omega) (fun hz => (hO _ hz).2.2.1 rfl))
    have c1c := Sc.get c1 (notin2 p1 (by omega) (by omega) (fun hz => by have := R.hO ik _ hz; omega))
    have T1 : SameX (pb :: (X ++ O)) H Hc := (S1.weak0).trans Sc
    refine lssI (cndI (fun hlt => ?_) fun hge => ?_)
    rotate_left
    · have : i = 2 := by omega
      subst this
      refine retL_same (by simp [unk]) (hK1 Hc O1 cs1 T1 (fun z hz => (hO1 z hz).imp id fun h => by have := S1.1; omega) cb1 hcl1 htk1 ?_)
      rw [hAB, List.length_append]
      exact ik1
    have hi2 : i < 2 := by omega
    obtain ⟨c, hc, hcv⟩ : ∃ c : UInt8, (c = 100 ∧ i = 0 ∨ c = 119 ∧ i = 1) ∧ [bV 100, bV 119][i]? = some (bV c) := by
      rcases (by omega : i = 0 ∨ i = 1) with h | h
      · exact ⟨100, .inl ⟨rfl, h⟩, by rw [h]; rfl⟩
      · exact ⟨119, .inr ⟨rfl, h⟩, by rw [h]; rfl⟩
    -- the part of this letter
    let P : List (List UInt8) := if nextOk s x c = true then growB s left (w ++ [c]) (nextX x c) else []
    have hP : off (i + 1) = off i + P.length ∧ ∀ j, j < P.length → L[k + off i + j]? = P[j]? := by
      rcases hc with ⟨h1, h2⟩ | ⟨h1, h2⟩
      · subst h1 h2
        refine ⟨by show A.length = 0 + A.length; omega, fun j hj => ?_⟩
        have hj : j < A.length := hj
        have := hL j (by rw [hAB, List.length_append]; omega)
        rw [hAB, List.getElem?_append_left hj] at this
        exact this
      · subst h1 h2
        refine ⟨rfl, fun j hj => ?_⟩
        have hj : j < B.length := hj
        have := hL (A.length + j) (by rw [hAB, List.length_append]; omega)
        rw [hAB, List.getElem?_append_right (by omega), Nat.add_sub_cancel_left] at this
        show L[k + A.length + j]? = B[j]?
        rw [Nat.add_assoc]
        exact this
    have hidx : aIdxV 2 1 false (.agg ⟨[bV 100, bV 119]⟩) (vint (i : Nat)) = fun KI => KI (bV c) := by
      funext KI
      rcases hc with ⟨h1, h2⟩ | ⟨h1, h2⟩ <;> subst h1 h2 <;> exact propext ⟨fun h => h.2, fun h => ⟨⟨by decide, by decide⟩, h⟩⟩
    rw [hidx]
    refine load_part (c := spC x) c1c (by simp [spC]) rfl rfl (load_part (c := s.cells) cpsc (by simp [SkyR.cells]) rfl rfl ?_)
    refine good117 hJ (by omega) fun H2 S2 => ext0 (ext1 (qAl fun H3 p9 e3 S3 c3 l3 => qStA (c := spC (nextX x c)) c3 rfl rfl rfl fun H4 S4 c4 l4 => ?_))
    have hS2 := S2.1
    have T4 : SameX [] Hc H4 := (S2.trans S3).thru S4 (by simp; omega)
    have hT4 := T4.1
    have ik4 : I (k + off i) O1 H4 := R.hI ⟨T4.1, fun j hj => T4.2 j (by rcases hj with hj | hj; omega; exact R.hO ik1 j hj) (by simp)⟩ ik1
    -- behind this letter
    have next : ∀ {F' : RG} {H5 : List AObj} {O5 : List Nat} {cs5 : List Value}, F'.ds = [] → F'.r 0 = .slice (some ⟨pb, 0, none⟩) w.length m → F'.r 2 = ptr ps 0 → F'.r 4 = ptr pg 0 → F'.r 6 = ptr p1 0 → F'.r 21 = .agg ⟨[bV 100, bV 119]⟩ → F'.r 22 = vint (i : Nat) → F'.r 42 = .bool false →
        SameX (pb :: (X ++ O1)) H4 H5 → (∀ z ∈ O5, z ∈ O1 ∨ H4.length ≤ z) → H5[pb]? = some (.cells cs5 true 0) → cs5.length = m → cs5.take w.length = w.map bV → I (k + off (i + 1)) O5 H5 →
        W prog J 44 H.length 128 (subC [1, 1, 0, 1, 0, 0, 1, 1, 0, 0, 1, 1, 1] (codeOf f128)) F' H5 (contX pl128 prog J 44 H.length 128 ct128 [1, 1, 0, 1, 0, 0, 1, 1, 0, 0, 1, 1, 1] (codeOf f128) [Nx H.length (fun i : Nat => 2 - i) (fun i F H' => ∃ O' cs', i ≤ 2 ∧ SameX (pb :: (X ++ O)) Ha H' ∧ (∀ z ∈ O', z ∈ O ∨ Ha.length ≤ z) ∧ H'[pb]? = some (.cells cs' true 0) ∧ cs'.length = m ∧ cs'.take w.length = w.map bV ∧ I (k + off i) O' H' ∧
        F.ds = [] ∧ F.r 0 = .slice (some ⟨pb, 0, none⟩) w.length m ∧ F.r 2 = ptr ps 0 ∧ F.r 4 = ptr pg 0 ∧ F.r 6 = ptr p1 0 ∧ F.r 21 = .agg ⟨[bV 100, bV 119]⟩ ∧ F.r 22 = vint (i : Nat)) i] (RetQ prog [.tmp 7] H.length K)) := by
      intro F' H5 O5 cs5 ds r0 r2 r4 r6 r21 r22 r42 S5 hO5 cb5 hcl5 htk5 ik5
      rw [s128_2, r42, r22]
      refine cnd_false.2 (addI (by omega) ⟨i + 1, by dsimp only; omega, .inl ⟨O5, cs5, by omega, ?_, fun z hz => ?_, cb5, hcl5, htk5, ik5, ds, r0, r2, r4, r6, r21, by show vint _ = vint _; congr 1⟩⟩)
      · refine (Sc.thru (T4.weak0 (Y := pb :: (X ++ O))) fun _ h => .inl h).thru S5 fun z hz => ?_
        rcases List.mem_cons.1 hz with hz | hz
        · exact .inl (by rw [hz]; exact List.mem_cons_self)
        · rcases List.mem_append.1 hz with hz | hz
          · exact .inl (List.mem_cons_of_mem _ (List.mem_append_left _ hz))
          · rcases hO1 z hz with h | h
            · exact .inl (List.mem_cons_of_mem _ (List.mem_append_right _ h))
            · exact .inr h
      · rcases hO5 z hz with h | h
        · exact hO1 z h
        · exact .inr (by omega)
    have cb4 := T4.get cb1 (by simp)
    have cg4 := T4.get cgc (by simp)
    have lg4 := lt_of_get cg4
    have l9 : p9 < H4.length := lt_of_get c4
    refine ⟨[pg, p9], cndB (fun hyes => ?_) fun hno => hold.2 ?_⟩
    rotate_left
    · have hP0 : P.length = 0 := by show (if nextOk s x c = true then _ else []).length = 0; rw [hno]; rfl
      refine next ds r0 r2 r4 r6 r21 r22 rfl SameX.refl (fun z hz => .inl hz) cb4 hcl1 htk1 ?_
      rw [hP.1, hP0]
      exact ik4
    have hPe : P = growB s left (w ++ [c]) (nextX x c) := by show (if nextOk s x c = true then _ else []) = _; rw [if_pos hyes]
    refine ldI (v := growF ps py pg) cg4 rfl rfl ⟨by simp [RdOk, ptrBlk], load_part (c := spC (nextX x c)) c4 (by simp [spC]) rfl rfl ⟨by simp [RdOk, ptrBlk], ?_⟩⟩
    refine ⟨by decide, fillO (l := [bV c]) rfl rfl rfl (by decide) (fillI (qNew fun H5 p5 e5 S5 c5 l5 => ⟨sbTwo S5 lg4 l9 (by simp) (by simp), by decide, ?_⟩))⟩
    have c5 : H5[p5]? = some (.cells [bV c] true 0) := c5
    have y5 := ownX_sli (ownX_new (s := 1) (n := 1) (l := [bV c]) c5 rfl rfl)
    refine appB (S5.get cb4 (by simp)) hcl1 (by omega) (by omega) (by rw [htk1]; exact kn_bV w) y5 fun H6 S6 c6 l6 => ?_
    have T6 : SameX [pb] H4 H6 := S5.weak0.trans S6
    have hT6 := T6.1
    refine ⟨sbTwo T6 lg4 l9 (by simp; omega) (by simp; omega), callCz (by kernel_rfl) ?_⟩
    have hset : (cs1.set w.length (bV c)).take (w.length + 1) = (w ++ [c]).map bV := by
      rw [List.take_add_one, List.take_set_of_le (Nat.le_refl _), htk1, List.getElem?_set_self (by omega)]
      simp
    have hlen : (w ++ [c]).length = w.length + 1 := by simp
    have U6 : SameX [pb] Hc H6 := (T4.weak0).trans T6
    have nx2 : 0 ≤ (nextX x c).2 ∧ (nextX x c).2 ≤ 100 + (w.length + 1 : Nat) := by
      unfold nextX
      split
      · exact ⟨by dsimp only; omega, by dsimp only; omega⟩
      · exact ⟨by dsimp only; omega, by dsimp only; omega⟩
    rw [← hlen]
    refine good128 hJ R ky hm hdays cs0 nX n1 n2 n3 d1 d2 left (w ++ [c]) (nextX x c) (k + off i) O1 (cs1.set w.length (bV c)) (by rw [hlen]; omega) (by rw [hlen]; exact nx2) (by rw [← hPe]; exact hP.2)
      ?_ (U6.get cyc (by simp; omega)) (U6.get cgc (by simp; omega)) c6 (by rw [List.length_set, hcl1]) (by rw [hlen]; exact hset)
      (R.hI ⟨by omega, fun j hj => T6.2 j (by rcases hj with hj | hj; omega; exact R.hO ik4 j hj) (by
        rcases hj with hj | hj
        · simp
          omega
        · have := hOo j hj
          simp
          omega)⟩ ik4) (fun z hz => by have := hOo z hz; omega) (fun H7 O7 cs7 S7 hO7 c7 hc7 ht7 i7 => ?_) fun H7 S7 st => ?_
    · refine (S0.thru T1 fun z hz => ?_).thru U6 (by simp; omega)
      rcases List.mem_cons.1 hz with hz | hz
      · exact .inr (by omega)
      · rcases List.mem_append.1 hz with hz | hz
        · exact .inl hz
        · exact .inr (hO z hz).1
    · have S47 : SameX (pb :: (X ++ O1)) H4 H7 := (T6.weak (by simp)).trans S7
      have tk7 : cs7.take w.length = w.map bV := by
        have : (cs7.take (w.length + 1)).take w.length = cs7.take w.length := by rw [List.take_take, Nat.min_eq_left (by omega)]
        rw [← this, ← hlen, ht7, List.map_append]
        simp
      refine notI (hold.2 (next ds r0 r2 r4 r6 r21 r22 rfl S47 (fun z hz => (hO7 z hz).imp id fun h => by omega) c7 hc7 tk7 ?_))
      rw [hP.1, hPe, ← Nat.add_assoc]
      exact i7
    · refine notI (hold.2 ?_)
      rw [s128_2]
      show cnd (.bool true) _ _
      refine cnd_true.2 ?_
      show retL H.length K F.ds [.bool false] H7
      rw [ds]
      have S47 : SameX (pb :: (X ++ O1)) Hc H7 := (U6.weak (by simp)).trans S7
      refine retL_same (by simp [unk]) (hK2 H7 (T1.thru S47 fun z hz => ?_) st)
      rcases List.mem_cons.1 hz with hz | hz
      · exact .inl (by rw [hz]; exact List.mem_cons_self)
      · rcases List.mem_append.1 hz with hz | hz
        · exact .inl (List.mem_cons_of_mem _ (List.mem_append_left _ hz))
        · rcases hO1 z hz with h | h
          · exact .inl (List.mem_cons_of_mem _ (List.mem_append_right _ h))
          · exact .inr (by have := S1.1; omega)
theorem good90 (hJ : Closed prog main J) {s : SkyR} (hK : ∀ H' ps, SameX [] H H' → H'[ps]? = some (.cells s.cells true 0) → H.length ≤ ps → K (.func (.func 127) ⟨[]⟩ ⟨[ptr ps 0]⟩) H') : Good prog J 90 [.agg ⟨s.cells⟩] H K := by
  refine g90 hJ fun ok => ?_
  rw [e90]
  exact qBox (l := s.cells) rfl fun H1 p1 e1 S1 c1 l1 => ⟨rfl, retL_same (by simp [unk]) (hK H1 p1 S1 c1 (by omega))⟩
theorem good127 (hJ : Closed prog main J) {s : SkyR} (f : skyOk s) {y : Value} {X : List Nat} {ps : Nat} {I : Nat → List Nat → List AObj → Prop} {St : List AObj → Prop} (R : Rnd J (rainsB s) y X H I St) (ky : y.cells = #[y] ∧ one y = true ∧ kn1 y = true)
    (cs0 : H[ps]? = some (.cells s.cells true 0)) (nX : ps ∉ X) (h0 : I 0 [] H)
    (hK1 : ∀ H2 O, SameX X H H2 → (∀ z ∈ O, H.length ≤ z) → I (rainsB s).length O H2 → K (.tuple ⟨[]⟩) H2) (hK2 : ∀ H2, SameX X H H2 → St H2 → K (.tuple ⟨[]⟩) H2) : Good prog J 127 [y, ptr ps 0] H K := by
  refine g127 hJ fun ok => ?_
  rw [e127]
  obtain ⟨f1, f2, f3⟩ := f
  have lps := lt_of_get cs0
  refine qBox1 ky.1 ky.2.1 fun H1 py e1 S1 c1 l1 => qAl fun H2 pg e2 S2 c2 l2 => ⟨rfl, qSt c2 (by simp) rfl rfl fun H3 S3 c3 l3 => ?_⟩
  have c3 : H3[pg]? = some (.cells [growF ps py pg] true 0) := c3
  have T3 : SameX [] H H3 := (S1.trans S2).thru S3 (by simp; omega)
  have cy3 := S3.get (S2.get c1 (by simp)) (by simp; omega)
  have cs3 := T3.get cs0 (by simp)
  have lg := lt_of_get c3
  have ls3 := lt_of_get cs3
  refine ⟨[pg, ps], ldI (v := growF ps py pg) c3 rfl rfl ⟨by simp [RdOk, ptrBlk], offI (ldI (v := vint s.days) cs3 rfl rfl ⟨by simp [RdOk, ptrBlk], fillI ⟨by decide, ?_⟩⟩)⟩⟩
  have hrm : (2000 : Nat) < room := by decide
  refine ⟨by omega, by omega, by omega, ?_⟩
  obtain ⟨m, hm⟩ := Int.eq_ofNat_of_zero_le (by omega : (0 : Int) ≤ s.days)
  have em : s.days.toNat = m := by omega
  rw [em]
  generalize hH4 : H3 ++ [AObj.cells (zrep [Value.int .u8 0] m) true 0] = H4
  have c4 : H4[H3.length]? = some (.cells (zrep [Value.int .u8 0] m) true 0) := by rw [← hH4]; simp
  have S4 : SameX [] H3 H4 := by rw [← hH4]; exact SameX.refl.app
  have zl : ∀ n, (zrep [Value.int .u8 0] n).length = n := by
    intro n
    induction n with
    | zero => rfl
    | succ n ih => show ([Value.int .u8 0] ++ zrep [Value.int .u8 0] n).length = n + 1; rw [List.length_append, ih]; simp; omega
  have T4 : SameX [] H H4 := T3.trans S4
  refine ⟨sbTwo S4 lg ls3 (by simp) (by simp), callCz (by kernel_rfl) ?_⟩
  have hT3 := T3.1
  have hr : rainsB s = growB s m [] (0, 0) := by unfold rainsB; rw [em]
  have fin : ∀ {H5 : List AObj} {O : List Nat}, SameX (H3.length :: (X ++ ([] : List Nat))) H4 H5 → SameX X H H5 := fun S5 => by
    refine (T4.weak0 (Y := X)).thru S5 fun z hz => ?_
    rcases List.mem_cons.1 hz with hz | hz
    · exact .inr (by omega)
    · exact .inl (by simpa using hz)
  refine good128 hJ R ky (ps := ps) (py := py) (pg := pg) (pb := H3.length) (m := m) (by omega) hm cs0 nX (by omega) (by omega) (by omega) (by omega) (by omega) m [] (0, 0) 0 [] (zrep [Value.int .u8 0] m) (by simp) ⟨by decide, by decide⟩ (fun j _ => by rw [hr, Nat.zero_add]) (T4.weak0 (Y := X)) (S4.get cy3 (by simp)) (S4.get c3 (by simp)) c4 (zl m) rfl
    (R.hI ⟨T4.1, fun i hi => T4.2 i (by rcases hi with hi | hi; exact hi; cases hi) (by simp)⟩ h0) (by simp) (fun H5 O5 cs5 S5 hO5 c5 hc5 ht5 i5 => ?_) fun H5 S5 st => ?_
  · refine ⟨?_, retL_same (by simp) (hK1 H5 O5 (fin (O := O5) S5) (fun z hz => by rcases hO5 z hz with h | h; cases h; have := S4.1; omega) ?_)⟩
    · exact sbTwo (X := H3.length :: (X ++ [])) ((S4.weak0).trans S5) lg ls3 (by simp; exact ⟨by omega, fun hz => by have := R.hX _ hz; omega⟩) (by simp; exact ⟨by omega, nX⟩)
    · rw [hr]
      simpa using i5
  · refine ⟨?_, retL_same (by simp) (hK2 H5 (fin (O := []) S5) st)⟩
    exact sbTwo (X := H3.length :: (X ++ [])) ((S4.weak0).trans S5) lg ls3 (by simp; exact ⟨by omega, fun hz => by have := R.hX _ hz; omega⟩) (by simp; exact ⟨by omega, nX⟩)
end
def stayH (all from_ days : Nat) (n : Int) : List Int := (List.range all).map fun i => if from_ ≤ i ∧ i < from_ + days then n else 0
def fedB (p : Pas) (heads : List Int) (s : SkyR) : Bool := (rainsB s).all fun w => decide (starvR p heads w < 0)
def stayB (p : Pas) (s : SkyR) (n from_ days : Int) : Bool := fedB p (stayH s.days.toNat from_.toNat days.toNat n) s
def topH (q : Int → Bool) : Nat → Int
  | 0 => 0
  | n + 1 => if q ((n + 1 : Nat) : Int) = true then ((n + 1 : Nat) : Int) else topH q n
def headE (p : Pas) (s : SkyR) (from_ days : Int) : Int :=
  if fst2 (pasE p) (skyE s) ≠ 0 then fst2 (pasE p) (skyE s) else if ¬ (0 ≤ from_ ∧ from_ ≤ s.days - 1) then 3 else if ¬ (1 ≤ days ∧ days ≤ s.days - from_) then 1 else 0
def headN (p : Pas) (s : SkyR) (from_ days : Int) : Int := if headE p s from_ days = 0 then topH (fun n => stayB p s n from_ days) 40 else 0
theorem stayH_len {a f d : Nat} {n : Int} : (stayH a f d n).length = a := by simp [stayH]
theorem stayH_get {a f d i : Nat} {n : Int} (h : i < a) : (stayH a f d n)[i]? = some (if f ≤ i ∧ i < f + d then n else 0) := by
  unfold stayH
  rw [List.getElem?_map, List.getElem?_range h]
  rfl
theorem stayH_getD {a f d i : Nat} {n : Int} (h : i < a) : (stayH a f d n).getD i 0 = if f ≤ i ∧ i < f + d then n else 0 := by
  rw [List.getD_eq_getElem?_getD, stayH_get h]
  rfl
theorem stayH_out {a f d i : Nat} {n : Int} (h : f + d ≤ i) : (stayH a f d n).getD i 0 = 0 := by
  by_cases e : i < a
  · rw [stayH_getD e, if_neg (by omega)]
  · rw [List.getD_eq_getElem?_getD, List.getElem?_eq_none (by rw [stayH_len]; omega)]
    rfl
theorem stayH_zero {a f : Nat} {n : Int} : stayH a f 0 n = List.replicate a 0 := by
  apply List.ext_getElem?
  intro i
  by_cases h : i < a
  · rw [stayH_get h, if_neg (by omega), List.getElem?_replicate, if_pos h]
  · rw [List.getElem?_eq_none (by rw [stayH_len]; omega), List.getElem?_eq_none (by simp; omega)]
theorem stayH_set {a f d : Nat} {n : Int} (h : f + d < a) : (stayH a f d n).set (f + d) n = stayH a f (d + 1) n := by
  apply List.ext_getElem?
  intro i
  rw [List.getElem?_set]
  by_cases e : f + d = i
  · subst e
    rw [if_pos rfl, stayH_len, if_pos h, stayH_get h, if_pos (by omega)]
  · rw [if_neg e]
    by_cases hi : i < a
    · rw [stayH_get hi, stayH_get hi]
      congr 1
      by_cases x : f ≤ i ∧ i < f + d
      · rw [if_pos x, if_pos (by omega)]
      · rw [if_neg x, if_neg (by omega)]
    · rw [List.getElem?_eq_none (by rw [stayH_len]; omega), List.getElem?_eq_none (by rw [stayH_len]; omega)]
theorem stayH_ok {a f d : Nat} {n : Int} (h : 0 ≤ n ∧ n ≤ 40) : headsOk (stayH a f d n) := by
  intro x hx
  unfold stayH at hx
  obtain ⟨i, _, rfl⟩ := List.mem_map.1 hx
  split
  · exact h
  · exact ⟨Int.le_refl _, by decide⟩
theorem stay_after {p : Pas} {a f d : Nat} {n : Int} {w : List UInt8} (fp : pasOk p) (hn : 0 ≤ n ∧ n ≤ 40) {i : Nat} (h : f + d ≤ i) : hungAt p (stayH a f d n) w i = false := by
  unfold hungAt hungR
  rw [stayH_out h]
  have := (stdR_ok (rain := w) fp (stayH_ok (a := a) (f := f) (d := d) hn) i).g
  exact decide_eq_false (by omega)
theorem starv_none {p : Pas} {a f d : Nat} {n : Int} {w : List UInt8} (fp : pasOk p) (hn : 0 ≤ n ∧ n ≤ 40) (h : ∀ i, i < f + d → hungAt p (stayH a f d n) w i = false) : starvR p (stayH a f d n) w < 0 := by
  have : starvR p (stayH a f d n) w = -1 := fstH_none fun i _ => by
    by_cases e : i < f + d
    · exact h i e
    · exact stay_after fp hn (by omega)
  rw [this]
  decide
theorem starv_some {p : Pas} {heads : List Int} {w : List UInt8} {i : Nat} (hi : i < w.length) (h : hungAt p heads w i = true) : ¬ starvR p heads w < 0 := by
  have := fstH_pos (q := hungAt p heads w) h hi
  unfold starvR
  omega
section
variable {main : Bool} {J : JT} {h H : List AObj} {K : Value → List AObj → Prop} {KV : Value → Prop} {HL : List AObj → Prop} {n0 : Nat}
theorem eqlW {t : TypeId} {b : UInt8} (hk : KV (.bool (wetB b))) : aBin prog .eql t (.int .u8 b.toNat) (.int .u8 119) KV := by
  have e119 : (Value.int .u8 119) = .int .u8 (119 : UInt8).toNat := rfl
  rw [e119]
  exact eqlU hk
theorem good98 (hJ : Closed prog main J) {p : Pas} {heads : List Int} {w : List UInt8} {hv : Value} (f : pasOk p) (hh : headsOk heads) (sh : Sli H hv 1 heads.length (heads.map vint)) (hl : w.length ≤ heads.length) (hw : w.length ≤ 1000)
    (hK : ∀ H', SameX [] H H' → K (vint (starvR p heads w)) H') : Good prog J 98 [.agg ⟨p.cells⟩, hv, strV w] H K := by
  refine g98 hJ fun ok => ?_
  rw [e98]
  refine qBox (l := p.cells) rfl fun H1 p1 e1 S1 c1 l1 => load_part (c := p.cells) c1 (by simp [Pas.cells]) rfl rfl ?_
  refine good125 hJ fun H2 m em S2 c2 hm => lenStrI ?_
  refine l98_1 hJ (fun k : Nat => w.length - k) (fun k F H' => k ≤ w.length ∧ SameX [] H H' ∧ H'[m]? = some (.cells (medC p (stdR p heads w k)) true 0) ∧ (∀ i, i < k → hungAt p heads w i = false) ∧ F.ds = [] ∧ F.r 1 = hv ∧ F.r 2 = strV w ∧ F.r 7 = ptr m 0 ∧ F.r 14 = vint (w.length : Nat) ∧ F.r 15 = vint (k : Nat)) ?_ (s := 0)
    (.inl ⟨by omega, S1.trans S2, c2, fun i hi => absurd hi (Nat.not_lt_zero _), rfl, rfl, rfl, rfl, rfl, rfl⟩)
  rintro k F H' ⟨hk, S, cm, hno, ds, r1, r2, r7, r14, r15⟩ okc hnc
  rw [s98_1, r1, r2, r7, r14, r15, ds]
  refine lssI (cndI (fun hlt => ?_) fun hge => ?_)
  rotate_left
  · have : k = w.length := by omega
    subst this
    have := hK H' S
    unfold starvR at this
    rw [fstH_none hno] at this
    exact retL_same (by simp [unk]) this
  have hkl : k < w.length := by omega
  have hx : heads[k]? = some (heads.getD k 0) := by
    rw [List.getD_eq_getElem?_getD, List.getElem?_eq_getElem (by omega)]
    rfl
  have hb : w[k]? = some (w.getD k 0) := by
    rw [List.getD_eq_getElem?_getD, List.getElem?_eq_getElem hkl]
    rfl
  have hbd := headsOk_getD hh k
  refine sliN (S.sli sh (by simp)) hx fun q => byteI hb (eqlW ?_)
  refine good126 hJ cm f (stdR_ok f hh k) ⟨hbd.1, by omega⟩ fun H3 S3 c3 => ext0 (ext1 (cndB (fun hy => ?_) fun hn => ?_))
  · have e : starvR p heads w = (k : Int) := fstH_some hy hno hkl
    have := hK H3 (S.thru S3 (by simp; omega))
    rw [e] at this
    exact retL_same (by simp [unk]) this
  · refine addI (by omega) ⟨k + 1, by dsimp only; omega, .inl ⟨by omega, S.thru S3 (by simp; omega), c3, fun i hi => ?_, ds, r1, r2, r7, r14, by show vint _ = vint _; congr 1⟩⟩
    by_cases e : i = k
    · rw [e]
      exact hn
    · exact hno i (by omega)
noncomputable abbrev lpS (st : LoopState) (pend : Option Code) (r : Nat → Value) (d : Nat) : AObj := .loop st pend 89 r 60 #[35] (subC [1, 0, 1, 1, 1, 1, 0, 1, 0, 0] (codeOf f89)) (subC [1, 0, 1, 1, 1, 1, 0, 1, 0, 1] (codeOf f89)) d
theorem roundS (hJ : Closed prog main J) {l d p5 p8 p9 p11 p13 pl a fr dy : Nat} {R : Nat → Value} {p : Pas} {n : Int} {w : List UInt8} {Q : Value → List AObj → Prop} (f : pasOk p) (hn : 0 ≤ n ∧ n ≤ 40) (ha : a ≤ 8) (hfd : fr + dy ≤ a) (hw : w.length = a)
    (hl : H[l]? = some (lpS .ready none R d)) (r5 : R 5 = ptr p5 0) (r8 : R 8 = ptr p8 0) (r9 : R 9 = ptr p9 0) (r11 : R 11 = ptr p11 0) (r13 : R 13 = ptr p13 0)
    (c5 : H[p5]? = some (.cells p.cells true 0)) (c8 : H[p8]? = some (.cells [vint (fr : Nat)] true 0)) (c9 : H[p9]? = some (.cells [vint (dy : Nat)] true 0)) (c11 : H[p11]? = some (.cells [.slice (some ⟨pl, 0, none⟩) a a] true 0)) (cl : H[pl]? = some (.cells ((stayH a fr dy n).map vint) true 0)) (c13 : H[p13]? = some (.cells [.bool true] true 0))
    (n5 : p5 ≠ l) (n8 : p8 ≠ l) (n9 : p9 ≠ l) (n11 : p11 ≠ l) (n13 : p13 ≠ l) (nl : pl ≠ l)
    (k1 : ∀ H', starvR p (stayH a fr dy n) w < 0 → SameX [l] H H' → H'[l]? = some (lpS .ready none R d) → Q (.bool true) H')
    (k2 : ∀ H', ¬ starvR p (stayH a fr dy n) w < 0 → SameX [l, p13] H H' → H'[l]? = some (lpS .done (some (.exit 2)) R d) → H'[p13]? = some (.cells [.bool false] true 0) → Q (.bool false) H') :
    callV prog (Good prog J) (.func (.yield l) ⟨[]⟩ ⟨[]⟩) [strV w] H Q := by
  show Good prog J (yid prog l) [strV w] H Q
  refine good_round hJ hl rfl (by decide) fun ok => W_sound hJ mixed _ ?_
  rw [a89_2]
  refine ⟨rfl, none, _, _, _, _, _, _, _, hl, W_sound hJ mixed _ ?_⟩
  rw [b89_2]
  have hll := lt_of_get hl
  have hl3 : (H.set l (lpS .busy none R d))[l]? = some (lpS .busy none R d) := List.getElem?_set_self hll
  have S3 : SameX [l] H (H.set l (lpS .busy none R d)) := SameX.refl.set (.inl (by simp))
  generalize H.set l (lpS .busy none R d) = H3 at hl3 S3
  have hsl := S3.1
  show aLoad true 6 (R 5) _ _
  rw [r5]
  refine load_part (c := p.cells) (S3.get c5 (by simpa using n5)) (by simp [Pas.cells]) rfl rfl ?_
  refine good125 hJ fun H4 m em S4 c4 hm => ?_
  have S04 : SameX [l] H H4 := S3.trans S4.weak0
  show aLoad false 1 (R 8) _ _
  rw [r8]
  refine ldI (v := vint (fr : Nat)) (S04.get c8 (by simpa using n8)) rfl rfl ?_
  show aLoad false 1 (R 9) _ _
  rw [r9]
  refine ldI (v := vint (dy : Nat)) (S04.get c9 (by simpa using n9)) rfl rfl (addI (by omega) ?_)
  have hho := stayH_ok (a := a) (f := fr) (d := dy) hn
  have e5 : ((fr : Nat) : Int) + ((dy : Nat) : Int) = ((fr + dy : Nat) : Int) := by omega
  rw [e5]
  have h3 : H.length ≤ m := by omega
  have hl4 := S4.get hl3 (by simp)
  refine l89_3 hJ (fun k : Nat => fr + dy - k) (fun k F H' => k ≤ fr + dy ∧ SameX [m] H4 H' ∧ H'[m]? = some (.cells (medC p (stdR p (stayH a fr dy n) w k)) true 0) ∧ (∀ i, i < k → hungAt p (stayH a fr dy n) w i = false) ∧ F.r 11 = ptr p11 0 ∧ F.r 13 = ptr p13 0 ∧ F.r 14 = strV w ∧ F.r 15 = ptr m 0 ∧ F.r 40 = vint ((fr + dy : Nat) : Int) ∧ F.r 41 = vint (k : Nat)) ?_ (s := 0)
    (.inl ⟨by omega, SameX.refl, c4, fun i hi => absurd hi (Nat.not_lt_zero _), r11, r13, rfl, rfl, rfl, rfl⟩)
  rintro k F H' ⟨hk, S, cm, hno, q11, q13, q14, q15, q40, q41⟩ okc hnc
  rw [s89_3, q11, q13, q14, q15, q40, q41]
  have T : SameX [l] H H' := S04.thru S (by simp; omega)
  have hlH : H'[l]? = some (lpS .busy none R d) := S.get hl4 (by simp; omega)
  have hll' := lt_of_get hlH
  have d11 := T.get c11 (by simpa using n11)
  have dl := T.get cl (by simpa using nl)
  have l11 := lt_of_get c11
  have ll := lt_of_get cl
  have hT := T.1
  refine lssI (cndI (fun hlt => ?_) fun hge => ?_)
  rotate_left
  · have : k = fr + dy := by omega
    subst this
    refine ⟨.busy, none, _, _, _, _, _, _, _, hlH, .inl (k1 _ (starv_none f hn hno) (T.set (.inl (by simp))) (List.getElem?_set_self hll'))⟩
  have hka : k < a := by omega
  have hb : w[k]? = some (w.getD k 0) := by
    rw [List.getD_eq_getElem?_getD, List.getElem?_eq_getElem (by omega)]
    rfl
  have hbd := headsOk_getD hho k
  refine ⟨[p11, pl], ldI (v := .slice (some ⟨pl, 0, none⟩) a a) d11 rfl rfl ⟨by simp [RdOk, ptrBlk], idxI ⟨by omega, by omega⟩ ?_⟩⟩
  have hx : ((stayH a fr dy n).map vint)[0 + ((k : Nat) : Int).toNat * 1]? = some (vint ((stayH a fr dy n).getD k 0)) := by
    rw [Int.toNat_natCast, Nat.mul_one, Nat.zero_add, List.getElem?_map, stayH_get hka, stayH_getD hka]
    rfl
  refine ldI (v := vint ((stayH a fr dy n).getD k 0)) dl hx rfl ⟨by simp [RdOk, ptrBlk], byteI hb (eqlW ?_)⟩
  refine good126 hJ cm f (stdR_ok f hho k) ⟨hbd.1, by omega⟩ fun H8 S8 c8' => ⟨sbTwo S8 (by omega) (by omega) (by simp; omega) (by simp; omega), ext0 (ext1 (cndB (fun hy => ?_) fun hno' => ?_))⟩
  · have T8 : SameX [l] H H8 := T.thru S8 (by simp; omega)
    refine qSt (T8.get c13 (by simpa using n13)) (by simp) rfl rfl fun H9 S9 c9' l9 => ?_
    have hl8 := S8.get hlH (by simp; omega)
    have hl9 := S9.get hl8 (by simpa using n13.symm)
    have hll9 := lt_of_get hl9
    refine ⟨.busy, none, _, _, _, _, _, _, _, hl9, .inl (k2 _ (starv_some (i := k) (by omega) hy) ?_ (List.getElem?_set_self hll9) (get_set c9' n13))⟩
    exact ((T8.weak (by simp)).trans (S9.weak (by simp))).set (.inl (by simp))
  · refine addI (by omega) ⟨k + 1, by dsimp only; omega, .inl ⟨by omega, S.trans S8, c8', fun i hi => ?_, q11, q13, q14, q15, q40, by show vint _ = vint _; congr 1⟩⟩
    by_cases e : i = k
    · rw [e]
      exact hno'
    · exact hno i (by omega)
theorem good89 (hJ : Closed prog main J) {p : Pas} {s : SkyR} {n : Int} {fr dy : Nat} (f : pasOk p) (g : skyOk s) (hn : 0 ≤ n ∧ n ≤ 40) (hfd : ((fr + dy : Nat) : Int) ≤ s.days)
    (hK : ∀ H', SameX [] H H' → K (.bool (stayB p s n fr dy)) H') : Good prog J 89 [.agg ⟨p.cells⟩, .agg ⟨s.cells⟩, vint n, vint (fr : Nat), vint (dy : Nat)] H K := by
  refine g89 hJ fun ok => ?_
  rw [e89]
  obtain ⟨g1, g2, g3⟩ := id g
  obtain ⟨a, ha⟩ := Int.eq_ofNat_of_zero_le (by omega : (0 : Int) ≤ s.days)
  have ea : s.days.toNat = a := by omega
  refine qBox (l := p.cells) rfl fun H1 p5 e1 S1 c5 l1 => qBox (l := s.cells) rfl fun H2 p6 e2 S2 c6 l2 => qBox1 rfl rfl fun H3 p8 e3 S3 c8 l3 => qBox1 rfl rfl fun H4 p9 e4 S4 c9 l4 => ?_
  have c64 := S4.get (S3.get c6 (by simp)) (by simp)
  refine offI (ldI (v := vint s.days) c64 rfl rfl ⟨by decide, ?_⟩)
  have hrm : (2000 : Nat) < room := by decide
  refine ⟨by omega, Int.le_refl _, by omega, ?_⟩
  rw [ea]
  have zl : ∀ k, zrep [vint 0] k = (List.replicate k (0 : Int)).map vint := by
    intro k
    induction k with
    | zero => rfl
    | succ k ih =>
      show [vint 0] ++ zrep [vint 0] k = _
      rw [ih, List.replicate_succ]
      rfl
  generalize hH5 : H4 ++ [AObj.cells (zrep [vint 0] a) true 0] = H5
  have c4l : H5[H4.length]? = some (.cells ((stayH a fr 0 n).map vint) true 0) := by rw [← hH5, zl, stayH_zero]; simp
  have S5 : SameX [] H4 H5 := by rw [← hH5]; exact SameX.refl.app
  have hl5 : H5.length = H4.length + 1 := by rw [← hH5]; simp
  generalize hpl : H4.length = pl at c4l hl5
  refine qAl fun H6 p11 e6 S6 c11 l6 => qSt c11 (by simp) rfl rfl fun H7 S7 c11' l7 => ?_
  have c11' : H7[p11]? = some (.cells [.slice (some ⟨pl, 0, none⟩) a a] true 0) := c11'
  have S57 : SameX [] H5 H7 := S6.thru S7 (by simp; omega)
  have S47 : SameX [] H4 H7 := S5.trans S57
  have T7 : SameX [] H H7 := (((S1.trans S2).trans S3).trans S4).trans S47
  have d9 := S47.get c9 (by simp)
  have d8 := S47.get (S4.get c8 (by simp)) (by simp)
  have d6 := S47.get c64 (by simp)
  have d5 := S47.get (S4.get (S3.get (S2.get c5 (by simp)) (by simp)) (by simp)) (by simp)
  have dl := S57.get c4l (by simp)
  refine ldI (v := vint (dy : Nat)) d9 rfl rfl ?_
  refine l89_1 hJ (fun i : Nat => dy - i) (fun i F H' => i ≤ dy ∧ SameX [pl] H7 H' ∧ H'[pl]? = some (.cells ((stayH a fr i n).map vint) true 0) ∧ F.ds = [] ∧ F.r 2 = vint n ∧ F.r 5 = ptr p5 0 ∧ F.r 6 = ptr p6 0 ∧ F.r 8 = ptr p8 0 ∧ F.r 9 = ptr p9 0 ∧ F.r 11 = ptr p11 0 ∧ F.r 22 = vint (dy : Nat) ∧ F.r 23 = vint (i : Nat)) ?_ (s := 0)
    (.inl ⟨by omega, SameX.refl, dl, rfl, rfl, rfl, rfl, rfl, rfl, rfl, rfl, rfl⟩)
  rintro i F H' ⟨hi, S, cl, ds, r2, r5, r6, r8, r9, r11, r22, r23⟩ okc hnc
  rw [s89_1, r2, r6, r8, r11, r22, r23]
  have n8 : p8 ≠ pl := by omega
  have x11 := S.get c11' (by simp; omega)
  have x8 := S.get d8 (by simp; omega)
  refine lssI (cndI (fun hlt => ?_) fun hge => ?_)
  · refine ldI (v := .slice (some ⟨pl, 0, none⟩) a a) x11 rfl rfl (ldI (v := vint (fr : Nat)) x8 rfl rfl (addI (by omega) (idxI ⟨by omega, by omega⟩ ?_)))
    have e1 : 0 + (((fr : Nat) : Int) + ((i : Nat) : Int)).toNat * 1 = fr + i := by omega
    rw [e1]
    refine qSt cl (by simp [stayH_len]; omega) rfl rfl fun H8 S8 c8' l8 => addI (by omega) ⟨i + 1, by dsimp only; omega, .inl ⟨by omega, S.trans S8, ?_, ds, r2, r5, r6, r8, r9, r11, r22, by show vint _ = vint _; congr 1⟩⟩
    rw [c8', ← List.map_set, stayH_set (by omega)]
  have hid : i = dy := by omega
  subst hid
  -- the rains
  have hS := S.1
  refine qAl fun H8 p13 e8 S8 c13 l8 => qSt c13 (by simp) rfl rfl fun H9 S9 c13' l9 => ?_
  have c13' : H9[p13]? = some (.cells [.bool true] true 0) := c13'
  have S79 : SameX [] H' H9 := S8.thru S9 (by simp; omega)
  have S69 : SameX [pl] H7 H9 := S.trans S79.weak0
  refine load_part (c := s.cells) (S69.get d6 (by simp; omega)) (by simp [SkyR.cells]) rfl rfl ?_
  refine good90 hJ fun H10 ps S10 cs10 gs => ?_
  have T10 : SameX [pl] H7 H10 := S69.trans S10.weak0
  have TH : SameX [] H H10 := T7.thru T10 (by simp; omega)
  refine l89_2 hJ (first := []) (cap := [ptr ps 0]) rfl (by decide) ?_
  obtain ⟨R, hRe⟩ : ∃ R : RG, R = RG.p (RG.p (RG.p (RG.p F 24 (.bool (decide (((i : Nat) : Int) < ((i : Nat) : Int))))) 13 (ptr p13 0)) 33 (.agg ⟨s.cells⟩)) 34 (.func (.func 127) ⟨[]⟩ ⟨[ptr ps 0]⟩) := ⟨_, rfl⟩
  rw [← hRe]
  have R5 : R.r 5 = ptr p5 0 := by subst hRe; exact r5
  have R8 : R.r 8 = ptr p8 0 := by subst hRe; exact r8
  have R9 : R.r 9 = ptr p9 0 := by subst hRe; exact r9
  have R11 : R.r 11 = ptr p11 0 := by subst hRe; exact r11
  have R13 : R.r 13 = ptr p13 0 := by subst hRe; rfl
  have Rds : R.ds = [] := by subst hRe; exact ds
  clear hRe
  have hl11 : (H10 ++ [AObj.deferred] ++ [lpS .ready none R.r H10.length])[H10.length + 1]? = some (lpS .ready none R.r H10.length) := by
    rw [List.append_assoc]
    simp
  have hd11 : (H10 ++ [AObj.deferred] ++ [lpS .ready none R.r H10.length])[H10.length]? = some .deferred := by
    rw [List.append_assoc]
    simp
  have hln : (H10 ++ [AObj.deferred] ++ [lpS .ready none R.r H10.length]).length = H10.length + 2 := by simp
  have S11 : SameX [] H10 (H10 ++ [AObj.deferred] ++ [lpS .ready none R.r H10.length]) := SameX.refl.app.app
  generalize hH11 : H10 ++ [AObj.deferred] ++ [lpS .ready none R.r H10.length] = H11 at hl11 hd11 hln S11
  have U : SameX [pl] H7 H11 := T10.trans S11.weak0
  have UH : SameX [] H H11 := TH.trans S11
  have w13 : H11[p13]? = some (.cells [.bool true] true 0) := S11.get (S10.get c13' (by simp)) (by simp)
  have wl : H11[pl]? = some (.cells ((stayH a fr i n).map vint) true 0) := S11.get (S10.get (S79.get cl (by simp)) (by simp)) (by simp)
  have w5 := U.get d5 (by simp; omega)
  have w8 := U.get d8 (by simp; omega)
  have w9 := U.get d9 (by simp; omega)
  have w11 := U.get c11' (by simp; omega)
  have ws : H11[ps]? = some (.cells s.cells true 0) := S11.get cs10 (by simp)
  have b5 := lt_of_get d5
  have b8 := lt_of_get d8
  have b9 := lt_of_get d9
  have b11 := lt_of_get c11'
  have bl := lt_of_get dl
  have b13 := lt_of_get c13'
  have bs := lt_of_get cs10
  have h10 := S10.1
  have fin : ∀ {b : Bool} {H' : List AObj} {pend : Option Code}, b = stayB p s n fr i → SameX [H10.length + 1, p13] H11 H' → H'[p13]? = some (.cells [.bool b] true 0) → (H'[H10.length + 1]? = some (lpS .ready none R.r H10.length) ∨ H'[H10.length + 1]? = some (lpS .done (some (.exit 2)) R.r H10.length)) →
      ∀ v, endQ H10.length R (contX pl89 prog J 60 H.length 89 ct89 [1, 0, 1, 1, 1, 1, 0, 1, 0] (codeOf f89) [] (RetQ prog [.tmp 10] H.length K)) v H' := by
    intro b H' pend hb S h13 hl v
    have hd' := S.get hd11 (by simp; omega)
    have hfin : retL H.length K [H10.length] [.bool b] (H'.set (H10.length + 1) .dead) := by
      refine retLdef (get_set hd' (by omega)) (by simp [unk]) ?_
      rw [hb]
      exact hK _ (((UH.thru S (by simp; omega)).set (.inr (by omega))).set (.inr (by omega)))
    rcases hl with hl | hl
    · refine endQnorm hl (by simp) ?_
      rw [c89_2]
      show aLoad false 1 (R.r 13) _ _
      rw [R13, Rds]
      exact ldI (v := .bool b) (get_set h13 (by omega)) rfl rfl hfin
    · refine endQexit hl (by simp) ?_
      rw [c89_2x2]
      show aLoad false 1 (R.r 13) _ _
      rw [R13, Rds]
      exact ldI (v := .bool b) (get_set h13 (by omega)) rfl rfl hfin
  have es : stayB p s n fr i = (rainsB s).all fun w => decide (starvR p (stayH a fr i n) w < 0) := by
    unfold stayB fedB
    rw [ea, Int.toNat_natCast, Int.toNat_natCast]
  have RD : Rnd J (rainsB s) (.func (.yield (H10.length + 1)) ⟨[]⟩ ⟨[]⟩) [H10.length + 1, p13] H11
      (fun k O H' => O = [] ∧ H'[H10.length + 1]? = some (lpS .ready none R.r H10.length) ∧ H'[p13]? = some (.cells [.bool true] true 0) ∧ ∀ j w, j < k → (rainsB s)[j]? = some w → starvR p (stayH a fr i n) w < 0)
      (fun H' => H'[H10.length + 1]? = some (lpS .done (some (.exit 2)) R.r H10.length) ∧ H'[p13]? = some (.cells [.bool false] true 0) ∧ ∃ w ∈ rainsB s, ¬ starvR p (stayH a fr i n) w < 0) := by
    refine ⟨by simp; omega, fun h => by rw [h.1]; simp, fun T hi => ⟨hi.1, by rw [T.2 _ (.inl (by omega))]; exact hi.2.1, by rw [T.2 _ (.inl (by omega))]; exact hi.2.2.1, hi.2.2.2⟩, ?_⟩
    rintro k w O Ha Q hw Sa _ ⟨rfl, i1, i2, i3⟩ q1 q2
    have hwl := rainsB_len (List.mem_of_getElem? hw)
    have ga : ∀ {q : Nat} {o : AObj}, H11[q]? = some o → q ≠ H10.length + 1 → q ≠ p13 → Ha[q]? = some o := fun hq h1 h2 => Sa.get hq (by simp; exact ⟨h1, h2⟩)
    refine roundS hJ (a := a) (fr := fr) (dy := i) (pl := pl) f hn (by omega) (by omega) (by rw [hwl, ea]) i1 R5 R8 R9 R11 R13 (ga w5 (by omega) (by omega)) (ga w8 (by omega) (by omega)) (ga w9 (by omega) (by omega)) (ga w11 (by omega) (by omega)) (ga wl (by omega) (by omega)) i2 (by omega) (by omega) (by omega) (by omega) (by omega) (by omega) (fun Hb hs Sb hlb => ?_) fun Hb hs Sb hlb h13 => ?_
    · refine q1 [] Hb (Sb.weak (by simp)) (by simp) ⟨rfl, hlb, Sb.get i2 (by simp; omega), fun j u hj hu => ?_⟩
      by_cases e : j = k
      · rw [e, hw] at hu
        injection hu with hu
        rw [← hu]
        exact hs
      · exact i3 j u (by omega) hu
    · exact q2 Hb (Sb.weak (by simp)) ⟨hlb, h13, w, List.mem_of_getElem? hw, hs⟩
  refine good127 hJ g RD ⟨rfl, rfl, rfl⟩ ws (by simp; omega) ⟨rfl, hl11, w13, fun j w hj => absurd hj (Nat.not_lt_zero _)⟩ (fun Hb O Sb _ hi => ?_) fun Hb Sb st => ?_
  · obtain ⟨_, i1, i2, i3⟩ := hi
    refine fin (b := true) (pend := none) ?_ Sb i2 (.inl i1) _
    rw [es, eq_comm, List.all_eq_true]
    intro w hw
    obtain ⟨j, hj, e⟩ := List.mem_iff_getElem.1 hw
    exact decide_eq_true (i3 j w hj (by rw [List.getElem?_eq_getElem hj, e]))
  · obtain ⟨i1, i2, w, hw, hs⟩ := st
    refine fin (b := false) (pend := none) ?_ Sb i2 (.inr i1) _
    rw [es, eq_comm, List.all_eq_false]
    exact ⟨w, hw, by rw [decide_eq_false hs]; decide⟩
theorem topH_yes {q : Int → Bool} {m : Nat} (h : q m = true) : ∀ {N : Nat}, m ≤ N → (∀ k : Nat, m < k → k ≤ N → q k = false) → topH q N = m
  | 0, hm, _ => by
    have : m = 0 := by omega
    subst this
    rfl
  | N + 1, hm, hno => by
    unfold topH
    by_cases e : m = N + 1
    · subst e
      rw [if_pos h]
    · rw [if_neg (by rw [hno (N + 1) (by omega) (Nat.le_refl _)]; decide)]
      exact topH_yes h (by omega) fun k h1 h2 => hno k h1 (by omega)
theorem topH_none {q : Int → Bool} : ∀ {N : Nat}, (∀ k : Nat, 0 < k → k ≤ N → q k = false) → topH q N = 0
  | 0, _ => rfl
  | N + 1, hno => by
    unfold topH
    rw [if_neg (by rw [hno (N + 1) (by omega) (Nat.le_refl _)]; decide)]
    exact topH_none fun k h1 h2 => hno k h1 (by omega)
theorem good33 (hJ : Closed prog main J) {p : Pas} {s : SkyR} {fr dy : Int} (hK : ∀ H', SameX [] H H' → K (.tuple ⟨[vint (headN p s fr dy), vint (headE p s fr dy)]⟩) H') : Good prog J 33 [.agg ⟨p.cells⟩, .agg ⟨s.cells⟩, vint fr, vint dy] H K := by
  refine g33 hJ fun ok => ?_
  rw [e33]
  refine qBox (l := p.cells) rfl fun H1 p4 e1 S1 c4 l1 => qBox (l := s.cells) rfl fun H2 p5 e2 S2 c5 l2 => ?_
  have c42 := S2.get c4 (by simp)
  have T2 := S1.trans S2
  have b4 := lt_of_get c42
  have b5 := lt_of_get c5
  refine ⟨[p4, p5], load_part (c := p.cells) c42 (by simp [Pas.cells]) rfl rfl ⟨by simp [RdOk, ptrBlk], load_part (c := s.cells) c5 (by simp [SkyR.cells]) rfl rfl ⟨by simp [RdOk, ptrBlk], ?_⟩⟩⟩
  have sb : ∀ {H'}, SameX [] H2 H' → SameB (some [p4, p5]) H2 H' := fun S => sbTwo S b4 b5 (by simp) (by simp)
  refine good36 hJ ⟨sb SameX.refl, good72 hJ ⟨sb SameX.refl, by decide, fillP2 ⟨rfl, rfl⟩ ⟨rfl, rfl⟩ (qNew fun H3 p3 e3 S3 c3 l3 => ⟨sb S3, ?_⟩)⟩⟩
  refine good88 hJ (ownX_sli (ownX_new (s := 1) (n := 2) c3 rfl rfl)) ⟨sb S3, ?_⟩
  have T3 := T2.trans S3
  have c43 := S3.get c42 (by simp)
  have c53 := S3.get c5 (by simp)
  have fin : ∀ {e : Int} {H' : List AObj}, headE p s fr dy = e → e ≠ 0 → SameX [] H H' → retL H.length K [] [vint 0, vint e] H' := fun he h0 S => by
    have := hK _ S
    unfold headN at this
    rw [if_neg (by omega), he] at this
    exact retL_same (nu2 (by simp [unk]) (by simp [unk])) this
  refine neqI (cndI (fun h1 => fin ?_ h1 T3) fun h1 => ?_)
  · unfold headE; rw [if_pos h1]
  have hf : fst2 (pasE p) (skyE s) = 0 := by omega
  have f : pasOk p := by
    unfold fst2 at hf
    by_cases x : pasE p ≠ 0
    · rw [if_pos x] at hf
      exact absurd hf x
    · unfold pasE at x
      split at x
      · assumption
      · exact absurd (by decide) x
  have g : skyOk s := by
    unfold fst2 at hf
    by_cases x : pasE p ≠ 0
    · rw [if_pos x] at hf
      exact absurd hf x
    · rw [if_neg x] at hf
      unfold skyE at hf
      split at hf
      · assumption
      · cases hf
  obtain ⟨g1, g2, g3⟩ := id g
  refine offI (ldI (v := vint s.days) c53 rfl rfl (subI (by omega) (good73 hJ (notI (cndN (fun h2 => fin ?_ (by decide) T3) fun h2 => ?_)))))
  · unfold headE; rw [if_neg h1, if_pos h2]
  refine offI (ldI (v := vint s.days) c53 rfl rfl (subI (by omega) (good73 hJ (notI (cndN (fun h3 => fin ?_ (by decide) T3) fun h3 => ?_)))))
  · unfold headE; rw [if_neg h1, if_neg (not_not_intro h2), if_pos h3]
  have h0 : headE p s fr dy = 0 := by unfold headE; rw [if_neg h1, if_neg (not_not_intro h2), if_neg (not_not_intro h3)]
  obtain ⟨a, rfl⟩ := Int.eq_ofNat_of_zero_le (by omega : (0 : Int) ≤ fr)
  obtain ⟨b, rfl⟩ := Int.eq_ofNat_of_zero_le (by omega : (0 : Int) ≤ dy)
  refine l33_1 hJ (fun m : Nat => m) (fun m F H' => m ≤ 40 ∧ SameX [] H3 H' ∧ (∀ k : Nat, m < k → k ≤ 40 → stayB p s k (a : Nat) (b : Nat) = false) ∧ F.ds = [] ∧ F.r 2 = vint (a : Nat) ∧ F.r 3 = vint (b : Nat) ∧ F.r 4 = ptr p4 0 ∧ F.r 5 = ptr p5 0 ∧ F.r 11 = vint (m : Nat)) ?_ (s := 40)
    (.inl ⟨by omega, SameX.refl, fun k h1 h2 => absurd h1 (by omega), rfl, rfl, rfl, rfl, rfl, rfl⟩)
  rintro m F H' ⟨hm, S, hno, ds, r2, r3, r4, r5, r11⟩ okc hnc
  rw [s33_1, r2, r3, r4, r5, r11]
  have last : headN p s (a : Nat) (b : Nat) = m → retL H.length K [] [vint (m : Nat), vint 0] H' := fun he => by
    have := hK H' (T3.trans S)
    rw [he, h0] at this
    exact retL_same (nu2 (by simp [unk]) (by simp [unk])) this
  refine gtrI (cndI (fun hpos => ?_) fun hz => hold.2 ?_)
  · refine load_part (c := p.cells) (S.get c43 (by simp)) (by simp [Pas.cells]) rfl rfl (load_part (c := s.cells) (S.get c53 (by simp)) (by simp [SkyR.cells]) rfl rfl ?_)
    refine good89 hJ f g (by omega) (by omega) fun H4 S4 => notI (hold.2 ?_)
    rw [s33_2]
    show cnd (.bool (!stayB p s m (a : Nat) (b : Nat))) _ _
    refine cndB (fun hst => ?_) fun hst => ?_
    · have hst : stayB p s m (a : Nat) (b : Nat) = false := by simpa using hst
      show aBin prog .sub 3 (F.r 11) (vint 1) _
      rw [r11]
      refine subI (by omega) ⟨m - 1, by dsimp only; omega, .inl ⟨by omega, S.trans S4, fun k h1 h2 => ?_, ds, r2, r3, r4, r5, by show vint _ = vint _; congr 1; omega⟩⟩
      by_cases e : k = m
      · rw [e]
        exact hst
      · exact hno k (by omega) h2
    · have hst : stayB p s m (a : Nat) (b : Nat) = true := by simpa using hst
      show retL H.length K F.ds [F.r 11, vint 0] H4
      rw [ds, r11]
      have := hK H4 ((T3.trans S).trans S4)
      unfold headN at this
      rw [if_pos h0, topH_yes (q := fun n => stayB p s n (a : Nat) (b : Nat)) hst hm hno, h0] at this
      exact retL_same (nu2 (by simp [unk]) (by simp [unk])) this
  · have : m = 0 := by omega
    subst this
    rw [s33_2]
    show cnd (.bool false) _ _
    refine cnd_false.2 ?_
    show retL H.length K F.ds [F.r 11, vint 0] H'
    rw [ds, r11]
    refine last ?_
    unfold headN
    rw [if_pos h0]
    exact topH_none fun k h1 h2 => hno k (by omega) h2
end
def ckdE (p : Pas) (heads : List Int) (s : SkyR) : Int := if fst2 (pasE p) (skyE s) ≠ 0 then fst2 (pasE p) (skyE s) else hunE heads s.days
theorem fst2_zero {p : Pas} {s : SkyR} (h : fst2 (pasE p) (skyE s) = 0) : pasOk p ∧ skyOk s := by
  unfold fst2 at h
  by_cases x : pasE p ≠ 0
  · rw [if_pos x] at h
    exact absurd h x
  · rw [if_neg x] at h
    refine ⟨?_, ?_⟩
    · unfold pasE at x
      split at x
      · assumption
      · exact absurd (by decide) x
    · unfold skyE at h
      split at h
      · assumption
      · cases h
theorem ckdE_zero {p : Pas} {heads : List Int} {s : SkyR} (h : ckdE p heads s = 0) : pasOk p ∧ skyOk s ∧ headsOk heads ∧ (heads.length : Int) = s.days := by
  unfold ckdE at h
  split at h
  · rename_i x
    exact absurd h x
  · rename_i x
    obtain ⟨f, g⟩ := fst2_zero (p := p) (s := s) (by omega)
    unfold hunE at h
    split at h
    · rename_i y
      exact absurd h y
    · rename_i y
      split at h
      · rename_i hh
        refine ⟨f, g, hh, ?_⟩
        unfold cntE at y
        split at y
        · exact absurd (by decide) y
        · split at y
          · exact absurd (by decide) y
          · omega
      · cases h
def feedN (p : Pas) (heads : List Int) (s : SkyR) : Int := if ckdE p heads s ≠ 0 then 0 else if fedB p heads s = true then 1 else if (rainsB s).any (fun w => decide (starvR p heads w < 0)) = true then 3 else 2
section
variable {main : Bool} {J : JT} {h H : List AObj} {K : Value → List AObj → Prop} {KV : Value → Prop} {HL : List AObj → Prop} {n0 : Nat}
theorem sliValZ {v : Value} {s n : Nat} {cs : List Value} (hs : Sli h v s n cs) : v.cells = #[v] ∧ one v = true ∧ kn1 v = true := by
  obtain ⟨base, c, rfl, _⟩ := hs
  exact ⟨rfl, rfl, rfl⟩
theorem good92 (hJ : Closed prog main J) {p : Pas} {s : SkyR} {hs : List Int} {hv : Value} (sh : Sli H hv 1 hs.length (hs.map vint)) (hl : hs.length < 1000000) (hK : ∀ H', SameX [] H H' → K (vint (ckdE p hs s)) H') : Good prog J 92 [.agg ⟨p.cells⟩, hv, .agg ⟨s.cells⟩] H K := by
  refine g92 hJ fun ok => ?_
  rw [e92]
  refine qBox (l := p.cells) rfl fun H1 p4 e1 S1 c4 l1 => qBox (l := s.cells) rfl fun H2 p5 e2 S2 c5 l2 => ?_
  have c42 := S2.get c4 (by simp)
  have T2 := S1.trans S2
  have b4 := lt_of_get c42
  have b5 := lt_of_get c5
  refine ⟨[p4, p5], load_part (c := p.cells) c42 (by simp [Pas.cells]) rfl rfl ⟨by simp [RdOk, ptrBlk], load_part (c := s.cells) c5 (by simp [SkyR.cells]) rfl rfl ⟨by simp [RdOk, ptrBlk], ?_⟩⟩⟩
  have sb : ∀ {H'}, SameX [] H2 H' → SameB (some [p4, p5]) H2 H' := fun S => sbTwo S b4 b5 (by simp) (by simp)
  refine good36 hJ ⟨sb SameX.refl, good72 hJ ⟨sb SameX.refl, by decide, fillP2 ⟨rfl, rfl⟩ ⟨rfl, rfl⟩ (qNew fun H3 p3 e3 S3 c3 l3 => ⟨sb S3, ?_⟩)⟩⟩
  refine good88 hJ (ownX_sli (ownX_new (s := 1) (n := 2) c3 rfl rfl)) ⟨sb S3, ?_⟩
  have T3 := T2.trans S3
  have c53 := S3.get c5 (by simp)
  have k := hK H3 T3
  refine neqI (cndI (fun h1 => ?_) fun h1 => ?_)
  · unfold ckdE at k
    rw [if_pos h1] at k
    exact retL_same (by simp [unk]) k
  · refine offI (ldI (v := vint s.days) c53 rfl rfl (good124 hJ (T3.sli sh (by simp)) hl ?_))
    unfold ckdE at k
    rw [if_neg h1] at k
    exact retL_same (by simp [unk]) k
noncomputable abbrev lpF (st : LoopState) (pend : Option Code) (r : Nat → Value) (d : Nat) : AObj := .loop st pend 49 r 33 #[21] (subC [1, 1, 1, 0, 1, 0, 0] (codeOf f49)) (subC [1, 1, 1, 0, 1, 0, 1] (codeOf f49)) d
theorem roundF (hJ : Closed prog main J) {l d p3 p4 p9 p10 : Nat} {R : Nat → Value} {p : Pas} {hs : List Int} {hv : Value} {w : List UInt8} {x y : Bool} {Q : Value → List AObj → Prop} (f : pasOk p) (hh : headsOk hs) (hw : w.length ≤ hs.length) (hw2 : w.length ≤ 1000)
    (sh : Sli (H.set l (lpF .busy none R d)) hv 1 hs.length (hs.map vint)) (kv : kn1 hv = true)
    (hl : H[l]? = some (lpF .ready none R d)) (r3 : R 3 = ptr p3 0) (r4 : R 4 = ptr p4 0) (r9 : R 9 = ptr p9 0) (r10 : R 10 = ptr p10 0)
    (c3 : H[p3]? = some (.cells p.cells true 0)) (c4 : H[p4]? = some (.cells [hv] true 0)) (c9 : H[p9]? = some (.cells [.bool x] true 0)) (c10 : H[p10]? = some (.cells [.bool y] true 0))
    (n3 : p3 ≠ l) (n4 : p4 ≠ l) (n9 : p9 ≠ l) (n10 : p10 ≠ l) (n : p9 ≠ p10)
    (k : ∀ H', SameX [l, p9, p10] H H' → H'[l]? = some (lpF .ready none R d) → H'[p9]? = some (.cells [.bool (x || decide (starvR p hs w < 0))] true 0) → H'[p10]? = some (.cells [.bool (y || !decide (starvR p hs w < 0))] true 0) → Q (.bool true) H') :
    callV prog (Good prog J) (.func (.yield l) ⟨[]⟩ ⟨[]⟩) [strV w] H Q := by
  show Good prog J (yid prog l) [strV w] H Q
  refine good_round hJ hl rfl (by decide) fun ok => W_sound hJ mixed _ ?_
  rw [a49_1]
  refine ⟨rfl, none, _, _, _, _, _, _, _, hl, W_sound hJ mixed _ ?_⟩
  rw [b49_1]
  have hll := lt_of_get hl
  have hl3 : (H.set l (lpF .busy none R d))[l]? = some (lpF .busy none R d) := List.getElem?_set_self hll
  have S3 : SameX [l] H (H.set l (lpF .busy none R d)) := SameX.refl.set (.inl (by simp))
  generalize H.set l (lpF .busy none R d) = H3 at hl3 S3 sh
  show aLoad true 6 (R 3) _ _
  rw [r3]
  refine load_part (c := p.cells) (S3.get c3 (by simpa using n3)) (by simp [Pas.cells]) rfl rfl ?_
  show aLoad false 1 (R 4) _ _
  rw [r4]
  refine ldI (v := hv) (S3.get c4 (by simpa using n4)) rfl kv ?_
  refine good98 hJ f hh sh hw hw2 fun H4 S4 => lssI ?_
  have T4 : SameX [l] H H4 := S3.trans S4.weak0
  have hl4 := S4.get hl3 (by simp)
  have d9 := T4.get c9 (by simpa using n9)
  have d10 := T4.get c10 (by simpa using n10)
  have nn : p10 ≠ p9 := fun e => n e.symm
  refine cndI (fun h1 => ?_) fun h1 => ?_
  · show aStore 1 (R 9) _ _ _
    rw [r9]
    refine qSt d9 (by simp) rfl rfl fun H5 S5 c5 l5 => ?_
    have hl5 := S5.get hl4 (by simpa using n9.symm)
    have hll5 := lt_of_get hl5
    refine ⟨.busy, none, _, _, _, _, _, _, _, hl5, .inl (k _ (((T4.weak (by simp)).trans (S5.weak (by simp))).set (.inl (by simp))) (List.getElem?_set_self hll5) (get_set ?_ n9) (get_set ?_ n10))⟩
    · rw [decide_eq_true h1, Bool.or_true]
      exact c5
    · rw [decide_eq_true h1]
      have := S5.get d10 (by simpa using nn)
      simpa using this
  · show aStore 1 (R 10) _ _ _
    rw [r10]
    refine qSt d10 (by simp) rfl rfl fun H5 S5 c5 l5 => ?_
    have hl5 := S5.get hl4 (by simpa using n10.symm)
    have hll5 := lt_of_get hl5
    refine ⟨.busy, none, _, _, _, _, _, _, _, hl5, .inl (k _ (((T4.weak (by simp)).trans (S5.weak (by simp))).set (.inl (by simp))) (List.getElem?_set_self hll5) (get_set ?_ n9) (get_set ?_ n10))⟩
    · rw [decide_eq_false h1, Bool.or_false]
      exact S5.get d9 (by simpa using n)
    · rw [decide_eq_false h1]
      have : (y || !false) = true := by simp
      rw [this]
      exact c5
set_option maxHeartbeats 800000 in
theorem good49 (hJ : Closed prog main J) {p : Pas} {s : SkyR} {hs : List Int} {hv : Value} (sh : Sli H hv 1 hs.length (hs.map vint)) (hl : hs.length < 1000000)
    (hK : ∀ H', SameX [] H H' → K (.tuple ⟨[vint (feedN p hs s), vint (ckdE p hs s)]⟩) H') : Good prog J 49 [.agg ⟨p.cells⟩, hv, .agg ⟨s.cells⟩] H K := by
  refine g49 hJ fun ok => ?_
  rw [e49]
  have vh := sliValZ sh
  refine qBox (l := p.cells) rfl fun H1 p3 e1 S1 c3 l1 => qBox1 vh.1 vh.2.1 fun H2 p4 e2 S2 c4 l2 => qBox (l := s.cells) rfl fun H3 p5 e3 S3 c5 l3 => ?_
  have c33 := S3.get (S2.get c3 (by simp)) (by simp)
  have c43 := S3.get c4 (by simp)
  have T3 := (S1.trans S2).trans S3
  refine load_part (c := p.cells) c33 (by simp [Pas.cells]) rfl rfl (ldI (v := hv) c43 rfl vh.2.2 (load_part (c := s.cells) c5 (by simp [SkyR.cells]) rfl rfl ?_))
  refine good92 hJ (T3.sli sh (by simp)) hl fun H4 S4 => neqI (cndI (fun h1 => ?_) fun h1 => ?_)
  · have k := hK H4 (T3.trans S4)
    unfold feedN at k
    rw [if_pos h1] at k
    exact retL_same (nu2 (by simp [unk]) (by simp [unk])) k
  have h0 : ckdE p hs s = 0 := by omega
  obtain ⟨f, g, hh, hlen⟩ := ckdE_zero h0
  obtain ⟨g1, g2, g3⟩ := id g
  refine qAl fun H5 p9 e5 S5 c9 l5 => qAl fun H6 p10 e6 S6 c10 l6 => ?_
  refine qSt (S6.get c9 (by simp)) (by simp) rfl rfl fun H7 S7 c97 l7 => qSt (S7.get c10 (by simp; omega)) (by simp) rfl rfl fun H8 S8 c108 l8 => ?_
  have c9 : H8[p9]? = some (.cells [.bool false] true 0) := S8.get c97 (by simp; omega)
  have c10 : H8[p10]? = some (.cells [.bool false] true 0) := c108
  have h43 := S4.1
  have S48 : SameX [] H4 H8 := ((S5.trans S6).thru S7 (by simp; omega)).thru S8 (by simp; omega)
  have S38 := S4.trans S48
  have T8 : SameX [] H H8 := T3.trans S38
  refine load_part (c := s.cells) (S38.get c5 (by simp)) (by simp [SkyR.cells]) rfl rfl ?_
  refine good90 hJ fun H10 ps S10 cs10 gs => ?_
  have TH : SameX [] H H10 := T8.trans S10
  refine l49_1 hJ (first := []) (cap := [ptr ps 0]) rfl (by decide) ?_
  obtain ⟨R, hRe⟩ : ∃ R : RG, R = RG.p (RG.p (RG.p (RG.p (RG.p (RG.p (RG.p (RG.p (RG.p (RG.p (RG.p (RG.p (RG.p (RG.p (RG.p (RG.p (RG.mk (regs [.agg ⟨p.cells⟩, hv, .agg ⟨s.cells⟩]) []) 3 (ptr p3 0)) 4 (ptr p4 0)) 5 (ptr p5 0)) 6 (vint 0)) 7 (vint 0)) 12 (.agg ⟨p.cells⟩)) 13 hv) 14 (.agg ⟨s.cells⟩)) 15 (vint (ckdE p hs s))) 8 (vint (ckdE p hs s))) 16 (vint (ckdE p hs s))) 17 (.bool (decide (ckdE p hs s ≠ 0)))) 9 (ptr p9 0)) 10 (ptr p10 0)) 19 (.agg ⟨s.cells⟩)) 20 (.func (.func 127) ⟨[]⟩ ⟨[ptr ps 0]⟩) := ⟨_, rfl⟩
  rw [← hRe]
  have R3 : R.r 3 = ptr p3 0 := by subst hRe; rfl
  have R4 : R.r 4 = ptr p4 0 := by subst hRe; rfl
  have R9 : R.r 9 = ptr p9 0 := by subst hRe; rfl
  have R10 : R.r 10 = ptr p10 0 := by subst hRe; rfl
  have Rds : R.ds = [] := by subst hRe; rfl
  clear hRe
  have hl11 : (H10 ++ [AObj.deferred] ++ [lpF .ready none R.r H10.length])[H10.length + 1]? = some (lpF .ready none R.r H10.length) := by
    rw [List.append_assoc]
    simp
  have hd11 : (H10 ++ [AObj.deferred] ++ [lpF .ready none R.r H10.length])[H10.length]? = some .deferred := by
    rw [List.append_assoc]
    simp
  have hln : (H10 ++ [AObj.deferred] ++ [lpF .ready none R.r H10.length]).length = H10.length + 2 := by simp
  have S11 : SameX [] H10 (H10 ++ [AObj.deferred] ++ [lpF .ready none R.r H10.length]) := SameX.refl.app.app
  generalize hH11 : H10 ++ [AObj.deferred] ++ [lpF .ready none R.r H10.length] = H11 at hl11 hd11 hln S11
  have UH : SameX [] H H11 := TH.trans S11
  have S8' := S10.trans S11
  have S3' := S38.trans S8'
  have w9 := S8'.get c9 (by simp)
  have w10 := S8'.get c10 (by simp)
  have w3 := S3'.get c33 (by simp)
  have w4 := S3'.get c43 (by simp)
  have ws : H11[ps]? = some (.cells s.cells true 0) := S11.get cs10 (by simp)
  have b3 := lt_of_get c33
  have b4 := lt_of_get c43
  have b9 := lt_of_get c9
  have b10 := lt_of_get c10
  have bs := lt_of_get cs10
  have h10 := S10.1
  have h38 := S38.1
  have hTH := TH.1
  have hUH := UH.1
  have hT3 := T3.1
  let fedK : Nat → Bool := fun k => ((rainsB s).take k).any fun w => decide (starvR p hs w < 0)
  let notK : Nat → Bool := fun k => ((rainsB s).take k).any fun w => !decide (starvR p hs w < 0)
  have tk : ∀ (q : List UInt8 → Bool) (k : Nat) (w : List UInt8), (rainsB s)[k]? = some w → ((rainsB s).take (k + 1)).any q = (((rainsB s).take k).any q || q w) := fun q k w hw => by
    rw [List.take_add_one, hw, List.any_append]
    simp
  have RD : Rnd J (rainsB s) (.func (.yield (H10.length + 1)) ⟨[]⟩ ⟨[]⟩) [H10.length + 1, p9, p10] H11
      (fun k O H' => O = [] ∧ H'[H10.length + 1]? = some (lpF .ready none R.r H10.length) ∧ H'[p9]? = some (.cells [.bool (fedK k)] true 0) ∧ H'[p10]? = some (.cells [.bool (notK k)] true 0)) (fun H' => False) := by
    refine ⟨by simp; omega, fun h => by rw [h.1]; simp, fun T hi => ⟨hi.1, by rw [T.2 _ (.inl (by omega))]; exact hi.2.1, by rw [T.2 _ (.inl (by omega))]; exact hi.2.2.1, by rw [T.2 _ (.inl (by omega))]; exact hi.2.2.2⟩, ?_⟩
    rintro k w O Ha Q hw Sa _ ⟨rfl, i1, i2, i3⟩ q1 q2
    have hwl := rainsB_len (List.mem_of_getElem? hw)
    have ga : ∀ {q : Nat} {o : AObj}, H11[q]? = some o → q ≠ H10.length + 1 → q ≠ p9 → q ≠ p10 → Ha[q]? = some o := fun hq h1 h2 h3 => Sa.get hq (by simp; exact ⟨h1, h2, h3⟩)
    have Sx : SameX [H10.length + 1, p9, p10] H11 (Ha.set (H10.length + 1) (lpF .busy none R.r H10.length)) := Sa.set (.inl (by simp))
    have Sy : SameX [] H (Ha.set (H10.length + 1) (lpF .busy none R.r H10.length)) := UH.thru Sx (by simp; omega)
    refine roundF hJ f hh (by omega) (by omega) (Sy.sli sh (by simp)) vh.2.2 i1 R3 R4 R9 R10 (ga w3 (by omega) (by omega) (by omega)) (ga w4 (by omega) (by omega) (by omega)) i2 i3 (by omega) (by omega) (by omega) (by omega) (by omega) fun Hb Sb hlb h9 h10' => ?_
    refine q1 [] Hb (Sb.weak (by simp)) (by simp) ⟨rfl, hlb, ?_, ?_⟩
    · rw [h9]
      dsimp only [fedK]
      rw [tk _ k w hw]
    · rw [h10']
      dsimp only [notK]
      rw [tk _ k w hw]
  refine good127 hJ g RD ⟨rfl, rfl, rfl⟩ ws (by simp; omega) ⟨rfl, hl11, w9, w10⟩ (fun Hb O Sb _ hi => ?_) fun Hb Sb st => st.elim
  obtain ⟨_, i1, i2, i3⟩ := hi
  dsimp only [fedK, notK] at i2 i3
  rw [List.take_of_length_le (Nat.le_refl _)] at i2 i3
  refine endQnorm i1 (by simp) ?_
  rw [c49_1]
  show aLoad false 1 (R.r 10) _ _
  rw [R10, R9, Rds]
  have hd' := Sb.get hd11 (by simp; omega)
  have kk := hK ((Hb.set (H10.length + 1) .dead).set H10.length .dead) (((UH.thru Sb (by simp; omega)).set (.inr (by omega))).set (.inr (by omega)))
  have ret : ∀ {a : Int}, feedN p hs s = a → retL H.length K [H10.length] [vint a, vint 0] (Hb.set (H10.length + 1) .dead) := fun he => by
    refine retLdef (get_set hd' (by omega)) (nu2 (by simp [unk]) (by simp [unk])) ?_
    rw [he, h0] at kk
    exact kk
  have hfed : fedB p hs s = !((rainsB s).any fun w => !decide (starvR p hs w < 0)) := by
    unfold fedB
    rw [List.not_any_eq_all_not]
    simp
  refine ldI (get_set i3 (by omega)) rfl rfl (notI (cndB (fun hx => ?_) fun hx => ?_))
  · refine ret ?_
    unfold feedN
    rw [if_neg (by omega), if_pos (by rw [hfed]; exact hx)]
  · refine ldI (get_set i2 (by omega)) rfl rfl (notI (cndB (fun hy => ?_) fun hy => ?_))
    · refine ret ?_
      unfold feedN
      rw [if_neg (by omega), if_neg (by rw [hfed, hx]; decide), if_neg (by simpa using hy)]
    · refine ret ?_
      unfold feedN
      rw [if_neg (by omega), if_neg (by rw [hfed, hx]; decide), if_pos (by simpa using hy)]
end
def stepV (p : Pas) (hs : List Int) (a : List UInt8 × Int) (w : List UInt8) : List UInt8 × Int := if starvR p hs w ≥ 0 ∧ (a.2 < 0 ∨ starvR p hs w < a.2) then (w, starvR p hs w) else a
def worstR (p : Pas) (hs : List Int) (s : SkyR) : List UInt8 × Int := (rainsB s).foldl (stepV p hs) ([], -1)
section
variable {main : Bool} {J : JT} {h H : List AObj} {K : Value → List AObj → Prop} {KV : Value → Prop} {HL : List AObj → Prop} {n0 : Nat}
noncomputable abbrev lpV (st : LoopState) (pend : Option Code) (r : Nat → Value) (d : Nat) : AObj := .loop st pend 51 r 45 #[23] (subC [1, 1, 1, 0, 1, 0, 0] (codeOf f51)) (subC [1, 1, 1, 0, 1, 0, 1] (codeOf f51)) d
theorem roundV (hJ : Closed prog main J) {l d p3 p4 p9 p10 : Nat} {R : Nat → Value} {p : Pas} {hs : List Int} {hv : Value} {w w0 : List UInt8} {d0 : Int} {Q : Value → List AObj → Prop} (f : pasOk p) (hh : headsOk hs) (hw : w.length ≤ hs.length) (hw2 : w.length ≤ 1000)
    (sh : Sli (H.set l (lpV .busy none R d)) hv 1 hs.length (hs.map vint)) (kv : kn1 hv = true)
    (hl : H[l]? = some (lpV .ready none R d)) (r3 : R 3 = ptr p3 0) (r4 : R 4 = ptr p4 0) (r9 : R 10 = ptr p9 0) (r10 : R 11 = ptr p10 0)
    (c3 : H[p3]? = some (.cells p.cells true 0)) (c4 : H[p4]? = some (.cells [hv] true 0)) (c9 : H[p9]? = some (.cells [strV w0] true 0)) (c10 : H[p10]? = some (.cells [vint d0] true 0))
    (n3 : p3 ≠ l) (n4 : p4 ≠ l) (n9 : p9 ≠ l) (n10 : p10 ≠ l) (n : p9 ≠ p10)
    (k : ∀ H', SameX [l, p9, p10] H H' → H'[l]? = some (lpV .ready none R d) → H'[p9]? = some (.cells [strV (stepV p hs (w0, d0) w).1] true 0) → H'[p10]? = some (.cells [vint (stepV p hs (w0, d0) w).2] true 0) → Q (.bool true) H') :
    callV prog (Good prog J) (.func (.yield l) ⟨[]⟩ ⟨[]⟩) [strV w] H Q := by
  show Good prog J (yid prog l) [strV w] H Q
  refine good_round hJ hl rfl (by decide) fun ok => W_sound hJ mixed _ ?_
  rw [a51_1]
  refine ⟨rfl, none, _, _, _, _, _, _, _, hl, W_sound hJ mixed _ ?_⟩
  rw [b51_1]
  have hll := lt_of_get hl
  have hl3 : (H.set l (lpV .busy none R d))[l]? = some (lpV .busy none R d) := List.getElem?_set_self hll
  have S3 : SameX [l] H (H.set l (lpV .busy none R d)) := SameX.refl.set (.inl (by simp))
  generalize H.set l (lpV .busy none R d) = H3 at hl3 S3 sh
  show aLoad true 6 (R 3) _ _
  rw [r3]
  refine load_part (c := p.cells) (S3.get c3 (by simpa using n3)) (by simp [Pas.cells]) rfl rfl ?_
  show aLoad false 1 (R 4) _ _
  rw [r4]
  refine ldI (v := hv) (S3.get c4 (by simpa using n4)) rfl kv ?_
  have nn : p10 ≠ p9 := fun e => n e.symm
  refine good98 hJ f hh sh hw hw2 fun H4 S4 => geqI ?_
  have T4 : SameX [l] H H4 := S3.trans S4.weak0
  have hl4 := S4.get hl3 (by simp)
  have d9 := T4.get c9 (by simpa using n9)
  have d10 := T4.get c10 (by simpa using n10)
  have hll4 := lt_of_get hl4
  have no : ¬ (starvR p hs w ≥ 0 ∧ (d0 < 0 ∨ starvR p hs w < d0)) → Q (.bool true) (H4.set l (lpV .ready none R d)) := fun hn => by
    have e : stepV p hs (w0, d0) w = (w0, d0) := by
      unfold stepV
      rw [if_neg hn]
    refine k _ ((T4.weak (by simp)).set (.inl (by simp))) (List.getElem?_set_self hll4) (get_set ?_ n9) (get_set ?_ n10)
    · rw [e]
      exact d9
    · rw [e]
      exact d10
  have yes : ∀ {H6 : List AObj}, (starvR p hs w ≥ 0 ∧ (d0 < 0 ∨ starvR p hs w < d0)) → SameX [p9, p10] H4 H6 → H6[p9]? = some (.cells [strV w] true 0) → H6[p10]? = some (.cells [vint (starvR p hs w)] true 0) → Q (.bool true) (H6.set l (lpV .ready none R d)) := fun {H6} hy S6 e9 e10 => by
    have e : stepV p hs (w0, d0) w = (w, starvR p hs w) := by
      unfold stepV
      rw [if_pos hy]
    have hl6 := S6.get hl4 (by simp; exact ⟨fun e => n9 e.symm, fun e => n10 e.symm⟩)
    refine k _ (((T4.weak (by simp)).trans (S6.weak (by simp))).set (.inl (by simp))) (List.getElem?_set_self (lt_of_get hl6)) (get_set ?_ n9) (get_set ?_ n10)
    · rw [e]
      exact e9
    · rw [e]
      exact e10
  have put : ∀ {v x : Value} {K6 : List AObj → Prop}, v = strV w → x = ptr p10 0 → (∀ H6, SameX [p9, p10] H4 H6 → H6[p9]? = some (.cells [strV w] true 0) → H6[p10]? = some (.cells [vint (starvR p hs w)] true 0) → H6[l]? = some (lpV .busy none R d) → K6 H6) → aStore 1 (ptr p9 0) v H4 fun H5 => aStore 1 x (vint (starvR p hs w)) H5 K6 := fun {v x K6} hv hx hk => by
    subst hv hx
    refine qSt d9 (by simp) rfl rfl fun H5 S5 c5 l5 => qSt (S5.get d10 (by simpa using nn)) (by simp) rfl rfl fun H6 S6 c6 l6 => ?_
    exact hk H6 ((S5.weak (by simp)).trans (S6.weak (by simp))) (S6.get c5 (by simpa using n)) c6 (S6.get (S5.get hl4 (by simpa using n9.symm)) (by simpa using n10.symm))
  refine cndI (fun h1 => ?_) fun h1 => ?_
  · show aLoad false 1 (R 11) _ _
    rw [r10]
    refine ldI (v := vint d0) d10 rfl rfl (lssI (cndI (fun h2 => ?_) fun h2 => ?_))
    · show aStore 1 (R 10) _ _ _
      rw [r9]
      refine put rfl r10 fun H6 S6 e9 e10 hl6 => ?_
      exact ⟨.busy, none, _, _, _, _, _, _, _, hl6, .inl (yes ⟨h1, .inl h2⟩ S6 e9 e10)⟩
    · show aLoad false 1 (R 11) _ _
      rw [r10]
      refine ldI (v := vint d0) d10 rfl rfl (lssI (cndI (fun h3 => ?_) fun h3 => ?_))
      · show aStore 1 (R 10) _ _ _
        rw [r9]
        refine put rfl r10 fun H6 S6 e9 e10 hl6 => ?_
        exact ⟨.busy, none, _, _, _, _, _, _, _, hl6, .inl (yes ⟨h1, .inr h3⟩ S6 e9 e10)⟩
      · exact ⟨.busy, none, _, _, _, _, _, _, _, hl4, .inl (no fun h => h.2.elim h2 h3)⟩
  · exact ⟨.busy, none, _, _, _, _, _, _, _, hl4, .inl (no fun h => h1 h.1)⟩
def wstV (p : Pas) (hs : List Int) (s : SkyR) : List UInt8 × Int × Int := if ckdE p hs s ≠ 0 then ([], 0, ckdE p hs s) else if (worstR p hs s).2 < 0 then ([], 0, 11) else ((worstR p hs s).1, (worstR p hs s).2, 0)
theorem nu3 {a b c : Value} (ha : a ≠ unk) (hb : b ≠ unk) (hc : c ≠ unk) : ∀ v ∈ [a, b, c], v ≠ unk := by
  intro v hv
  simp only [List.mem_cons, List.not_mem_nil, or_false] at hv
  rcases hv with rfl | rfl | rfl <;> assumption
set_option maxHeartbeats 800000 in
theorem good51 (hJ : Closed prog main J) {p : Pas} {s : SkyR} {hs : List Int} {hv : Value} (sh : Sli H hv 1 hs.length (hs.map vint)) (hl : hs.length < 1000000)
    (hK : ∀ H', SameX [] H H' → K (.tuple ⟨[strV (wstV p hs s).1, vint (wstV p hs s).2.1, vint (wstV p hs s).2.2]⟩) H') : Good prog J 51 [.agg ⟨p.cells⟩, hv, .agg ⟨s.cells⟩] H K := by
  refine g51 hJ fun ok => ?_
  rw [e51]
  have vh := sliValZ sh
  refine qBox (l := p.cells) rfl fun H1 p3 e1 S1 c3 l1 => qBox1 vh.1 vh.2.1 fun H2 p4 e2 S2 c4 l2 => qBox (l := s.cells) rfl fun H3 p5 e3 S3 c5 l3 => ?_
  have c33 := S3.get (S2.get c3 (by simp)) (by simp)
  have c43 := S3.get c4 (by simp)
  have T3 := (S1.trans S2).trans S3
  refine load_part (c := p.cells) c33 (by simp [Pas.cells]) rfl rfl (ldI (v := hv) c43 rfl vh.2.2 (load_part (c := s.cells) c5 (by simp [SkyR.cells]) rfl rfl ?_))
  refine good92 hJ (T3.sli sh (by simp)) hl fun H4 S4 => neqI (cndI (fun h1 => ?_) fun h1 => ?_)
  · have k := hK H4 (T3.trans S4)
    unfold wstV at k
    rw [if_pos h1] at k
    exact retL_same (nu3 (by simp [unk]) (by simp [unk]) (by simp [unk])) k
  have h0 : ckdE p hs s = 0 := by omega
  obtain ⟨f, g, hh, hlen⟩ := ckdE_zero h0
  obtain ⟨g1, g2, g3⟩ := id g
  refine qAl fun H5 p9 e5 S5 c9 l5 => qAl fun H6 p10 e6 S6 c10 l6 => ?_
  refine qSt (S6.get c9 (by simp)) (by simp) rfl rfl fun H7 S7 c97 l7 => qSt (S7.get c10 (by simp; omega)) (by simp) rfl rfl fun H8 S8 c108 l8 => ?_
  have c9 : H8[p9]? = some (.cells [strV []] true 0) := S8.get c97 (by simp; omega)
  have c10 : H8[p10]? = some (.cells [vint (-1)] true 0) := c108
  have h43 := S4.1
  have S48 : SameX [] H4 H8 := ((S5.trans S6).thru S7 (by simp; omega)).thru S8 (by simp; omega)
  have S38 := S4.trans S48
  have T8 : SameX [] H H8 := T3.trans S38
  refine load_part (c := s.cells) (S38.get c5 (by simp)) (by simp [SkyR.cells]) rfl rfl ?_
  refine good90 hJ fun H10 ps S10 cs10 gs => ?_
  have TH : SameX [] H H10 := T8.trans S10
  refine l51_1 hJ (first := []) (cap := [ptr ps 0]) rfl (by decide) ?_
  obtain ⟨R, hRe⟩ : ∃ R : RG, R = RG.p (RG.p (RG.p (RG.p (RG.p (RG.p (RG.p (RG.p (RG.p (RG.p (RG.p (RG.p (RG.p (RG.p (RG.p (RG.p (RG.p (RG.mk (regs [.agg ⟨p.cells⟩, hv, .agg ⟨s.cells⟩]) []) 3 (ptr p3 0)) 4 (ptr p4 0)) 5 (ptr p5 0)) 6 (strV [])) 7 (vint 0)) 8 (vint 0)) 14 (.agg ⟨p.cells⟩)) 15 hv) 16 (.agg ⟨s.cells⟩)) 17 (vint (ckdE p hs s))) 9 (vint (ckdE p hs s))) 18 (vint (ckdE p hs s))) 19 (.bool (decide (ckdE p hs s ≠ 0)))) 10 (ptr p9 0)) 11 (ptr p10 0)) 21 (.agg ⟨s.cells⟩)) 22 (.func (.func 127) ⟨[]⟩ ⟨[ptr ps 0]⟩) := ⟨_, rfl⟩
  rw [show (Value.string { data := #[] }) = strV [] from rfl, ← hRe]
  have R3 : R.r 3 = ptr p3 0 := by subst hRe; rfl
  have R4 : R.r 4 = ptr p4 0 := by subst hRe; rfl
  have R9 : R.r 10 = ptr p9 0 := by subst hRe; rfl
  have R10 : R.r 11 = ptr p10 0 := by subst hRe; rfl
  have Rds : R.ds = [] := by subst hRe; rfl
  clear hRe
  have hl11 : (H10 ++ [AObj.deferred] ++ [lpV .ready none R.r H10.length])[H10.length + 1]? = some (lpV .ready none R.r H10.length) := by
    rw [List.append_assoc]
    simp
  have hd11 : (H10 ++ [AObj.deferred] ++ [lpV .ready none R.r H10.length])[H10.length]? = some .deferred := by
    rw [List.append_assoc]
    simp
  have hln : (H10 ++ [AObj.deferred] ++ [lpV .ready none R.r H10.length]).length = H10.length + 2 := by simp
  have S11 : SameX [] H10 (H10 ++ [AObj.deferred] ++ [lpV .ready none R.r H10.length]) := SameX.refl.app.app
  generalize hH11 : H10 ++ [AObj.deferred] ++ [lpV .ready none R.r H10.length] = H11 at hl11 hd11 hln S11
  have UH : SameX [] H H11 := TH.trans S11
  have S8' := S10.trans S11
  have S3' := S38.trans S8'
  have w9 := S8'.get c9 (by simp)
  have w10 := S8'.get c10 (by simp)
  have w3 := S3'.get c33 (by simp)
  have w4 := S3'.get c43 (by simp)
  have ws : H11[ps]? = some (.cells s.cells true 0) := S11.get cs10 (by simp)
  have b3 := lt_of_get c33
  have b4 := lt_of_get c43
  have b9 := lt_of_get c9
  have b10 := lt_of_get c10
  have bs := lt_of_get cs10
  have h10 := S10.1
  have h38 := S38.1
  have hTH := TH.1
  have hUH := UH.1
  have hT3 := T3.1
  let acc : Nat → List UInt8 × Int := fun k => ((rainsB s).take k).foldl (stepV p hs) ([], -1)
  have tk : ∀ (k : Nat) (w : List UInt8), (rainsB s)[k]? = some w → acc (k + 1) = stepV p hs (acc k) w := fun k w hw => by
    dsimp only [acc]
    rw [List.take_add_one, hw, List.foldl_append]
    rfl
  have RD : Rnd J (rainsB s) (.func (.yield (H10.length + 1)) ⟨[]⟩ ⟨[]⟩) [H10.length + 1, p9, p10] H11
      (fun k O H' => O = [] ∧ H'[H10.length + 1]? = some (lpV .ready none R.r H10.length) ∧ H'[p9]? = some (.cells [strV (acc k).1] true 0) ∧ H'[p10]? = some (.cells [vint (acc k).2] true 0)) (fun H' => False) := by
    refine ⟨by simp; omega, fun h => by rw [h.1]; simp, fun T hi => ⟨hi.1, by rw [T.2 _ (.inl (by omega))]; exact hi.2.1, by rw [T.2 _ (.inl (by omega))]; exact hi.2.2.1, by rw [T.2 _ (.inl (by omega))]; exact hi.2.2.2⟩, ?_⟩
    rintro k w O Ha Q hw Sa _ ⟨rfl, i1, i2, i3⟩ q1 q2
    have hwl := rainsB_len (List.mem_of_getElem? hw)
    have ga : ∀ {q : Nat} {o : AObj}, H11[q]? = some o → q ≠ H10.length + 1 → q ≠ p9 → q ≠ p10 → Ha[q]? = some o := fun hq h1 h2 h3 => Sa.get hq (by simp; exact ⟨h1, h2, h3⟩)
    have Sx : SameX [H10.length + 1, p9, p10] H11 (Ha.set (H10.length + 1) (lpV .busy none R.r H10.length)) := Sa.set (.inl (by simp))
    have Sy : SameX [] H (Ha.set (H10.length + 1) (lpV .busy none R.r H10.length)) := UH.thru Sx (by simp; omega)
    refine roundV hJ f hh (by omega) (by omega) (Sy.sli sh (by simp)) vh.2.2 i1 R3 R4 R9 R10 (ga w3 (by omega) (by omega) (by omega)) (ga w4 (by omega) (by omega) (by omega)) i2 i3 (by omega) (by omega) (by omega) (by omega) (by omega) fun Hb Sb hlb h9 h10' => ?_
    refine q1 [] Hb (Sb.weak (by simp)) (by simp) ⟨rfl, hlb, ?_, ?_⟩
    · rw [h9, tk k w hw]
    · rw [h10', tk k w hw]
  refine good127 hJ g RD ⟨rfl, rfl, rfl⟩ ws (by simp; omega) ⟨rfl, hl11, w9, w10⟩ (fun Hb O Sb _ hi => ?_) fun Hb Sb st => st.elim
  obtain ⟨_, i1, i2, i3⟩ := hi
  have hacc : acc (rainsB s).length = worstR p hs s := by
    dsimp only [acc]
    rw [List.take_of_length_le (Nat.le_refl _)]
    rfl
  rw [hacc] at i2 i3
  refine endQnorm i1 (by simp) ?_
  rw [c51_1]
  show aLoad false 1 (R.r 11) _ _
  rw [R10, R9, Rds]
  have hd' := Sb.get hd11 (by simp; omega)
  have kk := hK ((Hb.set (H10.length + 1) .dead).set H10.length .dead) (((UH.thru Sb (by simp; omega)).set (.inr (by omega))).set (.inr (by omega)))
  unfold wstV at kk
  rw [if_neg (by omega)] at kk
  refine ldI (v := vint (worstR p hs s).2) (get_set i3 (by omega)) rfl rfl (lssI (cndI (fun hx => ?_) fun hx => ?_))
  · rw [if_pos hx] at kk
    exact retLdef (get_set hd' (by omega)) (nu3 (by simp [unk]) (by simp [unk]) (by simp [unk])) kk
  · rw [if_neg hx] at kk
    refine ldI (v := strV (worstR p hs s).1) (get_set i2 (by omega)) rfl rfl (ldI (v := vint (worstR p hs s).2) (get_set i3 (by omega)) rfl rfl ?_)
    exact retLdef (get_set hd' (by omega)) (nu3 (by simp [unk, strV]) (by simp [unk]) (by simp [unk])) kk
end
end Go.Proofs.Ythnccaajpdnndaa
