/- TallyFewest answers true at every input, and its argument reads behind the call as it read before. No conditions. -/
import Derived.Test.YtdgpacdknpahnaaK5
import Derived.Test.YtdgpacdknpahnaaK2
import Derived.Test.YtdgpacdknpahnaaK4
import Derived.Below
import Derived.Test.YtdgpacdknpahnaaRows
import Derived.Conc.LeavingOf
import Derived.ChangeSlices
import Derived.OpenShut
import Derived.Carry
namespace Go.Proofs.Ytdgpacdknpahnaa
open Go.Conc
def At (J : JT) (N : Nat) (b : FB) (cs : List Frame) (FC : Frm) (ρ0 : Env) (m : Nat) (k : List Item) (f : RG) (h : List AObj) : Prop :=
  ∀ (a : Act) (ρ : Env) (w : World) (ft : Foot), ActRel h.length ρ N f a → HRel ρ h FC w ft → Env.upto m ρ0 ρ → m ≤ h.length → J (G (b.at a k) cs) w ft
section
variable {P : Program} {main : Bool} {J : JT} {N m n1 : Nat} {fn : FuncId} {b : FB} {cs : List Frame} {FC : Frm} {ρ0 : Env} {k : List Item} {f : RG} {h : List AObj} {Q : QT} {c x y : Code} {ops : Array Oper} {i : Nat} {rest : List Nat} {o : Oper}
theorem At.ctrl (hJ : Closed P main J) {k' : List Item} (hst : ∀ a w, stepG P main (G (b.at a k) cs) w = .go (G (b.at a k') cs) w #[]) (h' : At J N b cs FC ρ0 m k' f h) : At J N b cs FC ρ0 m k f h :=
  fun a ρ w ft A H hu hm => hJ.ctrl rfl rfl (hst a) (h' a ρ w ft A H hu hm)
theorem At.seq (hJ : Closed P main J) (h' : At J N b cs FC ρ0 m (.code x :: .code y :: k) f h) : At J N b cs FC ρ0 m (.code (.seq x y) :: k) f h :=
  At.ctrl hJ (fun a w => by simp [G, stepG, stepG.exec, FB.at]) h'
theorem At.block (hJ : Closed P main J) {id : Nat} (h' : At J N b cs FC ρ0 m (.code c :: .inBlock id :: k) f h) : At J N b cs FC ρ0 m (.code (.block id c) :: k) f h :=
  At.ctrl hJ (fun a w => by simp [G, stepG, stepG.exec, FB.at]) h'
theorem At.inBlock (hJ : Closed P main J) {id : Nat} (h' : At J N b cs FC ρ0 m k f h) : At J N b cs FC ρ0 m (.inBlock id :: k) f h :=
  At.ctrl hJ (fun a w => by simp [G, stepG, stepG.exec, FB.at]) h'
theorem At.loop (hJ : Closed P main J) (h' : At J N b cs FC ρ0 m (.code c :: .inLoop c :: k) f h) : At J N b cs FC ρ0 m (.code (.loop c) :: k) f h :=
  At.ctrl hJ (fun a w => by simp [G, stepG, stepG.exec, FB.at]) h'
theorem At.inLoop (hJ : Closed P main J) (h' : At J N b cs FC ρ0 m (.code c :: .inLoop c :: k) f h) : At J N b cs FC ρ0 m (.inLoop c :: k) f h :=
  At.ctrl hJ (fun a w => by simp [G, stepG, stepG.exec, FB.at]) h'
theorem At.region (hJ : Closed P main J) {id : Nat} (h' : At J N b cs FC ρ0 m (.inRegion ops (List.range ops.size) :: k) f h) : At J N b cs FC ρ0 m (.code (.region id ops false) :: k) f h :=
  At.ctrl hJ (fun a w => by simp [G, stepG, stepG.exec, FB.at]) h'
theorem At.ops_nil (hJ : Closed P main J) (h' : At J N b cs FC ρ0 m k f h) : At J N b cs FC ρ0 m (.inRegion ops [] :: k) f h :=
  At.ctrl hJ (fun a w => by simp [G, stepG, stepG.exec, FB.at]) h'
theorem At.piece (hb : b.tag = fn) (hk : b.kind ≠ .early) (hs : Sem J N n1 fn c f h Q) (h1 : m ≤ n1) (h2 : n1 ≤ h.length) (hq : ∀ e f' h', Q e f' h' → (e = .normal ∧ At J N b cs FC ρ0 m k f' h') ∨ ∃ id k', e = .exit id ∧ exitTo id k = some k' ∧ At J N b cs FC ρ0 m k' f' h') : At J N b cs FC ρ0 m (.code c :: k) f h := by
  intro a ρ w ft A H hu hm
  refine hs b a k cs (fun _ _ _ _ => False) ρ FC w ft hb hk (fun _ _ _ _ _ hf _ => hf.elim) A H h2 fun e f' h' ρ' w' ft' a' q A' H' hu' hl' => ?_
  have up : Env.upto m ρ0 ρ' := Env.upto_trans hu (Env.upto_le hu' h1)
  rcases hq e f' h' q with ⟨rfl, hat⟩ | ⟨id, k', rfl, hex, hat⟩
  · exact hat a' ρ' w' ft' A' H' up (Nat.le_trans h1 hl')
  · unfold AfterJ
    simp only [hex]
    exact hat a' ρ' w' ft' A' H' up (Nat.le_trans h1 hl')
theorem At.op (hJ : Closed P main J) (hk : b.kind ≠ .early) (ho : ops[i]? = some o) (hd : dstOk N o = true) (hg : gd ops o f.r = some true) (hop : opW P (Good P J) o f.r h fun v h' => h.length ≤ h'.length → At J N b cs FC ρ0 m (.inRegion ops rest :: k) (f.putO o.dst v) h') :
    At J N b cs FC ρ0 m (.inRegion ops (i :: rest) :: k) f h := fun a ρ w ft A H hu hm =>
  step_any hJ hk ho hg (dstOk_lt hd) A H hop fun v h' ρ' w' ft' a' hK A' H' hu' hl' => hK hl' a' ρ' w' ft' A' H' (Env.upto_trans hu (Env.upto_le hu' hm)) (Nat.le_trans hm hl')
theorem At.drop {g : List AObj} {f' : RG} (ok : heapOk h) (hf : ∀ t, f'.r t = unk ∨ (f'.r t = f.r t ∧ VOk h.length (f'.r t))) (hd : f'.ds = f.ds) (hds : ∀ b ∈ f.ds, b < h.length) (hm' : m ≤ h.length) (h' : At J N b cs FC ρ0 m k f' h) : At J N b cs FC ρ0 m k f (h ++ g) := by
  intro a ρ w ft A H hu hm
  have gc := gc_drop (g := g) ok (Nat.le_refl h.length)
  have hcomp : ρ.comp id = ρ := rfl
  have H2 := gc.rel H
  rw [hcomp] at H2
  refine h' a ρ w ft ⟨fun t => ?_, A.size, by rw [hd]; exact A.defers, by rw [hd]; exact hds⟩ H2 hu hm'
  rcases hf t with e | ⟨e, hv⟩
  · exact .inl e
  · rcases A.regs t with e2 | ⟨_, e2⟩
    · exact .inl (e.trans e2)
    · exact .inr ⟨hv, by rw [e2, e]⟩
end
section
variable {P : Program} {W0 : World} {Post : Value → World → Prop} {T : Crew} {N m : Nat} {b : FB} {cs : List Frame} {FC : Frm} {ρ0 : Env} {K : List Item} {f : RG} {h : List AObj} {ops : Array Oper} {i : Nat} {rest : List Nat} {o : Oper}
theorem At.go (hk : b.kind ≠ .early) (ho : ops[i]? = some o) (hg : gd ops o f.r = some true) {x : Operand} {ats : Array TypeId} (hop : o.op = .go { callee := .value x, args := #[], argTypes := ats }) (hdst : o.dst = none)
    {g : FuncId} {cap : List Value} (hx : ev f.r x = .func (.func g) ⟨[]⟩ ⟨cap⟩) (hcl : callable P g = true) {k : Nat} (hkp : k ∉ T.pend) (hown : T.ch T.c = some (0, #[], false))
    {h0 hd : List AObj} (hh : h = h0 ++ hd) (hn : ∀ o ∈ h0, o.wrt = false) (hw : ∀ b, ¬ FC.wr b) (ok : heapOk h0) (hm0 : m ≤ h0.length)
    (hto : ∀ (ρ : Env) (w : World) (ft : Foot), HRel ρ (frz h) (keepF ρ h w ft) w ft.lend → Env.upto m ρ0 ρ → Toward P (AtSend P T.c (T.phi k)) (G (Frame.enter P g ⟨cap.map (ren ρ)⟩ .deferred) [base0 P]) w ft.lend)
    (hnc : ∀ cap, .chan cap ∉ h)
    {f' : RG} (hf : ∀ t, f'.r t = unk ∨ (f'.r t = f.r t ∧ VOk h0.length (f'.r t))) (hfd : f'.ds = f.ds) (hds : ∀ b ∈ f.ds, b < h0.length)
    (hJ : At (JC P W0 Post (T.more k)) N b cs FC ρ0 m (.inRegion ops rest :: K) f' h0) :
    At (JC P W0 Post T) N b cs FC ρ0 m (.inRegion ops (i :: rest) :: K) f h := by
  intro a ρ w ft A H hu hm
  have nc : ∀ b, ¬ Chs ρ h b := fun b ⟨j, cap, hj, _⟩ => hnc cap (List.mem_of_getElem? hj)
  refine go_step hk ho hg A hop hx hcl hkp hown (fun w₁ h₁ => ?_) fun w₁ h₁ => ?_
  · have hlf : lentF ρ h ft = ft.lend := by
      unfold lentF Foot.lend
      simp only [Foot.mk.injEq, and_true]
      funext b
      simp [nc b]
    have hfr := frz_rel (H.rely h₁)
    rw [hlf] at hfr
    exact hto ρ w₁ ft hfr hu
  · subst hh
    have gc := gc_drop (g := hd) ok (Nat.le_refl h0.length)
    have H2 := gc.rel (H.rely h₁)
    rw [show ρ.comp id = ρ from rfl] at H2
    refine hJ _ ρ w₁ ft.lend ⟨fun t => ?_, by simp [Act.put, hdst, A.size], by simp [Act.put, hdst, hfd, A.defers], by rw [hfd]; exact hds⟩ (lend_rel H2 hn hw) hu hm0
    simp only [Act.put, hdst]
    rcases hf t with e | ⟨e, hv⟩
    · exact .inl e
    · rcases A.regs t with e2 | ⟨_, e2⟩
      · exact .inl (e.trans e2)
      · exact .inr ⟨hv, by rw [e2, e]⟩
theorem At.recv (hk : b.kind ≠ .early) (ho : ops[i]? = some o) (hd : dstOk N o = true) (hg : gd ops o f.r = some true) {x : Operand} {t : TypeId} {ok : Bool} (hop : o.op = .recv t x ok)
    {dir : ChanDir} {e : TypeId} (hu : P.underlying t = some (.chan dir e)) {ie : TypeInfo} (hi : P.info? e = some ie) {z : Value} (hz : ie.zero = some z) {c : Nat} (hx : ev f.r x = .chan (some c)) (hcm : c < m) (hc : ρ0.blk c = T.c) (hp : T.pend ≠ [])
    (hN : ∀ k ∈ T.pend, ∀ v, T.phi k v → ∃ v0, v = v0 ∧ VOk 0 v0 ∧ At (JC P W0 Post (T.less k)) N b cs FC ρ0 m (.inRegion ops rest :: K) (f.putO o.dst (recvd ok v0 true)) h) :
    At (JC P W0 Post T) N b cs FC ρ0 m (.inRegion ops (i :: rest) :: K) f h := by
  intro a ρ w ft A H hu' hm
  refine recv_step hk ho hg A hop hu hi hz hx (by rw [(hu' c hcm).1]; exact hc) hp fun k hkm v hv w₁ h₁ => ?_
  obtain ⟨v0, rfl, hv0, hat⟩ := hN k hkm v hv
  refine hat _ ρ w₁ ft (act_put A (dstOk_lt hd) (.inr ?_)) (H.rely h₁) hu' hm
  have h0 : VOk 0 (recvd ok v true) := by
    unfold recvd
    cases ok
    · exact hv0
    · simp [VOk, AOk, LOk, hv0]
  exact ⟨VOk.mono (Nat.zero_le _) _ h0, (ren0 _ h0).symm⟩
end
def Crew.put (T : Crew) (b : Nat) (y : Nat × Array Value × Bool) : Crew := { T with ch := putAt T.ch b (some y) }
section
variable {P : Program} {W0 : World} {Post : Value → World → Prop} {T : Crew} {g g0 : Goroutine} {w w₁ w' : World} {ft : Foot} {gs gs' : Array Goroutine} {t : Trace} {st st' : Nat → WS} {ix : Nat → Nat} {i k : Nat} {sl : Option (Nat × Nat)}
theorem setChan_heap (w : World) (c cap : Nat) (buf : Array Value) (cl : Bool) (s r : Nat) (tm : Bool) (b : Nat) : (w.setChan c cap buf cl s r tm).heap[b]? = if b = c ∧ c < w.heap.size then some (.chan cap buf cl s r tm) else w.heap[b]? := by
  unfold World.setChan
  by_cases h : c = b
  · subst h
    by_cases hl : c < w.heap.size
    · simp [hl]
    · simp [hl]
  · rw [if_neg (fun e => h e.1.symm)]
    simp [Array.getElem?_setIfInBounds_ne h]
theorem Inv.turn (I : Inv P W0 T ft gs w t st ix) {b : Nat} {x y : Nat × Array Value × Bool} (hb : T.ch b = some x) (hne : T.pend ≠ [] → b ≠ T.c) {s r : Nat} {tm : Bool} (hsr : s = r + y.2.1.size) (hs : gs'.size = gs.size) (ho : ∀ j, 0 < j → gs'[j]? = gs[j]?)
    {u : Trace} (hmu : ∀ op ∈ u, op.act.touch? = none) (hq : ∀ j, ∀ op ∈ u, ∀ d, deafStep j d op = d) (hlow : ∀ op ∈ u, op.act.low w.heap.size) : Inv P W0 (T.put b y) ft gs' (w.setChan b y.1 y.2.1 y.2.2 s r tm) (t ++ u) st ix := by
  have hd := fun j => Deaf_quiet (t := t) (hq j)
  have hblt : b < w.heap.size := by
    obtain ⟨_, _, _, e⟩ := I.chan b x hb
    exact (Array.getElem?_eq_some_iff.1 e).1
  have hpas := fun a => setChan_heap w b y.1 y.2.1 y.2.2 s r tm a
  have heap : ∀ a, a ≠ b → (w.setChan b y.1 y.2.1 y.2.2 s r tm).heap[a]? = w.heap[a]? := fun a ha => by
    rw [hpas, if_neg (fun e => ha e.1)]
  have hsz : (w.setChan b y.1 y.2.1 y.2.2 s r tm).heap.size = w.heap.size := by simp [World.setChan]
  have rel : ∀ {f : Foot}, ¬ f.rd b → RelyW f w (w.setChan b y.1 y.2.1 y.2.2 s r tm) := fun hn =>
    ⟨fun a ha => heap a fun e => hn (e ▸ ha), by rw [hsz]; exact Nat.le_refl _, rfl, rfl, rfl⟩
  have hch : ∀ a z, (T.put b y).ch a = some z → ∃ z', T.ch a = some z' := fun a z ha => by
    by_cases e : a = b
    · exact ⟨x, e ▸ hb⟩
    · unfold Crew.put at ha
      dsimp only at ha
      rw [putAt_ne _ _ e] at ha
      exact ⟨z, ha⟩
  refine { base := ⟨I.base.tape, I.base.os, I.base.output, by rw [hsz]; exact I.base.size⟩, lt := fun a ha => by rw [hsz]; exact I.lt a ha, sub := I.sub, chan := fun a z ha => ?_, cnt := fun a z s' r' tm' ha hw => ?_, chft := fun a z ha => ?_, own := fun hp => ?_, nd := I.nd, ixr := fun l hl => by rw [hs]; exact I.ixr l hl, inj := I.inj, pnd := fun l hl => ?_, old := fun j z hj hz hnj => ?_, disj := I.disj, above := fun j hj => by rw [hd]; exact I.above j (by omega), hears := by rw [hd]; exact I.hears, clean := fun said => noRace_appendMute (I.clean said) hmu, known := I.known.mute hmu, done := done_mute I.done hmu, seen := by rw [hsz]; exact seen_app I.seen hlow }
  · by_cases e : a = b
    · subst e
      have : z = y := by
        unfold Crew.put at ha
        dsimp only at ha
        rw [putAt_self] at ha
        exact (Option.some.inj ha).symm
      subst this
      exact ⟨_, _, _, by rw [hpas, if_pos ⟨rfl, hblt⟩]⟩
    · rw [heap a e]
      unfold Crew.put at ha
      dsimp only at ha
      rw [putAt_ne _ _ e] at ha
      exact I.chan a z ha
  · by_cases e : a = b
    · subst e
      have : z = y := by
        unfold Crew.put at ha
        dsimp only at ha
        rw [putAt_self] at ha
        exact (Option.some.inj ha).symm
      subst this
      rw [hpas, if_pos ⟨rfl, hblt⟩] at hw
      simp only [Option.some.injEq, Obj.chan.injEq] at hw
      obtain ⟨_, _, _, rfl, rfl, _⟩ := hw
      exact hsr
    · rw [heap a e] at hw
      unfold Crew.put at ha
      dsimp only at ha
      rw [putAt_ne _ _ e] at ha
      exact I.cnt a z s' r' tm' ha hw
  · obtain ⟨z', hz⟩ := hch a z ha
    exact I.chft a z' hz
  · unfold Crew.put
    dsimp only
    rw [putAt_ne _ _ (Ne.symm (hne hp))]
    exact I.own hp
  · obtain ⟨z, h1, h2, h3⟩ := I.pnd l hl
    refine ⟨z, by rw [ho _ (I.ixr l hl).1]; exact h1, by rw [hd]; exact h2, h3.imp (fun ⟨wl, fl, e, V⟩ => ⟨wl, fl, e, V.way, V.rely.trans (rel (V.ch b x hb)), fun a ha => by rw [hsz]; exact V.lt a ha, V.sub, fun a z ha => ?_, V.d1, V.d2, V.know.mute hmu⟩) id⟩
    obtain ⟨z', hz⟩ := hch a z ha
    exact V.ch a z' hz
  · rw [ho j hj] at hz
    obtain ⟨n, e, h⟩ := I.old j z hj hz hnj
    exact ⟨n, e, by rw [hd]; exact h⟩
theorem setChan_rely {f : Foot} {c cap s r : Nat} {buf : Array Value} {cl tm : Bool} (hn : ¬ f.rd c) : RelyW f w (w.setChan c cap buf cl s r tm) :=
  ⟨fun b hb => by
    have hne : b ≠ c := fun e => hn (e ▸ hb)
    rw [setChan_heap, if_neg (fun e => hne e.1)], by simp [World.setChan], rfl, rfl, rfl⟩
theorem JC.room (hrun : g.status = .running) {b cap : Nat} {buf : Array Value} (hb : T.ch b = some (cap, buf, false)) (hne : T.pend ≠ [] → b ≠ T.c) (hroom : buf.size < cap) {v : Value}
    (h : ∀ w₁, RelyW ft w w₁ → ∃ g₂ z, stepG P true g w₁ = .comm g₂ #[scase b v z] true .send w₁ #[] ∧ JC P W0 Post (T.put b (cap, buf.push v, false)) (Conc.served g₂ undef) w₁ ft) : JC P W0 Post T g w ft :=
  JC.main hrun fun gs w₁ sl t st ix hrel h0 I => by
    obtain ⟨g₂, z, hgo, hN⟩ := h w₁ hrel
    obtain ⟨s, r, tm, hc⟩ := I.chan _ _ hb
    have hlt0 : 0 < gs.size := (Array.getElem?_eq_some_iff.1 h0).1
    have hlt : b < w₁.heap.size := (Array.getElem?_eq_some_iff.1 hc).1
    have hsr : s = r + buf.size := I.cnt _ _ s r tm hb hc
    have hr := crowd_send_room (P := P) (sl := sl) (gs := gs) (w := w₁) (w₁ := w₁) (i := 0) h0 (show stepG P (0 == 0) _ w₁ = _ from hgo) hc hroom (partners_nil fun j y hy => by
      rcases getElem?_stand _ _ _ _ hy with ⟨_, rfl⟩ | ⟨hj, hy⟩
      · rfl
      · exact I.noRecv (by omega) hy _)
    refine ⟨_, _, hr, ?_⟩
    rw [finishComm_send, evs_front]
    refine hN _ _ sl _ st ix (setChan_rely (I.chft _ _ hb)) (Array.getElem?_setIfInBounds_self_of_lt hlt0) (I.turn (y := (cap, buf.push v, false)) hb hne (by simp; omega) (by simp) (fun j hj => Array.getElem?_setIfInBounds_ne (by omega)) ?_ ?_ ?_)
    · intro op hop
      simp only [List.mem_toArray, List.mem_cons, List.not_mem_nil, or_false] at hop
      rcases hop with rfl | rfl <;> rfl
    · intro j op hop d
      simp only [List.mem_toArray, List.mem_cons, List.not_mem_nil, or_false] at hop
      rcases hop with rfl | rfl <;> rfl
    · intro op hop
      simp only [List.mem_toArray, List.mem_cons, List.not_mem_nil, or_false] at hop
      rcases hop with rfl | rfl <;> exact hlt
theorem Inv.noSend (I : Inv P W0 T ft gs w t st ix) (hp : T.pend = []) {j : Nat} {y : Goroutine} (hj : 0 < j) (hy : gs[j]? = some y) (c : Nat) (sd : Bool) : offersAt y c sd = [] := by
  obtain ⟨n, _, hq⟩ := I.old j _ hj hy fun k hk => by rw [hp] at hk; cases hk
  exact offersAt_of_not_blocked (by rcases hq.status with h | h <;> rw [h] <;> simp) _ _
theorem JC.take (hrun : g.status = .running) (hp : T.pend = []) {b cap : Nat} {buf : Array Value} {cl : Bool} (hb : T.ch b = some (cap, buf, cl)) (hsome : 0 < buf.size) {ok : Bool}
    (h : ∀ w₁, RelyW ft w w₁ → ∃ g₂ z, stepG P true g w₁ = .comm g₂ #[rcase b z] true (.recv ok) w₁ #[] ∧ JC P W0 Post (T.put b (cap, buf.extract 1 buf.size, cl)) (Conc.served g₂ (recvd ok (buf.getD 0 undef) true)) w₁ ft) : JC P W0 Post T g w ft :=
  JC.main hrun fun gs w₁ sl t st ix hrel h0 I => by
    obtain ⟨g₂, z, hgo, hN⟩ := h w₁ hrel
    obtain ⟨s, r, tm, hc⟩ := I.chan _ _ hb
    have hlt0 : 0 < gs.size := (Array.getElem?_eq_some_iff.1 h0).1
    have hlt : b < w₁.heap.size := (Array.getElem?_eq_some_iff.1 hc).1
    have hsr : s = r + buf.size := I.cnt _ _ s r tm hb hc
    have hr := crowd_recv_buf (P := P) (sl := sl) (gs := gs) (w := w₁) (w₁ := w₁) (i := 0) h0 (show stepG P (0 == 0) _ w₁ = _ from hgo) hc hsome (partners_nil fun j y hy => by
      rcases getElem?_stand _ _ _ _ hy with ⟨_, rfl⟩ | ⟨hj, hy⟩
      · rfl
      · exact I.noSend hp (by omega) hy _ _)
    refine ⟨_, _, hr, ?_⟩
    rw [finishComm_recv, evs_front]
    refine hN _ _ sl _ st ix (setChan_rely (I.chft _ _ hb)) (Array.getElem?_setIfInBounds_self_of_lt hlt0) (I.turn (y := (cap, buf.extract 1 buf.size, cl)) hb (fun h => absurd hp h) (by simp; omega) (by simp) (fun j hj => Array.getElem?_setIfInBounds_ne (by omega)) ?_ ?_ ?_)
    · intro op hop
      simp only [List.mem_toArray, List.mem_cons, List.not_mem_nil, or_false] at hop
      rcases hop with rfl | rfl <;> rfl
    · intro j op hop d
      simp only [List.mem_toArray, List.mem_cons, List.not_mem_nil, or_false] at hop
      rcases hop with rfl | rfl <;> rfl
    · intro op hop
      simp only [List.mem_toArray, List.mem_cons, List.not_mem_nil, or_false] at hop
      rcases hop with rfl | rfl <;> exact hlt
theorem setChan_same {b cap s r : Nat} {buf : Array Value} {cl tm : Bool} (hc : w.heap[b]? = some (.chan cap buf cl s r tm)) : w.setChan b cap buf cl s r tm = w := by
  unfold World.setChan
  have : w.heap.setIfInBounds b (.chan cap buf cl s r tm) = w.heap := by
    apply Array.ext_getElem?
    intro j
    by_cases e : b = j
    · subst e
      rw [hc, Array.getElem?_setIfInBounds_self_of_lt (Array.getElem?_eq_some_iff.1 hc).1]
    · rw [Array.getElem?_setIfInBounds_ne e]
  rw [this]
theorem put_same {b : Nat} {x : Nat × Array Value × Bool} (hb : T.ch b = some x) : T.put b x = T := by
  unfold Crew.put
  have : putAt T.ch b (some x) = T.ch := by
    funext j
    by_cases e : j = b
    · subst e
      rw [putAt_self, hb]
    · rw [putAt_ne _ _ e]
  rw [this]
theorem JC.drained (hrun : g.status = .running) (hp : T.pend = []) {b cap : Nat} (hb : T.ch b = some (cap, #[], true)) {ok : Bool} {z : Value}
    (h : ∀ w₁, RelyW ft w w₁ → ∃ g₂, stepG P true g w₁ = .comm g₂ #[rcase b z] true (.recv ok) w₁ #[] ∧ JC P W0 Post T (Conc.served g₂ (recvd ok z false)) w₁ ft) : JC P W0 Post T g w ft :=
  JC.main hrun fun gs w₁ sl t st ix hrel h0 I => by
    obtain ⟨g₂, hgo, hN⟩ := h w₁ hrel
    obtain ⟨s, r, tm, hc⟩ := I.chan _ _ hb
    have hlt0 : 0 < gs.size := (Array.getElem?_eq_some_iff.1 h0).1
    have hlt : b < w₁.heap.size := (Array.getElem?_eq_some_iff.1 hc).1
    have hsr := I.cnt _ _ s r tm hb hc
    have hr := crowd_recv_closed (P := P) (sl := sl) (gs := gs) (w := w₁) (w₁ := w₁) (i := 0) h0 (show stepG P (0 == 0) _ w₁ = _ from hgo) hc (partners_nil fun j y hy => by
      rcases getElem?_stand _ _ _ _ hy with ⟨_, rfl⟩ | ⟨hj, hy⟩
      · rfl
      · exact I.noSend hp (by omega) hy _ _)
    refine ⟨_, _, hr, ?_⟩
    rw [finishComm_recv, evs_front]
    have I2 := I.turn (y := (cap, #[], true)) (s := s) (r := r) (tm := tm) (gs' := gs.setIfInBounds 0 (Conc.served g₂ (recvd ok z false))) (u := #[{ g := 0, fn := g₂.frame.fn, pos := g₂.frame.place, act := .recvClosed b }]) hb (fun h => absurd hp h) hsr (by simp) (fun j hj => Array.getElem?_setIfInBounds_ne (by omega)) (by
      intro op hop
      simp only [List.mem_toArray, List.mem_cons, List.not_mem_nil, or_false] at hop
      subst hop
      rfl) (by
      intro j op hop d
      simp only [List.mem_toArray, List.mem_cons, List.not_mem_nil, or_false] at hop
      subst hop
      rfl) (by
      intro op hop
      simp only [List.mem_toArray, List.mem_cons, List.not_mem_nil, or_false] at hop
      subst hop
      exact hlt)
    dsimp only at I2
    rw [setChan_same hc, put_same hb] at I2
    exact hN _ _ sl _ st ix (RelyW.refl _ _) (Array.getElem?_setIfInBounds_self_of_lt hlt0) I2
theorem Inv.all (I : Inv P W0 T ft gs w t st ix) (hp : T.pend = []) : ∀ i a, touchAt t i = some a → a.loc.isMemory = true → Knows t 0 i := fun i a ha hm => by
  rcases I.done i a ha hm with h | ⟨k, hk, _⟩
  · exact h
  · rw [hp] at hk
    cases hk
theorem Inv.turn0 (I : Inv P W0 T ft gs w t st ix) (hp : T.pend = []) {b : Nat} {x y : Nat × Array Value × Bool} (hb : T.ch b = some x) {s r : Nat} {tm : Bool} (hsr : s = r + y.2.1.size) (hs : gs'.size = gs.size) (ho : ∀ j, 0 < j → gs'[j]? = gs[j]?)
    {u : Trace} (hg0 : ∀ op ∈ u, op.g = 0) (hq : ∀ j, ∀ op ∈ u, ∀ d, deafStep j d op = d) (hlow : ∀ op ∈ u, op.act.low w.heap.size) : Inv P W0 (T.put b y) ft gs' (w.setChan b y.1 y.2.1 y.2.2 s r tm) (t ++ u) st ix := by
  have J := I.turn (u := #[]) (y := y) (tm := tm) hb (fun h => absurd hp h) hsr hs ho (by simp) (by simp) (by simp)
  have e0 : t ++ (#[] : Trace) = t := by simp
  rw [e0] at J
  have hd := fun j => Deaf_quiet (t := t) (hq j)
  have kn := I.all hp
  have hsz : (w.setChan b y.1 y.2.1 y.2.2 s r tm).heap.size = w.heap.size := by simp [World.setChan]
  have know : ∀ i a, touchAt (t ++ u) i = some a → a.loc.isMemory = true → Knows (t ++ u) 0 i := fun i a ha hm => by
    rcases touch_app ha with ⟨_, h⟩ | ⟨op, hop, hg, h⟩
    · exact (kn i a h hm).app _
    · have := knows_own hg
      rw [hg0 op hop] at this
      exact this
  refine ⟨J.base, J.lt, J.sub, J.chan, J.cnt, J.chft, J.own, J.nd, J.ixr, J.inj, fun l hl => ?_, fun j z hj hz hnj => ?_, J.disj, fun j hj => ?_, ?_, fun said => ?_, fun i a ha hm => .inl (know i a ha hm), fun i a ha hm => .inl (know i a ha hm), ?_⟩
  · have : l ∈ T.pend := hl
    rw [hp] at this
    cases this
  · rw [hd]
    exact J.old j z hj hz hnj
  · rw [hd]
    exact J.above j hj
  · rw [hd]
    exact J.hears
  · exact noRace_append (I.clean said) hg0 fun i a ha op hop b hb hcf => kn i a ha (conf_blk hcf).2.1
  · rw [hsz]
    exact seen_app I.seen hlow
theorem JC.shut (hrun : g.status = .running) (hp : T.pend = []) {b cap : Nat} {buf : Array Value} (hb : T.ch b = some (cap, buf, false))
    (h : ∀ w₁, RelyW ft w w₁ → ∀ s r tm, w₁.heap[b]? = some (.chan cap buf false s r tm) → ∃ g', stepG P true g w₁ = .go g' (w₁.setChan b cap buf true s r tm) #[⟨.obj b, false, true⟩, ⟨.obj b, true, true⟩] ∧ JC P W0 Post (T.put b (cap, buf, true)) g' w₁ ft) : JC P W0 Post T g w ft :=
  JC.main hrun fun gs w₁ sl t st ix hrel h0 I => by
    obtain ⟨s, r, tm, hc⟩ := I.chan _ _ hb
    obtain ⟨g', hgo, hN⟩ := h w₁ hrel s r tm hc
    have hlt0 : 0 < gs.size := (Array.getElem?_eq_some_iff.1 h0).1
    have hlt : b < w₁.heap.size := (Array.getElem?_eq_some_iff.1 hc).1
    have hsr : s = r + buf.size := I.cnt _ _ s r tm hb hc
    refine ⟨_, _, runT_crowd_go (P := P) (sl := sl) (i := 0) h0 (show stepG P (0 == 0) _ w₁ = _ from hgo), ?_⟩
    have hev : MemOp.ofEvents 0 g.frame.fn g.frame.place #[⟨.obj b, false, true⟩, ⟨.obj b, true, true⟩] = #[{ g := 0, fn := g.frame.fn, pos := g.frame.place, act := .access ⟨.obj b, false, true⟩ }, { g := 0, fn := g.frame.fn, pos := g.frame.place, act := .close b }] := by
      rw [ofEvents_eq]
      simp [MemAct.ofEvent]
    rw [hev]
    refine hN _ _ sl _ st ix (setChan_rely (I.chft _ _ hb)) (moved_own h0) (I.turn0 (y := (cap, buf, true)) hp hb hsr (by simp) (fun j hj => ?_) ?_ ?_ ?_)
    · rw [Array.getElem?_setIfInBounds_ne (by omega), Array.getElem?_map]
      cases e : gs[j]? with
      | none => rfl
      | some y =>
        obtain ⟨n, _, hq⟩ := I.old j y hj e fun k hk => by rw [hp] at hk; cases hk
        rw [Option.map_some, woken_quitsD hq]
    · intro op hop
      simp only [List.mem_toArray, List.mem_cons, List.not_mem_nil, or_false] at hop
      rcases hop with rfl | rfl <;> rfl
    · intro j op hop d
      simp only [List.mem_toArray, List.mem_cons, List.not_mem_nil, or_false] at hop
      rcases hop with rfl | rfl <;> rfl
    · intro op hop
      simp only [List.mem_toArray, List.mem_cons, List.not_mem_nil, or_false] at hop
      rcases hop with rfl | rfl <;> exact hlt
end
section
variable {P : Program} {main : Bool} {W0 : World} {Post : Value → World → Prop} {T : Crew} {w w₁ w' : World} {ft : Foot} {ρ ρ0 : Env} {h : List AObj} {FC : Frm} {N m : Nat} {f : RG} {b : FB} {a : Act} {cs : List Frame} {K : List Item} {ops : Array Oper} {i : Nat} {rest : List Nat} {o : Oper}
theorem stepG_close (hk : b.kind ≠ .early) (ho : ops[i]? = some o) (hg : gd ops o f.r = some true) (A : ActRel h.length ρ N f a) {x : Operand} {ats : Array TypeId} (hop : o.op = .call { callee := .builtin .close, args := #[x], argTypes := ats }) {c : Nat} (hx : ev f.r x = .chan (some c)) (hdst : o.dst = none)
    (w : World) {cap s r : Nat} {buf : Array Value} {tm : Bool} (hc : w.heap[ρ.blk c]? = some (.chan cap buf false s r tm)) :
    stepG P main (G (b.at a (.inRegion ops (i :: rest) :: K)) cs) w = .go (G (b.at a (.inRegion ops rest :: K)) cs) (w.setChan (ρ.blk c) cap buf true s r tm) #[⟨.obj (ρ.blk c), false, true⟩, ⟨.obj (ρ.blk c), true, true⟩] := by
  have hw := gd_wanted A hg
  have hnd : ∀ c, o.op ≠ .defer c := fun c e => by rw [hop] at e; cases e
  have hk' : (b.kind == CallKind.early) = false := by simpa using hk
  have hxv := ((ev_rel A.regs x).val (by rw [hx]; simp [unk])).2
  rw [hx] at hxv
  simp only [ren] at hxv
  have hr : (execOp a.eval o).runT P w #[] = (.ok (.value (.tuple #[])) (w.setChan (ρ.blk c) cap buf true s r tm), #[⟨.obj (ρ.blk c), false, true⟩, ⟨.obj (ρ.blk c), true, true⟩]) := by
    unfold execOp
    rw [hop]
    simp only [resolve, List.map_toArray, List.map_cons, List.map_nil, hxv]
    show (Sem.bind _ _).runT P w #[] = _
    rw [Sem.runT_bind']
    simp only [pure, Sem.runT]
    unfold invoke builtin
    simp only
    delta Builtin.close_
    dsimp only
    have h1 : (getObj (ρ.blk c)).runT P w #[] = (.ok (.chan cap buf false s r tm) w, #[⟨.obj (ρ.blk c), false, true⟩]) := by
      show Sem.runT P (.getObj _ .pure) w #[] = _
      unfold Sem.runT
      rw [hc]
      rfl
    have h2 : (setObj (ρ.blk c) (.chan cap buf true s r tm)).runT P w #[⟨.obj (ρ.blk c), false, true⟩] = (.ok () (w.setChan (ρ.blk c) cap buf true s r tm), #[⟨.obj (ρ.blk c), false, true⟩, ⟨.obj (ρ.blk c), true, true⟩]) := by
      show Sem.runT P (.setObj _ _ (.pure ())) w _ = _
      unfold Sem.runT
      rw [hc]
      rfl
    have h3 : (Sem.bind (setObj (ρ.blk c) (.chan cap buf true s r tm)) fun _ => Sem.pure (Value.tuple #[])).runT P w #[⟨.obj (ρ.blk c), false, true⟩] = (.ok (Value.tuple #[]) (w.setChan (ρ.blk c) cap buf true s r tm), #[⟨.obj (ρ.blk c), false, true⟩, ⟨.obj (ρ.blk c), true, true⟩]) := by
      rw [Sem.runT_bind', h2]
      rfl
    show (Sem.bind (Sem.bind (getObj (ρ.blk c)) _) _).runT P w #[] = _
    rw [Sem.runT_bind', Sem.runT_bind', h1]
    dsimp only
    rw [if_neg (by decide)]
    have h3' := h3
    simp only [bind, pure] at h3' ⊢
    rw [h3']
    rfl
  have hf := FB.finish_at b a ops i rest K (.tuple #[])
  rw [ho] at hf
  simp only [Option.bind_some, hdst] at hf
  have ha : a.put none (.tuple #[]) = a := rfl
  rw [ha] at hf
  rw [stepG_op ho hw hnd, ← hf]
  simp only [stepG.apply, hr, if_true]
  simp [FB.at, hk', GStep.after, G, seen]
theorem At.room (hk : b.kind ≠ .early) (ho : ops[i]? = some o) (hg : gd ops o f.r = some true) {x y : Operand} (hop : o.op = .send x y) (hdst : o.dst = none) {c : Nat} (hx : ev f.r x = .chan (some c)) (hcm : c < m) {v : Value} (hy : ev f.r y = v) (hv : v ≠ unk) (hv0 : VOk 0 v)
    {cap : Nat} {buf : Array Value} (hb : T.ch (ρ0.blk c) = some (cap, buf, false)) (hne : T.pend ≠ [] → ρ0.blk c ≠ T.c) (hroom : buf.size < cap)
    (hJ : At (JC P W0 Post (T.put (ρ0.blk c) (cap, buf.push v, false))) N b cs FC ρ0 m (.inRegion ops rest :: K) f h) : At (JC P W0 Post T) N b cs FC ρ0 m (.inRegion ops (i :: rest) :: K) f h := by
  intro a ρ w ft A H hu hm
  refine JC.room rfl hb hne hroom (v := v) fun w₁ h₁ => ?_
  have hs := stepG_send (P := P) (main := true) (K := K) (cs := cs) (b := b) (rest := rest) hk ho hg A hop hx hy hv w₁
  rw [(hu c hcm).1, ren0 _ hv0] at hs
  refine ⟨_, _, hs, ?_⟩
  rw [served_at, ho]
  simp only [Option.bind_some, hdst]
  exact hJ a ρ w₁ ft A (H.rely h₁) hu hm
theorem At.shut (hk : b.kind ≠ .early) (ho : ops[i]? = some o) (hg : gd ops o f.r = some true) {x : Operand} {ats : Array TypeId} (hop : o.op = .call { callee := .builtin .close, args := #[x], argTypes := ats }) (hdst : o.dst = none) {c : Nat} (hx : ev f.r x = .chan (some c)) (hcm : c < m)
    (hp : T.pend = []) {cap : Nat} {buf : Array Value} (hb : T.ch (ρ0.blk c) = some (cap, buf, false))
    (hJ : At (JC P W0 Post (T.put (ρ0.blk c) (cap, buf, true))) N b cs FC ρ0 m (.inRegion ops rest :: K) f h) : At (JC P W0 Post T) N b cs FC ρ0 m (.inRegion ops (i :: rest) :: K) f h := by
  intro a ρ w ft A H hu hm
  refine JC.shut rfl hp hb fun w₁ h₁ s r tm hc => ?_
  have e := (hu c hcm).1
  have hs := stepG_close (P := P) (main := true) (K := K) (cs := cs) (b := b) (rest := rest) hk ho hg A hop hx hdst w₁ (by rw [e]; exact hc)
  rw [e] at hs
  exact ⟨_, hs, hJ a ρ w₁ ft A (H.rely h₁) hu hm⟩
theorem At.take (hk : b.kind ≠ .early) (ho : ops[i]? = some o) (hd : dstOk N o = true) (hg : gd ops o f.r = some true) {x : Operand} {t : TypeId} {ok : Bool} (hop : o.op = .recv t x ok)
    {dir : ChanDir} {e : TypeId} (hu : P.underlying t = some (.chan dir e)) {ie : TypeInfo} (hi : P.info? e = some ie) {z : Value} (hz : ie.zero = some z) {c : Nat} (hx : ev f.r x = .chan (some c)) (hcm : c < m)
    (hp : T.pend = []) {cap : Nat} {buf : Array Value} {cl : Bool} (hb : T.ch (ρ0.blk c) = some (cap, buf, cl)) (hsome : 0 < buf.size) (hv0 : VOk 0 (buf.getD 0 undef))
    (hJ : At (JC P W0 Post (T.put (ρ0.blk c) (cap, buf.extract 1 buf.size, cl))) N b cs FC ρ0 m (.inRegion ops rest :: K) (f.putO o.dst (recvd ok (buf.getD 0 undef) true)) h) : At (JC P W0 Post T) N b cs FC ρ0 m (.inRegion ops (i :: rest) :: K) f h := by
  intro a ρ w ft A H hu' hm
  refine JC.take rfl hp hb hsome (ok := ok) fun w₁ h₁ => ?_
  have hs := stepG_recv (P := P) (main := true) (K := K) (cs := cs) (b := b) (rest := rest) hk ho hg A hop hu hi hz hx w₁
  rw [(hu' c hcm).1] at hs
  refine ⟨_, _, hs, ?_⟩
  rw [served_at, ho]
  refine hJ _ ρ w₁ ft (act_put A (dstOk_lt hd) (.inr ?_)) (H.rely h₁) hu' hm
  have h1 : ∀ bv, VOk 0 bv → VOk 0 (recvd ok bv true) := fun bv hbv => by
    unfold recvd
    cases ok
    · exact hbv
    · simp [VOk, AOk, LOk, hbv]
  have h0 := h1 _ hv0
  exact ⟨VOk.mono (Nat.zero_le _) _ h0, (ren0 _ h0).symm⟩
theorem At.drained (hk : b.kind ≠ .early) (ho : ops[i]? = some o) (hd : dstOk N o = true) (hg : gd ops o f.r = some true) {x : Operand} {t : TypeId} {ok : Bool} (hop : o.op = .recv t x ok)
    {dir : ChanDir} {e : TypeId} (hu : P.underlying t = some (.chan dir e)) {ie : TypeInfo} (hi : P.info? e = some ie) {z : Value} (hz : ie.zero = some z) {c : Nat} (hx : ev f.r x = .chan (some c)) (hcm : c < m)
    (hp : T.pend = []) {cap : Nat} (hb : T.ch (ρ0.blk c) = some (cap, #[], true)) (hz0 : VOk 0 z)
    (hJ : At (JC P W0 Post T) N b cs FC ρ0 m (.inRegion ops rest :: K) (f.putO o.dst (recvd ok z false)) h) : At (JC P W0 Post T) N b cs FC ρ0 m (.inRegion ops (i :: rest) :: K) f h := by
  intro a ρ w ft A H hu' hm
  refine JC.drained rfl hp hb (ok := ok) (z := z) fun w₁ h₁ => ?_
  have hs := stepG_recv (P := P) (main := true) (K := K) (cs := cs) (b := b) (rest := rest) hk ho hg A hop hu hi hz hx w₁
  rw [(hu' c hcm).1] at hs
  refine ⟨_, hs, ?_⟩
  rw [served_at, ho]
  refine hJ _ ρ w₁ ft (act_put A (dstOk_lt hd) (.inr ?_)) (H.rely h₁) hu' hm
  have h0 : VOk 0 (recvd ok z false) := by
    unfold recvd
    cases ok
    · exact hz0
    · simp [VOk, AOk, LOk, hz0]
  exact ⟨VOk.mono (Nat.zero_le _) _ h0, (ren0 _ h0).symm⟩
end
def lastOk (ops ops' : Array Oper) (last : Nat) : Nat → Array Bool → Array Bool → Bool
  | 0, L, L' => (Region.ready .any ops L == [last]) && (Region.ready .any ops' L').isEmpty
  | n + 1, L, L' => (Region.ready .any ops L == Region.ready .any ops' L') && !(Region.ready .any ops L).isEmpty && (Region.ready .any ops L).all fun i => lastOk ops ops' last n (L.setIfInBounds i true) (L'.setIfInBounds i true)
section
variable {P : Program} {main : Bool} {J : JT} {N m : Nat} {b : FB} {cs : List Frame} {FC : Frm} {ρ0 : Env} {k : List Item} {f : RG} {h : List AObj} {ops ops' : Array Oper} {last : Nat}
theorem At.orders (hJ : Closed P main J) (hk : b.kind ≠ .early) (hsame : ∀ (i : Nat) (o : Oper), ops'[i]? = some o → ops[i]? = some o ∧ ∀ r, gd ops' o r = gd ops o r) {S : List AObj → Prop} {K : RG → List AObj → Prop}
    (hK : ∀ f h, K f h → At J N b cs FC ρ0 m (.inRegion ops [last] :: k) f h) : ∀ (n t : Nat) (L L' : Array Bool) (f : RG) (h : List AObj), lastOk ops ops' last n L L' = true → AnyH P (Good P J) N ops' S n L' f h K → At J N b cs FC ρ0 m (.inRegion ops (Region.linearise.go .any ops (n + 1) t L []) :: k) f h := by
  intro n
  induction n with
  | zero =>
    intro t L L' f h hc hA
    unfold lastOk at hc
    have hr : Region.ready .any ops L = [last] := by simp at hc; exact hc.1
    have e : Region.linearise.go .any ops (0 + 1) t L [] = [last] := by
      simp only [Region.linearise.go]
      change (match (Region.ready .any ops L)[t % (Region.ready .any ops L).length]? with
        | some i => [i].reverse
        | none => [].reverse) = [last]
      rw [hr]
      simp [Nat.mod_one]
    rw [e]
    exact hK f h hA.2
  | succ n ih =>
    intro t L L' f h hc hA
    obtain ⟨_, h₁⟩ := hA
    unfold lastOk at hc
    simp only [Bool.and_eq_true, beq_iff_eq, Bool.not_eq_true', List.all_eq_true] at hc
    obtain ⟨⟨hr, hne⟩, hall⟩ := hc
    rw [Region.linearise.go]
    change At J N b cs FC ρ0 m (.inRegion ops (match (Region.ready .any ops L)[t % (Region.ready .any ops L).length]? with
      | some i => Region.linearise.go .any ops (n + 1) (t / (Region.ready .any ops L).length) (L.setIfInBounds i true) [i]
      | none => [].reverse) :: k) f h
    cases hi : (Region.ready .any ops L)[t % (Region.ready .any ops L).length]? with
    | none =>
      exfalso
      have hpos : 0 < (Region.ready .any ops L).length := by
        cases hr2 : Region.ready .any ops L with
        | nil => rw [hr2] at hne; cases hne
        | cons x xs => simp
      have := Nat.mod_lt t hpos
      rw [List.getElem?_eq_none_iff] at hi
      omega
    | some i =>
      simp only []
      rw [linearise_go_acc, List.reverse_singleton, List.singleton_append]
      have hm := List.mem_of_getElem? hi
      have hm' : i ∈ Region.ready .any ops' L' := by rw [← hr]; exact hm
      have hm2 := hm'
      rw [mem_ready] at hm2
      obtain ⟨_, o, ho', _⟩ := hm2
      obtain ⟨ho, hgd⟩ := hsame i o ho'
      obtain ⟨hN, K', hK', hsub⟩ := h₁ i hm' o ho'
      intro a ρ w ft A H hu hm0
      unfold opG at hK'
      rw [hgd] at hK'
      split at hK'
      · rename_i hg
        exact step_any hJ hk ho hg hN A H hK' fun v h' ρ' w' ft' a' kk A' H' hu' hl' => ih _ _ _ _ _ (hall i hm) (hsub v h' kk).2 a' ρ' w' ft' A' H' (Env.upto_trans hu (Env.upto_le hu' hm0)) (Nat.le_trans hm0 hl')
      · rename_i hg
        refine step_skip hJ ho hg A ?_
        exact ih _ _ _ _ _ (hall i hm) (hsub _ _ hK').2 _ ρ w ft (act_put A hN (vrel_undef _ _)) H hu hm0
      · exact hK'.elim
theorem At.draw (hJ : Closed P main J) (hm : P.follows .mixedOrders = true) (hk : b.kind ≠ .early) (hsame : ∀ (i : Nat) (o : Oper), ops'[i]? = some o → ops[i]? = some o ∧ ∀ r, gd ops' o r = gd ops o r) {K : RG → List AObj → Prop} {id n : Nat} (hn : ops.size = n + 1) (hn' : ops'.size = n)
    (hl : lastOk ops ops' last n (Array.replicate (n + 1) false) (Array.replicate n false) = true) {p : Plan} (hp : planOk P ops' p n (Array.replicate n false) none = true) {B : Option (List Nat)}
    (hq : planW P (Good P J) N ops' B h p true [] f h K) (hB : B ≠ none)
    (hK : ∀ f h, K f h → At J N b cs FC ρ0 m (.inRegion ops [last] :: k) f h) : At J N b cs FC ρ0 m (.code (.region id ops true) :: k) f h := by
  have hA : AnyH P (Good P J) N ops' (SameB B h) n (Array.replicate n false) f h K := by
    refine anyW_sound _ _ true [] f h down_init (fun j b e => by cases e) (fun _ => ?_) ?_
    · cases B with
      | none => exact absurd rfl hB
      | some B => exact fun _ _ => rfl
    · have := planW_eq (C := Good P J) (P := P) (N := N) (B := B) (h0 := h) (K := K) p n (Array.replicate n false) none true [] f h hp
      simp only [planT] at this
      rw [← this]
      exact hq
  intro a ρ w ft A H hu hm0
  refine hJ.step rfl fun w₁ h₁ => ⟨G (b.at a (.inRegion ops (Region.schedule (P.follows .mixedOrders) ops (w₁.tape w₁.drawn (.order b.fn id))) :: k)) cs, { w₁ with drawn := w₁.drawn + 1 }, #[], ?_, rfl, (Stays.drawn ft w₁ _).guar (by simp), ?_⟩
  · simp [G, stepG, stepG.exec, FB.at, choose, Go.Sem.run, Question.forced, Question.cut]
  · rw [show ({ w₁ with drawn := w₁.drawn + 1 } : World).heap = w₁.heap from rfl, Foot.ext_self]
    have H₁ := (H.rely h₁).of_drawn (w₁.drawn + 1)
    simp only [Region.schedule, hm, Bool.true_or, if_true]
    have := At.orders hJ hk hsame hK n (w₁.tape w₁.drawn (.order b.fn id)) _ _ f h hl hA a ρ _ ft A H₁ hu hm0
    rw [← hn] at this
    exact this
theorem At.enter {g : FuncId} {fn : Func} (hf : P.funcs[g]? = some fn) {c : Code} (hb : fn.body = some c) {args : List Value} (ha : args.length ≤ fn.ntmps) (hv : ∀ v ∈ args, VOk h.length v) {ρ : Env} {w : World} {ft : Foot} (H : HRel ρ h FC w ft)
    (hA : At J fn.ntmps ⟨g, .deferred, none⟩ cs FC ρ h.length [.code c] ⟨regs args, []⟩ h) : J (G (Frame.enter P g ⟨args.map (ren ρ)⟩ .deferred) cs) w ft := by
  have he : Frame.enter P g ⟨args.map (ren ρ)⟩ .deferred = FB.at ⟨g, .deferred, none⟩ ⟨⟨args.map (ren ρ)⟩ ++ Array.replicate (fn.ntmps - args.length) undef, []⟩ [.code c] := by
    simp [Frame.enter, FB.at, hf, hb]
  rw [he]
  refine hA _ ρ w ft ⟨fun t => ?_, by simp; omega, rfl, by simp⟩ H (fun _ _ => ⟨rfl, rfl⟩) (Nat.le_refl _)
  have ht : ((⟨args.map (ren ρ)⟩ : Array Value) ++ Array.replicate (fn.ntmps - args.length) undef).getD t undef = (args.map (ren ρ)).getD t undef := by
    rw [Array.getD_eq_getD_getElem?, List.getD_eq_getElem?_getD]
    by_cases hx : t < args.length
    · rw [Array.getElem?_append_left (by simpa using hx)]
      simp
    · rw [Array.getElem?_append_right (by simp; omega), List.getElem?_eq_none (by simp; omega)]
      simp only [Array.getElem?_replicate]
      split <;> rfl
  rw [ht]
  by_cases hx : t < args.length
  · refine .inr ?_
    show VOk h.length (regs args t) ∧ _
    have e1 : regs args t = args[t] := by simp [regs, List.getD_eq_getElem?_getD, List.getElem?_eq_getElem hx]
    rw [e1]
    refine ⟨hv _ (List.getElem_mem hx), ?_⟩
    show _ = ren ρ (regs args t)
    rw [e1]
    simp [List.getD_eq_getElem?_getD, List.getElem?_eq_getElem hx]
  · refine .inl ?_
    show regs args t = unk
    simp [regs, List.getD_eq_getElem?_getD, List.getElem?_eq_none (Nat.le_of_not_lt hx)]
end
end Go.Proofs.Ytdgpacdknpahnaa
namespace Go.Proofs.Ytdgpacdknpahnaa
open Go.Conc Go.Proofs.Try
set_option maxRecDepth 100000
section
variable {P : Program} {main : Bool} {J : JT} {N m : Nat} {b : FB} {cs : List Frame} {FC : Frm} {ρ0 : Env} {k : List Item} {f : RG} {h : List AObj}
theorem At.cond (hJ : Closed P main J) {c : Operand} {x y : Code} {t : Bool} (ht : ev f.r c = .bool t) (h' : At J N b cs FC ρ0 m (.code (if t then x else y) :: k) f h) : At J N b cs FC ρ0 m (.code (.cond c x y) :: k) f h := by
  intro a ρ w ft A H hu hm
  have hv := ((ev_rel A.regs c).val (by rw [ht]; simp [unk])).2
  rw [ht] at hv
  simp only [ren] at hv
  have he : ∀ todo, (b.at a todo).eval c = .bool t := fun todo => by rw [← hv]; cases c <;> rfl
  refine hJ.ctrl rfl rfl (g' := G (b.at a (.code (if t then x else y) :: k)) cs) (fun w => ?_) (h' a ρ w ft A H hu hm)
  have := he (.code (.cond c x y) :: k)
  simp only [FB.at] at this
  simp [G, stepG, stepG.exec, FB.at, this]
end
def strU (cs : List Int) (l : List Int) : Int := l.foldl (fun s k => orU s (cs.getD k.toNat 0)) 0
theorem strU_snoc {cs l : List Int} {k : Int} : strU cs (l ++ [k]) = orU (strU cs l) (cs.getD k.toNat 0) := by simp [strU]
noncomputable def sentV (t : Tal) (cs l : List Int) (i : Nat) : Int := if truthS t (strU cs l) then (i : Int) else -1
theorem shape110 : codeOf f110 = .seq (subC [0] (codeOf f110)) (.seq (.seq (subC [1, 0, 0] (codeOf f110)) (.block 0 (.loop (subC [1, 0, 1, 0, 0] (codeOf f110))))) (.seq (subC [1, 1, 0] (codeOf f110)) (.cond (.tmp 24) (subC [1, 1, 1, 0] (codeOf f110)) (subC [1, 1, 1, 1] (codeOf f110))))) := by kernel_rfl
theorem round110 : subC [1, 0, 1, 0, 0] (codeOf f110) = .seq (subC [1, 0, 1, 0, 0, 0] (codeOf f110)) (.seq (subC [1, 0, 1, 0, 0, 1, 0] (codeOf f110)) (.seq (subC [1, 0, 1, 0, 0, 1, 1, 0] (codeOf f110)) (subC [1, 0, 1, 0, 0, 1, 1, 1] (codeOf f110)))) := by kernel_rfl
structure R110 (f : RG) (b1 b2 b3 b4 : Nat) (lv : Value) (n k : Nat) (u : Int) : Prop where
  ds : f.ds = []
  r1 : f.r 1 = ptr b1 0
  r2 : f.r 2 = ptr b2 0
  r3 : f.r 3 = ptr b3 0
  r4 : f.r 4 = ptr b4 0
  r5 : f.r 5 = .int .u64 u
  r8 : f.r 8 = lv
  r9 : f.r 9 = vint (n : Nat)
  r10 : f.r 10 = vint (k : Nat)
section
variable {J : JT} {h : List AObj} {FC : Frm} {ρ0 : Env} {fs : List Frame} {b : FB} {k1 : List Item}
theorem loop110 (hJ : Closed prog false J) (hk : b.kind ≠ .early) {b1 b2 b3 b4 : Nat} {wr1 : Bool} {kv lv : Value} {cs l : List Int} (h1 : h[b1]? = some (.cells [kv] wr1 0)) (hc : Sli h kv 1 cs.length (cs.map fun n => .int .u64 n)) (hl : Sli h lv 1 l.length (l.map vint)) (hb : ∀ x ∈ l, 0 ≤ x ∧ x < cs.length) (hll : l.length ≤ 1000)
    (hdone : ∀ f, R110 f b1 b2 b3 b4 lv l.length l.length (strU cs l) → At J 28 b fs FC ρ0 h.length k1 f h) :
    ∀ (d k : Nat) (f : RG), d = l.length - k → k ≤ l.length → R110 f b1 b2 b3 b4 lv l.length k (strU cs (l.take k)) → At J 28 b fs FC ρ0 h.length (.code (subC [1, 0, 1, 0, 0] (codeOf f110)) :: .inLoop (subC [1, 0, 1, 0, 0] (codeOf f110)) :: .inBlock 0 :: k1) f h := by
  intro d
  induction d with
  | zero =>
    intro k f hd hk' R
    have hkn : k = l.length := by omega
    subst hkn
    rw [round110]
    refine At.seq hJ (At.piece (Q := fun e f' h' => e = .normal ∧ f' = f.p 11 (.bool false) ∧ h' = h) rfl hk (W_sound hJ mixed _ ?_) (Nat.le_refl _) (Nat.le_refl _) ?_)
    · rw [q110_3, R.r9, R.r10]
      refine lssI ⟨rfl, ?_, rfl⟩
      simp
    rintro e f' h' ⟨rfl, rfl, rfl⟩
    refine .inl ⟨rfl, At.seq hJ (At.piece (Q := fun e f' h1 => e = .exit 0 ∧ f' = f.p 11 (.bool false) ∧ h1 = h') rfl hk (W_sound hJ mixed _ ?_) (Nat.le_refl _) (Nat.le_refl _) ?_)⟩
    · rw [q110_4]
      exact cnd_false.2 ⟨rfl, rfl, rfl⟩
    rintro e f1 h1 ⟨rfl, rfl, rfl⟩
    refine .inr ⟨0, k1, rfl, by simp [exitTo], ?_⟩
    refine hdone _ ⟨R.ds, R.r1, R.r2, R.r3, R.r4, ?_, R.r8, R.r9, R.r10⟩
    have := R.r5
    rw [List.take_length] at this
    exact this
  | succ d ih =>
    intro k f hd hk' R
    have hkl : k < l.length := by omega
    have hx := List.getElem?_eq_getElem hkl
    have hbx := hb _ (List.getElem_mem hkl)
    rw [round110]
    refine At.seq hJ (At.piece (Q := fun e f' h' => e = .normal ∧ f' = f.p 11 (.bool true) ∧ h' = h) rfl hk (W_sound hJ mixed _ ?_) (Nat.le_refl _) (Nat.le_refl _) ?_)
    · rw [q110_3, R.r9, R.r10]
      refine lssI ⟨rfl, ?_, rfl⟩
      have : ((k : Int) < (l.length : Int)) := by omega
      simp [this]
    rintro e f' h' ⟨rfl, rfl, rfl⟩
    refine .inl ⟨rfl, At.seq hJ (At.piece (Q := fun e f' h1 => e = .normal ∧ f' = f.p 11 (.bool true) ∧ h1 = h') rfl hk (W_sound hJ mixed _ ?_) (Nat.le_refl _) (Nat.le_refl _) ?_)⟩
    · rw [q110_4]
      exact cnd_true.2 ⟨rfl, rfl, rfl⟩
    rintro e f1 h ⟨rfl, rfl, rfl⟩
    refine .inl ⟨rfl, At.seq hJ (At.piece (Q := fun e f' h' => e = .normal ∧ R110 f' b1 b2 b3 b4 lv l.length k (strU cs (l.take (k + 1))) ∧ h' = h) rfl hk (W_sound hJ mixed _ ?_) (Nat.le_refl _) (Nat.le_refl _) ?_)⟩
    · rw [q110_5]
      show aIdx 1 (f.r 8) (f.r 10) _
      rw [R.r8, R.r10]
      refine idx_load hl ⟨by omega, by omega⟩ (x := vint l[k]) (by rw [Int.toNat_natCast, List.getElem?_map, hx]; rfl) fun q => ?_
      show aLoad false 1 (f.r 1) h _
      rw [R.r1]
      refine ldI h1 rfl (sli_one hc).2.2 ?_
      refine idx_load hc ⟨by omega, by omega⟩ (x := .int .u64 (cs.getD l[k].toNat 0)) (by
        rw [List.getElem?_map, List.getD_eq_getElem?_getD, List.getElem?_eq_getElem (show l[k].toNat < cs.length by omega)]
        rfl) fun q2 => ?_
      show aBin prog .or 101 (f.r 5) _ _
      rw [R.r5]
      refine u_orI ⟨rfl, ⟨R.ds, R.r1, R.r2, R.r3, R.r4, ?_, R.r8, R.r9, R.r10⟩, rfl⟩
      show Value.int .u64 _ = _
      rw [List.take_add_one, hx]
      simp only [Option.toList]
      rw [strU_snoc]
    rintro e f2 h2 ⟨rfl, R2, rfl⟩
    refine .inl ⟨rfl, At.piece (Q := fun e f' h' => e = .normal ∧ R110 f' b1 b2 b3 b4 lv l.length (k + 1) (strU cs (l.take (k + 1))) ∧ h' = h2) rfl hk (W_sound hJ mixed _ ?_) (Nat.le_refl _) (Nat.le_refl _) ?_⟩
    · rw [q110_6, R2.r10]
      refine addI (by omega) ⟨rfl, ⟨R2.ds, R2.r1, R2.r2, R2.r3, R2.r4, R2.r5, R2.r8, R2.r9, rfl⟩, rfl⟩
    rintro e f3 h3 ⟨rfl, R3, rfl⟩
    exact .inl ⟨rfl, At.inLoop hJ (ih (k + 1) f3 (by omega) (by omega) R3)⟩
end
theorem work110 {h : List AObj} {FC : Frm} {ρ : Env} {w : World} {ft : Foot} (R : HRel ρ h FC w ft) {b0 b1 b2 b3 b4 c i : Nat} {lv kv cv nv : Value} {wr0 wr1 wr2 wr3 wr4 : Bool} {t : Tal} {cs l : List Int}
    (h0 : h[b0]? = some (.cells [lv] wr0 0)) (h1 : h[b1]? = some (.cells [kv] wr1 0)) (h2 : h[b2]? = some (.cells (talCells t cv nv) wr2 0)) (h3 : h[b3]? = some (.cells [.chan (some c)] wr3 0)) (h4 : h[b4]? = some (.cells [vint (i : Nat)] wr4 0))
    (ta : TalAt h (.agg ⟨talCells t cv nv⟩) t cv nv) (fine : TalFine t) (hc : Sli h kv 1 cs.length (cs.map fun n => .int .u64 n)) (hl : Sli h lv 1 l.length (l.map vint)) (hb : ∀ x ∈ l, 0 ≤ x ∧ x < cs.length) (hll : l.length ≤ 1000)
    {T : Crew} (hlt : c < h.length) (hcT : ρ.blk c = T.c) {k : Nat} (hphi : T.phi k (vint (sentV t cs l i))) :
    Toward prog (AtSend prog T.c (T.phi k)) (G (Frame.enter prog 110 ⟨[ptr b0 0, ptr b1 0, ptr b2 0, ptr b3 0, ptr b4 0].map (ren ρ)⟩ .deferred) [base0 prog]) w ft := by
  have hJ := Toward.closed prog (AtSend prog T.c (T.phi k))
  have vp : ∀ {b : Nat} {x : AObj}, h[b]? = some x → VOk h.length (ptr b 0) := fun hb => by
    have := lt_of_get hb
    simp [VOk, ptr, AddrOk, this]
  refine At.enter (fn := f110) (args := [ptr b0 0, ptr b1 0, ptr b2 0, ptr b3 0, ptr b4 0]) at110 body110 (Nat.le_of_ble_eq_true rfl) ?_ R ?_
  · intro v hv
    simp only [List.mem_cons, List.not_mem_nil, or_false] at hv
    rcases hv with rfl | rfl | rfl | rfl | rfl
    · exact vp h0
    · exact vp h1
    · exact vp h2
    · exact vp h3
    · exact vp h4
  rw [show f110.ntmps = 28 from by kernel_rfl, shape110]
  have kl := (sli_one hl).2.2
  refine At.seq hJ (At.piece (Q := fun e f' h' => e = .normal ∧ f' = (RG.mk (regs [ptr b0 0, ptr b1 0, ptr b2 0, ptr b3 0, ptr b4 0]) []).p 5 (.int .u64 0) ∧ h' = h) rfl (by simp) (W_sound hJ mixed _ ?_) (Nat.le_refl _) (Nat.le_refl _) ?_)
  · rw [q110_1]
    exact ⟨rfl, rfl, rfl⟩
  rintro e f' h' ⟨rfl, rfl, rfl⟩
  refine .inl ⟨rfl, At.seq hJ (At.seq hJ (At.piece (Q := fun e f' h1 => e = .normal ∧ R110 f' b1 b2 b3 b4 lv l.length 0 (strU cs (l.take 0)) ∧ h1 = h') rfl (by simp) (W_sound hJ mixed _ ?_) (Nat.le_refl _) (Nat.le_refl _) ?_))⟩
  · rw [q110_2]
    refine ldI h0 rfl kl (lenI hl ⟨rfl, ⟨rfl, rfl, rfl, rfl, rfl, rfl, rfl, rfl, rfl⟩, rfl⟩)
  rintro e f1 h ⟨rfl, R1, rfl⟩
  refine .inl ⟨rfl, At.block hJ (At.loop hJ (loop110 hJ (by simp) h1 hc hl hb hll (fun f2 R2 => ?_) l.length 0 f1 rfl (by omega) R1))⟩
  refine At.seq hJ (At.piece (Q := fun e f' h' => e = .normal ∧ f'.ds = [] ∧ f'.r 3 = ptr b3 0 ∧ f'.r 4 = ptr b4 0 ∧ f'.r 24 = .bool (truthS t (strU cs l)) ∧ SameX [] h h') rfl (by simp) (W_sound hJ mixed _ ?_) (Nat.le_refl _) (Nat.le_refl _) ?_)
  · rw [q110_7, R2.r2, R2.r5]
    refine load_part (c := talCells t cv nv) h2 (by rw [cs_val]; omega) rfl (talAt_kc ta) ?_
    refine good95 (h0 := h) hJ ta ta.ch ta.co ⟨[], by simp⟩ fun H bw bm S a1 a2 a3 wk hm => ?_
    refine good74 hJ wk a1 a2 a3 fine hm metOk_nil fun H2 es' S2 _ _ _ => ⟨rfl, R2.ds, R2.r3, R2.r4, rfl, S.thru S2 ?_⟩
    intro y hy
    simp at hy
    rcases hy with rfl | rfl
    · exact .inr a1
    · exact .inr a2
  rintro e f3 h5 ⟨rfl, ds, r3, r4, r24, S⟩
  refine .inl ⟨rfl, At.cond hJ (t := truthS t (strU cs l)) r24 ?_⟩
  have c3 := S.get h3 (by simp)
  have c4 := S.get h4 (by simp)
  cases hT : truthS t (strU cs l) with
  | true =>
    have e1 : sentV t cs l i = (i : Int) := by unfold sentV; rw [if_pos hT]
    rw [e1] at hphi
    show At _ _ _ _ _ _ _ (.code (subC [1, 1, 1, 0] (codeOf f110)) :: _) _ _
    rw [r110_1]
    refine At.region hJ ?_
    rw [show List.range ops110_1.size = [0, 1, 2] from by rw [z110_1]; rfl]
    obtain ⟨o1, o2, o3, o4, o5⟩ := o110_1_0 (J := Toward prog (AtSend prog T.c (T.phi k)))
    obtain ⟨x1, x2, x3, x4, x5⟩ := o110_1_1 (J := Toward prog (AtSend prog T.c (T.phi k)))
    obtain ⟨y1, y2, y3, y4, y5⟩ := o110_1_2 (J := Toward prog (AtSend prog T.c (T.phi k)))
    refine At.op hJ (by simp) o1 o3 (o4 _) ?_
    rw [o5, o2, r3]
    refine ldI c3 rfl rfl fun _ => At.op hJ (by simp) x1 x3 (x4 _) ?_
    rw [x5, x2]
    show aLoad false 1 (f3.r 4) _ _
    rw [r4]
    refine ldI c4 rfl rfl fun _ => ?_
    intro a ρ' w' ft' A H' hu hm
    refine send_stop rfl rfl y1 (y4 _) A ds y5 y2 (c := c) rfl (by rw [(hu c hlt).1]; exact hcT) (v := vint (i : Nat)) rfl (by simp [unk]) hphi at110 (by kernel_rfl) (base_catches _)
  | false =>
    have e1 : sentV t cs l i = -1 := by unfold sentV; rw [if_neg (by rw [hT]; decide)]
    rw [e1] at hphi
    show At _ _ _ _ _ _ _ (.code (subC [1, 1, 1, 1] (codeOf f110)) :: _) _ _
    rw [r110_2]
    refine At.region hJ ?_
    rw [show List.range ops110_2.size = [0, 1] from by rw [z110_2]; rfl]
    obtain ⟨o1, o2, o3, o4, o5⟩ := o110_2_0 (J := Toward prog (AtSend prog T.c (T.phi k)))
    obtain ⟨y1, y2, y3, y4, y5⟩ := o110_2_1 (J := Toward prog (AtSend prog T.c (T.phi k)))
    refine At.op hJ (by simp) o1 o3 (o4 _) ?_
    rw [o5, o2, r3]
    refine ldI c3 rfl rfl fun _ => ?_
    intro a ρ' w' ft' A H' hu hm
    refine send_stop rfl rfl y1 (y4 _) A ds y5 y2 (c := c) rfl (by rw [(hu c hlt).1]; exact hcT) (v := vint (-1)) rfl (by simp [unk]) hphi at110 (by kernel_rfl) (base_catches _)
theorem At.weak {J : JT} {N m : Nat} {b : FB} {cs : List Frame} {FC : Frm} {ρ0 : Env} {k : List Item} {f f' : RG} {h : List AObj} (ok : heapOk h) (hf : ∀ t, f'.r t = unk ∨ (f'.r t = f.r t ∧ VOk h.length (f'.r t))) (hd : f'.ds = f.ds) (hds : f.ds = []) (hm' : m ≤ h.length) (h' : At J N b cs FC ρ0 m k f' h) : At J N b cs FC ρ0 m k f h := by
  have := At.drop (g := []) (f := f) ok hf hd (by rw [hds]; simp) hm' h'
  simpa using this
theorem frz_at {h : List AObj} {i : Nat} {c : List Value} {wr : Bool} {sz : Nat} (hb : h[i]? = some (.cells c wr sz)) : (frz h)[i]? = some (.cells c false sz) := by
  unfold frz
  rw [List.getElem?_map, hb]
  rfl
theorem frz_sli {h : List AObj} {v : Value} {s n : Nat} {cs : List Value} (hs : Sli h v s n cs) : Sli (frz h) v s n cs := by
  obtain ⟨base, c, rfl, hk, hh⟩ := hs
  refine ⟨base, c, rfl, hk, hh.imp id ?_⟩
  rintro ⟨b, o, e, h0⟩
  exact ⟨b, o, e, h0.imp id fun ⟨cs, wr, sz, hb, ht⟩ => ⟨cs, false, sz, frz_at hb, ht⟩⟩
theorem two_more {h H : List AObj} {x y : AObj} (S : SameX [] h H) (hl : H.length = h.length + 2) (hx : H[h.length]? = some x) (hy : H[h.length + 1]? = some y) : H = h ++ [x, y] := by
  obtain ⟨g, rfl⟩ := S.app0 (by simp)
  rw [List.length_append] at hl
  have h2 : g.length = 2 := by omega
  obtain ⟨a, b, rfl⟩ : ∃ a b, g = [a, b] := by
    cases g with
    | nil => simp at h2
    | cons a g => cases g with
      | nil => simp at h2
      | cons b g => cases g with
        | nil => exact ⟨a, b, rfl⟩
        | cons c g => simp at h2
  rw [List.getElem?_append_right (Nat.le_refl _)] at hx
  rw [List.getElem?_append_right (by omega)] at hy
  simp at hx hy
  rw [hx, hy]
structure Fr (h4 H : List AObj) (n : Nat) (a b p : Option Nat) (w : Value) : Prop where
  S : SameX [] h4 H
  ha : ∀ x, a = some x → h4.length ≤ x ∧ H[x]? = some (.chan 0)
  hb : ∀ x, b = some x → h4.length ≤ x ∧ H[x]? = some (.chan n) ∧ a ≠ some x
  hp : ∀ x, p = some x → h4.length ≤ x ∧ H[x]? = some (.cells [w] true 0)
section
variable {h4 H : List AObj} {n : Nat} {a b p : Option Nat} {w : Value} {K : Value → List AObj → Prop} {HL : List AObj → Prop}
theorem Fr.mkA (F : Fr h4 H n none b p w) (hk : ∀ H' x, Fr h4 H' n (some x) b p w → K (.chan (some x)) H') : (8 : Nat) ≤ 1024 ∧ aMkC (vint 0) H K := by
  have S : SameX [] H (H ++ [.chan (Int.toNat 0)]) := SameX.refl.app
  have hl := F.S.1
  refine ⟨by decide, ⟨by omega, by omega⟩, hk _ H.length ⟨F.S.trans S, fun x hx => ?_, fun x hx => ?_, fun x hx => ?_⟩⟩
  · cases hx
    exact ⟨hl, by simp⟩
  · obtain ⟨h1, h2, _⟩ := F.hb x hx
    have := lt_of_get h2
    exact ⟨h1, S.get h2 (by simp), fun e => by cases e; omega⟩
  · obtain ⟨h1, h2⟩ := F.hp x hx
    exact ⟨h1, S.get h2 (by simp)⟩
theorem Fr.mkB (F : Fr h4 H n a none p w) (hn : n ≤ 1000) (hk : ∀ H' x, Fr h4 H' n a (some x) p w → K (.chan (some x)) H') : (8 : Nat) ≤ 1024 ∧ aMkC (vint (n : Nat)) H K := by
  have S : SameX [] H (H ++ [.chan (Int.toNat (n : Nat))]) := SameX.refl.app
  have hl := F.S.1
  refine ⟨by decide, ⟨by omega, by omega⟩, hk _ H.length ⟨F.S.trans S, fun x hx => ?_, fun x hx => ?_, fun x hx => ?_⟩⟩
  · obtain ⟨h1, h2⟩ := F.ha x hx
    exact ⟨h1, S.get h2 (by simp)⟩
  · cases hx
    refine ⟨hl, by simp, fun e => ?_⟩
    have := lt_of_get (F.ha _ e).2
    omega
  · obtain ⟨h1, h2⟩ := F.hp x hx
    exact ⟨h1, S.get h2 (by simp)⟩
theorem Fr.al {v : Value} (F : Fr h4 H n a b none v) (hk : ∀ H' x, Fr h4 H' n a b (some x) w → K (ptr x 0) H') : aAlloc [w] H K := by
  refine qAl fun H' x e S c l => hk H' x ⟨F.S.trans S, fun y hy => ?_, fun y hy => ?_, fun y hy => ?_⟩
  · obtain ⟨h1, h2⟩ := F.ha y hy
    exact ⟨h1, S.get h2 (by simp)⟩
  · obtain ⟨h1, h2, h3⟩ := F.hb y hy
    exact ⟨h1, S.get h2 (by simp), h3⟩
  · cases hy
    have := F.S.1
    exact ⟨by omega, c⟩
theorem Fr.st {x q : Nat} (F : Fr h4 H n (some x) b (some q) w) (hk : ∀ H', Fr h4 H' n (some x) b (some q) (.chan (some x)) → HL H') : aStore 1 (ptr q 0) (.chan (some x)) H HL := by
  obtain ⟨h1, h2⟩ := F.hp q rfl
  have hne : ∀ {y : Nat} {cap : Nat}, H[y]? = some (.chan cap) → y ∉ [q] := fun hy hm => by
    rw [List.mem_singleton.1 hm, h2] at hy
    cases hy
  refine qSt h2 (by simp) rfl rfl fun H' S c l => hk H' ⟨F.S.thru S (by simp; exact h1), fun y hy => ?_, fun y hy => ?_, fun y hy => ?_⟩
  · obtain ⟨g1, g2⟩ := F.ha y hy
    exact ⟨g1, S.get g2 (hne g2)⟩
  · obtain ⟨g1, g2, g3⟩ := F.hb y hy
    exact ⟨g1, S.get g2 (hne g2), g3⟩
  · cases hy
    exact ⟨h1, c⟩
end
def EleS (H : List AObj) (cells : List Value) (ls : List (List Int)) : Prop := ∀ (i : Nat) l, ls[i]? = some l → ∃ c, cells[i]? = some c ∧ Sli H c 1 l.length (l.map vint)
structure Mid92 (h H : List AObj) (f : RG) (t : Tal) (cv nv kv ov : Value) (p3 p5 p7 c1 c2 n : Nat) : Prop where
  S : SameX [] h H
  ds : f.ds = []
  r1 : f.r 1 = ov
  r3 : f.r 3 = ptr p3 0
  r5 : f.r 5 = ptr p5 0
  r7 : f.r 7 = ptr p7 0
  r8 : f.r 8 = .chan (some c2)
  h3 : H[p3]? = some (.cells (talCells t cv nv) true 0)
  h5 : H[p5]? = some (.cells [kv] true 0)
  h7 : H[p7]? = some (.cells [.chan (some c1)] true 0)
  hc1 : H[c1]? = some (.chan 0)
  hc2 : H[c2]? = some (.chan n)
  ne : c1 ≠ c2
section
variable {main : Bool} {J : JT} {h : List AObj} {K : Value → List AObj → Prop} {Sx : RG → List AObj → Prop}
theorem front92 {cv nv kv ov : Value} {t : Tal} {n : Nat} {cells ks : List Value} {nk : Nat} (ta : TalAt h (.agg ⟨talCells t cv nv⟩) t cv nv) (hk : Sli h kv 1 nk ks) (ho : Sli h ov 1 n cells) (hn : n ≤ 1000)
    (hS : ∀ f H p3 p5 p7 c1 c2, Mid92 h H f t cv nv kv ov p3 p5 p7 c1 c2 n → Sx f H) :
    W prog J 50 h.length 92 (trunc 2 (codeOf f92)) (RG.mk (regs [.agg ⟨talCells t cv nv⟩, ov, kv]) []) h (thenK Sx (RetQ prog [.tmp 6] h.length K)) := by
  rw [e92]
  have kk := sli_one hk
  refine qBox (tal_one ta) fun H1 p3 e1 S1 k1 l1 => qBox1 kk.1 kk.2.1 fun H2 p5 e2 S2 k2 l2 => ⟨[], lenI ho ⟨?_, ?_⟩⟩
  · obtain ⟨base, c, rfl, _⟩ := ho
    trivial
  have k1' := S2.get k1 (by simp)
  have F0 : Fr H2 H2 n none none none (.chan none) := ⟨SameX.refl, by simp, by simp, by simp⟩
  have tt : ∀ {H' : List AObj}, SameB (some []) H2 H' := fun {H'} b hb => by cases hb
  have fin : ∀ {F : RG} {H : List AObj} {a b p : Nat}, Fr H2 H n (some a) (some b) (some p) (.chan (some a)) → F.ds = [] → F.r 1 = ov → F.r 3 = ptr p3 0 → F.r 5 = ptr p5 0 → F.r 7 = ptr p 0 → F.r 8 = .chan (some b) → Sx F H := by
    intro F H a b p Z g0 g1 g3 g5 g7 g8
    have hb := Z.hb b rfl
    exact hS F H p3 p5 p a b ⟨(S1.trans S2).trans Z.S, g0, g1, g3, g5, g7, g8, Z.S.get k1' (by simp), Z.S.get k2 (by simp), (Z.hp p rfl).2, (Z.ha a rfl).2, hb.2.1, fun e => hb.2.2 (by rw [e])⟩
  refine ⟨F0.mkA fun Ha a Fa => ⟨tt, Fa.mkB hn fun Hb b Fb => Fb.al fun Hc p Fc => ⟨tt, Fc.st fun Hd Fd => ⟨tt, fin Fd rfl rfl rfl rfl rfl rfl⟩⟩, Fa.al fun Hb p Fb => ⟨tt, Fb.mkB hn fun Hc b Fc => Fc.st fun Hd Fd => ⟨tt, fin Fd rfl rfl rfl rfl rfl rfl⟩, Fb.st fun Hc Fc => ⟨tt, Fc.mkB hn fun Hd b Fd => fin Fd rfl rfl rfl rfl rfl rfl⟩⟩⟩,
    F0.mkB hn fun Ha b Fa => ⟨Fa.mkA fun Hb a Fb => ⟨tt, Fb.al fun Hc p Fc => ⟨tt, Fc.st fun Hd Fd => ⟨tt, fin Fd rfl rfl rfl rfl rfl rfl⟩⟩⟩, Fa.al fun Hb p Fb => ⟨tt, Fb.mkA fun Hc a Fc => ⟨tt, Fc.st fun Hd Fd => ⟨tt, fin Fd rfl rfl rfl rfl rfl rfl⟩⟩⟩⟩,
    F0.al fun Ha p Fa => ⟨tt, Fa.mkA fun Hb a Fb => ⟨tt, Fb.mkB hn fun Hc b Fc => Fc.st fun Hd Fd => ⟨tt, fin Fd rfl rfl rfl rfl rfl rfl⟩, Fb.st fun Hc Fc => ⟨tt, Fc.mkB hn fun Hd b Fd => fin Fd rfl rfl rfl rfl rfl rfl⟩⟩, Fa.mkB hn fun Hb b Fb => Fb.mkA fun Hc a Fc => ⟨tt, Fc.st fun Hd Fd => ⟨tt, fin Fd rfl rfl rfl rfl rfl rfl⟩⟩⟩⟩
end
theorem shape92 : subC [1, 1] (codeOf f92) = .seq (.seq (subC [1, 1, 0, 0] (codeOf f92)) (.block 0 (.loop (subC [1, 1, 0, 1, 0, 0] (codeOf f92))))) (subC [1, 1, 1] (codeOf f92)) := by kernel_rfl
theorem round92 : subC [1, 1, 0, 1, 0, 0] (codeOf f92) = .seq (subC [1, 1, 0, 1, 0, 0, 0] (codeOf f92)) (.seq (subC [1, 1, 0, 1, 0, 0, 1, 0] (codeOf f92)) (.seq (.block 1 (.seq (subC [1, 1, 0, 1, 0, 0, 1, 1, 0, 0, 0] (codeOf f92)) (.region 5 ops92_1 false))) (subC [1, 1, 0, 1, 0, 0, 1, 1, 1] (codeOf f92)))) := by kernel_rfl
def R92 (ov : Value) (p3 p5 p7 c2 n i : Nat) : RG := ((((((((RG.mk (fun _ => unk) []).p 1 ov).p 3 (ptr p3 0)).p 5 (ptr p5 0)).p 7 (ptr p7 0)).p 8 (.chan (some c2))).p 18 ov).p 19 (vint (n : Nat))).p 20 (vint (i : Nat))
theorem r92_cases (ov : Value) (p3 p5 p7 c2 n i t : Nat) : (R92 ov p3 p5 p7 c2 n i).r t = unk ∨ t = 1 ∨ t = 3 ∨ t = 5 ∨ t = 7 ∨ t = 8 ∨ t = 18 ∨ t = 19 ∨ t = 20 := by
  by_cases h : t = 1 ∨ t = 3 ∨ t = 5 ∨ t = 7 ∨ t = 8 ∨ t = 18 ∨ t = 19 ∨ t = 20
  · exact .inr h
  · refine .inl ?_
    simp only [not_or] at h
    obtain ⟨h1, h2, h3, h4, h5, h6, h7, h8⟩ := h
    simp [R92, RG.p, beq_eq_false_iff_ne.2 h1, beq_eq_false_iff_ne.2 h2, beq_eq_false_iff_ne.2 h3, beq_eq_false_iff_ne.2 h4, beq_eq_false_iff_ne.2 h5, beq_eq_false_iff_ne.2 h6, beq_eq_false_iff_ne.2 h7, beq_eq_false_iff_ne.2 h8]
structure LentS (hz : List AObj) (t : Tal) (cv nv kv ov : Value) (cs : List Int) (p3 p5 p7 c1 c2 : Nat) (cells : List Value) (ls : List (List Int)) : Prop where
  ok : heapOk hz
  nw : ∀ x ∈ hz, x.wrt = false
  nc : ∀ cap, .chan cap ∉ hz
  h3 : hz[p3]? = some (.cells (talCells t cv nv) false 0)
  h5 : hz[p5]? = some (.cells [kv] false 0)
  h7 : hz[p7]? = some (.cells [.chan (some c1)] false 0)
  hc1 : c1 < hz.length
  hc2 : c2 < hz.length
  ta : TalAt hz (.agg ⟨talCells t cv nv⟩) t cv nv
  kv : Sli hz kv 1 cs.length (cs.map fun n => .int .u64 n)
  os : Sli hz ov 1 ls.length cells
  ovk : VOk hz.length ov
  el : EleS hz cells ls
  lb : ∀ l ∈ ls, l.length ≤ 1000 ∧ ∀ x ∈ l, 0 ≤ x ∧ x < cs.length
  few : ls.length ≤ 1000
theorem LentS.regs {hz : List AObj} {t : Tal} {cv nv kv ov : Value} {cs : List Int} {p3 p5 p7 c1 c2 n i : Nat} {cells : List Value} {ls : List (List Int)} (L : LentS hz t cv nv kv ov cs p3 p5 p7 c1 c2 cells ls) {f : RG}
    (e1 : f.r 1 = ov) (e3 : f.r 3 = ptr p3 0) (e5 : f.r 5 = ptr p5 0) (e7 : f.r 7 = ptr p7 0) (e8 : f.r 8 = .chan (some c2)) (e18 : f.r 18 = ov) (e19 : f.r 19 = vint (n : Nat)) (e20 : f.r 20 = vint (i : Nat)) :
    ∀ t, (R92 ov p3 p5 p7 c2 n i).r t = unk ∨ ((R92 ov p3 p5 p7 c2 n i).r t = f.r t ∧ VOk hz.length ((R92 ov p3 p5 p7 c2 n i).r t)) := by
  have vp : ∀ {b : Nat} {x : AObj}, hz[b]? = some x → VOk hz.length (ptr b 0) := fun hb => by
    have := lt_of_get hb
    simp [VOk, ptr, AddrOk, this]
  intro t
  rcases r92_cases ov p3 p5 p7 c2 n i t with h | rfl | rfl | rfl | rfl | rfl | rfl | rfl | rfl
  · exact .inl h
  · exact .inr ⟨e1.symm, L.ovk⟩
  · exact .inr ⟨e3.symm, vp L.h3⟩
  · exact .inr ⟨e5.symm, vp L.h5⟩
  · exact .inr ⟨e7.symm, vp L.h7⟩
  · refine .inr ⟨e8.symm, ?_⟩
    show VOk hz.length (.chan (some c2))
    simp [VOk, L.hc2]
  · exact .inr ⟨e18.symm, L.ovk⟩
  · refine .inr ⟨e19.symm, ?_⟩
    show VOk hz.length (vint (n : Nat))
    simp [VOk]
  · refine .inr ⟨e20.symm, ?_⟩
    show VOk hz.length (vint (i : Nat))
    simp [VOk]
def phi92 (t : Tal) (cs : List Int) (ls : List (List Int)) (k : Nat) (v : Value) : Prop := ∃ l, ls[k]? = some l ∧ v = vint (sentV t cs l k)
def crew92 (ch : Nat → Option (Nat × Array Value × Bool)) (c d : Nat) (t : Tal) (cs : List Int) (ls : List (List Int)) (buf : Array Value) (cl : Bool) (pend : List Nat) : Crew := ⟨putAt ch d (some (ls.length, buf, cl)), c, pend, phi92 t cs ls⟩
theorem crew92_put {ch : Nat → Option (Nat × Array Value × Bool)} {c d : Nat} {t : Tal} {cs : List Int} {ls : List (List Int)} {buf buf' : Array Value} {cl cl' : Bool} {pend : List Nat} : (crew92 ch c d t cs ls buf cl pend).put d (ls.length, buf', cl') = crew92 ch c d t cs ls buf' cl' pend := by
  unfold Crew.put crew92
  dsimp only
  congr 1
  funext j
  by_cases e : j = d
  · subst e
    rw [putAt_self, putAt_self]
  · rw [putAt_ne _ _ e, putAt_ne _ _ e, putAt_ne _ _ e]
section
variable {ch : Nat → Option (Nat × Array Value × Bool)} {W0 : World} {Post : Value → World → Prop} {b : FB} {fs : List Frame} {FC : Frm} {ρ0 : Env} {m : Nat} {k2 : List Item} {hz : List AObj} {t : Tal} {cv nv kv ov : Value} {cs : List Int} {p3 p5 p7 c1 c2 : Nat} {cells : List Value} {ls : List (List Int)}
theorem hire92 (hk : b.kind ≠ .early) (hown : ch (ρ0.blk c1) = some (0, #[], false)) (hne : ρ0.blk c1 ≠ ρ0.blk c2) (fine : TalFine t) (L : LentS hz t cv nv kv ov cs p3 p5 p7 c1 c2 cells ls) (hm : m ≤ hz.length) (hpm : c1 < m) (hw : ∀ b, ¬ FC.wr b)
    (hdone : At (JC prog W0 Post (crew92 ch (ρ0.blk c1) (ρ0.blk c2) t cs ls #[] false (List.range ls.length))) 50 b fs FC ρ0 m k2 (R92 ov p3 p5 p7 c2 ls.length ls.length) hz) :
    ∀ (d i : Nat), d = ls.length - i → i ≤ ls.length → At (JC prog W0 Post (crew92 ch (ρ0.blk c1) (ρ0.blk c2) t cs ls #[] false (List.range i))) 50 b fs FC ρ0 m (.code (subC [1, 1, 0, 1, 0, 0] (codeOf f92)) :: .inLoop (subC [1, 1, 0, 1, 0, 0] (codeOf f92)) :: .inBlock 0 :: k2) (R92 ov p3 p5 p7 c2 ls.length i) hz := by
  intro d
  induction d with
  | zero =>
    intro i hd hi
    have hin : i = ls.length := by omega
    subst hin
    have hJ := JC.closed prog W0 Post (crew92 ch (ρ0.blk c1) (ρ0.blk c2) t cs ls #[] false (List.range ls.length))
    rw [round92]
    refine At.seq hJ (At.piece (Q := fun e f' h' => e = .normal ∧ f' = (R92 ov p3 p5 p7 c2 ls.length ls.length).p 21 (.bool false) ∧ h' = hz) rfl hk (W_sound hJ mixed _ ?_) hm (Nat.le_refl _) ?_)
    · rw [q92_2]
      refine lssI ⟨rfl, ?_, rfl⟩
      simp
    rintro e f' h' ⟨rfl, rfl, rfl⟩
    refine .inl ⟨rfl, At.seq hJ (At.piece (Q := fun e f' h1 => e = .exit 0 ∧ f' = (R92 ov p3 p5 p7 c2 ls.length ls.length).p 21 (.bool false) ∧ h1 = h') rfl hk (W_sound hJ mixed _ ?_) hm (Nat.le_refl _) ?_)⟩
    · rw [q92_3]
      exact cnd_false.2 ⟨rfl, rfl, rfl⟩
    rintro e f1 h1 ⟨rfl, rfl, rfl⟩
    refine .inr ⟨0, k2, rfl, by simp [exitTo], ?_⟩
    exact At.weak L.ok (L.regs rfl rfl rfl rfl rfl rfl rfl rfl) rfl rfl hm hdone
  | succ d ih =>
    intro i hd hi
    have hil : i < ls.length := by omega
    have hJ := JC.closed prog W0 Post (crew92 ch (ρ0.blk c1) (ρ0.blk c2) t cs ls #[] false (List.range i))
    have hJ2 := JC.closed prog W0 Post (crew92 ch (ρ0.blk c1) (ρ0.blk c2) t cs ls #[] false (List.range i ++ [i]))
    rw [round92]
    refine At.seq hJ (At.piece (Q := fun e f' h' => e = .normal ∧ f' = (R92 ov p3 p5 p7 c2 ls.length i).p 21 (.bool true) ∧ h' = hz) rfl hk (W_sound hJ mixed _ ?_) hm (Nat.le_refl _) ?_)
    · rw [q92_2]
      refine lssI ⟨rfl, ?_, rfl⟩
      have : ((i : Int) < (ls.length : Int)) := by omega
      simp [this]
    rintro e f' h' ⟨rfl, rfl, rfl⟩
    refine .inl ⟨rfl, At.seq hJ (At.piece (Q := fun e f' h1 => e = .normal ∧ f' = (R92 ov p3 p5 p7 c2 ls.length i).p 21 (.bool true) ∧ h1 = h') rfl hk (W_sound hJ mixed _ ?_) hm (Nat.le_refl _) ?_)⟩
    · rw [q92_3]
      exact cnd_true.2 ⟨rfl, rfl, rfl⟩
    rintro e f1 hz ⟨rfl, rfl, rfl⟩
    obtain ⟨l, hl⟩ : ∃ l, ls[i]? = some l := ⟨_, List.getElem?_eq_getElem hil⟩
    obtain ⟨c, hc, E⟩ := L.el i l hl
    obtain ⟨hll, hlb⟩ := L.lb l (List.mem_of_getElem? hl)
    refine .inl ⟨rfl, At.seq hJ (At.block hJ (At.seq hJ (At.piece (Q := fun e f' h' => e = .normal ∧ f'.ds = [] ∧ (f'.r 1 = ov ∧ f'.r 3 = ptr p3 0 ∧ f'.r 5 = ptr p5 0 ∧ f'.r 7 = ptr p7 0 ∧ f'.r 8 = .chan (some c2) ∧ f'.r 18 = ov ∧ f'.r 19 = vint (ls.length : Nat) ∧ f'.r 20 = vint (i : Nat)) ∧ f'.r 9 = ptr hz.length 0 ∧ f'.r 10 = ptr (hz.length + 1) 0 ∧ h' = hz ++ [.cells [vint (i : Nat)] true 0, .cells [c] true 0]) rfl hk (W_sound hJ mixed _ ?_) hm (Nat.le_refl _) ?_)))⟩
    · rw [q92_4]
      refine idx_load L.os ⟨by show (0 : Int) ≤ (i : Nat); omega, by show ((i : Nat) : Int) < _; omega⟩ (by rw [Int.toNat_natCast]; exact hc) fun p => ?_
      refine qAl fun H1 p9 e1 S1 k1 l1 => qAl fun H2 p10 e2 S2 k2 l2 => ?_
      refine qSt (S2.get k1 (by simp)) (by simp) rfl rfl fun H3 S3 k3 l3 => qSt (S3.get k2 (by simp; omega)) (by simp) (sli_one E).1 (sli_one E).2.1 fun H4 S4 k4 l4 => ?_
      have SS : SameX [] hz H4 := ((S1.trans S2).thru S3 (by intro x hx; rw [List.mem_singleton.1 hx]; exact .inr (by omega))).thru S4 (by intro x hx; rw [List.mem_singleton.1 hx]; exact .inr (by omega))
      have k3' := S4.get k3 (by simp; omega)
      have e2' : p10 = hz.length + 1 := by omega
      subst e1 e2'
      exact ⟨rfl, rfl, ⟨rfl, rfl, rfl, rfl, rfl, rfl, rfl, rfl⟩, rfl, rfl, two_more SS (by omega) k3' k4⟩
    rintro e f h' ⟨rfl, ds, ⟨r1, r3, r5, r7, r8, r18, r19, r20⟩, r9, r10, rfl⟩
    refine .inl ⟨rfl, At.region hJ ?_⟩
    rw [show List.range ops92_1.size = [0, 1] from by rw [z92_1]; rfl]
    obtain ⟨o1, o2, o3, o4, o5⟩ := o92_1_0 (J := JC prog W0 Post (crew92 ch (ρ0.blk c1) (ρ0.blk c2) t cs ls #[] false (List.range i)))
    obtain ⟨x1, x2, x3, x4, x5⟩ := o92_1_1 (J := JC prog W0 Post (crew92 ch (ρ0.blk c1) (ρ0.blk c2) t cs ls #[] false (List.range i)))
    refine At.op hJ hk o1 o3 (o4 _) ?_
    rw [o5, r9, r10, r3, r5, r7, o2]
    refine ⟨rfl, fun _ => ?_⟩
    have fz : ∀ {q : Nat} {l : List Value} {wr : Bool} {sz : Nat}, (hz ++ [.cells [vint (i : Nat)] true 0, .cells [c] true 0])[q]? = some (.cells l wr sz) → (frz (hz ++ [.cells [vint (i : Nat)] true 0, .cells [c] true 0]))[q]? = some (.cells l false sz) := frz_at
    have ga : (hz ++ [.cells [vint (i : Nat)] true 0, .cells [c] true 0])[hz.length]? = some (.cells [vint (i : Nat)] true 0) := by simp
    have gb : (hz ++ [.cells [vint (i : Nat)] true 0, .cells [c] true 0])[hz.length + 1]? = some (.cells [c] true 0) := by simp
    have hT : (crew92 ch (ρ0.blk c1) (ρ0.blk c2) t cs ls #[] false (List.range i)).ch (ρ0.blk c1) = some (0, #[], false) := by
      unfold crew92
      dsimp only
      rw [putAt_ne _ _ hne]
      exact hown
    refine At.go hk x1 (x4 _) x5 x2 (g := 110) (cap := [ptr (hz.length + 1) 0, ptr p5 0, ptr p3 0, ptr p7 0, ptr hz.length 0]) rfl (by kernel_rfl) (k := i) (by show i ∉ List.range i; simp) hT rfl L.nw hw L.ok hm (fun ρ w ft R hu => ?_) (fun cap hcm => ?_) (f' := R92 ov p3 p5 p7 c2 ls.length i) (L.regs r1 r3 r5 r7 r8 r18 r19 r20) ds.symm (by show ∀ x ∈ f.ds, _; rw [ds]; simp) ?_
    · exact work110 (T := crew92 ch (ρ0.blk c1) (ρ0.blk c2) t cs ls #[] false (List.range i)) R (fz gb) (fz (get_app L.h5)) (fz (get_app L.h3)) (fz (get_app L.h7)) (fz ga) ⟨rfl, frz_sli (sli_app L.ta.ch), frz_sli (sli_app L.ta.co)⟩ fine (frz_sli (sli_app L.kv)) (frz_sli (sli_app E)) hlb hll (by rw [frz_len, List.length_append]; have := L.hc1; omega) (hu c1 hpm).1 (k := i) ⟨l, hl, rfl⟩
    · rcases List.mem_append.1 hcm with y | y
      · exact L.nc cap y
      · simp at y
    · refine At.ops_nil hJ2 (At.inBlock hJ2 (At.piece (Q := fun e f' h' => e = .normal ∧ f' = ((R92 ov p3 p5 p7 c2 ls.length i).p 26 (vint (i + 1 : Nat))).p 20 (vint (i + 1 : Nat)) ∧ h' = hz) rfl hk (W_sound hJ2 mixed _ ?_) hm (Nat.le_refl _) ?_))
      · rw [q92_5]
        have hf := L.few
        refine addI (by omega) ⟨rfl, ?_, rfl⟩
        rfl
      rintro e f1 h1 ⟨rfl, rfl, rfl⟩
      refine .inl ⟨rfl, At.inLoop hJ2 ?_⟩
      have := ih (i + 1) (by omega) (by omega)
      rw [List.range_succ] at this
      exact At.weak L.ok (L.regs rfl rfl rfl rfl rfl rfl rfl rfl) rfl rfl hm this
end
theorem At.skip {P : Program} {main : Bool} {J : JT} {N m : Nat} {b : FB} {cs : List Frame} {FC : Frm} {ρ0 : Env} {k : List Item} {f : RG} {h : List AObj} (hJ : Closed P main J) (h' : At J N b cs FC ρ0 m k f h) : At J N b cs FC ρ0 m (.code .skip :: k) f h :=
  At.ctrl hJ (fun a w => by simp [G, stepG, stepG.exec, FB.at]) h'
theorem At.forget {J : JT} {N m : Nat} {b : FB} {cs : List Frame} {FC : Frm} {ρ0 : Env} {k : List Item} {f f' : RG} {h : List AObj} (hf : ∀ t, f'.r t = unk ∨ f'.r t = f.r t) (hd : f'.ds = f.ds) (h' : At J N b cs FC ρ0 m k f' h) : At J N b cs FC ρ0 m k f h := by
  intro a ρ w ft A H hu hm
  refine h' a ρ w ft ⟨fun t => ?_, A.size, by rw [hd]; exact A.defers, by rw [hd]; exact A.ok⟩ H hu hm
  rcases hf t with e | e
  · exact .inl e
  · rw [e]
    exact A.regs t
theorem shape92b : subC [1, 1, 1] (codeOf f92) = .seq (.seq (subC [1, 1, 1, 0, 0] (codeOf f92)) (.block 2 (.loop (subC [1, 1, 1, 0, 1, 0, 0] (codeOf f92))))) (subC [1, 1, 1, 1] (codeOf f92)) := by kernel_rfl
theorem round92b : subC [1, 1, 1, 0, 1, 0, 0] (codeOf f92) = .seq (subC [1, 1, 1, 0, 1, 0, 0, 0] (codeOf f92)) (.seq (subC [1, 1, 1, 0, 1, 0, 0, 1, 0] (codeOf f92)) (.seq (.block 3 (.seq (.region 9 ops92_2 false) (.seq (subC [1, 1, 1, 0, 1, 0, 0, 1, 1, 0, 0, 1, 0] (codeOf f92)) (.cond (.tmp 34) (.region 11 ops92_3 false) .skip)))) (subC [1, 1, 1, 0, 1, 0, 0, 1, 1, 1] (codeOf f92)))) := by kernel_rfl
theorem shape92c : subC [1, 1, 1, 1] (codeOf f92) = .seq (.region 13 ops92_4 false) (.seq (subC [1, 1, 1, 1, 1, 0] (codeOf f92)) (.seq (.seq (subC [1, 1, 1, 1, 1, 1, 0, 0] (codeOf f92)) (.block 4 (.loop (subC [1, 1, 1, 1, 1, 1, 0, 1, 0, 0] (codeOf f92))))) (subC [1, 1, 1, 1, 1, 1, 1] (codeOf f92)))) := by kernel_rfl
theorem round92c : subC [1, 1, 1, 1, 1, 1, 0, 1, 0, 0] (codeOf f92) = .seq (.region 16 ops92_5 false) (.seq (subC [1, 1, 1, 1, 1, 1, 0, 1, 0, 0, 1, 0] (codeOf f92)) (subC [1, 1, 1, 1, 1, 1, 0, 1, 0, 0, 1, 1] (codeOf f92))) := by kernel_rfl
def vis (is : List Nat) : Array Value := ⟨is.map fun k => vint (k : Nat)⟩
theorem vis_push {is : List Nat} {k : Nat} : (vis is).push (vint (k : Nat)) = vis (is ++ [k]) := by
  unfold vis
  apply Array.ext'
  simp
theorem vis_size {is : List Nat} : (vis is).size = is.length := by simp [vis]
theorem vis_tail {i : Nat} {is : List Nat} : (vis (i :: is)).extract 1 (vis (i :: is)).size = vis is := by
  refine Array.ext (by simp [vis]) fun j h1 h2 => ?_
  simp [vis]
noncomputable def goodS (t : Tal) (cs : List Int) (ls : List (List Int)) (k : Nat) : Bool := match ls[k]? with | some l => truthS t (strU cs l) | none => false
noncomputable def firstS (t : Tal) (cs : List Int) (ls : List (List Int)) : Nat := ls.findIdx fun l => truthS t (strU cs l)
def mnI (a : Int) (k : Nat) : Int := min a (k : Int)
theorem fold_min : ∀ (is : List Nat) (n : Int), (is.foldl mnI n ≤ n ∧ ∀ k ∈ is, is.foldl mnI n ≤ k) ∧ (is.foldl mnI n = n ∨ ∃ k ∈ is, is.foldl mnI n = k)
  | [], n => by simp
  | i :: is, n => by
    obtain ⟨⟨h1, h2⟩, h3⟩ := fold_min is (mnI n i)
    rw [List.foldl_cons]
    have hm : mnI n i = min n (i : Int) := rfl
    refine ⟨⟨by omega, fun k hk => ?_⟩, ?_⟩
    · rcases List.mem_cons.1 hk with rfl | hk
      · omega
      · exact h2 k hk
    · rcases h3 with h3 | ⟨k, hk, h3⟩
      · by_cases e : n ≤ (i : Int)
        · exact .inl (by omega)
        · exact .inr ⟨i, List.mem_cons_self, by omega⟩
      · exact .inr ⟨k, List.mem_cons_of_mem _ hk, h3⟩
theorem first_min {t : Tal} {cs : List Int} {ls : List (List Int)} {is : List Nat} (h1 : ∀ k ∈ is, goodS t cs ls k = true) (h2 : ∀ k, goodS t cs ls k = true → k ∈ is) : is.foldl mnI (ls.length : Int) = (firstS t cs ls : Nat) := by
  obtain ⟨⟨a1, a2⟩, a3⟩ := fold_min is (ls.length : Int)
  have hlt : ∀ k, goodS t cs ls k = true → k < ls.length ∧ firstS t cs ls ≤ k := fun k hk => by
    unfold goodS at hk
    cases e : ls[k]? with
    | none => rw [e] at hk; cases hk
    | some l =>
      rw [e] at hk
      dsimp only at hk
      obtain ⟨hkl, rfl⟩ := List.getElem?_eq_some_iff.1 e
      refine ⟨hkl, ?_⟩
      rcases Nat.lt_or_ge k (firstS t cs ls) with h | h
      · have := List.not_of_lt_findIdx h
        rw [this] at hk
        cases hk
      · exact h
  have hfl : firstS t cs ls ≤ ls.length := List.findIdx_le_length
  rcases a3 with a3 | ⟨k, hk, a3⟩
  · by_cases e : firstS t cs ls < ls.length
    · have hg : goodS t cs ls (firstS t cs ls) = true := by
        unfold goodS
        rw [List.getElem?_eq_getElem e]
        exact List.findIdx_getElem (w := e)
      have := a2 _ (h2 _ hg)
      omega
    · omega
  · have := hlt k (h1 k hk)
    have e : firstS t cs ls < ls.length := by omega
    have hg : goodS t cs ls (firstS t cs ls) = true := by
      unfold goodS
      rw [List.getElem?_eq_getElem e]
      exact List.findIdx_getElem (w := e)
    have := a2 _ (h2 _ hg)
    omega
def Q92 (ov : Value) (p7 c2 n j : Nat) : RG := (((((RG.mk (fun _ => unk) []).p 1 ov).p 7 (ptr p7 0)).p 8 (.chan (some c2))).p 28 (vint (n : Nat))).p 29 (vint (j : Nat))
theorem q92_cases (ov : Value) (p7 c2 n j t : Nat) : (Q92 ov p7 c2 n j).r t = unk ∨ t = 1 ∨ t = 7 ∨ t = 8 ∨ t = 28 ∨ t = 29 := by
  by_cases h : t = 1 ∨ t = 7 ∨ t = 8 ∨ t = 28 ∨ t = 29
  · exact .inr h
  · refine .inl ?_
    simp only [not_or] at h
    obtain ⟨h1, h2, h3, h4, h5⟩ := h
    simp [Q92, RG.p, beq_eq_false_iff_ne.2 h1, beq_eq_false_iff_ne.2 h2, beq_eq_false_iff_ne.2 h3, beq_eq_false_iff_ne.2 h4, beq_eq_false_iff_ne.2 h5]
theorem q92_forget {ov : Value} {p7 c2 n j : Nat} {f : RG} (e1 : f.r 1 = ov) (e7 : f.r 7 = ptr p7 0) (e8 : f.r 8 = .chan (some c2)) (e28 : f.r 28 = vint (n : Nat)) (e29 : f.r 29 = vint (j : Nat)) : ∀ t, (Q92 ov p7 c2 n j).r t = unk ∨ (Q92 ov p7 c2 n j).r t = f.r t := by
  intro t
  rcases q92_cases ov p7 c2 n j t with h | rfl | rfl | rfl | rfl | rfl
  · exact .inl h
  · exact .inr e1.symm
  · exact .inr e7.symm
  · exact .inr e8.symm
  · exact .inr e28.symm
  · exact .inr e29.symm
section
variable {ch : Nat → Option (Nat × Array Value × Bool)} {W0 : World} {Post : Value → World → Prop} {b : FB} {fs : List Frame} {FC : Frm} {ρ0 : Env} {m : Nat} {k3 : List Item} {hz : List AObj} {t : Tal} {cv nv kv ov : Value} {cs : List Int} {p3 p5 p7 c1 c2 : Nat} {cells : List Value} {ls : List (List Int)}
theorem recv92 (hk : b.kind ≠ .early) (hne : ρ0.blk c1 ≠ ρ0.blk c2) (L : LentS hz t cv nv kv ov cs p3 p5 p7 c1 c2 cells ls) (hm : m ≤ hz.length) (hpm : c1 < m) (hpm2 : c2 < m)
    (hdone : ∀ is : List Nat, (∀ k ∈ is, goodS t cs ls k = true) → (∀ k, goodS t cs ls k = true → k ∈ is) → At (JC prog W0 Post (crew92 ch (ρ0.blk c1) (ρ0.blk c2) t cs ls (vis is) false [])) 50 b fs FC ρ0 m k3 (Q92 ov p7 c2 ls.length ls.length) hz) :
    ∀ (d j : Nat) (pend is : List Nat), d = ls.length - j → pend.length + j = ls.length → pend.Nodup → (∀ k ∈ pend, k < ls.length) → is.length ≤ j → (∀ k ∈ is, goodS t cs ls k = true) → (∀ k, goodS t cs ls k = true → k ∉ pend → k ∈ is) →
      At (JC prog W0 Post (crew92 ch (ρ0.blk c1) (ρ0.blk c2) t cs ls (vis is) false pend)) 50 b fs FC ρ0 m (.code (subC [1, 1, 1, 0, 1, 0, 0] (codeOf f92)) :: .inLoop (subC [1, 1, 1, 0, 1, 0, 0] (codeOf f92)) :: .inBlock 2 :: k3) (Q92 ov p7 c2 ls.length j) hz := by
  intro d
  induction d with
  | zero =>
    intro j pend is hd hpj hnd hlt hil h1 h2
    have hp : pend = [] := List.length_eq_zero_iff.1 (by omega)
    subst hp
    have hj : j = ls.length := by simpa using hpj
    subst hj
    have hJ := JC.closed prog W0 Post (crew92 ch (ρ0.blk c1) (ρ0.blk c2) t cs ls (vis is) false [])
    rw [round92b]
    refine At.seq hJ (At.piece (Q := fun e f' h' => e = .normal ∧ f' = (Q92 ov p7 c2 ls.length ls.length).p 30 (.bool false) ∧ h' = hz) rfl hk (W_sound hJ mixed _ ?_) hm (Nat.le_refl _) ?_)
    · rw [q92_7]
      refine lssI ⟨rfl, ?_, rfl⟩
      simp
    rintro e f' h' ⟨rfl, rfl, rfl⟩
    refine .inl ⟨rfl, At.seq hJ (At.piece (Q := fun e f' h1 => e = .exit 2 ∧ f' = (Q92 ov p7 c2 ls.length ls.length).p 30 (.bool false) ∧ h1 = h') rfl hk (W_sound hJ mixed _ ?_) hm (Nat.le_refl _) ?_)⟩
    · rw [q92_8]
      exact cnd_false.2 ⟨rfl, rfl, rfl⟩
    rintro e f1 h1' ⟨rfl, rfl, rfl⟩
    refine .inr ⟨2, k3, rfl, by simp [exitTo], ?_⟩
    exact At.forget (q92_forget rfl rfl rfl rfl rfl) rfl (hdone is h1 fun k hk => h2 k hk (by simp))
  | succ d ih =>
    intro j pend is hd hpj hnd hlt hil h1 h2
    have hJ := JC.closed prog W0 Post (crew92 ch (ρ0.blk c1) (ρ0.blk c2) t cs ls (vis is) false pend)
    rw [round92b]
    refine At.seq hJ (At.piece (Q := fun e f' h' => e = .normal ∧ f' = (Q92 ov p7 c2 ls.length j).p 30 (.bool true) ∧ h' = hz) rfl hk (W_sound hJ mixed _ ?_) hm (Nat.le_refl _) ?_)
    · rw [q92_7]
      refine lssI ⟨rfl, ?_, rfl⟩
      have : ((j : Int) < (ls.length : Int)) := by omega
      simp [this]
    rintro e f' h' ⟨rfl, rfl, rfl⟩
    refine .inl ⟨rfl, At.seq hJ (At.piece (Q := fun e f' h1 => e = .normal ∧ f' = (Q92 ov p7 c2 ls.length j).p 30 (.bool true) ∧ h1 = h') rfl hk (W_sound hJ mixed _ ?_) hm (Nat.le_refl _) ?_)⟩
    · rw [q92_8]
      exact cnd_true.2 ⟨rfl, rfl, rfl⟩
    rintro e f1 hz ⟨rfl, rfl, rfl⟩
    refine .inl ⟨rfl, At.seq hJ (At.block hJ (At.seq hJ (At.region hJ ?_)))⟩
    rw [show List.range ops92_2.size = [0, 1, 2] from by rw [z92_2]; rfl]
    obtain ⟨o1, o2, o3, o4, o5⟩ := o92_2_0 (J := JC prog W0 Post (crew92 ch (ρ0.blk c1) (ρ0.blk c2) t cs ls (vis is) false pend))
    obtain ⟨x1, x2, x3, x4, x5⟩ := o92_2_1 (J := JC prog W0 Post (crew92 ch (ρ0.blk c1) (ρ0.blk c2) t cs ls (vis is) false pend))
    refine At.op hJ hk o1 o3 (o4 _) ?_
    rw [o5, o2]
    refine ldI L.h7 rfl rfl fun _ => ?_
    have hpne : pend ≠ [] := by rintro rfl; simp at hpj; omega
    refine At.recv hk x1 x3 (x4 _) x5 (dir := .both) (e := 3) (by kernel_rfl) (ie := (prog.info? 3).getD default) (by kernel_rfl) (z := vint 0) (by kernel_rfl) (c := c1) rfl hpm rfl hpne fun k hkp v hv => ?_
    obtain ⟨l, hl, rfl⟩ := hv
    refine ⟨_, rfl, by simp [VOk], ?_⟩
    have hJ2 := JC.closed prog W0 Post (crew92 ch (ρ0.blk c1) (ρ0.blk c2) t cs ls (vis is) false (pend.erase k))
    obtain ⟨y1, y2, y3, y4, y5⟩ := o92_2_2 (J := JC prog W0 Post (crew92 ch (ρ0.blk c1) (ρ0.blk c2) t cs ls (vis is) false (pend.erase k)))
    show At (JC prog W0 Post (crew92 ch (ρ0.blk c1) (ρ0.blk c2) t cs ls (vis is) false (pend.erase k))) 50 b fs FC ρ0 m _ _ hz
    rw [x2]
    refine At.op hJ2 hk y1 y3 (y4 _) ?_
    rw [y5, y2]
    intro _
    have hkp' : k ∈ pend := hkp
    have hel := List.length_erase_of_mem hkp'
    have hpos := List.length_pos_of_mem hkp'
    have hf := L.few
    have hgood : goodS t cs ls k = truthS t (strU cs l) := by
      unfold goodS
      rw [hl]
    refine At.ops_nil hJ2 (At.seq hJ2 (At.piece (Q := fun e f' h' => e = .normal ∧ f'.ds = [] ∧ (f'.r 1 = ov ∧ f'.r 7 = ptr p7 0 ∧ f'.r 8 = .chan (some c2) ∧ f'.r 28 = vint (ls.length : Nat) ∧ f'.r 29 = vint (j : Nat)) ∧ f'.r 11 = vint (sentV t cs l k) ∧ f'.r 34 = .bool (decide (sentV t cs l k ≥ 0)) ∧ h' = hz) rfl hk (W_sound hJ2 mixed _ ?_) hm (Nat.le_refl _) ?_))
    · rw [q92_9]
      exact geqI ⟨rfl, rfl, ⟨rfl, rfl, rfl, rfl, rfl⟩, rfl, rfl, rfl⟩
    rintro e f hz' ⟨rfl, ds, ⟨r1, r7, r8, r28, r29⟩, r11, r34, rfl⟩
    refine .inl ⟨rfl, At.cond hJ2 (t := decide (sentV t cs l k ≥ 0)) r34 ?_⟩
    -- behind the answer
    have next : ∀ (is' : List Nat) (f : RG), is'.length ≤ j + 1 → (∀ k ∈ is', goodS t cs ls k = true) → (∀ k', goodS t cs ls k' = true → k' ∉ pend.erase k → k' ∈ is') → f.ds = [] → f.r 1 = ov → f.r 7 = ptr p7 0 → f.r 8 = .chan (some c2) → f.r 28 = vint (ls.length : Nat) → f.r 29 = vint (j : Nat) →
        At (JC prog W0 Post (crew92 ch (ρ0.blk c1) (ρ0.blk c2) t cs ls (vis is') false (pend.erase k))) 50 b fs FC ρ0 m (.inBlock 3 :: .code (subC [1, 1, 1, 0, 1, 0, 0, 1, 1, 1] (codeOf f92)) :: .inLoop (subC [1, 1, 1, 0, 1, 0, 0] (codeOf f92)) :: .inBlock 2 :: k3) f hz' := by
      intro is' f hil' h1' h2' ds r1 r7 r8 r28 r29
      have hJ3 := JC.closed prog W0 Post (crew92 ch (ρ0.blk c1) (ρ0.blk c2) t cs ls (vis is') false (pend.erase k))
      refine At.inBlock hJ3 (At.piece (Q := fun e f' h' => e = .normal ∧ f'.ds = [] ∧ (f'.r 1 = ov ∧ f'.r 7 = ptr p7 0 ∧ f'.r 8 = .chan (some c2) ∧ f'.r 28 = vint (ls.length : Nat) ∧ f'.r 29 = vint (j + 1 : Nat)) ∧ h' = hz') rfl hk (W_sound hJ3 mixed _ ?_) hm (Nat.le_refl _) ?_)
      · rw [q92_10, r29]
        exact addI (by omega) ⟨rfl, ds, ⟨r1, r7, r8, r28, rfl⟩, rfl⟩
      rintro e f1 h1'' ⟨rfl, ds, ⟨r1, r7, r8, r28, r29⟩, rfl⟩
      refine .inl ⟨rfl, At.inLoop hJ3 (At.forget (q92_forget r1 r7 r8 r28 r29) ds.symm ?_)⟩
      exact ih (j + 1) (pend.erase k) is' (by omega) (by omega) (hnd.erase k) (fun l hl => hlt l (List.mem_of_mem_erase hl)) hil' h1' h2'
    cases hT : truthS t (strU cs l) with
    | true =>
      have e1 : sentV t cs l k = (k : Int) := by unfold sentV; rw [if_pos hT]
      rw [e1] at r11
      rw [decide_eq_true (show sentV t cs l k ≥ 0 by rw [e1]; omega)]
      show At _ _ _ _ _ _ _ (.code (.region 11 ops92_3 false) :: _) _ _
      refine At.region hJ2 ?_
      rw [show List.range ops92_3.size = [0, 1, 2] from by rw [z92_3]; rfl]
      obtain ⟨u1, u2, u3, u4, u5⟩ := o92_3_0 (J := JC prog W0 Post (crew92 ch (ρ0.blk c1) (ρ0.blk c2) t cs ls (vis is) false (pend.erase k)))
      obtain ⟨w1, w2, w3, w4, w5⟩ := o92_3_1 (J := JC prog W0 Post (crew92 ch (ρ0.blk c1) (ρ0.blk c2) t cs ls (vis is) false (pend.erase k)))
      obtain ⟨z1, z2, z3, z4, z5⟩ := o92_3_2 (J := JC prog W0 Post (crew92 ch (ρ0.blk c1) (ρ0.blk c2) t cs ls (vis is) false (pend.erase k)))
      refine At.op hJ2 hk u1 u3 (u4 _) ?_
      rw [u5, u2]
      intro _
      refine At.op hJ2 hk w1 w3 (w4 _) ?_
      rw [w5, w2]
      intro _
      refine At.room hk z1 (z4 _) z5 z2 (c := c2) (by show f.r 8 = _; exact r8) hpm2 (v := vint (k : Nat)) (by show f.r 11 = _; exact r11) (by simp [unk]) (by simp [VOk]) (cap := ls.length) (buf := vis is) (by
        unfold crew92
        dsimp only
        rw [putAt_self]) (fun _ e => hne e.symm) (by rw [vis_size]; omega) ?_
      rw [crew92_put, vis_push]
      have hJ3 := JC.closed prog W0 Post (crew92 ch (ρ0.blk c1) (ρ0.blk c2) t cs ls (vis (is ++ [k])) false (pend.erase k))
      refine At.ops_nil hJ3 (next (is ++ [k]) _ (by simp; omega) (fun k' hk' => ?_) (fun k' hk' hn' => ?_) ds r1 r7 r8 r28 r29)
      · rcases List.mem_append.1 hk' with hk' | hk'
        · exact h1 k' hk'
        · rw [List.mem_singleton.1 hk', hgood]
          exact hT
      · by_cases e : k' = k
        · exact List.mem_append_right _ (List.mem_singleton.2 e)
        · exact List.mem_append_left _ (h2 k' hk' fun y => hn' ((List.mem_erase_of_ne e).2 y))
    | false =>
      have e1 : sentV t cs l k = -1 := by unfold sentV; rw [if_neg (by rw [hT]; decide)]
      rw [decide_eq_false (show ¬ sentV t cs l k ≥ 0 by rw [e1]; omega)]
      show At _ _ _ _ _ _ _ (.code .skip :: _) _ _
      refine At.skip hJ2 (next is f (by omega) h1 (fun k' hk' hn' => ?_) ds r1 r7 r8 r28 r29)
      by_cases e : k' = k
      · rw [e, hgood, hT] at hk'
        cases hk'
      · exact h2 k' hk' fun y => hn' ((List.mem_erase_of_ne e).2 y)
structure Grown (hz H : List AObj) : Prop where
  S : SameX [] hz H
  wr : ∀ i o, hz.length ≤ i → H[i]? = some o → o.wrt = true
theorem drain92 (hk : b.kind ≠ .early) (hm : m ≤ hz.length) (hpm2 : c2 < m)
    (hdone : ∀ f H, Grown hz H → f.ds = [] → f.r 12 = vint (firstS t cs ls : Nat) → At (JC prog W0 Post (crew92 ch (ρ0.blk c1) (ρ0.blk c2) t cs ls #[] true [])) 50 b fs FC ρ0 m k3 f H) :
    ∀ (is : List Nat) (cur : Int) (f : RG) (H : List AObj), (-1000 ≤ cur ∧ cur ≤ 1000) → is.foldl mnI cur = (firstS t cs ls : Nat) → Grown hz H → f.ds = [] → f.r 12 = vint cur → f.r 41 = .chan (some c2) →
      At (JC prog W0 Post (crew92 ch (ρ0.blk c1) (ρ0.blk c2) t cs ls (vis is) true [])) 50 b fs FC ρ0 m (.code (subC [1, 1, 1, 1, 1, 1, 0, 1, 0, 0] (codeOf f92)) :: .inLoop (subC [1, 1, 1, 1, 1, 1, 0, 1, 0, 0] (codeOf f92)) :: .inBlock 4 :: k3) f H := by
  intro is
  induction is with
  | nil =>
    intro cur f H hcur hf G ds r12 r41
    have hmH : m ≤ H.length := Nat.le_trans hm G.S.1
    have hJ := JC.closed prog W0 Post (crew92 ch (ρ0.blk c1) (ρ0.blk c2) t cs ls (vis []) true [])
    rw [round92c]
    refine At.seq hJ (At.region hJ ?_)
    rw [show List.range ops92_5.size = [0, 1] from by rw [z92_5]; rfl]
    obtain ⟨x1, x2, x3, x4, x5⟩ := o92_5_0 (J := JC prog W0 Post (crew92 ch (ρ0.blk c1) (ρ0.blk c2) t cs ls (vis []) true []))
    obtain ⟨y1, y2, y3, y4, y5⟩ := o92_5_1 (J := JC prog W0 Post (crew92 ch (ρ0.blk c1) (ρ0.blk c2) t cs ls (vis []) true []))
    refine At.drained hk x1 x3 (x4 _) x5 (dir := .both) (e := 3) (by kernel_rfl) (ie := (prog.info? 3).getD default) (by kernel_rfl) (z := vint 0) (by kernel_rfl) (c := c2) (by show f.r 41 = _; exact r41) hpm2 rfl (cap := ls.length) (by
      unfold crew92
      dsimp only
      rw [putAt_self]
      rfl) (by simp [VOk]) ?_
    rw [x2]
    refine At.op hJ hk y1 y3 (y4 _) ?_
    rw [y5, y2]
    show aExt (.tuple ⟨[vint 0, .bool false]⟩) 1 _
    refine ext1 fun _ => At.ops_nil hJ (At.seq hJ (At.piece (Q := fun e f' h' => e = .exit 4 ∧ f'.ds = [] ∧ f'.r 12 = vint cur ∧ h' = H) rfl hk (W_sound hJ mixed _ ?_) hmH (Nat.le_refl _) ?_))
    · rw [q92_13]
      exact cnd_false.2 ⟨rfl, ds, r12, rfl⟩
    rintro e f1 h1 ⟨rfl, ds, r12, rfl⟩
    refine .inr ⟨4, k3, rfl, by simp [exitTo], hdone _ _ G ds ?_⟩
    rw [r12]
    exact congrArg vint hf
  | cons i is ih =>
    intro cur f H hcur hf G ds r12 r41
    have hmH : m ≤ H.length := Nat.le_trans hm G.S.1
    have hJ := JC.closed prog W0 Post (crew92 ch (ρ0.blk c1) (ρ0.blk c2) t cs ls (vis (i :: is)) true [])
    have hJ2 := JC.closed prog W0 Post (crew92 ch (ρ0.blk c1) (ρ0.blk c2) t cs ls (vis is) true [])
    rw [round92c]
    refine At.seq hJ (At.region hJ ?_)
    rw [show List.range ops92_5.size = [0, 1] from by rw [z92_5]; rfl]
    obtain ⟨x1, x2, x3, x4, x5⟩ := o92_5_0 (J := JC prog W0 Post (crew92 ch (ρ0.blk c1) (ρ0.blk c2) t cs ls (vis (i :: is)) true []))
    obtain ⟨y1, y2, y3, y4, y5⟩ := o92_5_1 (J := JC prog W0 Post (crew92 ch (ρ0.blk c1) (ρ0.blk c2) t cs ls (vis is) true []))
    have e0 : (vis (i :: is)).getD 0 undef = vint (i : Nat) := rfl
    have e1 : (vis (i :: is)).extract 1 (vis (i :: is)).size = vis is := vis_tail
    refine At.take hk x1 x3 (x4 _) x5 (dir := .both) (e := 3) (by kernel_rfl) (ie := (prog.info? 3).getD default) (by kernel_rfl) (z := vint 0) (by kernel_rfl) (c := c2) (by show f.r 41 = _; exact r41) hpm2 rfl (cap := ls.length) (buf := vis (i :: is)) (cl := true) (by
      unfold crew92
      dsimp only
      rw [putAt_self]) (by rw [vis_size]; simp) (by rw [e0]; simp [VOk]) ?_
    rw [x2, e0, e1, crew92_put]
    refine At.op hJ2 hk y1 y3 (y4 _) ?_
    rw [y5, y2]
    show aExt (.tuple ⟨[vint (i : Nat), .bool true]⟩) 1 _
    refine ext1 fun _ => At.ops_nil hJ2 (At.seq hJ2 (At.piece (Q := fun e f' h' => e = .normal ∧ f'.ds = [] ∧ f'.r 12 = vint cur ∧ f'.r 41 = .chan (some c2) ∧ f'.r 42 = .tuple ⟨[vint (i : Nat), .bool true]⟩ ∧ h' = H) rfl hk (W_sound hJ2 mixed _ ?_) hmH (Nat.le_refl _) ?_))
    · rw [q92_13]
      exact cnd_true.2 ⟨rfl, ds, r12, r41, rfl, rfl⟩
    rintro e f1 h1 ⟨rfl, ds, r12, r41, r42, rfl⟩
    refine .inl ⟨rfl, At.piece (Q := fun e f' h' => e = .normal ∧ f'.ds = [] ∧ f'.r 12 = vint (min cur (i : Int)) ∧ f'.r 41 = .chan (some c2) ∧ Grown hz h') rfl hk (W_sound hJ2 mixed _ ?_) hmH (Nat.le_refl _) ?_⟩
    · rw [q92_14, r42]
      refine ext0 ⟨by decide, fill1 rfl rfl (by decide) (fillI (qNew fun H2 p e2 S2 k2 l2 => ?_))⟩
      rw [r12]
      refine good103 hJ2 (p := p) (b := (i : Int)) k2 ⟨rfl, ds, rfl, r41, G.S.trans S2, fun q o hq ho => ?_⟩
      by_cases hlt : q < h1.length
      · rw [S2.2 q hlt (by simp)] at ho
        exact G.wr q o hq ho
      · have := lt_of_get ho
        have : q = p := by omega
        subst this
        rw [k2] at ho
        cases ho
        rfl
    rintro e f2 h2 ⟨rfl, ds, r12, r41, G2⟩
    exact .inl ⟨rfl, At.inLoop hJ2 (ih (min cur (i : Int)) f2 h2 (by omega) (by rw [← hf]; rfl) G2 ds r12 r41)⟩
end
theorem same_unch {h H g : List AObj} (S : SameX [] h H) : SameX [] (unch h) (unch H ++ g) := by
  refine ⟨by rw [List.length_append, unch_len, unch_len]; have := S.1; omega, fun i hi _ => ?_⟩
  rw [unch_len] at hi
  have h1 := S.2 i hi (by simp)
  have hlt : i < (unch H).length := by rw [unch_len]; have := S.1; omega
  rw [List.getElem?_append_left hlt]
  unfold unch
  rw [List.getElem?_map, List.getElem?_map, h1]
open Classical in
/-- The channels that the heap tells of. -/
noncomputable def chOf (ρ : Env) (h : List AObj) (w : World) (b : Nat) : Option (Nat × Array Value × Bool) :=
  if Chs ρ h b then (match w.heap[b]? with | some (.chan cap _ _ _ _ _) => some (cap, #[], false) | _ => none) else none
theorem chOf_some {ρ : Env} {h : List AObj} {FC : Frm} {w : World} {ft : Foot} (H : HRel ρ h FC w ft) {b i cap : Nat} (hi : h[i]? = some (.chan cap)) (hb : ρ.blk i = b) : chOf ρ h w b = some (cap, #[], false) ∧ w.heap[b]? = some (.chan cap #[] false 0 0 false) ∧ ft.rd b := by
  have ho := H.obj i _ hi
  rw [hb] at ho
  have hr := H.rd i _ hi rfl
  rw [hb] at hr
  cases hw : w.heap[b]? with
  | none => rw [hw] at ho; exact ho.elim
  | some x =>
    rw [hw] at ho
    cases x with
    | chan cap' buf closed s r tm =>
      obtain ⟨rfl, rfl, rfl, rfl, rfl, rfl⟩ := ho
      refine ⟨?_, rfl, hr⟩
      unfold chOf
      rw [if_pos ⟨i, _, hi, hb⟩, hw]
    | _ => exact ho.elim
theorem chOf_none {ρ : Env} {h : List AObj} {w : World} {b : Nat} (hn : ¬ Chs ρ h b) : chOf ρ h w b = none := if_neg hn
section
variable {W0 : World} {Post : Value → World → Prop} {h : List AObj} {K : Value → List AObj → Prop}
theorem good92 {cv nv kv ov : Value} {t : Tal} {cs : List Int} {cells : List Value} {ls : List (List Int)} (ta : TalAt h (.agg ⟨talCells t cv nv⟩) t cv nv) (fine : TalFine t) (hkv : Sli h kv 1 cs.length (cs.map fun n => .int .u64 n)) (ho : Sli h ov 1 ls.length cells) (el : EleS h cells ls)
    (lb : ∀ l ∈ ls, l.length ≤ 1000 ∧ ∀ x ∈ l, 0 ≤ x ∧ x < cs.length) (few : ls.length ≤ 1000)
    (hK : ∀ H, SameX [] (unch h) H → K (vint (firstS t cs ls : Nat)) H) : Good prog (J1 prog W0 Post) 92 [.agg ⟨talCells t cv nv⟩, ov, kv] h K := by
  have hJ1 := J1.closed prog W0 Post
  refine good_of_sem hJ1 at92 body92 (by kernel_rfl) (Nat.le_of_ble_eq_true rfl) fun ok => ?_
  rw [show f92.ntmps = 50 from by kernel_rfl, show f92.results.toList = [.tmp 6] from by kernel_rfl]
  refine trunc_sound hJ1 mixed 2 (codeOf f92) (by kernel_rfl) (front92 ta hkv ho few fun f H p3 p5 p7 c1 c2 M => ?_)
  intro b a k fs L ρ FC w ft hb hk hL A R hn hcont
  have RZ := frz_rel R
  have hp1 := lt_of_get M.hc1
  have hp2 := lt_of_get M.hc2
  have LN : LentS (frz H) t cv nv kv ov cs p3 p5 p7 c1 c2 cells ls :=
    { ok := RZ.ok
      nw := fun x hx => by
        obtain ⟨y, _, rfl⟩ := List.mem_map.1 hx
        exact frz_wrt y
      nc := fun cap hx => by
        obtain ⟨y, _, e⟩ := List.mem_map.1 hx
        cases y <;> cases e
      h3 := frz_at M.h3
      h5 := frz_at M.h5
      h7 := frz_at M.h7
      hc1 := by rw [frz_len]; exact hp1
      hc2 := by rw [frz_len]; exact hp2
      ta := ⟨rfl, frz_sli (M.S.sli ta.ch (by simp)), frz_sli (M.S.sli ta.co (by simp))⟩
      kv := frz_sli (M.S.sli hkv (by simp))
      os := frz_sli (M.S.sli ho (by simp))
      ovk := by
        have := M.S.sli ho (by simp)
        obtain ⟨base, c, rfl, _, hh⟩ := this
        rcases hh with ⟨rfl, _⟩ | ⟨b, o, rfl, h0⟩
        · simp [VOk]
        · have hv : VOk H.length (.slice (some ⟨b, o, none⟩) ls.length c) := by
            have := A.regs 1
            rcases this with e | ⟨e, _⟩
            · rw [M.r1] at e; cases e
            · rw [M.r1] at e; exact e
          rw [frz_len]
          exact hv
      el := fun i l hl => by
        obtain ⟨c, hc, hs⟩ := el i l hl
        exact ⟨c, hc, frz_sli (M.S.sli hs (by simp))⟩
      lb := lb
      few := few }
  obtain ⟨d1, d2, d3⟩ := chOf_some R M.hc1 rfl
  obtain ⟨g1, g2, g3⟩ := chOf_some R M.hc2 rfl
  have hne : ρ.blk c1 ≠ ρ.blk c2 := fun e => M.ne (R.inj c1 c2 _ _ M.hc1 M.hc2 rfl rfl e)
  have hch : ∀ x, putAt (chOf ρ H w) (ρ.blk c2) (some (ls.length, (#[] : Array Value), false)) x = chOf ρ H w x := fun x => by
    by_cases e : x = ρ.blk c2
    · rw [e, putAt_self, g1]
    · rw [putAt_ne _ _ e]
  have e0 : vis [] = (#[] : Array Value) := rfl
  refine J1.crew (T := crew92 (chOf ρ H w) (ρ.blk c1) (ρ.blk c2) t cs ls #[] false []) (f' := lentF ρ H ft) rfl (fun b x hx => ?_) (fun b hb => ⟨hb.1, (hch b).trans (chOf_none hb.2)⟩) (fun b hb => hb.elim) ?_
  · have hx : chOf ρ H w b = some x := (hch b).symm.trans hx
    by_cases hx2 : Chs ρ H b
    · obtain ⟨i, cap, hi, hib⟩ := hx2
      obtain ⟨q1, q2, q3⟩ := chOf_some R hi hib
      have : some x = some (cap, #[], false) := hx.symm.trans q1
      cases this
      exact ⟨q3, rfl, q2⟩
    · have : some x = none := hx.symm.trans (chOf_none hx2)
      cases this
  -- all the workers' time
  have hJ := JC.closed prog W0 Post (crew92 (chOf ρ H w) (ρ.blk c1) (ρ.blk c2) t cs ls #[] false [])
  have hJn := JC.closed prog W0 Post (crew92 (chOf ρ H w) (ρ.blk c1) (ρ.blk c2) t cs ls #[] false (List.range ls.length))
  have hw0 : ∀ b, ¬ (keepF ρ H w ft).wr b := fun b hb => hb
  have hpm : c1 < (frz H).length := LN.hc1
  have hpm2 : c2 < (frz H).length := LN.hc2
  suffices hAt : At (JC prog W0 Post (crew92 (chOf ρ H w) (ρ.blk c1) (ρ.blk c2) t cs ls #[] false [])) 50 b fs (keepF ρ H w ft) ρ (frz H).length (.code (subC [1, 1] (codeOf f92)) :: k) f (frz H) from
    hAt a ρ w _ (by rw [frz_len]; exact A) RZ (Env.upto_refl _ _) (Nat.le_refl _)
  rw [shape92]
  refine At.seq hJ (At.seq hJ (At.piece (Q := fun e f' h' => e = .normal ∧ f'.ds = [] ∧ (f'.r 1 = ov ∧ f'.r 3 = ptr p3 0 ∧ f'.r 5 = ptr p5 0 ∧ f'.r 7 = ptr p7 0 ∧ f'.r 8 = .chan (some c2) ∧ f'.r 18 = ov ∧ f'.r 19 = vint (ls.length : Nat) ∧ f'.r 20 = vint (0 : Nat)) ∧ h' = frz H) rfl hk (W_sound hJ mixed _ ?_) (Nat.le_refl _) (Nat.le_refl _) ?_))
  · rw [q92_1, M.r1]
    exact lenI LN.os ⟨rfl, M.ds, ⟨M.r1, M.r3, M.r5, M.r7, M.r8, rfl, rfl, rfl⟩, rfl⟩
  rintro e f1 h1 ⟨rfl, ds, ⟨r1, r3, r5, r7, r8, r18, r19, r20⟩, rfl⟩
  refine .inl ⟨rfl, At.block hJ (At.loop hJ (At.weak LN.ok (LN.regs r1 r3 r5 r7 r8 r18 r19 r20) ds.symm ds (Nat.le_refl _) ?_))⟩
  refine hire92 hk d1 hne fine LN (Nat.le_refl _) hpm hw0 ?_ ls.length 0 rfl (by omega)
  -- the answers
  rw [shape92b]
  refine At.seq hJn (At.seq hJn (At.piece (Q := fun e f' h' => e = .normal ∧ f'.ds = [] ∧ (f'.r 1 = ov ∧ f'.r 7 = ptr p7 0 ∧ f'.r 8 = .chan (some c2) ∧ f'.r 28 = vint (ls.length : Nat) ∧ f'.r 29 = vint (0 : Nat)) ∧ h' = frz H) rfl hk (W_sound hJn mixed _ ?_) (Nat.le_refl _) (Nat.le_refl _) ?_))
  · rw [q92_6]
    show aLenS ov _
    exact lenI LN.os ⟨rfl, rfl, ⟨rfl, rfl, rfl, rfl, rfl⟩, rfl⟩
  rintro e f2 h2 ⟨rfl, ds2, ⟨s1, s7, s8, s28, s29⟩, rfl⟩
  refine .inl ⟨rfl, At.block hJn (At.loop hJn (At.forget (q92_forget s1 s7 s8 s28 s29) ds2.symm ?_))⟩
  refine recv92 hk hne LN (Nat.le_refl _) hpm hpm2 (fun is hg1 hg2 => ?_) ls.length 0 (List.range ls.length) [] rfl (by simp) List.nodup_range (fun k hk => List.mem_range.1 hk) (by simp) (by simp) (fun k hk hn => absurd (List.mem_range.2 ?_) hn)
  rotate_left
  · unfold goodS at hk
    cases e : ls[k]? with
    | none => rw [e] at hk; cases hk
    | some l => exact (List.getElem?_eq_some_iff.1 e).1
  -- its own channel is closed
  have hJc := JC.closed prog W0 Post (crew92 (chOf ρ H w) (ρ.blk c1) (ρ.blk c2) t cs ls (vis is) false [])
  have hJd := JC.closed prog W0 Post (crew92 (chOf ρ H w) (ρ.blk c1) (ρ.blk c2) t cs ls (vis is) true [])
  rw [shape92c]
  refine At.seq hJc (At.region hJc ?_)
  rw [show List.range ops92_4.size = [0, 1] from by rw [z92_4]; rfl]
  obtain ⟨u1, u2, u3, u4, u5⟩ := o92_4_0 (J := JC prog W0 Post (crew92 (chOf ρ H w) (ρ.blk c1) (ρ.blk c2) t cs ls (vis is) false []))
  obtain ⟨w1, w2, w3, w4, w5⟩ := o92_4_1 (J := JC prog W0 Post (crew92 (chOf ρ H w) (ρ.blk c1) (ρ.blk c2) t cs ls (vis is) false []))
  refine At.op hJc hk u1 u3 (u4 _) ?_
  rw [u5, u2]
  intro _
  refine At.shut hk w1 (w4 _) w5 w2 (c := c2) rfl hpm2 rfl (cap := ls.length) (buf := vis is) (by
    unfold crew92
    dsimp only
    rw [putAt_self]) ?_
  rw [crew92_put]
  refine At.ops_nil hJd (At.seq hJd (At.piece (Q := fun e f' h' => e = .normal ∧ f'.ds = [] ∧ f'.r 8 = .chan (some c2) ∧ f'.r 12 = vint (ls.length : Nat) ∧ h' = frz H) rfl hk (W_sound hJd mixed _ ?_) (Nat.le_refl _) (Nat.le_refl _) ?_))
  · rw [q92_11]
    show aLenS ov _
    exact lenI LN.os ⟨rfl, rfl, rfl, rfl, rfl⟩
  rintro e f3 h3 ⟨rfl, ds3, t8, t12, rfl⟩
  refine .inl ⟨rfl, At.seq hJd (At.seq hJd (At.piece (Q := fun e f' h' => e = .normal ∧ f'.ds = [] ∧ f'.r 41 = .chan (some c2) ∧ f'.r 12 = vint (ls.length : Nat) ∧ h' = frz H) rfl hk (W_sound hJd mixed _ ?_) (Nat.le_refl _) (Nat.le_refl _) ?_))⟩
  · rw [q92_12]
    exact ⟨rfl, ds3, t8, t12, rfl⟩
  rintro e f4 h4 ⟨rfl, ds4, t41, t12, rfl⟩
  refine .inl ⟨rfl, At.block hJd (At.loop hJd ?_)⟩
  refine drain92 (t := t) (cs := cs) (ls := ls) hk (Nat.le_refl _) hpm2 (fun f5 H5 G5 ds5 r12 => ?_) is (ls.length : Int) f4 (frz H) (by omega) (first_min hg1 hg2) ⟨SameX.refl, fun i o hi ho => absurd (lt_of_get ho) (by omega)⟩ ds4 t12 t41
  -- behind the workers' time
  intro a' ρ' w' ft' A' R' hu' hm'
  obtain ⟨g, rfl⟩ := G5.S.app0 (by simp)
  have som : ∀ b, Chs ρ H b → (putAt (chOf ρ H w) (ρ.blk c2) (some (ls.length, (#[] : Array Value), true)) b).isSome = true := fun b ⟨i, cap, hi, hib⟩ => by
    by_cases e : b = ρ.blk c2
    · rw [e, putAt_self]
      rfl
    · rw [putAt_ne _ _ e, (chOf_some R hi hib).1]
      rfl
  refine JC.last (f' := thawF ρ H ft ft') rfl (fun b hb => hb.imp id (som b)) (fun b hb => ?_) fun w₂ hrel hch2 => ?_
  · rcases hb with hb | hb
    · by_cases hc : Chs ρ H b
      · exact .inr hc
      · have hr := R.sub b hb
        have hlt := R.lt b hr
        exact .inl (R'.kept b w.heap[b] (by rw [keep_ob R hr hc, Array.getElem?_eq_getElem hlt])).2.1
    · exact .inl (R'.sub b hb)
  have hu : Env.upto H.length ρ ρ' := by
    rw [← frz_len (h := H)]
    exact hu'
  obtain ⟨RT, _⟩ := thaw_rel R (R'.rely hrel) hu (fun o ho _ => by
    obtain ⟨i, hi⟩ := List.mem_iff_getElem?.1 ho
    exact G5.wr ((frz H).length + i) o (by omega) (by rw [List.getElem?_append_right (by omega)]; simpa using hi)) fun b hb => hch2 b (som b hb)
  have le : (frz H ++ g).length = (unch H ++ g).length := by simp [frz_len, unch_len]
  have S := same_unch (g := g) M.S
  have S1 : h.length ≤ (unch H ++ g).length := by have := S.1; rwa [unch_len] at this
  have hc : contX pl92t prog (J1 prog W0 Post) 50 h.length 92 ct92t [1, 1, 1, 1, 1, 1, 1] (codeOf f92) [] (RetQ prog [.tmp 6] h.length K) = RetQ prog [.tmp 6] h.length K := by kernel_rfl
  have tl : Sem (J1 prog W0 Post) 50 h.length 92 (subC [1, 1, 1, 1, 1, 1, 1] (codeOf f92)) f5 (unch H ++ g) (RetQ prog [.tmp 6] h.length K) := by
    rw [← hc]
    refine W_sound hJ1 mixed _ ?_
    rw [s92t_1, ds5, r12]
    exact retL_same (by simp [unk]) (hK _ S)
  exact tl b a' k fs L ρ' FC w₂ _ hb hk hL (by rw [← le]; exact A') RT S1 fun e f2 h2' ρ2 w2 ft2 a2 q q1 q2 q3 q4 => hcont e f2 h2' ρ2 w2 ft2 a2 q q1 q2 (Env.upto_trans (Env.upto_le hu hn) q3) q4
end
structure Sm (h H : List AObj) : Prop where
  len : h.length ≤ H.length
  get : ∀ (i : Nat) (x : AObj), h[i]? = some x → H[i]? = some x ∨ (∃ cap, x = .chan cap) ∧ H[i]? = some .dead
theorem Sm.refl {h : List AObj} : Sm h h := ⟨Nat.le_refl _, fun _ _ h => .inl h⟩
theorem Sm.of {h H : List AObj} (S : SameX [] h H) : Sm h H := ⟨S.1, fun i x hx => .inl (S.get hx (by simp))⟩
theorem Sm.unch {h H : List AObj} (S : SameX [] (unch h) H) : Sm h H := ⟨by have := S.1; rwa [unch_len] at this, fun i x hx => by
  have h1 : (Go.Proofs.Ytdgpacdknpahnaa.unch h)[i]? = some (unchO x) := by
    unfold Go.Proofs.Ytdgpacdknpahnaa.unch
    rw [List.getElem?_map, hx]
    rfl
  have h2 := S.get h1 (by simp)
  cases x with
  | chan cap => exact .inr ⟨⟨cap, rfl⟩, h2⟩
  | _ => exact .inl h2⟩
theorem Sm.trans {h H G : List AObj} (a : Sm h H) (b : Sm H G) : Sm h G := ⟨Nat.le_trans a.1 b.1, fun i x hx => by
  rcases a.2 i x hx with h1 | ⟨h1, h2⟩
  · exact b.2 i x h1
  · rcases b.2 i _ h2 with h3 | ⟨⟨cap, h3⟩, _⟩
    · exact .inr ⟨h1, h3⟩
    · cases h3⟩
theorem Sm.at {h H : List AObj} (a : Sm h H) {i : Nat} {c : List Value} {wr : Bool} {sz : Nat} (hx : h[i]? = some (.cells c wr sz)) : H[i]? = some (.cells c wr sz) := by
  rcases a.2 i _ hx with h1 | ⟨⟨cap, h1⟩, _⟩
  · exact h1
  · cases h1
theorem Sm.sli {h H : List AObj} (a : Sm h H) {v : Value} {s n : Nat} {cs : List Value} (hs : Sli h v s n cs) : Sli H v s n cs := by
  obtain ⟨base, c, rfl, hk, hh⟩ := hs
  refine ⟨base, c, rfl, hk, hh.imp id ?_⟩
  rintro ⟨b, o, e, h0⟩
  exact ⟨b, o, e, h0.imp id fun ⟨cs, wr, sz, hb, ht⟩ => ⟨cs, wr, sz, a.at hb, ht⟩⟩
theorem Sm.tal {h H : List AObj} (a : Sm h H) {v cv nv : Value} {t : Tal} (ht : TalAt h v t cv nv) : TalAt H v t cv nv := ⟨ht.val, a.sli ht.ch, a.sli ht.co⟩
theorem Sm.own {h H : List AObj} (a : Sm h H) {s len : Nat} {cs : List Value} {v : Value} {o : Option Nat} (ho : OwnX h s cs len v o) : OwnX H s cs len v o := by
  obtain ⟨h1, h2, h3 | ⟨i, c, sz, rfl, h4, h5, h6⟩⟩ := ho
  · exact ⟨h1, h2, .inl h3⟩
  · exact ⟨h1, h2, .inr ⟨i, c, sz, rfl, h4, a.at h5, h6⟩⟩
theorem run_all : ∀ n ∈ List.range 8, ∀ many ∈ List.range (n + 1), (pickS (stM n many) (puM n many) n []).1 = picksR n many 0 ∧ pickOk bdM (stM n many) (puM n many) n [] = true := of_decide_eq_true (by kernel_rfl)
theorem setM_some {t : Tal} {m : Int} : ∀ k, setM t m k ≠ 0 → ∃ j, j < k ∧ ((t.counts[j]?).getD ⟨0, 0, 0, 0⟩).man = m
  | 0, h => absurd rfl h
  | k + 1, h => by
    unfold setM at h
    by_cases e : ((t.counts[k]?).getD ⟨0, 0, 0, 0⟩).man = m
    · exact ⟨k, by omega, e⟩
    · rw [if_neg e] at h
      obtain ⟨j, h1, h2⟩ := setM_some k h
      exact ⟨j, by omega, h2⟩
theorem menTo_nodup (t : Tal) (n : Nat) : (menTo t n).Nodup := by
  unfold menTo
  refine List.Pairwise.filter _ ?_
  rw [List.pairwise_map]
  exact List.Pairwise.imp (fun {a b} (hab : a < b) => by omega) List.pairwise_lt_range
theorem menR_few {t : Tal} : (menR t).length ≤ t.counts.length := by
  have : (menR t).length ≤ (t.counts.map (·.man)).length := by
    refine List.Nodup.length_le_of_subset (menTo_nodup t 9) fun m hm => ?_
    unfold menTo at hm
    have h := of_decide_eq_true (List.mem_filter.1 hm).2
    obtain ⟨j, h1, h2⟩ := setM_some (t := t) (m := m) t.counts.length (by unfold setA at h; omega)
    rw [List.getElem?_eq_getElem h1] at h2
    exact List.mem_map.2 ⟨_, List.getElem_mem h1, h2⟩
  simpa using this
noncomputable def menO (t : Tal) : Option (List Int) := firstN (fun many => (picksR (menR t).length many 0).find? fun l => truthS t (strU (setsR t) l)) ((menR t).length + 1)
noncomputable def menL (t : Tal) : List Int := if wrongE t = 0 then ((menO t).getD []).map fun k => (menR t).getD k.toNat 0 else []
theorem first_find {t : Tal} {cs : List Int} {ls : List (List Int)} : ls.find? (fun l => truthS t (strU cs l)) = ls[firstS t cs ls]? := List.find?_eq_getElem?_findIdx
section
variable {W0 : World} {Post : Value → World → Prop} {h H : List AObj} {K : Value → List AObj → Prop}
theorem good59 {v cv nv : Value} {t : Tal} (ht : TalAt H v t cv nv) (hK : ∀ H' w, Sm H H' → Sli H' w 1 (menL t).length ((menL t).map vint) → K (.tuple ⟨[w, vint (wrongE t)]⟩) H') : Good prog (J1 prog W0 Post) 59 [v] H K := by
  have hJ := J1.closed prog W0 Post
  refine g59 hJ fun ok => ?_
  rw [e59, ht.val]
  refine qBox (tal_one ht) fun H1 p1 e1 S1 c1 l1 => ?_
  have t1 : TalAt H1 (.agg ⟨talCells t cv nv⟩) t cv nv := ⟨rfl, S1.sli ht.ch (by simp), S1.sli ht.co (by simp)⟩
  refine load_part (c := talCells t cv nv) c1 (by rw [cs_val]; omega) rfl (talAt_kc t1) ?_
  refine good71 hJ t1 fun H2 bw bm S2 hbw hbm hne w hm => ext0 (ext1 ?_)
  have T2 : SameX [] H H2 := S1.trans S2
  have nil : ∀ {H' : List AObj} {e : Int}, SameX [] H H' → wrongE t = e → e ≠ 0 → retL H.length K [] [.slice none 0 0, vint e] H' := fun {H' e} S he h0 => by
    subst he
    refine retL_same (by simp [unk]) (hK H' _ (Sm.of S) ?_)
    unfold menL
    rw [if_neg h0]
    exact ⟨none, 0, rfl, ⟨rfl, rfl⟩, .inl ⟨rfl, rfl⟩⟩
  refine neqI (cndI (fun h0 => nil T2 (by unfold wrongE; rw [if_pos h0]) h0) fun h0 => ?_)
  have h0 : talErr t = 0 := Classical.not_not.1 h0
  have fine := talErr_fine h0
  have hfew := fine.few
  refine good74 (u' := 127) hJ w hbw hbm hne fine hm metOk_nil fun H3 es3 S3 w3 hm3 met3 => notI ?_
  have T3 : SameX [] H1 H3 := S2.thru S3 (by simp; omega)
  have c3 := T3.get c1 (by simp)
  have t3 := talAt_same t1 T3 (by simp)
  cases hT : decide (TruthIs t (limN 127 t.counts t.counts.length)) with
  | false =>
    refine cnd_true.2 (nil (S1.trans T3) ?_ (by decide))
    have : truthS t 127 = false := hT
    unfold wrongE
    rw [if_neg (not_not_intro h0), this]
    rfl
  | true =>
  have eE : wrongE t = 0 := by
    have : truthS t 127 = true := hT
    unfold wrongE
    rw [if_neg (not_not_intro h0), this]
    rfl
  refine cnd_false.2 (load_part (c := talCells t cv nv) c3 (by rw [cs_val]; omega) rfl (talAt_kc t3) ?_)
  refine good90 hJ t3 (by omega) fun H4 wv kv ow S4 Ow how Ks => ext0 (ext1 ?_)
  have hwf := menR_few (t := t)
  refine qAl fun H5 pw e5 S5 c5 l5 => qSt c5 (by simp) (ownX_val Ow).1 (ownX_val Ow).2.1 fun H6 S6 c6 l6 => ?_
  have c6 : H6[pw]? = some (.cells [wv] true 0) := c6
  have T46 : SameX [] H4 H6 := S5.thru S6 (by simp; omega)
  have Ow6 := ownX_keep Ow T46 (by simp)
  have Ks6 := T46.sli Ks (by simp)
  have c16 := T46.get (S4.get c3 (by simp)) (by simp)
  have t6 := talAt_same (talAt_same t3 S4 (by simp)) T46 (by simp)
  have TT : SameX [] H H6 := ((S1.trans T3).trans S4).trans T46
  have lk : (setsR t).length = (menR t).length := by unfold setsR; rw [List.length_map]
  have kwv := (ownX_val Ow).2.2
  refine ldI c6 rfl kwv (lenI (ownX_sli Ow6) (addI (by omega) ?_))
  generalize hn : (menR t).length = n at *
  have ok6 : p1 < H6.length := lt_of_get c16
  refine l59_1 hJ (fun m : Nat => n + 1 - m) (fun m F H' => Sm H6 H' ∧ m ≤ n + 1 ∧ (∀ i, i < m → (picksR n i 0).find? (fun l => truthS t (strU (setsR t) l)) = none) ∧ F.ds = [] ∧ F.r 1 = ptr p1 0 ∧ F.r 6 = ptr pw 0 ∧ F.r 7 = kv ∧ F.r 32 = vint ((n : Int) + 1) ∧ F.r 33 = vint (m : Nat)) ?_ (s := 0)
    (.inl ⟨Sm.refl, by omega, fun i hi => absurd hi (Nat.not_lt_zero _), rfl, rfl, rfl, rfl, rfl, rfl⟩)
  rintro m F H' ⟨M, hm', hno, ds, r1, r6, r7, r32, r33⟩ okc hnc
  have cw := M.at c6
  have ct := M.at c16
  have tt := M.tal t6
  have Kk := M.sli Ks6
  have Ok := M.own Ow6
  rw [s59_1, r1, r6, r7, r32, r33, ds]
  refine lssI (cndI (fun hlt => ?_) fun hge => ?_)
  · refine qAl fun Ha pm ea Sa ca la => qSt ca (by simp) rfl rfl fun Hb Sb cb lb => ?_
    have cb : Hb[pm]? = some (.cells [vint (m : Nat)] true 0) := cb
    have Tb : SameX [] H' Hb := Sa.thru Sb (by simp; omega)
    refine qAl fun Hc pl ec Sc cc lc => ?_
    have Tc : SameX [] H' Hc := Tb.trans Sc
    have hTb := Tb.1
    have lwp := lt_of_get cw
    have lpm := lt_of_get cb
    refine ldI (Tc.get cw (by simp)) rfl kwv (lenI (ownX_sli (ownX_keep Ok Tc (by simp))) ⟨rfl, ?_⟩)
    obtain ⟨ra, rb⟩ := run_all n (List.mem_range.2 (by omega)) m (List.mem_range.2 (by omega))
    refine good75S (oo := none) (a := ([] : List (List Int))) hJ (pass91 (lo := Hc.length) (n := n) (many := m) (wv := wv) hJ (fun KV hk => lenI (ownX_sli Ow6) hk) kwv (by omega) (by omega) (by omega) (by omega) (by omega) (by omega) (by omega)) (by omega) (by simp; omega) ⟨Tc.get cw (by simp), Sc.get cb (by simp), ⟨_, cc, OwnL.nil⟩, Nat.le_refl _⟩ rb fun Hd _ o' Md Id => ?_
    rw [ra] at Id
    obtain ⟨lv, cl, LL⟩ := Id.hl
    obtain ⟨hlo, cells, Oc, he⟩ := id LL
    have klv := ownX_val Oc
    -- what stays through pick
    have stay : ∀ {p : Nat} {x : AObj}, H'[p]? = some x → Hd[p]? = some x := fun {p x} hx => by
      have := lt_of_get hx
      exact Md.get (Tc.get hx (by simp)) (by simp; omega) (by simp)
    have Smd : Sm H' Hd := ⟨Nat.le_trans Tc.1 Md.1.1, fun i x hx => .inl (stay hx)⟩
    refine load_part (c := talCells t cv nv) (Smd.at ct) (by rw [cs_val]; omega) rfl (talAt_kc tt) (ldI cl rfl klv.2.2 ?_)
    have hpl : (picksR n m 0).length ≤ 1000 := by
      have hb := List.all_eq_true.1 (show (List.range 8).all (fun n => (List.range (n + 1)).all fun m => decide ((picksR n m 0).length ≤ 1000)) = true from by kernel_rfl) n (List.mem_range.2 (by omega))
      exact of_decide_eq_true (List.all_eq_true.1 hb m (List.mem_range.2 (by omega)))
    refine good92 (cs := setsR t) (ls := picksR n m 0) (Smd.tal tt) fine (Smd.sli Kk) (ownX_sli Oc) (fun i l hl => ?_) (fun l hl => ?_) hpl fun He Se => ?_
    · obtain ⟨lv2, b2, x1, x2, _⟩ := he i l hl
      exact ⟨lv2, x1, ownX_sli x2⟩
    · obtain ⟨y1, y2⟩ := picksR_mem hl
      exact ⟨by omega, fun x hx => by have := y2 x hx; rw [lk]; omega⟩
    have Me := Sm.unch Se
    have cle := Me.at cl
    have Oce := Me.own Oc
    refine ldI cle rfl klv.2.2 (lenI (ownX_sli Oce) (lssI (cndI (fun hlt2 => ?_) fun hge2 => ?_)))
    · -- found
      have hfl : firstS t (setsR t) (picksR n m 0) < (picksR n m 0).length := by omega
      obtain ⟨l, hl⟩ : ∃ l, (picksR n m 0)[firstS t (setsR t) (picksR n m 0)]? = some l := ⟨_, List.getElem?_eq_getElem hfl⟩
      obtain ⟨lv2, b2, x1, x2, _⟩ := he _ l hl
      have x2e := Me.own x2
      have hlm := picksR_mem (List.mem_of_getElem? hl)
      have hfind : (picksR n m 0).find? (fun l => truthS t (strU (setsR t) l)) = some l := by rw [first_find, hl]
      have hO : menO t = some l := by
        unfold menO
        rw [hn]
        exact firstN_some (by omega) hno hfind
      have hL : menL t = l.map fun k => (menR t).getD k.toNat 0 := by
        unfold menL
        rw [if_pos eE, hO]
        rfl
      refine ldI cle rfl klv.2.2 (idx_load (ownX_sli Oce) ⟨by omega, by omega⟩ (x := lv2) (by rw [Int.toNat_natCast]; exact x1) fun q => lenI (ownX_sli x2e) ?_)
      have cwe := (Smd.trans Me).at cw
      have Owe := (Smd.trans Me).own Ok
      refine l59_2 hJ (fun j : Nat => l.length - j) (fun j F H2 => SameX [] He H2 ∧ j ≤ l.length ∧ (∃ oo, OwnX H2 1 (((l.take j).map fun k => (menR t).getD k.toNat 0).map vint) j (F.r 11) oo ∧ ∀ q, oo = some q → He.length ≤ q) ∧ F.ds = [] ∧ F.r 6 = ptr pw 0 ∧ F.r 51 = lv2 ∧ F.r 52 = vint (l.length : Nat) ∧ F.r 53 = vint (j : Nat)) ?_ (s := 0)
        (.inl ⟨SameX.refl, by omega, ⟨none, ownX_nil, by simp⟩, ds, r6, rfl, rfl, rfl⟩)
      clear okc hnc
      rintro j F2 H2 ⟨S2', hj, ⟨oo, Oo, hoo⟩, ds2, q6, q51, q52, q53⟩ okc hnc
      generalize hov : F2.r 11 = ov at Oo
      rw [s59_2, q6, q51, q52, q53, hov, ds2]
      refine lssI (cndI (fun hlt3 => ?_) fun hge3 => ?_)
      · have hjl : j < l.length := by omega
        have hx := List.getElem?_eq_getElem hjl
        have hb := hlm.2 _ (List.getElem_mem hjl)
        refine idx_load (ownX_sli (ownX_keep x2e S2' (by simp))) ⟨by omega, by omega⟩ (x := vint l[j]) (by rw [Int.toNat_natCast, List.getElem?_map, hx]; rfl) fun q => ?_
        refine ldI (S2'.get cwe (by simp)) rfl kwv (idx_load (ownX_sli (ownX_keep Owe S2' (by simp))) ⟨by omega, by omega⟩ (x := vint ((menR t).getD l[j].toNat 0)) (by
          rw [List.getElem?_map, List.getD_eq_getElem?_getD, List.getElem?_eq_getElem (show l[j].toNat < (menR t).length by omega)]
          rfl) fun q2 => ⟨by decide, fill1 rfl rfl (by decide) (fillI (qNew fun H7 p7 e7 S7 c7 l7 => ⟨by decide, ?_⟩))⟩)
        refine ownX_more (ownX_keep Oo S7 (by simp)) (by omega) (by omega) (ownX_sli (ownX_new (n := 1) (l := [vint ((menR t).getD l[j].toNat 0)]) c7 rfl rfl)) fun v8 H8 p8 e8 O8 S8 => addI (by omega) ⟨j + 1, by dsimp only; omega, .inl ⟨(S2'.trans S7).thru S8 (fun y hy => ?_), by omega, ⟨some p8, ?_, fun y hy => ?_⟩, ds2, q6, q51, q52, by show vint _ = vint _; congr 1⟩⟩
        · rw [Option.mem_toList] at hy
          exact .inr (hoo y hy)
        · rw [List.take_add_one, hx, List.map_append, List.map_append]
          exact O8
        · cases hy
          have := S2'.1
          have := S7.1
          omega
      · have hje : j = l.length := by omega
        subst hje
        refine retL_same (nu2 (own_nunk Oo) (by simp [unk])) ?_
        have := hK H2 ov ((((Sm.of TT).trans M).trans (Smd.trans Me)).trans (Sm.of S2')) (by
          rw [hL, List.length_map]
          have := ownX_sli Oo
          rw [List.take_length] at this
          exact this)
        rw [eE] at this
        exact this
    · have hnone : (picksR n m 0).find? (fun l => truthS t (strU (setsR t) l)) = none := by
        rw [first_find]
        exact List.getElem?_eq_none (by omega)
      refine addI (by omega) ⟨m + 1, by dsimp only; omega, .inl ⟨M.trans (Smd.trans Me), by omega, fun i hi => ?_, ds, r1, r6, r7, r32, by show vint _ = vint _; congr 1⟩⟩
      by_cases e : i = m
      · rw [e]
        exact hnone
      · exact hno i (by omega)
  · have hO : menO t = none := by
      unfold menO
      rw [hn]
      exact firstN_none fun i hi => hno i (by omega)
    have hL : menL t = [] := by
      unfold menL
      rw [if_pos eE, hO]
      rfl
    refine retL_same (by simp [unk]) ?_
    have := hK H' (.slice none 0 0) ((Sm.of TT).trans M) (by
      rw [hL]
      exact ⟨none, 0, rfl, ⟨rfl, rfl⟩, .inl ⟨rfl, rfl⟩⟩)
    rw [eE] at this
    exact this
end
end Go.Proofs.Ytdgpacdknpahnaa
namespace Go.Proofs.Ytdgpacdknpahnaa
open Go.Conc Go.Proofs.Try
set_option maxRecDepth 100000
set_option maxHeartbeats 4000000
set_option linter.unusedVariables false
section
variable {main : Bool} {J : JT} {n0 : Nat} {h : List AObj} {K : Value → List AObj → Prop}
theorem at93 : prog.funcs[93]? = some f93 := by kernel_rfl
theorem body93 : f93.body = some (codeOf f93) := by kernel_rfl
def pl93 : Plans := []
def ct93 : Cuts := .go
theorem pok93 : plansOk prog pl93 (codeOf f93) = true := by kernel_rfl
theorem e93 {a0 a1 : Value} : W prog J 18 h.length 93 (codeOf f93) (RG.mk (regs [a0, a1]) []) h (RetQ prog [.tmp 4] h.length K) =
(Sem J 18 h.length 93 (subC [1, 0, 1, 0] (codeOf f93)) (RG.p (RG.p (RG.mk (regs [a0, a1]) []) 4 (Value.bool false)) 5 (vint 0)) h (contX pl93 prog J 18 h.length 93 ct93 [1, 0, 1, 0] (codeOf f93) [] (RetQ prog [.tmp 4] h.length K))) := top_eq pok93 ct93 (by kernel_rfl)
theorem g93 (hJ : Closed prog main J) {a0 a1 : Value} (hs : heapOk h → W prog J 18 h.length 93 (codeOf f93) (RG.mk (regs [a0, a1]) []) h (RetQ prog [.tmp 4] h.length K)) : Good prog J 93 [a0, a1] h K :=
  good_of_W hJ mixed at93 body93 (by kernel_rfl) (Nat.le_of_ble_eq_true rfl) hs
theorem s93_1 {f : RG} {nx0 : RG → List AObj → Prop} : W prog J 18 n0 93 (subC [1, 0, 1, 0, 0] (codeOf f93)) f h (thenK nx0 (contX pl93 prog J 18 n0 93 ct93 [1, 0, 1, 0] (codeOf f93) [] (RetQ prog [.tmp 4] n0 K))) =
(aLenS (f.r 0) fun v1 =>
aBin prog .lss 3 (f.r 5) v1 fun v2 =>
cnd v2
(aIdx 1 (f.r 0) (f.r 5) fun v3 =>
aLoad false 1 v3 h fun v4 =>
aBin prog .eql 3 v4 (f.r 1) fun v5 =>
cnd v5
(retL n0 K f.ds [(Value.bool true)] h)
(aBin prog .add 3 (f.r 5) (vint 1) fun v6 =>
nx0 (RG.p (RG.p (RG.p (RG.p (RG.p (RG.p (RG.p (RG.p (RG.p (RG.p (RG.p (RG.p (RG.p f 6 (f.r 5)) 7 (f.r 0)) 8 v1) 9 v2) 12 (f.r 0)) 13 (f.r 5)) 14 v3) 15 v4) 16 (f.r 1)) 17 v5) 10 (f.r 5)) 11 v6) 5 v6) h))
(retL n0 K f.ds [(Value.bool false)] h)) := sub_eq pok93 ct93 (by kernel_rfl)
theorem l93_1 (hJ : Closed prog main J) {S : Type} (μ : S → Nat) (I : S → RG → List AObj → Prop) (hI : ∀ s f h, I s f h → heapOk h → n0 ≤ h.length → W prog J 18 n0 93 (subC [1, 0, 1, 0, 0] (codeOf f93)) f h (thenK (Nx n0 μ I s) (contX pl93 prog J 18 n0 93 ct93 [1, 0, 1, 0] (codeOf f93) [] (RetQ prog [.tmp 4] n0 K))))
  {s : S} {f : RG} (hi : Gets n0 I s f h) : Sem J 18 n0 93 (subC [1, 0, 1, 0] (codeOf f93)) f h (contX pl93 prog J 18 n0 93 ct93 [1, 0, 1, 0] (codeOf f93) [] (RetQ prog [.tmp 4] n0 K)) :=
  loop_rule hJ mixed (b := subC [1, 0, 1, 0, 0] (codeOf f93)) (by kernel_rfl) μ I hI hi
theorem at63 : prog.funcs[63]? = some f63 := by kernel_rfl
theorem body63 : f63.body = some (codeOf f63) := by kernel_rfl
def pl63 : Plans := [(7, false, .take 0 (.take 1 (.take 2 (.take 3 (.take 4 (.take 5 (.last 6 true (.last 7 true (.take 8 (.last 9 false (.fin)))))))))))]
def ct63 : Cuts := .go
theorem pok63 : plansOk prog pl63 (codeOf f63) = true := by kernel_rfl
theorem e63 {a0 a1 : Value} : W prog J 30 h.length 63 (codeOf f63) (RG.mk (regs [a0, a1]) []) h (RetQ prog [.cell 4 42] h.length K) =
(aBox a0 h fun v1 h2 =>
aAlloc [(vint 0), (vint 0), (vint 0), (Value.slice none 0 0), (vint 0), (Value.slice none 0 0)] h2 fun v3 h4 =>
aOff v1 5 fun v5 =>
aLoad false 1 v5 h4 fun v6 =>
aOff v1 5 fun v7 =>
aStore 1 v7 (Value.slice none 0 0) h4 fun h8 =>
Sem J 30 h.length 63 (subC [1, 1, 1, 0, 1, 0] (codeOf f63)) (RG.p (RG.p (RG.p (RG.p (RG.p (RG.p (RG.p (RG.mk (regs [a0, a1]) []) 2 v1) 4 v3) 7 v5) 8 v6) 5 v6) 9 v7) 6 (vint 0)) h8 (contX pl63 prog J 30 h.length 63 ct63 [1, 1, 1, 0, 1, 0] (codeOf f63) [] (RetQ prog [.cell 4 42] h.length K))) := top_eq pok63 ct63 (by kernel_rfl)
theorem g63 (hJ : Closed prog main J) {a0 a1 : Value} (hs : heapOk h → W prog J 30 h.length 63 (codeOf f63) (RG.mk (regs [a0, a1]) []) h (RetQ prog [.cell 4 42] h.length K)) : Good prog J 63 [a0, a1] h K :=
  good_of_W hJ mixed at63 body63 (by kernel_rfl) (Nat.le_of_ble_eq_true rfl) hs
theorem s63_1 {f : RG} {nx0 : RG → List AObj → Prop} : W prog J 30 n0 63 (subC [1, 1, 1, 0, 1, 0, 0] (codeOf f63)) f h (thenK nx0 (contX pl63 prog J 30 n0 63 ct63 [1, 1, 1, 0, 1, 0] (codeOf f63) [] (RetQ prog [.cell 4 42] n0 K))) =
(aLenS (f.r 5) fun v1 =>
aBin prog .lss 3 (f.r 6) v1 fun v2 =>
cnd v2
(Good prog J 93 [(f.r 1), (f.r 6)] h fun v3 h4 =>
aUn .not v3 fun v5 =>
cnd v5
((∃ B, aOff (f.r 2) 5 fun v6 =>
aLoad false 1 v6 h4 fun v7 =>
RdOk (some B) (ptrBlk v6) ∧ (aIdx 4 (f.r 5) (f.r 6) fun v8 =>
aLoad true 4 v8 h4 fun v9 =>
RdOk (some B) (ptrBlk v8) ∧ ((((1 * 4 : Nat) ≤ 16777216 ∧ (1 : Nat) ≤ 16777216 ∧ List.length [(vint 0), (vint 0), (vint 0), (vint 0)] = 4) ∧ aFill (zrep [(vint 0), (vint 0), (vint 0), (vint 0)] 1) [(0, 4, v9)] fun c10 =>
aNewS 1 c10 h4 fun v11 h12 =>
SameB (some B) h4 h12 ∧ (((List.length [(vint 0), (vint 0), (vint 0), (vint 0)] = 4 ∧ 0 < (4 : Nat) ∧ 0 < (32 : Nat) ∧ (32 : Nat) ≤ 1024) ∧ aApp 4 v7 v11 h12 fun v13 h14 =>
SameB (some B) h4 h14 ∧ (aOff (f.r 2) 5 fun v15 =>
aStore 1 v15 v13 h14 fun h16 =>
aBin prog .add 3 (f.r 6) (vint 1) fun v17 =>
nx0 (RG.p (RG.p (RG.p (RG.p (RG.p (RG.p (RG.p (RG.p (RG.p (RG.p (RG.p (RG.p (RG.p (RG.p (RG.p (RG.p (RG.p (RG.p (RG.p (RG.p f 10 (f.r 6)) 11 (f.r 5)) 12 v1) 13 v2) 16 (f.r 1)) 17 (f.r 6)) 18 v3) 19 v5) 20 v6) 21 v7) 22 (f.r 5)) 23 (f.r 6)) 24 v8) 25 v9) 26 v11) 27 v13) 28 v15) 14 (f.r 6)) 15 v17) 6 v17) h16))))))))
(aBin prog .add 3 (f.r 6) (vint 1) fun v18 =>
nx0 (RG.p (RG.p (RG.p (RG.p (RG.p (RG.p (RG.p (RG.p (RG.p (RG.p (RG.p f 10 (f.r 6)) 11 (f.r 5)) 12 v1) 13 v2) 16 (f.r 1)) 17 (f.r 6)) 18 v3) 19 v5) 14 (f.r 6)) 15 v18) 6 v18) h4))
(aLoad true 6 (f.r 2) h fun v19 =>
aStore 6 (f.r 4) v19 h fun h20 =>
RetQ prog [.cell 4 42] n0 K .ret (RG.p (RG.p (RG.p (RG.p (RG.p f 10 (f.r 6)) 11 (f.r 5)) 12 v1) 13 v2) 29 v19) h20)) := sub_eq pok63 ct63 (by kernel_rfl)
theorem l63_1 (hJ : Closed prog main J) {S : Type} (μ : S → Nat) (I : S → RG → List AObj → Prop) (hI : ∀ s f h, I s f h → heapOk h → n0 ≤ h.length → W prog J 30 n0 63 (subC [1, 1, 1, 0, 1, 0, 0] (codeOf f63)) f h (thenK (Nx n0 μ I s) (contX pl63 prog J 30 n0 63 ct63 [1, 1, 1, 0, 1, 0] (codeOf f63) [] (RetQ prog [.cell 4 42] n0 K))))
  {s : S} {f : RG} (hi : Gets n0 I s f h) : Sem J 30 n0 63 (subC [1, 1, 1, 0, 1, 0] (codeOf f63)) f h (contX pl63 prog J 30 n0 63 ct63 [1, 1, 1, 0, 1, 0] (codeOf f63) [] (RetQ prog [.cell 4 42] n0 K)) :=
  loop_rule hJ mixed (b := subC [1, 1, 1, 0, 1, 0, 0] (codeOf f63)) (by kernel_rfl) μ I hI hi
theorem at64 : prog.funcs[64]? = some f64 := by kernel_rfl
theorem body64 : f64.body = some (codeOf f64) := by kernel_rfl
def pl64 : Plans := []
def ct64 : Cuts := .go
theorem pok64 : plansOk prog pl64 (codeOf f64) = true := by kernel_rfl
theorem e64 {a0 a1 : Value} : W prog J 27 h.length 64 (codeOf f64) (RG.mk (regs [a0, a1]) []) h (RetQ prog [.tmp 4] h.length K) =
(aBox a0 h fun v1 h2 =>
Sem J 27 h.length 64 (subC [1, 1, 0, 1, 0] (codeOf f64)) (RG.p (RG.p (RG.p (RG.p (RG.mk (regs [a0, a1]) []) 2 v1) 4 (Value.slice none 0 0)) 5 (Value.slice none 0 0)) 6 (vint 0)) h2 (contX pl64 prog J 27 h.length 64 ct64 [1, 1, 0, 1, 0] (codeOf f64) [] (RetQ prog [.tmp 4] h.length K))) := top_eq pok64 ct64 (by kernel_rfl)
theorem g64 (hJ : Closed prog main J) {a0 a1 : Value} (hs : heapOk h → W prog J 27 h.length 64 (codeOf f64) (RG.mk (regs [a0, a1]) []) h (RetQ prog [.tmp 4] h.length K)) : Good prog J 64 [a0, a1] h K :=
  good_of_W hJ mixed at64 body64 (by kernel_rfl) (Nat.le_of_ble_eq_true rfl) hs
theorem s64_1 {f : RG} {nx0 : RG → List AObj → Prop} : W prog J 27 n0 64 (subC [1, 1, 0, 1, 0, 0] (codeOf f64)) f h (thenK nx0 (contX pl64 prog J 27 n0 64 ct64 [1, 1, 0, 1, 0] (codeOf f64) [] (RetQ prog [.tmp 4] n0 K))) =
(aOff (f.r 2) 5 fun v1 =>
aLoad false 1 v1 h fun v2 =>
aLenS v2 fun v3 =>
aBin prog .lss 3 (f.r 6) v3 fun v4 =>
cnd v4
(aOff (f.r 2) 5 fun v5 =>
aLoad false 1 v5 h fun v6 =>
aIdx 4 v6 (f.r 6) fun v7 =>
aOff v7 1 fun v8 =>
aLoad false 1 v8 h fun v9 =>
Good prog J 93 [(f.r 1), v9] h fun v10 h11 =>
cnd v10
((((1 * 1 : Nat) ≤ 16777216 ∧ (1 : Nat) ≤ 16777216 ∧ List.length [(vint 0)] = 1) ∧ aFill (zrep [(vint 0)] 1) [(0, 1, (f.r 6))] fun c12 =>
aNewS 1 c12 h11 fun v13 h14 =>
((List.length [(vint 0)] = 1 ∧ 0 < (1 : Nat) ∧ 0 < (8 : Nat) ∧ (8 : Nat) ≤ 1024) ∧ aApp 1 (f.r 5) v13 h14 fun v15 h16 =>
aBin prog .add 3 (f.r 6) (vint 1) fun v17 =>
nx0 (RG.p (RG.p (RG.p (RG.p (RG.p (RG.p (RG.p (RG.p (RG.p (RG.p (RG.p (RG.p (RG.p (RG.p (RG.p (RG.p (RG.p (RG.p (RG.p (RG.p (RG.p f 7 (f.r 6)) 8 v1) 9 v2) 10 v3) 11 v4) 14 (f.r 1)) 15 v5) 16 v6) 17 (f.r 6)) 18 v7) 19 v8) 20 v9) 21 v10) 22 (f.r 5)) 23 (f.r 6)) 24 v13) 25 v15) 5 v15) 12 (f.r 6)) 13 v17) 6 v17) h16)))
(aBin prog .add 3 (f.r 6) (vint 1) fun v18 =>
nx0 (RG.p (RG.p (RG.p (RG.p (RG.p (RG.p (RG.p (RG.p (RG.p (RG.p (RG.p (RG.p (RG.p (RG.p (RG.p (RG.p f 7 (f.r 6)) 8 v1) 9 v2) 10 v3) 11 v4) 14 (f.r 1)) 15 v5) 16 v6) 17 (f.r 6)) 18 v7) 19 v8) 20 v9) 21 v10) 12 (f.r 6)) 13 v18) 6 v18) h11))
(retL n0 K f.ds [(f.r 5)] h)) := sub_eq pok64 ct64 (by kernel_rfl)
theorem l64_1 (hJ : Closed prog main J) {S : Type} (μ : S → Nat) (I : S → RG → List AObj → Prop) (hI : ∀ s f h, I s f h → heapOk h → n0 ≤ h.length → W prog J 27 n0 64 (subC [1, 1, 0, 1, 0, 0] (codeOf f64)) f h (thenK (Nx n0 μ I s) (contX pl64 prog J 27 n0 64 ct64 [1, 1, 0, 1, 0] (codeOf f64) [] (RetQ prog [.tmp 4] n0 K))))
  {s : S} {f : RG} (hi : Gets n0 I s f h) : Sem J 27 n0 64 (subC [1, 1, 0, 1, 0] (codeOf f64)) f h (contX pl64 prog J 27 n0 64 ct64 [1, 1, 0, 1, 0] (codeOf f64) [] (RetQ prog [.tmp 4] n0 K)) :=
  loop_rule hJ mixed (b := subC [1, 1, 0, 1, 0, 0] (codeOf f64)) (by kernel_rfl) μ I hI hi
end
end Go.Proofs.Ytdgpacdknpahnaa
namespace Go.Proofs.Ytdgpacdknpahnaa
open Go.Conc Go.Proofs.Try
set_option maxRecDepth 100000
def outTo (l : List Int) (k : Nat) : List Int := ((List.range k).filter fun (i : Nat) => !l.contains (i : Int)).map Int.ofNat
theorem outTo_succ (l : List Int) (k : Nat) : outTo l (k + 1) = outTo l k ++ (bif l.contains (k : Int) then [] else [(k : Int)]) := by
  unfold outTo
  rw [List.range_succ, List.filter_append, List.map_append]
  congr 1
  rw [List.filter_cons, List.filter_nil]
  cases l.contains (k : Int) <;> rfl
theorem outTo_le (l : List Int) (k : Nat) : (outTo l k).length ≤ k := by
  unfold outTo
  rw [List.length_map]
  exact Nat.le_trans (List.length_filter_le _ _) (by simp)
theorem outTo_mem {l : List Int} {k : Nat} {x : Int} (h : x ∈ outTo l k) : 0 ≤ x ∧ x < k := by
  unfold outTo at h
  obtain ⟨i, hi, rfl⟩ := List.mem_map.1 h
  have := List.mem_range.1 (List.mem_filter.1 hi).1
  show 0 ≤ (i : Int) ∧ (i : Int) < k
  omega
def byTo (t : Tal) (l : List Int) (k : Nat) : List Int := ((List.range k).filter fun (i : Nat) => l.contains (cntAt t (i : Int)).man).map Int.ofNat
theorem byTo_succ (t : Tal) (l : List Int) (k : Nat) : byTo t l (k + 1) = byTo t l k ++ (bif l.contains (cntAt t (k : Int)).man then [(k : Int)] else []) := by
  unfold byTo
  rw [List.range_succ, List.filter_append, List.map_append]
  congr 1
  rw [List.filter_cons, List.filter_nil]
  cases l.contains (cntAt t (k : Int)).man <;> rfl
theorem byTo_le (t : Tal) (l : List Int) (k : Nat) : (byTo t l k).length ≤ k := by
  unfold byTo
  rw [List.length_map]
  exact Nat.le_trans (List.length_filter_le _ _) (by simp)
section
variable {main : Bool} {J : JT} {h H : List AObj} {K : Value → List AObj → Prop} {KV : Value → Prop} {HL : List AObj → Prop} {n0 : Nat}
theorem good93 (hJ : Closed prog main J) {lv : Value} {l : List Int} {x : Int} (hl : Sli H lv 1 l.length (l.map vint)) (hll : l.length ≤ 1000) (hK : K (.bool (l.contains x)) H) : Good prog J 93 [lv, vint x] H K := by
  refine g93 hJ fun ok => ?_
  rw [e93]
  refine l93_1 hJ (fun k : Nat => l.length - k) (fun k F H' => H' = H ∧ k ≤ l.length ∧ (∀ y ∈ l.take k, y ≠ x) ∧ F.ds = [] ∧ F.r 0 = lv ∧ F.r 1 = vint x ∧ F.r 5 = vint (k : Nat)) ?_ (s := 0)
    (.inl ⟨rfl, by omega, by simp, rfl, rfl, rfl, rfl⟩)
  rintro k F H ⟨rfl, hk, hno, ds, r0, r1, r5⟩ okc hnc
  rw [s93_1, r0, r1, r5, ds]
  refine lenI hl (lssI (cndI (fun hlt => ?_) fun hge => ?_))
  · have hkl : k < l.length := by omega
    have hx := List.getElem?_eq_getElem hkl
    refine idx_load hl ⟨by omega, by omega⟩ (x := vint l[k]) (by rw [Int.toNat_natCast, List.getElem?_map, hx]; rfl) fun q => eqlI (cndI (fun he => ?_) fun hne => ?_)
    · have e : l.contains x = true := by
        rw [List.contains_iff_mem]
        exact he ▸ List.getElem_mem hkl
      rw [e] at hK
      exact retL_same (by simp [unk]) hK
    · refine addI (by omega) ⟨k + 1, by dsimp only; omega, .inl ⟨rfl, by omega, fun y hy => ?_, ds, r0, r1, by show vint _ = vint _; congr 1⟩⟩
      rw [List.take_add_one, hx] at hy
      rcases List.mem_append.1 hy with hy | hy
      · exact hno y hy
      · have hy : y = l[k] := by simpa using hy
        rw [hy]
        exact hne
  · have hke : k = l.length := by omega
    rw [hke, List.take_length] at hno
    have e : l.contains x = false := by
      cases hc : l.contains x with
      | false => rfl
      | true =>
        rw [List.contains_iff_mem] at hc
        exact absurd rfl (hno x hc)
    rw [e] at hK
    exact retL_same (by simp [unk]) hK
theorem good64 (hJ : Closed prog main J) {v cv nv lv : Value} {t : Tal} {l : List Int} (ht : TalAt H v t cv nv) (hl : Sli H lv 1 l.length (l.map vint)) (hll : l.length ≤ 1000) (hcl : t.counts.length ≤ 100)
    (hK : ∀ H' w o, SameX [] H H' → OwnX H' 1 ((byTo t l t.counts.length).map vint) (byTo t l t.counts.length).length w o → K w H') : Good prog J 64 [v, lv] H K := by
  refine g64 hJ fun ok => ?_
  rw [e64, ht.val]
  refine qBox (tal_one ht) fun H1 p1 e1 S1 c1 l1 => ?_
  have t1 : TalAt H1 (.agg ⟨talCells t cv nv⟩) t cv nv := ⟨rfl, S1.sli ht.ch (by simp), S1.sli ht.co (by simp)⟩
  have kn : kn1 nv = true := (sli_one t1.co).2.2
  refine l64_1 hJ (fun k : Nat => t.counts.length - k) (fun k F H' => ∃ ov oo, SameX [] H1 H' ∧ k ≤ t.counts.length ∧ OwnX H' 1 ((byTo t l k).map vint) (byTo t l k).length ov oo ∧ (∀ j, oo = some j → H1.length ≤ j) ∧ F.ds = [] ∧ F.r 1 = lv ∧ F.r 2 = ptr p1 0 ∧ F.r 5 = ov ∧ F.r 6 = vint (k : Nat)) ?_ (s := 0)
    (.inl ⟨_, none, SameX.refl, by omega, ownX_nil, by simp, rfl, rfl, rfl, rfl, rfl⟩)
  rintro k F H' ⟨ov, oo, S, hk, O, ho, ds, r1, r2, r5, r6⟩ okc hnc
  have c1' := S.get c1 (by simp)
  have t' := talAt_same t1 S (by simp)
  have sl := (S1.trans S).sli hl (by simp)
  rw [s64_1, r1, r2, r5, r6, ds]
  refine offI (ldI (v := nv) c1' rfl kn (lenI t'.co (lssI (cndI (fun hlt => ?_) fun hge => ?_))))
  · have hkl : k < t.counts.length := by omega
    obtain ⟨b2, o2, cs2, w2, z2, hx2, hb2, hle2, hp2, hk2⟩ := sliE_elem cnt_len (by omega) t'.co hkl
    have hc : (cntAt t (k : Int)).man = t.counts[k].man := by
      unfold cntAt
      rw [Int.toNat_natCast, List.getD_eq_getElem?_getD, List.getElem?_eq_getElem hkl]
      rfl
    have hsu := byTo_succ t l k
    have hle := byTo_le t l k
    refine offI (ldI (v := nv) c1' rfl kn (hx2 _ (offI (ldI hb2 (part_get (j := 1) hp2 rfl) rfl (good93 hJ sl hll ?_)))))
    cases hh : l.contains t.counts[k].man with
    | true =>
      rw [hc, hh, cond_true] at hsu
      refine cnd_true.2 ⟨by decide, fill1 rfl rfl (by decide) (fillI (qNew fun H2 p2 e2 S2 c2 l2 => ⟨by decide, ?_⟩))⟩
      refine ownX_more (ownX_keep O S2 (by simp)) (by omega) (by omega) (ownX_sli (ownX_new (n := 1) (l := [vint (k : Nat)]) c2 rfl rfl)) fun v' H3 p3 e3 O3 S3 => addI (by omega) ⟨k + 1, by dsimp only; omega, .inl ⟨v', some p3, (S.trans S2).thru S3 (fun y hy => .inr (ho y (Option.mem_toList.1 hy))), by omega, ?_, fun j hj => ?_, ds, r1, r2, rfl, by show vint _ = vint _; congr 1⟩⟩
      · rw [hsu, List.map_append, List.length_append]
        exact O3
      · cases hj
        have := S.1
        have := S2.1
        omega
    | false =>
      rw [hc, hh, cond_false, List.append_nil] at hsu
      exact cnd_false.2 (addI (by omega) ⟨k + 1, by dsimp only; omega, .inl ⟨ov, oo, S, by omega, by rw [hsu]; exact O, ho, ds, r1, r2, r5, by show vint _ = vint _; congr 1⟩⟩)
  · have hke : k = t.counts.length := by omega
    subst hke
    refine retL_same (by
      intro y hy
      rw [List.mem_singleton.1 hy]
      have := (ownX_val O).2.2
      intro e
      rw [e] at this
      cases this) (hK H' ov oo (S1.trans S) O)
theorem good63 (hJ : Closed prog main J) {v cv nv lv : Value} {t : Tal} {l : List Int} (ht : TalAt H v t cv nv) (hl : Sli H lv 1 l.length (l.map vint)) (hll : l.length ≤ 1000) (hcl : t.counts.length ≤ 100)
    (hK : ∀ H' nv', SameX [] H H' → TalAt H' (.agg ⟨talCells (withT t (outTo l t.counts.length)) cv nv'⟩) (withT t (outTo l t.counts.length)) cv nv' → K (.agg ⟨talCells (withT t (outTo l t.counts.length)) cv nv'⟩) H') : Good prog J 63 [v, lv] H K := by
  refine g63 hJ fun ok => ?_
  rw [e63, ht.val]
  have kc : kn1 cv = true ∧ kn1 nv = true := ⟨(sli_one ht.ch).2.2, (sli_one ht.co).2.2⟩
  refine qBox (tal_one ht) fun H1 p1 e1 S1 b1 l1 => qAl fun H2 p2 e2 S2 b2 l2 => ?_
  have T2 := S1.trans S2
  have b12 := S2.get b1 (by simp)
  refine offI (ldI (v := nv) b12 rfl kc.2 (offI (qSt b12 (by rw [cs_val]; omega) rfl rfl fun H3 S3 c3 l3 => ?_)))
  have c3 : H3[p1]? = some (.cells (talCells (withT t []) cv (.slice none 0 0)) true 0) := c3
  have T3 : SameX [] H H3 := T2.thru S3 (by simp; omega)
  have c32 := S3.get b2 (by simp; omega)
  have hS1 := S1.1
  have hS2 := S2.1
  have lp1 := lt_of_get c3
  have lp2 := lt_of_get c32
  refine l63_1 hJ (fun k : Nat => t.counts.length - k) (fun k F H' => ∃ nv' o', SameX [p1] H3 H' ∧ k ≤ t.counts.length ∧ OwnX H' 4 (((outTo l k).map (cntAt t)).flatMap Cnt.cells) (outTo l k).length nv' o' ∧ (∀ j, o' = some j → H3.length ≤ j) ∧ H'[p1]? = some (.cells (talCells (withT t (outTo l k)) cv nv') true 0) ∧ F.ds = [] ∧ F.r 1 = lv ∧ F.r 2 = ptr p1 0 ∧ F.r 4 = ptr p2 0 ∧ F.r 5 = nv ∧ F.r 6 = vint (k : Nat)) ?_ (s := 0)
    (.inl ⟨_, none, SameX.refl, by omega, ⟨rfl, rfl, .inl ⟨rfl, rfl, rfl⟩⟩, by simp, c3, rfl, rfl, rfl, rfl, rfl, rfl⟩)
  rintro k F H' ⟨nv', o', S, hk, O, ho, c', ds, r1, r2, r4, r5, r6⟩ okc hnc
  have T' : SameX [] H H' := T3.thru S (by simp; omega)
  have sl := T'.sli hl (by simp)
  have sn := T'.sli ht.co (by simp)
  have kO := (ownX_val O).2.2
  have hle := outTo_le l k
  have hsu := outTo_succ l k
  rw [s63_1, r1, r2, r4, r5, r6]
  refine lenI sn (lssI (cndI (fun hlt => ?_) fun hge => ?_))
  · have hkl : k < t.counts.length := by omega
    refine good93 hJ sl hll (notI ?_)
    cases hh : l.contains (k : Int) with
    | true =>
      rw [hh, cond_true, List.append_nil] at hsu
      exact cnd_false.2 (addI (by omega) ⟨k + 1, by dsimp only; omega, .inl ⟨nv', o', S, by omega, by rw [hsu]; exact O, ho, by rw [hsu]; exact c', ds, r1, r2, r4, r5, by show vint _ = vint _; congr 1⟩⟩)
    | false =>
    rw [hh, cond_false] at hsu
    refine cnd_true.2 ?_
    obtain ⟨bn, on, cn, wn, zn, hidx, hbn0, hol, hft, hkn⟩ := sliE_elem (enc := Cnt.cells) (s := 4) (fun _ => rfl) (by omega) ht.co hkl
    have hbnl := lt_of_get hbn0
    have hbn := T'.get hbn0 (by simp)
    have hT := T3.1
    have hSS := S.1
    have sb : ∀ {Hn}, SameX o'.toList H' Hn → SameB (some [p1, bn]) H' Hn := fun S' x hx => S'.2 x (by simp at hx; rcases hx with rfl | rfl <;> omega) (fun hm => by
      have := ho x (Option.mem_toList.1 hm)
      simp at hx
      rcases hx with rfl | rfl <;> omega)
    refine ⟨[p1, bn], offI (ldI (v := nv') c' rfl kO ⟨by simp [RdOk, ptr, ptrBlk], ?_⟩)⟩
    refine hidx _ (load_part (c := t.counts[k].cells) hbn hol hft hkn ⟨by simp [RdOk, ptr, ptrBlk], ?_⟩)
    refine ⟨by decide, fill_one (l := t.counts[k].cells) rfl rfl rfl (by decide) (fillI (qNew fun He pe ee Se ce le => ⟨sb Se.weak0, by decide, ?_⟩))⟩
    have ce : He[pe]? = some (.cells t.counts[k].cells true 0) := ce
    have O1 := ownX_keep O Se (by simp)
    refine ownX_more O1 (by omega) (by omega) (ownX_sli (ownX_new (s := 4) (n := 1) (l := t.counts[k].cells) ce rfl rfl)) fun nv2 Hf pf ef Of Sf => ?_
    have Tf : SameX o'.toList H' Hf := Se.weak0.trans Sf
    have cf := Tf.get c' (fun hm => by have := ho p1 (Option.mem_toList.1 hm); omega)
    have hTf := Tf.1
    have hSe := Se.1
    refine ⟨sb Tf, offI (qSt cf (by rw [cs_val]; omega) (ownX_val Of).1 (ownX_val Of).2.1 fun Hg Sg cg lg => addI (by omega) ?_)⟩
    have eC : (outTo l (k + 1)).map (cntAt t) = (outTo l k).map (cntAt t) ++ [t.counts[k]] := by
      rw [hsu, List.map_append]
      congr 1
      show [cntAt t (k : Int)] = _
      unfold cntAt
      rw [Int.toNat_natCast, List.getD_eq_getElem?_getD, List.getElem?_eq_getElem hkl]
      rfl
    have cg : Hg[p1]? = some (.cells (talCells (withT t (outTo l (k + 1))) cv nv2) true 0) := cg
    refine ⟨k + 1, by dsimp only; omega, .inl ⟨nv2, some pf, ?_, by omega, ?_, fun j hj => by cases hj; omega, cg, ds, r1, r2, r4, r5, by show vint _ = vint _; congr 1⟩⟩
    · exact (S.thru Tf (fun y hy => .inr (ho y (Option.mem_toList.1 hy)))).thru Sg (by simp)
    · rw [eC, List.flatMap_append]
      have e1 : (outTo l (k + 1)).length = (outTo l k).length + 1 := by rw [hsu]; simp
      rw [e1]
      refine ownX_keep ?_ Sg (fun i hi => by cases hi; simp; omega)
      simpa using Of
  · have hke : k = t.counts.length := by omega
    subst hke
    have t' : TalAt H' (.agg ⟨talCells (withT t (outTo l t.counts.length)) cv nv'⟩) (withT t (outTo l t.counts.length)) cv nv' := ⟨rfl, T'.sli ht.ch (by simp), by
      have := ownX_sli O
      unfold SliE
      show Sli H' nv' 4 ((outTo l t.counts.length).map (cntAt t)).length _
      rw [List.length_map]
      exact this⟩
    refine load_part (c := talCells (withT t (outTo l t.counts.length)) cv nv') c' (by rw [cs_val]; omega) rfl (talAt_kc t') ?_
    refine qStA (c := talCells (withT t (outTo l t.counts.length)) cv nv') (S.get c32 (by simp; omega)) rfl rfl (tal_one t') fun Hg Sg cg lg => ?_
    refine retQ_same ds (resW_cell (gg := true) (s := 6) (by kernel_rfl) ?_)
    show aLoad true 6 (F.r 4) _ _
    rw [r4]
    have hSS := S.1
    have O2 := ownX_keep O Sg (fun i hi => by have := ho i hi; simp; omega)
    have Tg : SameX [] H Hg := T'.thru Sg (by simp; omega)
    have tg : TalAt Hg (.agg ⟨talCells (withT t (outTo l t.counts.length)) cv nv'⟩) (withT t (outTo l t.counts.length)) cv nv' := ⟨rfl, Tg.sli ht.ch (by simp), by
      have := ownX_sli O2
      unfold SliE
      show Sli Hg nv' 4 ((outTo l t.counts.length).map (cntAt t)).length _
      rw [List.length_map]
      exact this⟩
    exact load_part (c := talCells (withT t (outTo l t.counts.length)) cv nv') cg (by rw [cs_val]; omega) rfl (talAt_kc t') (resW_nil (hK Hg nv' Tg tg))
end
def Bits (u : Int) (p : Nat → Prop) : Prop := ∃ n : Nat, u = (n : Int) ∧ n < 2 ^ 64 ∧ ∀ i, i < 64 → (n.testBit i = true ↔ p i)
theorem wrapU_nat {n : Nat} (h : n < 2 ^ 64) : IntKind.u64.wrap (n : Int) = (n : Int) := by
  have h2 : n < 18446744073709551616 := h
  exact wrapU_id (by omega) (by omega)
theorem ofInt_nat {n : Nat} (h : n < 2 ^ 64) : (BitVec.ofInt 64 (n : Int)).toNat = n := by
  rw [BitVec.ofInt_natCast, BitVec.toNat_ofNat, Nat.mod_eq_of_lt h]
theorem or_nat {a b : Nat} (ha : a < 2 ^ 64) (hb : b < 2 ^ 64) : orU (a : Int) (b : Int) = ((a ||| b : Nat) : Int) := by
  unfold orU
  rw [BitVec.toNat_or, ofInt_nat ha, ofInt_nat hb]
  exact wrapU_nat (Nat.or_lt_two_pow ha hb)
theorem sh_nat {k : Nat} (hk : k < 64) : shU (k : Int) = ((2 ^ k : Nat) : Int) := by
  unfold shU
  rw [Int.toNat_natCast, Nat.min_eq_left (by omega), Int.one_mul]
  have : ((2 : Int) ^ k) = ((2 ^ k : Nat) : Int) := by simp
  rw [this]
  exact wrapU_nat (Nat.pow_lt_pow_right (by omega) hk)
theorem keep_nat {n i : Nat} (hi : i < 64) (hn : n < 2 ^ 64) : keepB (n : Int) i = !(n.testBit i) := by
  unfold keepB
  have e1 : ((n : Int).fdiv (2 ^ min i 64)) = ((n / 2 ^ i : Nat) : Int) := by
    rw [Nat.min_eq_left (by omega)]
    have : ((2 : Int) ^ i) = ((2 ^ i : Nat) : Int) := by simp
    rw [this, Int.fdiv_eq_ediv_of_nonneg _ (Int.natCast_nonneg _)]
    rfl
  have h2 : n / 2 ^ i < 2 ^ 64 := Nat.lt_of_le_of_lt (Nat.div_le_self _ _) hn
  have e2 : (BitVec.ofInt 64 (1 : Int)).toNat = 1 := rfl
  rw [e1, BitVec.toNat_and, ofInt_nat h2, e2, Nat.and_one_is_mod, wrapU_nat (by have := Nat.mod_lt (n / 2 ^ i) (show 0 < 2 by omega); omega)]
  have e3 : n.testBit i = decide ((n / 2 ^ i) % 2 = 1) := Nat.testBit_eq_decide_div_mod_eq
  rw [e3]
  have := Nat.mod_lt (n / 2 ^ i) (show 0 < 2 by omega)
  by_cases h : n / 2 ^ i % 2 = 1
  · rw [h]
    rfl
  · have h0 : n / 2 ^ i % 2 = 0 := by omega
    rw [h0]
    rfl
theorem bits_zero : Bits 0 fun _ => False := ⟨0, rfl, by decide, fun i _ => by simp⟩
theorem bits_sh {k : Nat} (hk : k < 64) : Bits (shU (k : Int)) (· = k) := ⟨2 ^ k, sh_nat hk, Nat.pow_lt_pow_right (by omega) hk, fun i _ => by rw [Nat.testBit_two_pow, decide_eq_true_iff]; exact eq_comm⟩
theorem Bits.or {a b : Int} {p q : Nat → Prop} (ha : Bits a p) (hb : Bits b q) : Bits (orU a b) fun i => p i ∨ q i := by
  obtain ⟨m, rfl, h1, h2⟩ := ha
  obtain ⟨n, rfl, h3, h4⟩ := hb
  exact ⟨m ||| n, or_nat h1 h3, Nat.or_lt_two_pow h1 h3, fun i hi => by rw [Nat.testBit_or, Bool.or_eq_true, h2 i hi, h4 i hi]⟩
theorem Bits.congr {a : Int} {p q : Nat → Prop} (h : Bits a p) (e : ∀ i, i < 64 → (p i ↔ q i)) : Bits a q := by
  obtain ⟨m, h0, h1, h2⟩ := h
  exact ⟨m, h0, h1, fun i hi => by rw [h2 i hi, e i hi]⟩
theorem Bits.keep {a : Int} {p : Nat → Prop} (h : Bits a p) {i : Nat} (hi : i < 64) : keepB a i = false ↔ p i := by
  obtain ⟨m, rfl, h1, h2⟩ := h
  rw [keep_nat hi h1, ← h2 i hi]
  cases m.testBit i <;> simp
theorem Bits.pos {a : Int} {p : Nat → Prop} (h : Bits a p) {i : Nat} (hi : i < 64) (hp : p i) : a > 0 := by
  obtain ⟨m, rfl, h1, h2⟩ := h
  have := (h2 i hi).2 hp
  have : m ≠ 0 := fun e => by rw [e] at this; simp at this
  omega
section
variable {t : Tal}
theorem cnt_get {k : Nat} (hk : k < t.counts.length) : (t.counts[k]?).getD ⟨0, 0, 0, 0⟩ = t.counts[k] ∧ cntAt t (k : Int) = t.counts[k] := by
  refine ⟨by rw [List.getElem?_eq_getElem hk]; rfl, ?_⟩
  unfold cntAt
  rw [Int.toNat_natCast, List.getD_eq_getElem?_getD, List.getElem?_eq_getElem hk]
  rfl
theorem setM_bits (hn : t.counts.length ≤ 7) (m : Int) : ∀ k, k ≤ t.counts.length → Bits (setM t m k) fun i => i < k ∧ (cntAt t (i : Int)).man = m
  | 0, _ => bits_zero.congr fun i _ => ⟨fun h => h.elim, fun h => absurd h.1 (by omega)⟩
  | k + 1, hk => by
    have ih := setM_bits hn m k (by omega)
    obtain ⟨e1, e2⟩ := cnt_get (t := t) (k := k) (by omega)
    unfold setM
    rw [e1]
    by_cases e : t.counts[k].man = m
    · rw [if_pos e]
      refine (ih.or (bits_sh (show k < 64 by omega))).congr fun i _ => ⟨?_, fun ⟨h1, h2⟩ => ?_⟩
      · rintro (⟨h1, h2⟩ | rfl)
        · exact ⟨by omega, h2⟩
        · exact ⟨by omega, by rw [e2]; exact e⟩
      · by_cases hi : i = k
        · exact .inr hi
        · exact .inl ⟨by omega, h2⟩
    · rw [if_neg e]
      refine ih.congr fun i _ => ⟨fun ⟨h1, h2⟩ => ⟨by omega, h2⟩, fun ⟨h1, h2⟩ => ⟨?_, h2⟩⟩
      by_cases hi : i = k
      · rw [hi, e2] at h2
        exact absurd h2 e
      · omega
theorem setA_bits (hn : t.counts.length ≤ 7) (m : Int) : Bits (setA t m) fun i => i < t.counts.length ∧ (cntAt t (i : Int)).man = m := setM_bits hn m _ (Nat.le_refl _)
theorem strU_bits {cs : List Int} {q : Int → Nat → Prop} (hq : ∀ x, Bits (cs.getD x.toNat 0) (q x)) (l : List Int) : Bits (strU cs l) fun i => ∃ x ∈ l, q x i := by
  have key : ∀ (l : List Int) (s : Int) (p : Nat → Prop), Bits s p → Bits (l.foldl (fun s k => orU s (cs.getD k.toNat 0)) s) fun i => p i ∨ ∃ x ∈ l, q x i := by
    intro l
    induction l with
    | nil =>
      intro s p hs
      exact hs.congr fun i _ => by simp
    | cons a l ih =>
      intro s p hs
      refine (ih _ _ (hs.or (hq a))).congr fun i _ => ?_
      simp only [List.mem_cons, exists_eq_or_imp, or_assoc]
  exact (key l 0 _ bits_zero).congr fun i _ => by simp
theorem setsR_get (x : Int) : (setsR t).getD x.toNat 0 = if x.toNat < (menR t).length then setA t ((menR t).getD x.toNat 0) else 0 := by
  unfold setsR
  rw [List.getD_eq_getElem?_getD, List.getElem?_map]
  by_cases h : x.toNat < (menR t).length
  · rw [if_pos h, List.getElem?_eq_getElem h, List.getD_eq_getElem?_getD, List.getElem?_eq_getElem h]
    rfl
  · rw [if_neg h, List.getElem?_eq_none (by omega)]
    rfl
theorem str_bits (hn : t.counts.length ≤ 7) {l : List Int} (hl : ∀ x ∈ l, 0 ≤ x ∧ x < (menR t).length) : Bits (strU (setsR t) l) fun i => i < t.counts.length ∧ (cntAt t (i : Int)).man ∈ l.map fun k => (menR t).getD k.toNat 0 := by
  have hq : ∀ x : Int, Bits ((setsR t).getD x.toNat 0) fun i => x.toNat < (menR t).length ∧ i < t.counts.length ∧ (cntAt t (i : Int)).man = (menR t).getD x.toNat 0 := fun x => by
    rw [setsR_get]
    by_cases h : x.toNat < (menR t).length
    · rw [if_pos h]
      exact (setA_bits hn _).congr fun i _ => ⟨fun y => ⟨h, y⟩, fun y => y.2⟩
    · rw [if_neg h]
      exact bits_zero.congr fun i _ => ⟨fun y => y.elim, fun y => absurd y.1 h⟩
  refine (strU_bits hq l).congr fun i _ => ⟨?_, ?_⟩
  · rintro ⟨x, hx, h1, h2, h3⟩
    exact ⟨h2, List.mem_map.2 ⟨x, hx, h3.symm⟩⟩
  · rintro ⟨h1, h2⟩
    obtain ⟨x, hx, h3⟩ := List.mem_map.1 h2
    have := hl x hx
    exact ⟨x, hx, by omega, h1, h3.symm⟩
theorem withU_lim {u : Int} {l : List Int} (hb : ((List.range t.counts.length).filter (keepB u)).map Int.ofNat = l) : limA (withT t l) 0 = limN u t.counts t.counts.length := by
  show limN 0 (withT t l).counts (withT t l).counts.length = _
  rw [limN_zero, limN_fold]
  congr 1
  show l.map (cntAt t) = _
  conv => lhs; rw [← hb]
  generalize hf : (List.range t.counts.length).filter (keepB u) = q
  have hq : ∀ i ∈ q, i < t.counts.length := fun i hi => by
    rw [← hf] at hi
    exact List.mem_range.1 (List.mem_filter.1 hi).1
  clear hf hb
  induction q with
  | nil => rfl
  | cons i q ih =>
    have hi := hq i (by simp)
    have hx := List.getElem?_eq_getElem hi
    rw [List.map_cons, List.map_cons, ih fun j hj => hq j (by simp [hj]), List.filterMap_cons, hx]
    show _ :: _ = _ :: _
    congr 1
    unfold cntAt
    rw [List.getD_eq_getElem?_getD, show (Int.ofNat i).toNat = i from rfl, hx]
    rfl
theorem withU_truth {u : Int} {l : List Int} (hb : ((List.range t.counts.length).filter (keepB u)).map Int.ofNat = l) : decide (TruthIs (withT t l) (limA (withT t l) 0)) = truthS t u := by
  rw [withU_lim hb]
  have h1 : ∀ (L : Nat → Rng) g, fwd (withT t l) L g = fwd t L g := by
    intro L g
    induction g with
    | zero => rfl
    | succ g ih =>
      show ((fwd (withT t l) L g).plus (stretchR (withT t l) g)).meet (L (g + 1)) = ((fwd t L g).plus (stretchR t g)).meet (L (g + 1))
      rw [ih]
      rfl
  unfold truthS
  refine decide_eq_decide.2 ⟨fun h g hg => ?_, fun h g hg => ?_⟩
  · have := h g hg
    rw [h1] at this
    exact this
  · rw [h1]
    exact h g hg
theorem out_truth {l : List Int} {u : Int} (h : ∀ i, i < t.counts.length → (keepB u i = false ↔ (i : Int) ∈ l)) : decide (TruthIs (withT t (outTo l t.counts.length)) (limA (withT t (outTo l t.counts.length)) 0)) = truthS t u := by
  refine withU_truth ?_
  unfold outTo
  congr 1
  refine List.filter_congr fun i hi => ?_
  have := h i (List.mem_range.1 hi)
  cases hk : keepB u i with
  | false =>
    have hc : l.contains (i : Int) = true := List.contains_iff_mem.2 (this.1 hk)
    rw [hc]
    rfl
  | true =>
    have hc : l.contains (i : Int) = false := by
      cases hc : l.contains (i : Int) with
      | false => rfl
      | true =>
        have := this.2 (List.contains_iff_mem.1 hc)
        rw [hk] at this
        cases this
    rw [hc]
    rfl
theorem without_truth (hn : t.counts.length ≤ 7) {m : Nat} (hm : m ≤ 7) {l : List Int} (hl : l ∈ picksR t.counts.length m 0) : decide (TruthIs (withT t (outTo l t.counts.length)) (limA (withT t (outTo l t.counts.length)) 0)) = truthS t (setF 0 l) := by
  refine out_truth fun i hi => ?_
  have hb := (bits1 _ (List.mem_range.2 (show t.counts.length < 8 by omega)) m (List.mem_range.2 (by omega)) l hl).2 i (List.mem_range.2 hi)
  rw [hb, ← List.contains_iff_mem]
  cases l.contains (i : Int) <;> simp
theorem by_mem {l : List Int} {i : Nat} (hi : i < t.counts.length) : (i : Int) ∈ byTo t l t.counts.length ↔ (cntAt t (i : Int)).man ∈ l := by
  unfold byTo
  constructor
  · intro h
    obtain ⟨j, hj, e⟩ := List.mem_map.1 h
    have : j = i := by
      have e : (j : Int) = (i : Int) := e
      omega
    subst this
    exact List.contains_iff_mem.1 (List.mem_filter.1 hj).2
  · intro h
    exact List.mem_map.2 ⟨i, List.mem_filter.2 ⟨List.mem_range.2 hi, List.contains_iff_mem.2 h⟩, rfl⟩
theorem men_truth (hn : t.counts.length ≤ 7) {ms : List Int} {u : Int} (hu : Bits u fun i => i < t.counts.length ∧ (cntAt t (i : Int)).man ∈ ms) : decide (TruthIs (withT t (outTo (byTo t ms t.counts.length) t.counts.length)) (limA (withT t (outTo (byTo t ms t.counts.length) t.counts.length)) 0)) = truthS t u := by
  refine out_truth fun i hi => ?_
  rw [hu.keep (by omega), by_mem hi]
  exact ⟨fun h => h.2, fun h => ⟨hi, h⟩⟩
theorem keep127 : ∀ i, i < 7 → keepB 127 i = false := fun i hi => by
  have : ∀ i ∈ List.range 7, keepB 127 i = false := of_decide_eq_true (by kernel_rfl)
  exact this i (List.mem_range.2 hi)
theorem truth_all (hn : t.counts.length ≤ 7) {u : Int} (h : truthS t u = true) : truthS t 127 = true := truthS_more (fun i hi hk => by rw [keep127 i (by omega)] at hk; cases hk) h
theorem men_full (hn : t.counts.length ≤ 7) (hman : ∀ c ∈ t.counts, 1 ≤ c.man ∧ c.man ≤ 9) (h : truthS t 127 = true) : menO t ≠ none := by
  intro e
  unfold menO at e
  have hlen := menR_few (t := t)
  generalize hN : (menR t).length = n at *
  have h1 := firstN_nil e n (by omega)
  -- the whole list
  have hfull : ∃ l ∈ picksR n n 0, ∀ k ∈ List.range n, (k : Int) ∈ l := by
    have key : ∀ n ∈ List.range 8, ∃ l ∈ picksR n n 0, ∀ k ∈ List.range n, (k : Int) ∈ l := of_decide_eq_true (by kernel_rfl)
    exact key n (List.mem_range.2 (by omega))
  obtain ⟨l, hl, hall⟩ := hfull
  have := List.find?_eq_none.1 h1 l hl
  refine this ?_
  have hm := picksR_mem hl
  refine truthS_more (u := 127) (fun i hi hk => ?_) h
  exfalso
  have hb := str_bits hn (l := l) (fun x hx => by have := hm.2 x hx; omega)
  have hne : ¬ keepB (strU (setsR t) l) i = false := by rw [hk]; decide
  refine hne ((hb.keep (by omega)).2 ⟨hi, ?_⟩)
  obtain ⟨_, e2⟩ := cnt_get (t := t) (k := i) hi
  have hc := hman _ (List.getElem_mem hi)
  rw [← e2] at hc
  have hin : (cntAt t (i : Int)).man ∈ menR t := by
    refine List.mem_filter.2 ⟨List.mem_map.2 ⟨((cntAt t (i : Int)).man - 1).toNat, List.mem_range.2 (by omega), by omega⟩, decide_eq_true ?_⟩
    exact (setA_bits hn _).pos (i := i) (by omega) ⟨hi, rfl⟩
  obtain ⟨k, hk2, e3⟩ := List.mem_iff_getElem.1 hin
  refine List.mem_map.2 ⟨(k : Int), hall k (List.mem_range.2 (by omega)), ?_⟩
  rw [Int.toNat_natCast, List.getD_eq_getElem?_getD, List.getElem?_eq_getElem hk2]
  exact e3
theorem wrong_any (hn : t.counts.length ≤ 7) {w : List Int} (h : wrongO t = some w) : truthS t 127 = true := by
  unfold wrongO at h
  rw [pickP_find] at h
  obtain ⟨k, _, _, h3⟩ := firstN_iff h
  exact truth_all (u := setF 0 w) hn (by simpa using List.find?_some h3)
end
theorem wrongP_find {t : Tal} : wrongO t = firstN (fun m => (picksR t.counts.length m 0).find? fun r => truthS t (setF 0 r)) (t.counts.length + 1) := by
  unfold wrongO
  exact pickP_find
theorem find_at {α : Type} {p : α → Bool} {l : List α} {i : Nat} {x : α} (hx : l[i]? = some x) (hno : ∀ j y, j < i → l[j]? = some y → p y = false) (h : p x = true) : l.find? p = some x := by
  obtain ⟨hi, rfl⟩ := List.getElem?_eq_some_iff.1 hx
  rw [List.find?_eq_some_iff_getElem]
  exact ⟨h, i, hi, rfl, fun j hj => by rw [hno j _ hj (List.getElem?_eq_getElem (by omega))]; rfl⟩
theorem find_no {α : Type} {p : α → Bool} {l : List α} (hno : ∀ (j : Nat) y, l[j]? = some y → p y = false) : l.find? p = none := by
  rw [List.find?_eq_none]
  intro x hx
  obtain ⟨j, hj⟩ := List.getElem?_of_mem hx
  rw [hno j x hj]
  decide
end Go.Proofs.Ytdgpacdknpahnaa
namespace Go.Proofs.Ytdgpacdknpahnaa
open Go.Conc Go.Proofs.Try
set_option maxRecDepth 100000
set_option maxHeartbeats 4000000
set_option linter.unusedVariables false
section
variable {main : Bool} {J : JT} {n0 : Nat} {h : List AObj} {K : Value → List AObj → Prop}
theorem at5 : prog.funcs[5]? = some f5 := by kernel_rfl
theorem body5 : f5.body = some (codeOf f5) := by kernel_rfl
def pl5 : Plans := [(11, false, .take 0 (.take 1 (.take 2 (.take 3 (.take 4 (.last 5 false (.last 6 true (.take 7 (.take 8 (.take 9 (.take 10 (.take 11 (.fin)))))))))))))]
def ct5 : Cuts := .bin (.go) (.bin (.go) (.bin (.go) (.bin (.go) (.bin (.bin (.go) (.un (.un (.bin (.go) (.bin (.un (.bin (.go) (.bin (.go) (.un (.un (.bin (.go) (.bin (.un (.bin (.go) (.bin (.go) (.bin (.go) (.bin (.bin (.go) (.cut (.go))) (.go)))))) (.go)))))))) (.go)))))) (.go)))))
theorem pok5 : plansOk prog pl5 (codeOf f5) = true := by kernel_rfl
theorem e5 {a0 : Value} : W prog J 110 h.length 5 (codeOf f5) (RG.mk (regs [a0]) []) h (RetQ prog [.tmp 2] h.length K) =
(Good prog J 19 [a0] h fun v1 h2 =>
Good prog J 28 [v1, (vint 4), (vint 5)] h2 fun v3 h4 =>
aAlloc [(vint 0), (vint 0), (vint 0), (Value.slice none 0 0), (vint 0), (Value.slice none 0 0)] h4 fun v5 h6 =>
aStore 6 v5 v3 h6 fun h7 =>
aLoad true 6 v5 h7 fun v8 =>
Good prog J 32 [v8] h7 fun v9 h10 =>
aExt v9 0 fun v11 =>
aExt v9 1 fun v12 =>
aLoad true 6 v5 h10 fun v13 =>
Good prog J 33 [v13] h10 fun v14 h15 =>
aExt v14 0 fun v16 =>
aExt v14 1 fun v17 =>
Sem J 110 h.length 5 (subC [1, 1, 1, 1, 0, 1, 0] (codeOf f5)) (RG.p (RG.p (RG.p (RG.p (RG.p (RG.p (RG.p (RG.p (RG.p (RG.p (RG.p (RG.p (RG.p (RG.p (RG.p (RG.p (RG.p (RG.p (RG.p (RG.p (RG.mk (regs [a0]) []) 2 (Value.bool false)) 15 a0) 16 v1) 17 v3) 3 v5) 19 v8) 20 v9) 18 v9) 21 v11) 22 v12) 4 v11) 5 v12) 24 v13) 25 v14) 23 v14) 26 v16) 27 v17) 6 v16) 7 v17) 8 (vint 0)) h15 (contX pl5 prog J 110 h.length 5 ct5 [1, 1, 1, 1, 0, 1, 0] (codeOf f5) [] (RetQ prog [.tmp 2] h.length K))) := top_eq pok5 ct5 (by kernel_rfl)
theorem g5 (hJ : Closed prog main J) {a0 : Value} (hs : heapOk h → W prog J 110 h.length 5 (codeOf f5) (RG.mk (regs [a0]) []) h (RetQ prog [.tmp 2] h.length K)) : Good prog J 5 [a0] h K :=
  good_of_W hJ mixed at5 body5 (by kernel_rfl) (Nat.le_of_ble_eq_true rfl) hs
end
end Go.Proofs.Ytdgpacdknpahnaa
namespace Go.Proofs.Ytdgpacdknpahnaa
open Go.Conc Go.Proofs.Try
set_option maxRecDepth 100000
theorem with_err {t : Tal} {l : List Int} (h0 : talErr t = 0) (hl : l.length ≤ 7) (hb : ∀ x ∈ l, 0 ≤ x ∧ x < t.counts.length) : talErr (withT t l) = 0 := by
  unfold talErr at h0
  split at h0
  · cases h0
  rename_i n1
  split at h0
  · rename_i x
    exact absurd h0 x
  rename_i n2
  split at h0
  · cases h0
  rename_i n3
  split at h0
  · cases h0
  rename_i n4
  split at h0
  · rename_i x
    exact absurd h0 x
  rename_i n5
  split at h0
  · cases h0
  rename_i n6
  split at h0
  · cases h0
  rename_i n7
  have n7' : ¬ (withT t l).counts.length > 7 := by
    show ¬ (l.map (cntAt t)).length > 7
    rw [List.length_map]
    omega
  unfold talErr
  rw [if_neg n7']
  show (if ¬ (1 ≤ t.gates ∧ t.gates ≤ 5) then 1 else if rngErr 0 300 t.first ≠ 0 then rngErr 0 300 t.first else
    if (t.changes.length : Int) < t.gates - 1 then 7 else if (t.changes.length : Int) > t.gates - 1 then 6 else
    if firstE (t.changes.map (rngErr (-60) 60)) ≠ 0 then firstE (t.changes.map (rngErr (-60) 60)) else
    if ¬ (0 ≤ t.most ∧ t.most ≤ 60) then 1 else firstE ((l.map (cntAt t)).map fun c => cntErr c t.gates)) = 0
  rw [if_neg n1, if_neg n2, if_neg n3, if_neg n4, if_neg n5, if_neg n6]
  refine firstE_zero fun e he => ?_
  obtain ⟨c, hc, rfl⟩ := List.mem_map.1 he
  obtain ⟨x, hx, rfl⟩ := List.mem_map.1 hc
  have := hb x hx
  have hxl : x.toNat < t.counts.length := by omega
  have hm : cntAt t x ∈ t.counts := by
    unfold cntAt
    rw [List.getD_eq_getElem?_getD, List.getElem?_eq_getElem hxl]
    exact List.getElem_mem hxl
  exact firstE_all h0 _ (List.mem_map.2 ⟨_, hm, rfl⟩)
theorem w4 {z a b c d : Value} : wrAt (wrAt (wrAt (wrAt (zrep [z] 4) 0 [a]) 1 [b]) 2 [c]) 3 [d] = [a, b, c, d] := by kernel_rfl
theorem find_len {t : Tal} {n N : Nat} {p : Nat → List Int → Bool} {l : List Int} (h : firstN (fun m => (picksR n m 0).find? (p m)) N = some l) : l.length < N := by
  obtain ⟨k, hk, _, hf⟩ := firstN_iff h
  have := (picksR_mem (List.mem_of_find?_eq_some hf)).1
  omega
theorem opt_len {o : Option (List Int)} {N : Nat} (h : ∀ l, o = some l → l.length < N) : (o.getD []).length ≤ N := by
  cases o with
  | none => exact Nat.zero_le _
  | some l => exact Nat.le_of_lt (h l rfl)
theorem wrongL_len (t : Tal) : (wrongL t).length ≤ t.counts.length + 1 := by
  unfold wrongL
  split
  · exact opt_len fun l hl => by
      rw [wrongP_find] at hl
      exact find_len (t := t) hl
  · exact Nat.zero_le _
section
variable {W0 : World} {Post : Value → World → Prop} {h : List AObj} {K : Value → List AObj → Prop} {n0 : Nat}
theorem same27 {main : Bool} {J : JT} (hJ : Closed prog main J) {H : List AObj} {av bv : Value} {l : List Int} (ha : Sli H av 1 l.length (l.map vint)) (hb : Sli H bv 1 l.length (l.map vint)) (hl : l.length < 1000000) (hK : K (.bool true) H) : Good prog J 27 [av, bv] H K :=
  good27 hJ ha hb (by omega) (by rw [decide_eq_true rfl]; exact hK)
end
theorem find_congr {α : Type} {p q : α → Bool} : ∀ {l : List α}, (∀ x ∈ l, p x = q x) → l.find? p = l.find? q
  | [], _ => rfl
  | x :: l, h => by
    rw [List.find?_cons, List.find?_cons, h x (by simp), find_congr fun y hy => h y (by simp [hy])]
theorem firstN_map {α β : Type} {f : Nat → Option α} {g : α → β} : ∀ {n : Nat}, firstN (fun m => (f m).map g) n = (firstN f n).map g
  | 0 => rfl
  | n + 1 => by
    unfold firstN
    rw [firstN_map]
    cases firstN f n <;> rfl
theorem firstN_congr {α : Type} {f g : Nat → Option α} : ∀ {n : Nat}, (∀ i, i < n → f i = g i) → firstN f n = firstN g n
  | 0, _ => rfl
  | n + 1, h => by
    unfold firstN
    rw [firstN_congr fun i hi => h i (by omega), h n (by omega)]
theorem find_and {α : Type} {p q : α → Bool} : ∀ {l : List α}, (l.filter p).find? q = l.find? fun x => p x && q x
  | [] => rfl
  | x :: l => by
    rw [List.filter_cons, List.find?_cons]
    cases hp : p x with
    | true =>
      rw [if_pos rfl, List.find?_cons, find_and]
      rfl
    | false =>
      rw [if_neg (by decide), find_and]
      rfl
def subM (a b c d : Bool) : List Int := (bif a then [1] else []) ++ ((bif b then [2] else []) ++ ((bif c then [3] else []) ++ (bif d then [4] else [])))
theorem sub_len : ∀ a b c d : Bool, (subM a b c d).length ≤ 4 := of_decide_eq_true (by kernel_rfl)
theorem sub_picks : ∀ a b c d : Bool, ∀ m ∈ List.range 5, (picksR 5 m 1).filter (fun l => l.all (subM a b c d).contains) = (picksR (subM a b c d).length m 0).map (fun l => l.map fun k => (subM a b c d).getD k.toNat 0) := of_decide_eq_true (by kernel_rfl)
theorem sub_filter : ∀ a b c d : Bool, ∀ m ∈ List.range 5, ∀ l ∈ picksR 5 m 1, (l.filter (subM a b c d).contains) ∈ picksR 5 (l.filter (subM a b c d).contains).length 1 ∧ (l.filter (subM a b c d).contains).length ≤ m ∧ ((l.filter (subM a b c d).contains).length = m → l.all (subM a b c d).contains = true) := of_decide_eq_true (by kernel_rfl)
section
variable {t : Tal}
def manU (t : Tal) (l : List Int) : Int := strU ((List.range 10).map fun m : Nat => setA t (m : Int)) l
theorem man_bits (hn : t.counts.length ≤ 7) {l : List Int} (hl : ∀ x ∈ l, 0 ≤ x ∧ x ≤ 9) : Bits (manU t l) fun i => i < t.counts.length ∧ (cntAt t (i : Int)).man ∈ l := by
  refine (strU_bits (q := fun x i => x.toNat < 10 ∧ i < t.counts.length ∧ (cntAt t (i : Int)).man = (x.toNat : Int)) (fun x => ?_) l).congr fun i _ => ?_
  · by_cases h : x.toNat < 10
    · have : ((List.range 10).map fun m : Nat => setA t (m : Int)).getD x.toNat 0 = setA t (x.toNat : Int) := by
        rw [List.getD_eq_getElem?_getD, List.getElem?_map, List.getElem?_range h]
        rfl
      rw [this]
      exact (setA_bits hn _).congr fun i _ => ⟨fun a => ⟨h, a⟩, fun a => a.2⟩
    · have : ((List.range 10).map fun m : Nat => setA t (m : Int)).getD x.toNat 0 = 0 := by
        rw [List.getD_eq_getElem?_getD, List.getElem?_eq_none (by simp; omega)]
        rfl
      rw [this]
      exact bits_zero.congr fun i _ => ⟨fun a => a.elim, fun a => h a.1⟩
  · constructor
    · rintro ⟨x, hx, h1, h2, h3⟩
      have := hl x hx
      refine ⟨h2, ?_⟩
      rw [h3, show (x.toNat : Int) = x by omega]
      exact hx
    · rintro ⟨h1, h2⟩
      have := hl _ h2
      exact ⟨_, h2, by omega, h1, by omega⟩
noncomputable def holdM (t : Tal) (l : List Int) : Bool := truthS t (manU t l)
theorem truth_bits {u u' : Int} {p p' : Nat → Prop} (hn : t.counts.length ≤ 7) (hu : Bits u p) (hu' : Bits u' p') (h : ∀ i, i < t.counts.length → (p i ↔ p' i)) : truthS t u = truthS t u' := by
  have key : ∀ {u u' : Int} {p p' : Nat → Prop}, Bits u p → Bits u' p' → (∀ i, i < t.counts.length → (p i ↔ p' i)) → truthS t u = true → truthS t u' = true := fun {u u' p p'} hu hu' h ht => by
    refine truthS_more (fun i hi hk => ?_) ht
    cases e : keepB u i with
    | true => rfl
    | false =>
      have := (hu'.keep (by omega)).2 ((h i hi).1 ((hu.keep (by omega)).1 e))
      rw [hk] at this
      cases this
  cases e : truthS t u with
  | true => exact (key hu hu' h e).symm
  | false =>
    cases e' : truthS t u' with
    | false => rfl
    | true =>
      rw [key hu' hu (fun i hi => (h i hi).symm) e'] at e
      cases e
theorem in_men (hn : t.counts.length ≤ 7) (hman : ∀ c ∈ t.counts, 1 ≤ c.man ∧ c.man ≤ 4) {i : Nat} (hi : i < t.counts.length) : (cntAt t (i : Int)).man ∈ menR t := by
  obtain ⟨_, e2⟩ := cnt_get (t := t) (k := i) hi
  have hc := hman _ (List.getElem_mem hi)
  rw [← e2] at hc
  refine List.mem_filter.2 ⟨List.mem_map.2 ⟨((cntAt t (i : Int)).man - 1).toNat, List.mem_range.2 (by omega), by omega⟩, decide_eq_true ?_⟩
  exact (setA_bits hn _).pos (i := i) (by omega) ⟨hi, rfl⟩
theorem men_sub (hman : ∀ c ∈ t.counts, 1 ≤ c.man ∧ c.man ≤ 4) : ∃ a b c d, menR t = subM a b c d := by
  have h5 : ∀ m : Int, 5 ≤ m → decide (setA t m > 0) = false := fun m hm => by
    refine decide_eq_false fun hp => ?_
    obtain ⟨j, h1, h2⟩ := setM_some (t := t) (m := m) t.counts.length (by unfold setA at hp; omega)
    obtain ⟨e1, _⟩ := cnt_get (t := t) (k := j) h1
    rw [e1] at h2
    have := hman _ (List.getElem_mem h1)
    omega
  refine ⟨decide (setA t 1 > 0), decide (setA t 2 > 0), decide (setA t 3 > 0), decide (setA t 4 > 0), ?_⟩
  show ([1, 2, 3, 4, 5, 6, 7, 8, 9] : List Int).filter (fun m => decide (setA t m > 0)) = _
  unfold subM
  simp only [List.filter_cons, h5 5 (by decide), h5 6 (by decide), h5 7 (by decide), h5 8 (by decide), h5 9 (by decide), List.filter_nil]
  cases decide (setA t 1 > 0) <;> cases decide (setA t 2 > 0) <;> cases decide (setA t 3 > 0) <;> cases decide (setA t 4 > 0) <;> rfl
theorem fewest_men (hn : t.counts.length ≤ 7) (hman : ∀ c ∈ t.counts, 1 ≤ c.man ∧ c.man ≤ 4) :
    firstN (fun m => (picksR 5 m 1).find? (holdM t)) 5 = (menO t).map fun l => l.map fun k => (menR t).getD k.toNat 0 := by
  obtain ⟨a, b, c, d, hM⟩ := men_sub hman
  have hlen := sub_len a b c d
  -- only men who counted matter
  have hP1 : ∀ m, ∀ l ∈ picksR 5 m 1, holdM t (l.filter (subM a b c d).contains) = holdM t l := fun m l hl => by
    have hm := (picksR_mem hl).2
    refine truth_bits hn (man_bits hn fun x hx => ?_) (man_bits hn fun x hx => ?_) fun i hi => ?_
    · have := hm x (List.mem_filter.1 hx).1
      omega
    · have := hm x hx
      omega
    · rw [List.mem_filter]
      have := in_men hn hman hi
      rw [hM] at this
      exact ⟨fun h => ⟨h.1, h.2.1⟩, fun h => ⟨h.1, h.2, List.contains_iff_mem.2 this⟩⟩
  have hP2 : ∀ m, ∀ l ∈ picksR (menR t).length m 0, holdM t (l.map fun k => (menR t).getD k.toNat 0) = truthS t (strU (setsR t) l) := fun m l hl => by
    have hm := (picksR_mem hl).2
    refine truth_bits hn (man_bits hn fun x hx => ?_) (str_bits hn fun x hx => ?_) fun i hi => Iff.rfl
    · obtain ⟨k, hk, rfl⟩ := List.mem_map.1 hx
      have hk := hm k hk
      have hkl : k.toNat < (menR t).length := by omega
      rw [List.getD_eq_getElem?_getD, List.getElem?_eq_getElem hkl]
      have := List.getElem_mem hkl
      unfold menR menTo at this
      obtain ⟨j, hj, he⟩ := List.mem_map.1 (List.mem_filter.1 this).1
      have hj := List.mem_range.1 hj
      show 0 ≤ (menR t)[k.toNat] ∧ (menR t)[k.toNat] ≤ 9
      have he : ((j + 1 : Nat) : Int) = (menR t)[k.toNat] := he
      omega
    · have := hm x hx
      omega
  have hF : ∀ m, m < 5 → ((picksR 5 m 1).find? fun l => l.all (subM a b c d).contains && holdM t l) = ((picksR (menR t).length m 0).find? fun l => truthS t (strU (setsR t) l)).map fun l => l.map fun k => (menR t).getD k.toNat 0 := fun m hm => by
    rw [← find_and, sub_picks a b c d m (List.mem_range.2 hm), ← hM, List.find?_map]
    congr 1
    exact find_congr fun l hl => hP2 m l hl
  have e1 : (menO t).map (fun l => l.map fun k => (menR t).getD k.toNat 0) = firstN (fun m => (picksR 5 m 1).find? fun l => l.all (subM a b c d).contains && holdM t l) 5 := by
    rw [firstN_congr hF, firstN_map]
    congr 1
    unfold menO
    rw [← firstN_more (f := fun many => (picksR (menR t).length many 0).find? fun l => truthS t (strU (setsR t) l)) (n := (menR t).length + 1) (m := 5) (by rw [hM]; omega) fun i h1 _ => ?_]
    show List.find? _ (picksR (menR t).length i 0) = none
    rw [picksR_few (by omega)]
    rfl
  rw [e1]
  cases h : firstN (fun m => (picksR 5 m 1).find? (holdM t)) 5 with
  | none =>
    have hnil := firstN_nil h
    refine (firstN_none fun i hi => ?_).symm
    rw [List.find?_eq_none]
    intro l hl hp
    have := List.find?_eq_none.1 (hnil i hi) l hl
    rw [Bool.and_eq_true] at hp
    exact this hp.2
  | some l =>
    obtain ⟨k, hk, hno, hf⟩ := firstN_iff h
    have hlm := List.mem_of_find?_eq_some hf
    have hp := List.find?_some hf
    obtain ⟨f1, f2, f3⟩ := sub_filter a b c d k (List.mem_range.2 hk) l hlm
    have hin : l.all (subM a b c d).contains = true := by
      refine f3 (Classical.byContradiction fun hne => ?_)
      have := List.find?_eq_none.1 (hno _ (by omega)) _ f1
      rw [hP1 k l hlm] at this
      exact this hp
    refine (firstN_some hk (fun i hi => ?_) ?_).symm
    · rw [List.find?_eq_none]
      intro x hx hp
      have := List.find?_eq_none.1 (hno i hi) x hx
      rw [Bool.and_eq_true] at hp
      exact this hp.2
    · obtain ⟨_, i, hi, hx, hb⟩ := List.find?_eq_some_iff_getElem.1 hf
      refine List.find?_eq_some_iff_getElem.2 ⟨by rw [hin, hp]; rfl, i, hi, hx, fun j hj => ?_⟩
      have := hb j hj
      rw [Bool.not_eq_true'] at this ⊢
      rw [this, Bool.and_false]
theorem fewest_at (hn : t.counts.length ≤ 7) (hman : ∀ c ∈ t.counts, 1 ≤ c.man ∧ c.man ≤ 4) (h0 : talErr t = 0) {m i : Nat} {l : List Int} (hm : m < 5) (hl : (picksR 5 m 1)[i]? = some l) (hno : ∀ m', m' < m → (picksR 5 m' 1).find? (holdM t) = none)
    (hni : ∀ j l', j < i → (picksR 5 m 1)[j]? = some l' → holdM t l' = false) (h : holdM t l = true) : wrongE t = 0 ∧ menL t = l := by
  have hf : (picksR 5 m 1).find? (holdM t) = some l := by
    obtain ⟨hi, rfl⟩ := List.getElem?_eq_some_iff.1 hl
    rw [List.find?_eq_some_iff_getElem]
    exact ⟨h, i, hi, rfl, fun j hj => by rw [hni j _ hj (List.getElem?_eq_getElem (by omega))]; rfl⟩
  have := fewest_men hn hman
  rw [firstN_some hm hno hf] at this
  have hT : truthS t 127 = true := truth_all hn h
  have hE : wrongE t = 0 := by unfold wrongE; rw [if_neg (not_not_intro h0), hT]; rfl
  refine ⟨hE, ?_⟩
  cases ho : menO t with
  | none => rw [ho] at this; cases this
  | some w =>
    rw [ho] at this
    have this : l = w.map fun k => (menR t).getD k.toNat 0 := Option.some.inj this
    unfold menL
    rw [if_pos hE, ho, this]
    rfl
theorem fewest_no (hn : t.counts.length ≤ 7) (hman : ∀ c ∈ t.counts, 1 ≤ c.man ∧ c.man ≤ 4) (h0 : talErr t = 0) (hno : ∀ m, m < 5 → (picksR 5 m 1).find? (holdM t) = none) : wrongE t = 11 := by
  have := fewest_men hn hman
  rw [firstN_none hno] at this
  cases hT : truthS t 127 with
  | false => unfold wrongE; rw [if_neg (not_not_intro h0), hT]; rfl
  | true =>
    have hf := men_full hn (fun c hc => by have := hman c hc; omega) hT
    cases ho : menO t with
    | none => exact absurd ho hf
    | some w => rw [ho] at this; cases this
end
theorem nu3 {a b c : Value} (ha : a ≠ unk) (hb : b ≠ unk) (hc : c ≠ unk) : ∀ v ∈ [a, b, c], v ≠ unk := by
  intro v hv
  simp only [List.mem_cons, List.not_mem_nil, or_false] at hv
  rcases hv with rfl | rfl | rfl <;> assumption
section
variable {main : Bool} {J : JT} {h H : List AObj} {K : Value → List AObj → Prop} {n0 : Nat} {nx0 : RG → List AObj → Prop}
theorem good62 (hJ : Closed prog main J) {v cv nv : Value} {t : Tal} (ht : TalAt H v t cv nv) (h0 : talErr t = 0)
    (hK : ∀ H' w, SameX [] H H' → Sli H' w 1 ((wrongO t).getD []).length (((wrongO t).getD []).map vint) → K (.tuple ⟨[w, .bool (wrongO t).isSome, .bool true]⟩) H') : Good prog J 62 [v, vint (t.counts.length : Nat)] H K := by
  refine g62 hJ fun ok => ?_
  rw [e62, ht.val]
  have fine := talErr_fine h0
  have hfew := fine.few
  refine qBox (tal_one ht) fun H1 p1 e1 S1 c1 l1 => ?_
  have t1 : TalAt H1 (.agg ⟨talCells t cv nv⟩) t cv nv := ⟨rfl, S1.sli ht.ch (by simp), S1.sli ht.co (by simp)⟩
  refine l62_1 hJ (fun m : Nat => t.counts.length + 1 - m) (fun m F H' => SameX [] H1 H' ∧ m ≤ t.counts.length + 1 ∧ (∀ i, i < m → (picksR t.counts.length i 0).find? (fun r => truthS t (setF 0 r)) = none) ∧ F.ds = [] ∧ F.r 1 = vint (t.counts.length : Nat) ∧ F.r 2 = ptr p1 0 ∧ F.r 7 = vint (m : Nat)) ?_ (s := 0)
    (.inl ⟨SameX.refl, by omega, fun i hi => absurd hi (Nat.not_lt_zero _), rfl, rfl, rfl, rfl⟩)
  rintro m F H' ⟨S, hm, hno, ds, r1, r2, r7⟩ okc hnc
  have c' := S.get c1 (by simp)
  have t' := talAt_same t1 S (by simp)
  rw [s62_1, r1, r7, ds]
  refine leqI (cndI (fun hle => ?_) fun hgt => ?_)
  rotate_left
  · have hO : wrongO t = none := by
      rw [wrongP_find]
      exact firstN_none fun i hi => hno i (by omega)
    refine retL_same (nu3 (by simp [unk]) (by simp [unk]) (by simp [unk])) ?_
    have := hK H' (.slice none 0 0) (S1.trans S) (by rw [hO]; exact ⟨none, 0, rfl, ⟨rfl, rfl⟩, .inl ⟨rfl, rfl⟩⟩)
    rw [hO] at this
    exact this
  refine good34 (a := 0) hJ hfew m (by omega) (by omega) fun H2 av o S2 L _ => ?_
  have hlen := picks_le hfew (show m ≤ 7 by omega) 0
  refine l62_2 hJ (fun i : Nat => (picksR t.counts.length m 0).length - i) (fun i F H' => SameX [] H2 H' ∧ i ≤ (picksR t.counts.length m 0).length ∧ (∀ j l', j < i → (picksR t.counts.length m 0)[j]? = some l' → truthS t (setF 0 l') = false) ∧ F.ds = [] ∧ F.r 1 = vint (t.counts.length : Nat) ∧ F.r 2 = ptr p1 0 ∧ F.r 7 = vint (m : Nat) ∧ F.r 8 = av ∧ F.r 9 = vint (i : Nat)) ?_ (s := 0)
    (.inl ⟨SameX.refl, by omega, fun j l' hj => absurd hj (Nat.not_lt_zero _), ds, r1, r2, r7, rfl, rfl⟩)
  clear ds r1 r2 r7 okc hnc
  rintro i F H3 ⟨S3, hi, hni, ds, r1, r2, r7, r8, r9⟩ okc hnc
  have L' := L.keep S3
  obtain ⟨lc, sL⟩ := L'.sli
  rw [s62_2, r2, r7, r8, r9, ds]
  refine lenI sL (lssI (cndI (fun hlt => ?_) fun hge => ?_))
  rotate_left
  · refine addI (by omega) ⟨m + 1, by dsimp only; omega, .inl ⟨(S.trans S2).trans S3, by omega, fun j hj => ?_, ds, r1, r2, by show vint _ = vint _; congr 1⟩⟩
    by_cases e : j = m
    · rw [e]
      exact find_no fun k y hy => hni k y (by have := (List.getElem?_eq_some_iff.1 hy).1; omega) hy
    · exact hno j (by omega)
  have hil : i < (picksR t.counts.length m 0).length := by omega
  obtain ⟨l, hl⟩ : ∃ l, (picksR t.counts.length m 0)[i]? = some l := ⟨_, List.getElem?_eq_getElem hil⟩
  have hlm := List.mem_of_getElem? hl
  obtain ⟨hll, hlb⟩ := picksR_mem hlm
  have T3 : SameX [] H' H3 := S2.trans S3
  have c3 := T3.get c' (by simp)
  have t3 := talAt_same t' T3 (by simp)
  obtain ⟨b0, hb0⟩ : ∃ b0, o = some b0 := by
    obtain ⟨_, cs0, ⟨_, _, ⟨h0, _⟩ | ⟨b0, c0, sz0, he, _⟩⟩, _⟩ := L'
    · omega
    · exact ⟨b0, he⟩
  have lp := lt_of_get c3
  have lb0 := (L'.lt b0 hb0).2
  refine ⟨[p1, b0], load_part (c := talCells t cv nv) c3 (by rw [cs_val]; omega) rfl (talAt_kc t3) ⟨by simp [RdOk, ptr, ptrBlk], ?_⟩⟩
  refine L'.get' hl fun b1 off ev bw hb1 _ Ow _ => ⟨?_, ?_⟩
  · rw [hb0] at hb1
    injection hb1 with hb1
    subst hb1
    simp [RdOk, ptr, ptrBlk]
  have hol := outTo_le l t.counts.length
  have we := with_err h0 (l := outTo l t.counts.length) (by omega) (fun x hx => outTo_mem hx)
  refine good63 hJ t3 (ownX_sli Ow) (by omega) (by omega) fun H4 nv2 S4 T4 => good35 hJ T4 we fun H5 S5 => ⟨fun x hx => (S4.trans S5).2 x (by simp at hx; rcases hx with rfl | rfl <;> omega) (by simp), ext0 (ext1 (notI (cnd_false.2 ?_)))⟩
  rw [without_truth hfew (by omega) hlm]
  have S45 := S4.trans S5
  have T35 := (S1.trans S).trans (T3.trans S45)
  cases hT : truthS t (setF 0 l) with
  | true =>
    have hO : wrongO t = some l := by
      rw [wrongP_find]
      exact firstN_some (k := m) (by omega) hno (find_at (p := fun r => truthS t (setF 0 r)) hl hni hT)
    refine cnd_true.2 ((L'.keep S45).get hl fun q ev2 b2 Ob _ => retL_same (nu3 (own_nunk Ob) (by simp [unk]) (by simp [unk])) ?_)
    have := hK H5 ev2 T35 (by rw [hO]; exact ownX_sli Ob)
    rw [hO] at this
    exact this
  | false =>
    refine cnd_false.2 (addI (by omega) ⟨i + 1, by dsimp only; omega, .inl ⟨S3.trans S45, by omega, fun j l' hj hjl => ?_, ds, r1, r2, r7, r8, by show vint _ = vint _; congr 1⟩⟩)
    by_cases e : j = i
    · rw [e, hl] at hjl
      injection hjl with hjl
      rw [← hjl]
      exact hT
    · exact hni j l' (by omega) hjl
structure Reg17 (t : Tal) (p : Nat) (mv : Value) (F : RG) : Prop where
  ds : F.ds = []
  r3 : F.r 3 = ptr p 0
  r9 : F.r 9 = mv
  r10 : F.r 10 = vint (wrongE t)
theorem pick5 : ∀ m ∈ List.range 5, (picksR 5 m 1).length ≤ 10 := of_decide_eq_true (by kernel_rfl)
theorem lists17 (hJ : Closed prog main J) {t : Tal} {cv nv : Value} {p m : Nat} {mv av : Value} {o : Option Nat} {F : RG} (h0 : talErr t = 0) (hn : t.counts.length ≤ 7) (hman : ∀ c ∈ t.counts, 1 ≤ c.man ∧ c.man ≤ 4) (hm : m < 5) (cp : H[p]? = some (.cells (talCells t cv nv) true 0)) (ta : TalAt H (.agg ⟨talCells t cv nv⟩) t cv nv)
    (hno : ∀ m', m' < m → (picksR 5 m' 1).find? (holdM t) = none)
    (sm : Sli H mv 1 (menL t).length ((menL t).map vint)) (L : OwnL 0 H av (picksR 5 m 1) o) (G : Reg17 t p mv F) (r11 : F.r 11 = vint (m : Nat)) (r12 : F.r 12 = av) (r13 : F.r 13 = vint 0)
    (fin : ∀ H, Good prog J 18 [] H fun v h' => retL n0 K [] [v] h')
    (hnx : ∀ F' H', SameX [] H H' → (picksR 5 m 1).find? (holdM t) = none → Reg17 t p mv F' → F'.r 11 = vint ((m + 1 : Nat) : Int) → nx0 F' H') :
    Sem J 108 n0 17 (subC [1, 1, 1, 1, 1, 1, 0, 1, 0, 0, 1, 0, 0, 1, 1, 0] (codeOf f17)) F H (contX pl17 prog J 108 n0 17 ct17 [1, 1, 1, 1, 1, 1, 0, 1, 0, 0, 1, 0, 0, 1, 1, 0] (codeOf f17) [nx0] (RetQ prog [.tmp 2] n0 K)) := by
  have hlen := pick5 m (List.mem_range.2 hm)
  refine l17_3 hJ (fun i : Nat => (picksR 5 m 1).length - i) (fun i F H' => SameX [] H H' ∧ i ≤ (picksR 5 m 1).length ∧ (∀ j l', j < i → (picksR 5 m 1)[j]? = some l' → holdM t l' = false) ∧ Reg17 t p mv F ∧ F.r 11 = vint (m : Nat) ∧ F.r 12 = av ∧ F.r 13 = vint (i : Nat)) ?_ (s := 0)
    (.inl ⟨SameX.refl, by omega, fun j l' hj => absurd hj (Nat.not_lt_zero _), G, r11, r12, r13⟩)
  rintro i F H' ⟨S, hi, hni, G, r11, r12, r13⟩ okc hnc
  have L' := L.keep S
  obtain ⟨lc, sL⟩ := L'.sli
  rw [s17_3, G.r3, G.r9, G.r10, r11, r12, r13, G.ds]
  refine lenI sL (lssI (cndI (fun hlt => ?_) fun hge => ?_))
  rotate_left
  · exact addI (by omega) (hnx _ H' S (find_no fun k y hy => hni k y (by have := (List.getElem?_eq_some_iff.1 hy).1; omega) hy) ⟨G.ds, G.r3, G.r9, G.r10⟩ (by show vint _ = vint _; congr 1))
  have hil : i < (picksR 5 m 1).length := by omega
  obtain ⟨l, hl⟩ : ∃ l, (picksR 5 m 1)[i]? = some l := ⟨_, List.getElem?_eq_getElem hil⟩
  have hlm := List.mem_of_getElem? hl
  obtain ⟨hll, hlb⟩ := picksR_mem hlm
  have c' := S.get cp (by simp)
  have t' := talAt_same ta S (by simp)
  have lp := lt_of_get c'
  obtain ⟨b0, hb0⟩ : ∃ b0, o = some b0 := by
    obtain ⟨_, cs0, ⟨_, _, ⟨h0, _⟩ | ⟨b0, c0, sz0, he, _⟩⟩, _⟩ := L'
    · omega
    · exact ⟨b0, he⟩
  have lb0 := (L'.lt b0 hb0).2
  have hB : ∀ {H''}, SameX [] H' H'' → SameB (some [p, b0]) H' H'' := fun S'' x hx => S''.2 x (by simp at hx; rcases hx with rfl | rfl <;> omega) (by simp)
  refine ⟨[p, b0], load_part (c := talCells t cv nv) c' (by rw [cs_val]; omega) rfl (talAt_kc t') ⟨by simp [RdOk, ptr, ptrBlk], load_part (c := talCells t cv nv) c' (by rw [cs_val]; omega) rfl (talAt_kc t') ⟨by simp [RdOk, ptr, ptrBlk], ?_⟩⟩⟩
  refine L'.get' hl fun b1 off ev bw hb1 _ Ow _ => ⟨?_, ?_⟩
  · rw [hb0] at hb1
    injection hb1 with hb1
    subst hb1
    simp [RdOk, ptr, ptrBlk]
  have hby := byTo_le t l t.counts.length
  have hol := outTo_le (byTo t l t.counts.length) t.counts.length
  have we := with_err h0 (l := outTo (byTo t l t.counts.length) t.counts.length) (by omega) (fun x hx => outTo_mem hx)
  refine good64 hJ t' (ownX_sli Ow) (by omega) (by omega) fun H2 wv ow S2 O2 => ⟨hB S2, ?_⟩
  refine good63 hJ (talAt_same t' S2 (by simp)) (ownX_sli O2) (by omega) (by omega) fun H3 nv2 S3 T3 => ⟨hB (S2.trans S3), ?_⟩
  refine good35 hJ T3 we fun H4 S4 => ⟨hB ((S2.trans S3).trans S4), ext0 (ext1 (notI (cnd_false.2 ?_)))⟩
  rw [men_truth hn (man_bits hn fun x hx => by have := hlb x hx; omega)]
  have T4 := S.trans ((S2.trans S3).trans S4)
  show cnd (.bool (holdM t l)) _ _
  cases hT : holdM t l with
  | true =>
    obtain ⟨hE, hL⟩ := fewest_at hn hman h0 hm hl hno hni hT
    rw [hL] at sm
    refine cnd_true.2 ?_
    rw [hE]
    refine eqlI (cndI (fun _ => ?_) fun hx => absurd rfl hx)
    refine ((L'.keep ((S2.trans S3).trans S4)).get hl fun q ev2 b2 Ob _ => ?_)
    exact same27 hJ (T4.sli sm (by simp)) (ownX_sli Ob) (by omega) (cnd_true.2 (fin _))
  | false =>
    refine cnd_false.2 (addI (by omega) ⟨i + 1, by dsimp only; omega, .inl ⟨T4, by omega, fun j l' hj hjl => ?_, ⟨G.ds, G.r3, G.r9, G.r10⟩, r11, r12, by show vint _ = vint _; congr 1⟩⟩)
    by_cases e : j = i
    · rw [e, hl] at hjl
      injection hjl with hjl
      rw [← hjl]
      exact hT
    · exact hni j l' (by omega) hjl
end
section
variable {W0 : World} {Post : Value → World → Prop} {h H : List AObj} {K : Value → List AObj → Prop} {n0 : Nat}
theorem rest17 {t : Tal} {cv nv : Value} {p : Nat} {F : RG} (h0 : talErr t = 0) (hn : t.counts.length ≤ 7) (hman : ∀ c ∈ t.counts, 1 ≤ c.man ∧ c.man ≤ 4) (cp : H[p]? = some (.cells (talCells t cv nv) true 0)) (ta : TalAt H (.agg ⟨talCells t cv nv⟩) t cv nv)
    (f0 : F.ds = []) (f3 : F.r 3 = ptr p 0) (f57 : F.r 57 = .bool false)
    (fin : ∀ H, Good prog (J1 prog W0 Post) 18 [] H fun v h' => retL n0 K [] [v] h') :
    W prog (J1 prog W0 Post) 108 n0 17 (subC [1, 1, 1, 1, 0, 1] (codeOf f17)) F H (contX pl17 prog (J1 prog W0 Post) 108 n0 17 ct17 [1, 1, 1, 1, 0, 1] (codeOf f17) [] (RetQ prog [.tmp 2] n0 K)) := by
  have hJ := J1.closed prog W0 Post
  rw [s17_1, f0, f3, f57]
  refine cnd_false.2 ?_
  refine load_part (c := talCells t cv nv) cp (by rw [cs_val]; omega) rfl (talAt_kc ta) (good59 ta fun H1 mv M1 Ma => ext0 (ext1 ?_))
  have c1 := M1.at cp
  have t1 := M1.tal ta
  refine l17_2 hJ (fun m : Nat => 5 - m) (fun m F H' => SameX [] H1 H' ∧ m ≤ 5 ∧ (∀ m', m' < m → (picksR 5 m' 1).find? (holdM t) = none) ∧ Reg17 t p mv F ∧ F.r 11 = vint (m : Nat)) ?_ (s := 0)
    (.inl ⟨SameX.refl, by omega, fun m' hm' => absurd hm' (Nat.not_lt_zero _), ⟨f0, f3, rfl, rfl⟩, rfl⟩)
  rintro m F H' ⟨S, hm, hno, G, r11⟩ okc hnc
  rw [s17_2, G.r10, r11, G.ds]
  refine leqI (cndI (fun hle => ?_) fun hgt => ?_)
  · refine good34 (n := 5) (a := 1) hJ (by omega) m (by omega) (by omega) fun H6 av o6 S6 L6 _ => ?_
    exact lists17 hJ h0 hn hman (by omega) ((S.trans S6).get c1 (by simp)) (talAt_same t1 (S.trans S6) (by simp)) hno ((S.trans S6).sli Ma (by simp)) (L6.lo (Nat.zero_le _)) ⟨G.ds, G.r3, G.r9, G.r10⟩ r11 rfl rfl fin fun F' H7 S7 hall G7 r11' => ⟨m + 1, by dsimp only; omega, .inl ⟨(S.trans S6).trans S7, by omega, fun m' hm' => by
      by_cases e : m' = m
      · rw [e]
        exact hall
      · exact hno m' (by omega), G7, r11'⟩⟩
  · rw [fewest_no hn hman h0 fun m' hm' => hno m' (by omega)]
    exact eqlI (cndI (fun _ => fin _) fun hx => absurd rfl hx)
theorem walk17 {nv : Value} {ns : List Int} (sn : Sli h nv 1 ns.length (ns.map vint)) (hln : ns.length < 4611686018427387904) (hK : ∀ h', K (.bool true) h') :
    W prog (J1 prog W0 Post) 108 h.length 17 (codeOf f17) (RG.mk (regs [nv]) []) h (RetQ prog [.tmp 2] h.length K) := by
  have hJ := J1.closed prog W0 Post
  rw [e17]
  have fin : ∀ {n0 : Nat} (H : List AObj), Good prog (J1 prog W0 Post) 18 [] H fun v h' => retL n0 K [] [v] h' := fun H => good18 hJ (retL_same (by simp [unk]) (hK _))
  refine newX hJ sn hln fun H0 a0 => talX hJ a0 (by omega) (by omega) (by omega) fun t cv co H1 T S1 a1 ta => ?_
  have fine := T.fine (by omega) (by omega)
  have h0 : talErr t = 0 := T.err (by omega) (by omega)
  have hn := fine.few
  have hman : ∀ c ∈ t.counts, 1 ≤ c.man ∧ c.man ≤ 4 := fun c hc => (T.co c hc).2.1
  refine qAl fun H2 p5 e2 S2 c2 l2 => qStA (c := talCells t cv co) c2 rfl rfl (tal_one ta) fun H3 S3 c3 l3 => ?_
  have S13 : SameX [] H1 H3 := (SameX.refl.trans S2).thru S3 (by simp; omega)
  have ta3 := talAt_same ta S13 (by simp)
  refine load_part (c := talCells t cv co) c3 (by rw [cs_val]; omega) rfl (talAt_kc ta3) (good33 hJ ta3 fun H4 lv S4 L4 => ext0 (ext1 ?_))
  have c4 := S4.get c3 (by simp)
  have ta4 := talAt_same ta3 S4 (by simp)
  have kn : kn1 co = true := (sli_one ta4.co).2.2
  refine load_part (c := talCells t cv co) c4 (by rw [cs_val]; omega) rfl (talAt_kc ta4) (offI (ldI (v := co) c4 rfl kn (lenI ta4.co ?_)))
  refine good62 hJ ta4 h0 fun H5 dv S5 D5 => ext30 (ext31 (ext32 (notI (cnd_false.2 ?_))))
  have c5 := S5.get c4 (by simp)
  have ta5 := talAt_same ta4 S5 (by simp)
  have L5 := S5.sli L4 (by simp)
  have lw := wrongL_len t
  cases hT : truthS t 127 with
  | true =>
    obtain ⟨w, hw, _⟩ := wrong_some hn hT
    have wE : wrongE t = 0 := by unfold wrongE; rw [if_neg (not_not_intro h0), hT]; rfl
    have wL : wrongL t = w := by unfold wrongL; rw [if_pos wE, hw]; rfl
    rw [hw] at D5
    rw [wL] at L5 lw
    rw [wE, hw]
    refine eqlI (neqB (cnd_false.2 (notI (cnd_false.2 (cnd_true.2 ?_)))))
    exact same27 hJ L5 D5 (by omega) (notI (hold.2 (rest17 h0 hn hman c5 ta5 rfl rfl rfl fin)))
  | false =>
    have wE : wrongE t = 11 := by unfold wrongE; rw [if_neg (not_not_intro h0), hT]; rfl
    have hw : wrongO t = none := by
      cases e : wrongO t with
      | none => rfl
      | some w =>
        have := wrong_any hn e
        rw [hT] at this
        cases this
    rw [wE, hw]
    refine eqlI (neqB (cnd_false.2 (notI (cnd_true.2 (neqI (cndI (fun hx => absurd rfl hx) fun _ => cnd_false.2 ?_))))))
    exact hold.2 (rest17 h0 hn hman c5 ta5 rfl rfl rfl fin)
end
end Go.Proofs.Ytdgpacdknpahnaa
namespace Go.Proofs.Ytdgpacdknpahnaa
open Go.Conc
section
variable {P : Program} {W0 : World} {Post : Value → World → Prop} {ρ : Env} {h : List AObj} {FC : Frm} {w : World} {ft : Foot} {f : RG} {a : Act} {b : FB} {K : Value → List AObj → Prop} {n0 : Nat}
theorem leave_top {fn : Func} (hk : b.kind = .normal) (hf : P.funcs[b.fn]? = some fn) (hin : P.inits.idxOf? b.fn = none)
    (hc : ∀ v h' ρ' w' ft' cv, K v h' → HRel ρ' h' FC w' ft' → Env.upto n0 ρ ρ' → n0 ≤ h'.length → VRel h'.length ρ' v cv → Base W0 w' → Post cv w') :
    ∀ (ds : List Nat) (h : List AObj) (w : World) (ft : Foot) (a : Act) (fr : Frame), fr.fn = b.fn → fr.kind = .normal → fr.mode = .returning → fr.tmps = a.tmps → fr.defers = ds.map (fun d => { target := .collected (ρ.blk d), args := #[] }) → RegRel h.length ρ f.r a.tmps → HRel ρ h FC w ft → n0 ≤ h.length →
      takeW ds h (fun h => resW P fn.results.toList f.r h fun vs => K (pack vs) h ∨ ∃ σ h' v, GC n0 σ h h' ∧ pack vs = sub σ v ∧ VOk h'.length v ∧ K v h') → J1 P W0 Post (G fr []) w ft
  | [], h, w, ft, a, fr, e1, e2, e3, e4, e5, hr, H, hn, hq => by
    obtain ⟨fn', tmps, todo, defers, mode, kind, ro⟩ := fr
    simp only at e1 e2 e3 e4 e5
    subst e1 e2 e3 e4 e5
    refine J1.both rfl fun w₁ h₁ hbase => .inr ?_
    have H₁ := H.rely h₁
    have hrun : RunsTo P (EvOk ft) (results fn a.tmps) w₁ fun cv w' => w' = w₁ ∧ ∃ vs, cv = ren ρ (pack vs) ∧ (∀ v ∈ vs, VOk h.length v) ∧ (K (pack vs) h ∨ ∃ σ h' v, GC n0 σ h h' ∧ pack vs = sub σ v ∧ VOk h'.length v ∧ K v h') := by
      unfold results
      have : (fn.results.mapM (resF a.tmps)) = List.toArray <$> fn.results.toList.mapM (resF a.tmps) := by
        rw [Array.mapM_eq_mapM_toList]
      show RunsTo P (EvOk ft) (do
        let vs ← fn.results.mapM (resF a.tmps)
        pure (if h : vs.size = 1 then vs[0] else .tuple vs)) w₁ _
      rw [this]
      refine RunsTo.bind (RunsTo.map (res_run (n := 0) H₁ hr fn.results.toList hq fun vs hvs hok => RunsTo.pure ⟨rfl, vs, ?_, hok, hvs⟩))
      exact pack_ren vs
    obtain ⟨cv, w', es, hr', he, rfl, vs, rfl, hvok, hvs⟩ := hrun #[] (by simp)
    have hes : ∀ e ∈ seen P b.fn es, EvOk ft e := fun e hm => he e (mem_seen hm)
    refine ⟨ren ρ (pack vs), seen P b.fn es, ?_, hes, ?_⟩
    · simp only [G, stepG, unwind, List.map_nil, hf, hr']
      simp [doReturn, GStep.after, hin]
    · rcases hvs with hK | ⟨σ, h', v, g, hp, hok, hK⟩
      · exact hc _ h _ w' ft _ hK H₁ (Env.upto_refl _ _) hn (.inr ⟨pack_ok hvok, rfl⟩) hbase
      · rw [hp, ren_sub]
        exact hc v h' _ w' ft _ hK (g.rel H₁) g.upto g.le (.inr ⟨hok, rfl⟩) hbase
  | d :: ds, h, w, ft, a, fr, e1, e2, e3, e4, e5, hr, H, hn, hq => by
    obtain ⟨fn', tmps, todo, defers, mode, kind, ro⟩ := fr
    simp only at e1 e2 e3 e4 e5
    subst e1 e2 e3 e4 e5
    obtain ⟨hd, hq⟩ := hq
    refine (J1.closed P W0 Post).step rfl fun w₁ h₁ => ?_
    have H₁ := H.rely h₁
    obtain ⟨cv, w', es, hr', he, rfl, H', hst, hsz⟩ := take_run (P := P) H₁ hd (Q := fun l w' => l = [] ∧ HRel ρ (h.set d .dead) FC w' ft ∧ Stays ft w₁ w' ∧ w'.heap.size = w₁.heap.size) (fun w' a1 a2 a3 => ⟨rfl, a1, a2, a3⟩) #[] (by simp)
    have hes : ∀ e ∈ seen P b.fn es, EvOk ft e := fun e hm => he e (mem_seen hm)
    refine ⟨G { fn := b.fn, tmps := a.tmps, todo := todo, defers := ds.map (fun d => { target := .collected (ρ.blk d), args := #[] }), mode := .returning, kind := .normal, roundOf := ro } [], w', seen P b.fn es, ?_, rfl, hst.guar hes, ?_⟩
    · simp only [G, stepG, unwind, List.map_cons, hr']
      simp [GStep.after]
    · rw [hsz, Foot.ext_self]
      exact leave_top hk hf hin hc ds _ w' ft a _ rfl rfl rfl rfl rfl (by rw [List.length_set]; exact hr) H' (by rw [List.length_set]; exact hn) hq
theorem top_of_W (hm : P.follows .mixedOrders = true) {g : FuncId} {fn : Func} (hf : P.funcs[g]? = some fn) {c : Code} (hb : fn.body = some c) (hin : P.inits.idxOf? g = none) {args : List Value} {cargs : Array Value} (ha : args.length ≤ fn.ntmps) (hl : cargs.size = args.length)
    (hr : ∀ i : Nat, VRel h.length ρ (args.getD i unk) (cargs.toList.getD i undef)) (H : HRel ρ h FC w ft)
    (hs : W P (J1 P W0 Post) fn.ntmps h.length g c ⟨regs args, []⟩ h (RetQ P fn.results.toList h.length K))
    (hc : ∀ v h' ρ' w' ft' cv, K v h' → HRel ρ' h' FC w' ft' → Env.upto h.length ρ ρ' → h.length ≤ h'.length → VRel h'.length ρ' v cv → Base W0 w' → Post cv w') : J1 P W0 Post (G (Frame.enter P g cargs .normal) []) w ft := by
  have hJ := J1.closed P W0 Post
  obtain ⟨cargs⟩ := cargs
  simp only at hl hr
  have he : Frame.enter P g ⟨cargs⟩ .normal = FB.at ⟨g, .normal, none⟩ ⟨⟨cargs⟩ ++ Array.replicate (fn.ntmps - cargs.length) undef, []⟩ [.code c] := by
    simp [Frame.enter, FB.at, hf, hb]
  rw [he]
  have A : ActRel h.length ρ fn.ntmps ⟨regs args, []⟩ ⟨⟨cargs⟩ ++ Array.replicate (fn.ntmps - cargs.length) undef, []⟩ := by
    refine ⟨fun t => ?_, by simp at hl ⊢; omega, rfl, by simp⟩
    have := hr t
    have ht : ((⟨cargs⟩ : Array Value) ++ Array.replicate (fn.ntmps - cargs.length) undef).getD t undef = cargs.getD t undef := by
      rw [Array.getD_eq_getD_getElem?, List.getD_eq_getElem?_getD]
      by_cases hx : t < cargs.length
      · rw [Array.getElem?_append_left (by simpa using hx)]
        simp
      · rw [Array.getElem?_append_right (by simp; omega), List.getElem?_eq_none (by omega)]
        simp only [Array.getElem?_replicate]
        split <;> rfl
    rw [ht]
    exact this
  have last : ∀ f' h' ρ' w' ft' a' todo, RetQ P fn.results.toList h.length K .ret f' h' → ActRel h'.length ρ' fn.ntmps f' a' → HRel ρ' h' FC w' ft' → Env.upto h.length ρ ρ' → h.length ≤ h'.length →
      J1 P W0 Post (G { (FB.at ⟨g, .normal, none⟩ a' todo) with mode := .returning } []) w' ft' := by
    intro f' h' ρ' w' ft' a' todo q A' H' hu hl
    exact leave_top (b := ⟨g, .normal, none⟩) (f := f') (n0 := h.length) (ρ := ρ') rfl hf hin (fun v h2 ρ2 w2 ft2 cv k H2 u2 l2 v2 => hc v h2 ρ2 w2 ft2 cv k H2 (Env.upto_trans hu u2) l2 v2) f'.ds h' w' ft' a' _ rfl rfl rfl rfl A'.defers A'.regs H' hl q
  refine W_sound hJ hm c hs ⟨g, .normal, none⟩ _ [] [] (fun jump a w ft => jump = some .ret ∧ ∀ todo, J1 P W0 Post (G { (FB.at ⟨g, .normal, none⟩ a todo) with mode := .returning } []) w ft) ρ FC w ft rfl (by simp) ?_ A H (Nat.le_refl _) ?_
  · rintro jump a w ft todo ⟨rfl, hj⟩ hh
    rcases hh with ⟨_, k, rfl⟩ | ⟨id, k, e, _⟩ | ⟨e, _⟩
    · exact hJ.ctrl rfl rfl (fun w => by simp [G, stepG, stepG.exec, FB.at]) (hj (.code .ret :: k))
    · cases e
    · cases e
  · intro e f' h' ρ' w' ft' a' q A' H' hu hl
    cases e with
    | normal => exact hJ.ctrl rfl rfl (fun w => by simp [G, stepG, stepG.exec, FB.at]) (last f' h' ρ' w' ft' a' [] q A' H' hu hl)
    | ret => exact ⟨rfl, fun todo => last f' h' ρ' w' ft' a' todo q A' H' hu hl⟩
    | exit id => exact q.elim
    | goto l => exact q.elim
    | panic l => exact q.elim
    | outgrown => exact q.elim
theorem run_of_J1 {g : Goroutine} {w : World} {ft : Foot} (h : J1 P W0 Post g w ft) (hb : ∀ b, ft.rd b → b < w.heap.size) (hs : ∀ b, ft.wr b → ft.rd b) (hw : W0 = w) : Ends P Post (solo g w) #[] := by
  rw [solo_eq_crowd]
  exact h #[g] w none #[] (fun _ => 0) hb hs (RelyW.refl _ _) (by subst hw; exact ⟨rfl, rfl, rfl, Nat.le_refl _⟩) rfl (leavers_one P g) (past_nil.mono (Nat.zero_le _))
end
end Go.Proofs.Ytdgpacdknpahnaa
namespace Go.Proofs.Ytdgpacdknpahnaa
open Go.Conc Go.RowKit
def idEnv : Env := ⟨fun b => b, fun _ => 0⟩
def startFt (w : World) : Foot := ⟨fun b => b < w.heap.size, fun _ => False⟩
def startFC (w : World) : Frm := ⟨fun b => w.heap[b]?, fun _ => False⟩
def Fine (n : Nat) (v : Value) : Prop := VOk n v ∧ one v = true ∧ ren idEnv v = v
open Classical in
noncomputable def clean (n : Nat) (v : Value) : Value := if Fine n v then v else unk
noncomputable def absO (n : Nat) : Obj → AObj
  | .cells c _ _ => .cells (c.toList.map (clean n)) false 0
  | _ => .dead
noncomputable def absH (w : World) : List AObj := w.heap.toList.map (absO w.heap.size)
section
variable {w w' : World} {n : Nat}
theorem clean_fine {v : Value} (h : Fine n v) : clean n v = v := by simp [clean, h]
theorem absH_len : (absH w).length = w.heap.size := by simp [absH]
theorem absH_get {b : Nat} : (absH w)[b]? = (w.heap[b]?).map (absO w.heap.size) := by simp [absH]
theorem absO_wrt (x : Obj) : (absO n x).wrt = false := by cases x <;> rfl
theorem start_rel (w : World) : HRel idEnv (absH w) (startFC w) w (startFt w) where
  obj := fun b o hb => by
    rw [absH_get] at hb
    obtain ⟨x, hx, rfl⟩ := Option.map_eq_some_iff.1 hb
    show ORel (absH w).length idEnv b (absO w.heap.size x) w.heap[b]?
    rw [absH_len, hx]
    cases x with
    | cells c ty fr =>
      refine ⟨fun i v hv => ?_, fun _ => by simp, fun hz => absurd rfl hz, fun e => by cases e⟩
      rw [List.getElem?_map] at hv
      obtain ⟨u, hu, rfl⟩ := Option.map_eq_some_iff.1 hv
      by_cases hf : Fine w.heap.size u
      · rw [clean_fine hf]
        exact .inr ⟨hf.1, hf.2.1, by rw [hf.2.2]; simpa using hu⟩
      · exact .inl ⟨by simp [clean, hf], rfl⟩
    | _ => trivial
  inj := fun b b' o o' _ _ _ _ e => e
  rd := fun b o hb _ => by
    have : b < (absH w).length := (List.getElem?_eq_some_iff.1 hb).1
    rw [absH_len] at this
    exact this
  wr := fun b o hb hw => by
    rw [absH_get] at hb
    obtain ⟨x, hx, rfl⟩ := Option.map_eq_some_iff.1 hb
    rw [absO_wrt] at hw
    cases hw
  lt := fun b hb => hb
  sub := fun b hb => hb.elim
  kept := fun b o hb => by
    refine ⟨hb, ?_, fun a oa ha hw => ?_⟩
    · exact (Array.getElem?_eq_some_iff.1 hb).1
    · rw [absH_get] at ha
      obtain ⟨x, hx, rfl⟩ := Option.map_eq_some_iff.1 ha
      rw [absO_wrt] at hw
      cases hw
  keptW := fun b hb => hb.elim
theorem absH_cell {b o : Nat} {v : Value} (hc : w.cell? ⟨b, o, none⟩ = some v) (hf : Fine w.heap.size v) : ∃ c, (absH w)[b]? = some (.cells c false 0) ∧ c[o]? = some v := by
  unfold World.cell? at hc
  simp only at hc
  split at hc
  · rename_i c ty fr hx
    refine ⟨c.toList.map (clean w.heap.size), by rw [absH_get, hx]; rfl, ?_⟩
    have hc' : c[o]? = some v := by simpa using hc
    rw [List.getElem?_map, Array.getElem?_toList, hc']
    simp [clean_fine hf]
  · cases hc
theorem below_of {ρ' : Env} {h' : List AObj} {ft' : Foot} (H : HRel ρ' h' (startFC w) w' ft') (B : Base w w') : Below w.heap.size w w' :=
  ⟨B.os, B.tape, B.output, B.size, fun k hk => by
    have : (startFC w).ob k = some w.heap[k] := by simp [startFC, hk]
    rw [(H.kept k _ this).1, Array.getElem?_eq_getElem hk]⟩
end
end Go.Proofs.Ytdgpacdknpahnaa
namespace Go.Proofs.Ytdgpacdknpahnaa
open Go.Conc Go.ChangeShapes Go.WideShapes Go.ChangeAt Go.RowKit Go.Proofs.Try
set_option maxRecDepth 100000
theorem own : ownKnob prog.godebug = none := by kernel_rfl
theorem laidOut : laidOutB prog = true := by kernel_rfl
def ArgOk (W : World) (v : Value) : Prop := VOk W.heap.size v ∧ ren idEnv v = v
theorem law_run1 {g : FuncId} {fn : Func} {c : Code} (hf : prog.funcs[g]? = some fn) (hb : fn.body = some c) (hin : prog.inits.idxOf? g = none) (W₀ : World) (args : List Value) (ha : args.length ≤ fn.ntmps) (hok : ∀ v ∈ args, ArgOk W₀ v)
    (walk : ∀ Post, W prog (J1 prog W₀ Post) fn.ntmps (absH W₀).length g c ⟨regs args, []⟩ (absH W₀) (RetQ prog fn.results.toList (absH W₀).length fun v _ => v = .bool true)) :
    Ends prog (fun v w' => v = .bool true ∧ Below W₀.heap.size W₀ w') (solo (G (Frame.enter prog g ⟨args⟩ .normal) []) W₀) #[] := by
  refine run_of_J1 (W0 := W₀) (ft := startFt W₀) (top_of_W mixed hf hb hin ha rfl (fun i => ?_) (start_rel W₀) (walk _) ?_) (fun b hb => hb) (fun b hb => hb.elim) rfl
  · show VRel (absH W₀).length idEnv (args.getD i unk) (args.getD i undef)
    simp only [List.getD_eq_getElem?_getD]
    cases hi : args[i]? with
    | none => exact .inl rfl
    | some v =>
      obtain ⟨h1, h2⟩ := hok v (List.mem_of_getElem? hi)
      exact .inr ⟨by rw [absH_len]; exact h1, h2.symm⟩
  · intro v h' ρ' w' ft' cv hv H' _ _ hcv hB
    subst hv
    refine ⟨?_, below_of H' hB⟩
    rcases hcv with e | ⟨_, e⟩
    · cases e
    · rw [e]
      rfl
section
variable {H : Type} {enc : TypeId × Value → H}
theorem arg_ints {t e : TypeId} (ht : prog.underlying t = some (.slice e)) (he : prog.underlying e = some (.int .i64)) (hc : prog.cellsOf e = 1) {W : World} {base : Nat} {v : Value} {d : DataW H} {ps : List MemPlace}
    (hval : Value.okWide prog W .any base t v) (hd : DataW.Trod enc prog W 0 (fun _ => true) true t v d ps) :
    ∃ zs : List Int, Sli (absH W) v 1 zs.length (zs.map vint) ∧ ArgOk W v ∧ (zs = [] ∨ ∃ es sp, d = .slice es sp ∧ zs.length ≤ es.length + sp.length) := by
  obtain ⟨a0, len, cap, rfl⟩ := okWide_slice ht hval
  obtain ⟨fuel, hf⟩ := hd
  rcases open_ints ht he hc hf with ⟨hcs, hx⟩ | ⟨a, len', cap', zs, hcs, _, hl, hm, hz, hx, hcell, hwz⟩
  · simp [Value.cells] at hcs
    obtain ⟨rfl, rfl, rfl⟩ := hcs
    exact ⟨[], sli_nil, ⟨by simp [VOk], by simp [ren]⟩, .inl rfl⟩
  · simp [Value.cells] at hcs
    obtain ⟨rfl, rfl, rfl⟩ := hcs
    simp only [Prod.mk.injEq] at hx
    obtain ⟨rfl, rfl⟩ := hx
    simp only [if_true] at hz
    simp only [Value.okWide, ht, Cell.okWide, Cell.ok, World.has] at hval
    obtain ⟨_, _, _, hspot, row, cells, hshape, _⟩ := hval
    obtain ⟨b, o, spot⟩ := a
    simp only at hspot hshape
    subst hspot
    have hb : b < W.heap.size := by
      unfold World.shape? at hshape
      split at hshape
      · rename_i h
        exact (Array.getElem?_eq_some_iff.1 h).1
      · cases hshape
    have hlen : (zs.take len).length = len := by simp; omega
    have hcell' : ∀ i, i < zs.length → W.cell? ⟨b, o + i, none⟩ = some (vint (zs.getD i 0)) := by
      intro i hi
      have := hcell i hi
      unfold Addr.add at this
      by_cases h0 : i = 0
      · subst h0; simpa using this
      · simpa [h0] using this
    have hmax : cap < fz := by
      simp only [maxLen] at hm
      unfold fz
      omega
    refine ⟨zs.take len, ?_, ⟨by simp only [VOk, AddrOk]; exact ⟨hb, trivial⟩, ?_⟩, .inr ⟨_, _, rfl, ?_⟩⟩
    · refine ⟨some ⟨b, o, none⟩, cap, by rw [hlen], ⟨by simp, kn_ints _⟩, .inr ⟨b, o, rfl, ?_⟩⟩
      rw [hlen]
      by_cases h0 : len = 0
      · exact .inl h0
      · right
        have fine : ∀ n : Int, Fine W.heap.size (vint n) := fun n => ⟨by simp [VOk], rfl, by simp [ren]⟩
        obtain ⟨c, hc1, hc2⟩ := absH_cell (hcell' 0 (by omega)) (fine _)
        refine ⟨c, false, 0, hc1, ?_⟩
        apply List.ext_getElem?
        intro i
        rw [Nat.mul_one]
        by_cases hi : i < len
        · obtain ⟨c', hc1', hc2'⟩ := absH_cell (hcell' i (by omega)) (fine _)
          rw [hc1] at hc1'
          cases hc1'
          rw [List.getElem?_take, if_pos hi, List.getElem?_drop, hc2']
          have hzi : i < zs.length := by omega
          simp [hi, hzi]
        · rw [List.getElem?_take, if_neg hi, List.getElem?_eq_none (by simp; omega)]
    · have hnf : ¬ fz ≤ cap := by omega
      simp [ren, renAddr, renCap, idEnv, hnf]
    · simp only [lits, List.length_map, List.length_take, List.length_drop]
      omega
end
theorem lifted17 (os : Os) (started : os.Started) (H : Type) (enc : TypeId × Value → H) :
    ReturnsInLeavingWide {} checked os 17 .any (Rows.tallyFewestSpec.pre6 enc prog f17 Rows.tallyFewestRow.domain false) (Rows.tallyFewestSpec.post enc prog f17 false true false false) := by
  refine returnsInLeavingWide_of_change_sized (C := checked) own started at17
    (ChangeSpec.witness6 (enc := enc) (C := checked) false ⟨#[], #[.slice none 0 0], []⟩ 8 (by kernel_rfl) (by kernel_rfl) (by kernel_rfl) (by kernel_rfl)) ?_
  intro W base args ds gs before hval0 hW _ hsz0 _
  have hsz : (DataW.weightsEach prog (f17.params.toList ++ Rows.tallyFewestSpec.plain.varTypes prog) (ds ++ gs)).all (· ≤ reachBytes) = true := hsz0
  clear hsz0
  have hval : ∀ (j : Nat) t v, f17.params[j]? = some t → args[j]? = some v → Value.okWide prog W .any base t v := hval0
  have hW' := hW
  obtain ⟨p, q, hA0, hV, rfl, _, _⟩ := hW
  have hA : DataW.TrodAll enc prog W 0 (fun _ => true) true f17.params.toList args.toList ds p := hA0
  have hps : f17.params = #[22] := by kernel_rfl
  rw [hps] at hA hval hsz
  obtain ⟨v0, d0, rfl, rfl, h0⟩ := trodAll_one hA
  obtain ⟨rfl, rfl⟩ := trodVars_none hV
  have u3 : prog.underlying 3 = some (.int .i64) := by kernel_rfl
  have u22 : prog.underlying 22 = some (.slice 3) := by kernel_rfl
  have u4 : prog.underlying 4 = some .bool := by kernel_rfl
  have c3 : prog.cellsOf 3 = 1 := by kernel_rfl
  have b3 : prog.bytesOf 3 = 8 := by kernel_rfl
  have hlt : ∀ x ∈ p, x.block < W.heap.size := fun x hx => by simpa using hW'.lt x (by simpa using hx)
  have hargs : ∀ (W' : World), Below W.heap.size W W' → DataW.TrodAll enc prog W' 0 (fun b => decide (b < W.heap.size)) true [22] [v0] [d0] p := fun W' hn =>
    trodAll_mk1 (Below.trod laidOut (by kernel_rfl) (of_decide_eq_true (by kernel_rfl)) h0 hn hlt)
  obtain ⟨ns, sn, ok2, hbig⟩ := arg_ints u22 u3 c3 (hval 0 22 v0 rfl rfl) h0
  have hln : ns.length < 4611686018427387904 := by
    rcases hbig with rfl | ⟨es, sp, rfl, hle⟩
    · simp
    · have := sized_slice hsz (j := 0) (t := 22) (e := 3) rfl rfl u22
      rw [b3] at this
      simp only [reachBytes] at this
      omega
  obtain ⟨M, last, o, w', t', r1, r2, r3, r4⟩ := law_run1 (g := 17) (fn := f17) at17 body17 (by kernel_rfl) W [v0] (Nat.le_of_ble_eq_true (by kernel_rfl : Nat.ble 1 f17.ntmps = true))
    (by
      intro v hv
      simp only [List.mem_cons, List.not_mem_nil, or_false] at hv
      subst hv
      exact ok2)
    (fun Post => walk17 (K := fun v _ => v = .bool true) sn hln fun _ => rfl)
  refine ⟨M, last, o, w', t', r1, r2, r3, r4.mono fun v hF => ?_⟩
  obtain ⟨rfl, hbelow⟩ := hF
  refine ⟨_, _, _, [], _, [], hW', ?_, hargs _ hbelow, by rfl, hbelow.frame _, fun h => by cases h⟩
  exact trodAll_mk1 (shut_bool u4 true)
theorem tallyFewest_holds : Rows.TallyFewestSaid :=
  OpenClaim.holds_of_wide_leaving 17 f17 rfl rfl rfl rfl rfl rfl rfl ⟨rfl, rfl, rfl, rfl, rfl⟩ rfl rfl rfl rfl rfl (by kernel_rfl) at17 (by kernel_rfl)
    (of_decide_eq_true (by kernel_rfl)) (by unfold Func.isWrapper; first | (rw [if_pos (by decide +kernel)]; kernel_rfl) | (rw [if_neg (by decide +kernel)]; exact ⟨rfl, rfl⟩))
    (fun os started H enc _ => lifted17 os started H enc)
#print axioms tallyFewest_holds
end Go.Proofs.Ytdgpacdknpahnaa
