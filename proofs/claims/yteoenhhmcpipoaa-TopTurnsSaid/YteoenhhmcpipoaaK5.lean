/- Parts of the proof, 5. No conditions. -/
import Derived.Test.YteoenhhmcpipoaaK4
import Derived.Conc.Own2
import Derived.Test.YteoenhhmcpipoaaK2
import Derived.Test.YteoenhhmcpipoaaK3
namespace Go.Proofs.Yteoenhhmcpipoaa
open Go.Conc
section
variable {P : Program} {W0 : World} {Post : Value → World → Prop} {T : Crew} {g : Goroutine} {w w₁ w' : World} {ft f' : Foot}
def base0 (P : Program) : Frame := { (default : Frame) with fn := P.funcs.size,defers := [],mode := .panicking [goexitEntry] }
theorem base_catches (P : Program) : (base0 P).catches P = false := by
 have e : (base0 P).todo = [] := rfl
 unfold Frame.catches
 rw [e]
 split
 ·rename_i h
  cases h
 ·rfl
theorem base_quits (hc : (base0 P).catches P = false) : QuitsD P 1 0 (G (base0 P) []) := by
 refine .inr ⟨rfl,{ frame := base0 P,callers := [],status := .finished,dying := none },#[],by simp,fun w => ?_,rfl,rfl⟩
 have e1 : (base0 P).defers = [] := rfl
 have e2 : (base0 P).mode = .panicking [goexitEntry] := rfl
 simp only [G,stepG,e2,unwind,e1,hc]
 simp [goexitEntry]
theorem quiet_run {α : Type} {s : Go.Sem α} {w : World} {Q : α → World → Prop} (h : RunsTo P (fun _ => False) s w Q) : ∃ v w',s.runT P w #[] = (.ok v w',#[]) ∧ Q v w' := by
 obtain ⟨v,w',es,hr,he,hq⟩ := h #[] (by simp)
 have hes : es = #[] := by
  apply Array.eq_empty_of_size_eq_zero
  cases hs : es.size with
  | zero => rfl
  | succ n => exact (he es[0] (Array.getElem_mem (by omega))).elim
 subst hes
 exact ⟨v,w',hr,hq⟩
variable {b : FB} {a : Act} {cs : List Frame} {ops : Array Oper} {fn : Func}
theorem born_toward {Stop : JT} {d : Deferred} {g : FuncId} {caps : List Value} (hd : d = { target := .fn (.func g) ⟨caps⟩,args := #[] }) (hcl : callable P g = true)
  (h : Toward P Stop (G (Frame.enter P g ⟨caps⟩ .deferred) [base0 P]) w ft) : Toward P Stop (born P d) w ft := by
 subst hd
 refine (Toward.closed P Stop).step rfl fun w₁ h₁ => ?_
 have hrun : RunsTo P (EvOk ft) (invoke (.fn (.func g) ⟨caps⟩) #[]) w₁ fun nx w' => nx = .enter g ⟨caps⟩ ∧ w' = w₁ := by
  unfold invoke
  simp only
  refine callFunc_run hcl ⟨?_,rfl⟩
  congr 1
  apply Array.ext'
  simp
 obtain ⟨nx,w',es,hr,he,rfl,rfl⟩ := hrun #[] (by simp)
 have hes : ∀ e ∈ seen P P.funcs.size es,EvOk ft e := fun e hm => he e (mem_seen hm)
 refine ⟨G (Frame.enter P g ⟨caps⟩ .deferred) [base0 P],w',seen P P.funcs.size es,?_,rfl,(Stays.refl ft w').guar hes,?_⟩
 ·simp only [stepG,born,unwind,callDeferred,hr]
  simp [GStep.after,G,base0]
 ·rw [Foot.ext_self]
  exact h.rely h₁
end
section
variable {P : Program} {main : Bool} {W0 : World} {Post : Value → World → Prop} {T : Crew} {w w₁ w' : World} {ft : Foot} {ρ : Env} {h : List AObj} {FC : Frm} {N : Nat} {f : RG} {b : FB} {a : Act} {cs : List Frame} {K : List Item} {ops : Array Oper} {i : Nat} {rest : List Nat} {o : Oper}
theorem stepG_go (hk : b.kind ≠ .early) (ho : ops[i]? = some o) (hg : gd ops o f.r = some true) (A : ActRel h.length ρ N f a) {x : Operand} {ats : Array TypeId} (hop : o.op = .go { callee := .value x,args := #[],argTypes := ats })
  {g : FuncId} {cap : List Value} (hx : ev f.r x = .func (.func g) ⟨[]⟩ ⟨cap⟩) (w : World) :
  stepG P main (G (b.at a (.inRegion ops (i :: rest) :: K)) cs) w = .spawn (G (b.at (a.put o.dst undef) (.inRegion ops rest :: K)) cs) (born P { target := .fn (.func g) ⟨cap.map (ren ρ)⟩,args := #[] }) w #[] := by
 have hw := gd_wanted A hg
 have hnd : ∀ c,o.op ≠ .defer c := fun c e => by rw [hop] at e; cases e
 have hk' : (b.kind == CallKind.early) = false := by simpa using hk
 obtain ⟨hok,hv⟩ := (ev_rel A.regs x).val (by rw [hx]; simp [unk])
 rw [hx] at hv
 simp only [ren,renFn,renA,renL_eq,List.map_nil] at hv
 have hr : (execOp a.eval o).runT P w #[] = (.ok (.spawn { target := .fn (.func g) ⟨cap.map (ren ρ)⟩,args := #[] }) w,#[]) := by
  have hrun : RunsTo P (fun _ => False) (execOp a.eval o) w fun nx w' => nx = .spawn { target := .fn (.func g) ⟨cap.map (ren ρ)⟩,args := #[] } ∧ w' = w := by
   unfold execOp
   rw [hop]
   simp only [resolve,hv,Deferred.ofValue]
   refine RunsTo.bind (RunsTo.pure (RunsTo.pure ⟨?_,rfl⟩))
   congr 2
   simp
  obtain ⟨v,w',hr,rfl,rfl⟩ := quiet_run hrun
  exact hr
 have hf := FB.finish_at b a ops i rest K undef
 rw [ho] at hf
 simp only [Option.bind_some] at hf
 rw [stepG_op ho hw hnd,← hf]
 simp only [stepG.apply,hr,if_true]
 simp [FB.at,hk',GStep.after,G,born,seen]
end
def frzO : AObj → AObj
 | .cells c _ sz => .cells c false sz
 | .map es _ => .map es false
 | _ => .dead
def frz (h : List AObj) : List AObj := h.map frzO
def unchO : AObj → AObj
 | .chan _ => .dead
 | .group _ => .dead
 | o => o
def unch (h : List AObj) : List AObj := h.map unchO
section
variable {ρ ρ' : Env} {h h' g : List AObj} {FC : Frm} {w w' : World} {ft ft' : Foot}
theorem frz_len : (frz h).length = h.length := by simp [frz]
theorem frz_get {i : Nat} {o : AObj} (e : (frz h)[i]? = some o) : ∃ x,h[i]? = some x ∧ frzO x = o := by
 unfold frz at e
 rw [List.getElem?_map] at e
 exact Option.map_eq_some_iff.1 e
theorem frz_wrt (o : AObj) : (frzO o).wrt = false := by cases o <;> rfl
theorem frz_live {o : AObj} (hl : (frzO o).live = true) : o.live = true ∧ ∀ cap,o ≠ .chan cap := by
 cases o <;> first | (cases hl; done) | exact ⟨rfl,fun _ e => by cases e⟩
theorem unch_len : (unch h).length = h.length := by simp [unch]
theorem frz_orel {n b : Nat} {o : AObj} {x : Option Obj} (ho : ORel n ρ b o x) : ORel n ρ b (frzO o) x := by
 cases o with
 | cells c wr sz =>
  match x,ho with
  | some (.cells c' ty fr),ho =>
   obtain ⟨h1,h2,h3,_⟩ := ho
   exact ⟨fun i v hv => (h1 i v hv).imp (fun e => ⟨e.1,rfl⟩) id,h2,h3,fun e => by cases e⟩
 | map es wr =>
  match x,ho with
  | some (.map es' ty),ho => exact ho
 | _ => trivial
end
def At (J : JT) (N : Nat) (b : FB) (cs : List Frame) (FC : Frm) (ρ0 : Env) (m : Nat) (k : List Item) (f : RG) (h : List AObj) : Prop :=
 ∀ (a : Act) (ρ : Env) (w : World) (ft : Foot),ActRel h.length ρ N f a → HRel ρ h FC w ft → Env.upto m ρ0 ρ → m ≤ h.length → J (G (b.at a k) cs) w ft
section
variable {P : Program} {main : Bool} {J : JT} {N m n1 : Nat} {fn : FuncId} {b : FB} {cs : List Frame} {FC : Frm} {ρ0 : Env} {k : List Item} {f : RG} {h : List AObj} {Q : QT} {c x y : Code} {ops : Array Oper} {i : Nat} {rest : List Nat} {o : Oper}
theorem At.ctrl (hJ : Closed P main J) {k' : List Item} (hst : ∀ a w,stepG P main (G (b.at a k) cs) w = .go (G (b.at a k') cs) w #[]) (h' : At J N b cs FC ρ0 m k' f h) : At J N b cs FC ρ0 m k f h :=
 fun a ρ w ft A H hu hm => hJ.ctrl rfl rfl (hst a) (h' a ρ w ft A H hu hm)
theorem At.seq (hJ : Closed P main J) (h' : At J N b cs FC ρ0 m (.code x :: .code y :: k) f h) : At J N b cs FC ρ0 m (.code (.seq x y) :: k) f h :=
 At.ctrl hJ (fun a w => by simp [G,stepG,stepG.exec,FB.at]) h'
theorem At.block (hJ : Closed P main J) {id : Nat} (h' : At J N b cs FC ρ0 m (.code c :: .inBlock id :: k) f h) : At J N b cs FC ρ0 m (.code (.block id c) :: k) f h :=
 At.ctrl hJ (fun a w => by simp [G,stepG,stepG.exec,FB.at]) h'
theorem At.inBlock (hJ : Closed P main J) {id : Nat} (h' : At J N b cs FC ρ0 m k f h) : At J N b cs FC ρ0 m (.inBlock id :: k) f h :=
 At.ctrl hJ (fun a w => by simp [G,stepG,stepG.exec,FB.at]) h'
theorem At.loop (hJ : Closed P main J) (h' : At J N b cs FC ρ0 m (.code c :: .inLoop c :: k) f h) : At J N b cs FC ρ0 m (.code (.loop c) :: k) f h :=
 At.ctrl hJ (fun a w => by simp [G,stepG,stepG.exec,FB.at]) h'
theorem At.inLoop (hJ : Closed P main J) (h' : At J N b cs FC ρ0 m (.code c :: .inLoop c :: k) f h) : At J N b cs FC ρ0 m (.inLoop c :: k) f h :=
 At.ctrl hJ (fun a w => by simp [G,stepG,stepG.exec,FB.at]) h'
theorem At.region (hJ : Closed P main J) {id : Nat} (h' : At J N b cs FC ρ0 m (.inRegion ops (List.range ops.size) :: k) f h) : At J N b cs FC ρ0 m (.code (.region id ops false) :: k) f h :=
 At.ctrl hJ (fun a w => by simp [G,stepG,stepG.exec,FB.at]) h'
theorem At.ops_nil (hJ : Closed P main J) (h' : At J N b cs FC ρ0 m k f h) : At J N b cs FC ρ0 m (.inRegion ops [] :: k) f h :=
 At.ctrl hJ (fun a w => by simp [G,stepG,stepG.exec,FB.at]) h'
theorem At.piece (hb : b.tag = fn) (hk : b.kind ≠ .early) (hs : Sem J N n1 fn c f h Q) (h1 : m ≤ n1) (h2 : n1 ≤ h.length) (hq : ∀ e f' h',Q e f' h' → (e = .normal ∧ At J N b cs FC ρ0 m k f' h') ∨ ∃ id k',e = .exit id ∧ exitTo id k = some k' ∧ At J N b cs FC ρ0 m k' f' h') : At J N b cs FC ρ0 m (.code c :: k) f h := by
 intro a ρ w ft A H hu hm
 refine hs b a k cs (fun _ _ _ _ => False) ρ FC w ft hb hk (fun _ _ _ _ _ hf _ => hf.elim) A H h2 fun e f' h' ρ' w' ft' a' q A' H' hu' hl' => ?_
 have up : Env.upto m ρ0 ρ' := Env.upto_trans hu (Env.upto_le hu' h1)
 rcases hq e f' h' q with ⟨rfl,hat⟩ | ⟨id,k',rfl,hex,hat⟩
 ·exact hat a' ρ' w' ft' A' H' up (Nat.le_trans h1 hl')
 ·unfold AfterJ
  simp only [hex]
  exact hat a' ρ' w' ft' A' H' up (Nat.le_trans h1 hl')
theorem At.op (hJ : Closed P main J) (hk : b.kind ≠ .early) (ho : ops[i]? = some o) (hd : dstOk N o = true) (hg : gd ops o f.r = some true) (hop : opW P (Good P J) o f.r h fun v h' => h.length ≤ h'.length → At J N b cs FC ρ0 m (.inRegion ops rest :: k) (f.putO o.dst v) h') :
  At J N b cs FC ρ0 m (.inRegion ops (i :: rest) :: k) f h := fun _a _ρ _w _ft A H hu hm =>
 step_any hJ hk ho hg (dstOk_lt hd) A H hop fun _v _h' ρ' w' ft' a' hK A' H' hu' hl' => hK hl' a' ρ' w' ft' A' H' (Env.upto_trans hu (Env.upto_le hu' hm)) (Nat.le_trans hm hl')
theorem At.drop {g : List AObj} {f' : RG} (ok : heapOk h) (hf : ∀ t,f'.r t = unk ∨ (f'.r t = f.r t ∧ VOk h.length (f'.r t))) (hd : f'.ds = f.ds) (hds : ∀ b ∈ f.ds,b < h.length) (hm' : m ≤ h.length) (h' : At J N b cs FC ρ0 m k f' h) : At J N b cs FC ρ0 m k f (h ++ g) := by
 intro a ρ w ft A H hu hm
 have gc := gc_drop (g := g) ok (Nat.le_refl h.length)
 have hcomp : ρ.comp id = ρ := rfl
 have H2 := gc.rel H
 rw [hcomp] at H2
 refine h' a ρ w ft ⟨fun t => ?_,A.size,by rw [hd]; exact A.defers,by rw [hd]; exact hds⟩ H2 hu hm'
 rcases hf t with e | ⟨e,hv⟩
 ·exact .inl e
 ·rcases A.regs t with e2 | ⟨_,e2⟩
  ·exact .inl (e.trans e2)
  ·exact .inr ⟨hv,by rw [e2,e]⟩
end
end Go.Proofs.Yteoenhhmcpipoaa
namespace Go.Proofs.Yteoenhhmcpipoaa
open Go.Conc Go.Conc.Lib Go.Proofs.Try
open Go.ConcR (Bk stA smA rd wr mk KK WgAt)
open Go.ConcN (sumTo upd sumTo_upd upd_ne upd_same)
section
variable {W0 : World} {Post : Value → World → Prop} {G : Grp} {k : List Nat} {h : List AObj} {K : Value → List AObj → Prop} {p : Nat}
theorem good_wadd (hty : G.ty = wgLink.tWg) (hg : GrpAt h p 1) (hK : K (.tuple ⟨[]⟩) (h.set p (.group 4))) : Good prog (JG prog W0 Post G k) 30 [ptr p 0,vint 1] h K := by
 have hf : prog.funcs[(30 : Nat)]? = some (addFn wgLink) := wgLib.f_add
 refine .inl ⟨.inl ⟨(Array.getElem?_eq_some_iff.1 hf).1,by unfold callable; rw [hf]; rfl⟩,fun ρ FC w ft cs c cargs fr H hr hl hent hc => ?_⟩
 obtain rfl : fr = Frame.enter prog 30 ⟨cargs⟩ .normal := by
  rcases hent with ⟨_,e⟩ | ⟨hge,_⟩
  ·exact e
  ·exact absurd (Array.getElem?_eq_some_iff.1 hf).1 (Nat.not_lt.2 hge)
 refine JG.there fun w₁ h₁ htw hlv => ?_
 have H1 := H.rely h₁
 have htag := H.tag p 1 hg.here
 have hb : ρ.blk p = G.wg := by omega
 rw [two_of hl,ptr_arg (hr 0),fine_arg (hr 1) (by simp [vint,VOk]) (by simp [vint,unk]),hb,enter_at _ hf (c := Go.ConcR.Gen.body_add wgLink) rfl]
 exact add_walk wgLib hty hg H1 hlv fun w' ft' H' => hc (.tuple ⟨[]⟩) _ ρ w' ft' _ hK H' (Env.upto_refl _ _) (by rw [List.length_set]; exact Nat.le_refl _) (.inr ⟨by simp [VOk,AOk,LOk],rfl⟩)
theorem good_wwait (hty : G.ty = wgLink.tWg) (hg : GrpAt h p 1) (hK : K (.tuple ⟨[]⟩) (h.set p (.group 12))) : Good prog (JG prog W0 Post G k) 36 [ptr p 0] h K := by
 have hf : prog.funcs[(36 : Nat)]? = some (waitFn wgLink) := wgLib.f_wait
 refine .inl ⟨.inl ⟨(Array.getElem?_eq_some_iff.1 hf).1,by unfold callable; rw [hf]; rfl⟩,fun ρ FC w ft cs c cargs fr H hr hl hent hc => ?_⟩
 obtain rfl : fr = Frame.enter prog 36 ⟨cargs⟩ .normal := by
  rcases hent with ⟨_,e⟩ | ⟨hge,_⟩
  ·exact e
  ·exact absurd (Array.getElem?_eq_some_iff.1 hf).1 (Nat.not_lt.2 hge)
 refine JG.there fun w₁ h₁ htw hlv => ?_
 have H1 := H.rely h₁
 have htag := H.tag p 1 hg.here
 have hb : ρ.blk p = G.wg := by omega
 have e1 : ft.tag % 32 = 1 := by omega
 refine JG.retag (x := 5) (by omega) (by rw [e1]; rfl) (fun c l st sm hp => by rw [e1] at hp; exact hp.bump (by omega)) (by omega) ?_
 have H5 := H1.tell hg.here (y := 5) hg.one
 rw [hb,← htw] at H5
 rw [one_of hl,ptr_arg (hr 0),hb,enter_at _ hf (c := Go.ConcR.Gen.body_wait wgLink) rfl]
 refine wait_walk wgLib hty (hg.set (y := 5) (by omega)) H5 hlv fun w' ft' H' => hc (.tuple ⟨[]⟩) _ ρ w' ft' _ hK ?_ (Env.upto_refl _ _) (by rw [List.length_set]; exact Nat.le_refl _) (.inr ⟨by simp [VOk,AOk,LOk],rfl⟩)
 rw [List.set_set] at H'
 exact H'
end
section
variable {P : Program} {W0 : World} {Post : Value → World → Prop} {g : Goroutine} {w : World} {ft : Foot}
theorem J2.main (hrun : g.status = .running)
  (h : ∀ gs w₁ sl t q S,(∀ b,ft.rd b → b < w₁.heap.size) → (∀ b,ft.wr b → ft.rd b) → RelyW ft w w₁ → Base W0 w₁ → gs[0]? = some g → Leavers P t gs q → PastS S ft w₁.heap.size t → ∃ m' ops,runT P (crowd gs w₁ sl) 0 = (.next m',ops) ∧ Ends P Post m' (t ++ ops)) : J2 P W0 Post g w ft := by
 intro gs w₁ sl t q S hbd hsub hrel hbase h0 hL hP
 generalize hM : sumTo gs.size q = M
 induction M using Nat.strongRecOn generalizing gs w₁ sl t q with
 | ind M ih =>
  have haw : ∀ g ∈ gs,awake g := by
   intro x hx
   obtain ⟨i,hi,rfl⟩ := Array.mem_iff_getElem.1 hx
   rcases Nat.eq_zero_or_pos i with rfl | hpos
   ·have : gs[0] = g := by simpa [Array.getElem?_eq_getElem hi] using h0
    rw [this]; exact awake_of (.inl hrun)
   ·exact awake_of ((hL.old i _ hpos (Array.getElem?_eq_getElem hi)).status.elim .inl fun x => .inr (.inr x))
  obtain ⟨i,x,d,sl',hi,hg,hst⟩ := crowd_pick (P := P) (w := w₁) (sl := sl) haw ⟨0,g,h0,hrun⟩
  rcases Nat.eq_zero_or_pos i with rfl | hpos
  ·obtain ⟨m',ops,hr,he⟩ := h gs (w₁.at d) sl' t q S hbd hsub (hrel.trans (relyW_at ft w₁ d)) ⟨hbase.tape,hbase.os,hbase.output,hbase.size⟩ h0 hL hP
   exact Ends.next (hst.trans hr) he
  ·have hq := hL.old i x hpos hi
   have hi0 : (i == 0) = false := by simp; omega
   have hlt : i < gs.size := (Array.getElem?_eq_some_iff.1 hi).1
   cases hqi : q i with
   | zero => rw [hqi] at hq; rw [hq.1] at hg; cases hg
   | succ k =>
    rw [hqi] at hq
    rcases hq with ⟨hf,_⟩ | ⟨_,g',es,hm,hstp,hq'⟩
    ·rw [hf] at hg; cases hg
    have hrunT := runT_crowd_go (P := P) (sl := sl') (i := i) hi (by rw [hi0]; exact hstp (w₁.at d))
    have hsz : ((gs.map (woken P x g' (w₁.at d))).setIfInBounds i g').size = gs.size := by simp
    have hsum : sumTo gs.size (upd q i k) + (k + 1) = sumTo gs.size q + k := by
     have := sumTo_upd q k id hlt
     simpa [hqi] using this
    refine Ends.next (hst.trans hrunT) (ih (sumTo gs.size (upd q i k)) (by omega) _ (w₁.at d) sl' _ (upd q i k) hbd (hrel.trans (relyW_at ft w₁ d)) ⟨hbase.tape,hbase.os,hbase.output,hbase.size⟩ ?_ ⟨fun j y hj hy => ?_,fun j hj => ?_⟩ (hP.mute (by omega) hm) (by rw [hsz]))
    ·have hne : i ≠ 0 := by omega
     rw [Array.getElem?_setIfInBounds_ne hne,Array.getElem?_map,h0]
     simp [woken_run hrun]
    ·by_cases hji : i = j
     ·subst hji
      rw [Array.getElem?_setIfInBounds_self_of_lt (by simpa using hlt)] at hy
      obtain rfl := Option.some.inj hy
      rw [upd_same,Deaf_own]
      exact hq'
     ·rw [Array.getElem?_setIfInBounds_ne hji,Array.getElem?_map] at hy
      obtain ⟨z,hz,rfl⟩ := Option.map_eq_some_iff.1 hy
      have hqj := hL.old j z hj hz
      rw [woken_quitsD hqj,upd_ne q k (Ne.symm hji),Deaf_other t hji _ (fun op hop => mem_g hop)]
      exact hqj
    ·rw [Deaf_other t (g' := i) (by simp at hj; omega) _ (fun op hop => mem_g hop)]
     exact hL.above j (by simpa using hj)
theorem J2.opens (hrun : g.status = .running)
  (h : ∀ w₁,RelyW ft w w₁ → (∀ b,ft.rd b → b < w₁.heap.size) → ∃ (G : Grp) (g' : Goroutine) (es : Array Event) (ft' : Foot),G.wg = w₁.heap.size ∧ ft.rd G.F ∧ G.fok w₁ ∧ (∀ a,a < 3 → w₁.cell? (G.cel a) = some nilS) ∧ stepG P true g w₁ = .go g' { w₁ with heap := w₁.heap.push (ConcR.wgBlock G.ty 0 0) } es ∧ (∀ e ∈ es,EvOk ft e) ∧
   (∀ b,ft'.rd b → ft.rd b ∧ b ≠ G.F) ∧ (∀ b,¬ ft'.wr b) ∧ ft'.tag = 1 + 32 * G.wg ∧ JG P W0 Post G [] g' { w₁ with heap := w₁.heap.push (ConcR.wgBlock G.ty 0 0) } ft') : J2 P W0 Post g w ft :=
 J2.main hrun fun gs w₁ sl t q S hbd hsub hrel hbase h0 hL hP => by
  obtain ⟨G,g',es,ft',hwg,hFr,hfok,hbare,hgo,hes,hfr,hfw,hft,hJ⟩ := h w₁ hrel hbd
  refine ⟨_,_,runT_crowd_go (P := P) (sl := sl) (i := 0) h0 (show stepG P (0 == 0) g w₁ = _ from hgo),?_⟩
  have hlt0 : 0 < gs.size := (Array.getElem?_eq_some_iff.1 h0).1
  generalize hw' : ({ w₁ with heap := w₁.heap.push (ConcR.wgBlock G.ty 0 0) } : World) = w' at hJ
  have hsz : w'.heap.size = w₁.heap.size + 1 := by rw [← hw']; simp
  have hP' := hP.own (fn := g.frame.fn) (pos := g.frame.place) hes hbd (B' := w'.heap.size) (by omega)
  have hdf := fun j => deaf_evs (t := t) (i := 0) (fn := g.frame.fn) (pos := g.frame.place) hes hbd j
  have hFl := hbd _ hFr
  have eF : w'.heap[G.F]? = w₁.heap[G.F]? := by
   rw [← hw']
   show (w₁.heap.push _)[G.F]? = _
   rw [Array.getElem?_push_lt hFl,Array.getElem?_eq_getElem hFl]
  have em : ft'.tag % 32 = 1 := by omega
  have nt : ∀ {j : Nat} {a : Touch},touchAt (t ++ MemOp.ofEvents 0 g.frame.fn g.frame.place es) j = some a → locBlk a.loc ≠ some G.wg := fun {j a} ha e => by
   rcases touch_app ha with ⟨_,h⟩ | ⟨op,hop,_,h⟩
   ·obtain ⟨z,hz,hza⟩ := touch_of h
    have := touch_low (hP.past.seen z (Array.mem_of_getElem? hz)) hza e
    omega
   ·obtain ⟨ev,hev,rfl⟩ := Go.Conc.mem_ofEvents hop
    obtain ⟨bl,e1,e2,_⟩ := evOk_touch (hes ev hev) h
    rw [e1] at e
    cases e
    have := hbd _ e2
    omega
  have hsize : ((gs.map (woken P g g' w')).setIfInBounds 0 g').size = gs.size := by simp
  have cnt0 : cntW (fun _ => WkS.none) gs.size = 0 := by
   unfold cntW
   rw [List.countP_eq_zero]
   intro i _
   show ¬ (WkS.cnt .none = true)
   decide
  refine hJ _ w' sl _ (fun _ => 0) q (fun _ => .none) S ⟨fun _ _ => rfl,Nat.le_refl _,rfl,rfl,rfl⟩ (moved_own h0) { base := ?_,lt := fun b hb => by have := hbd b (hfr b hb).1; omega,sub := fun b hb => absurd hb (hfw b),nwg := fun hr => by have := hbd _ (hfr _ hr).1; omega,nans := fun hr => (hfr _ hr).2 rfl,ne := by omega,tagw := by omega,k3 := fun a ha => (by cases ha),few := fun i a h => (by cases h),all := fun a ha => (by cases ha),inj := fun i j a h => (by cases h),in_ := fun i h => absurd rfl h,zero := rfl,grp := ⟨0,0,none,?_,?_,fun i _ h => ?_,fun i s h => (by cases h)⟩,hears := ?_,wk := fun i => trivial,sep := fun i j fi fj _ h => (by cases h),old := fun j y hj hy _ => ?_,above := fun j hj => ?_,clean := hP'.past.clean,known := fun j a ha hm => ?_,done := fun j a ha hm => ?_,over := fun j x h1 h2 h3 => .inl (hP'.past.over j x h1 h2 h3),quiet := fun j a ha e => absurd e (nt ha),ftouch := fun j a ha hb => .inl ⟨?_,fun i h => absurd rfl h⟩,late := fun i _ _ h => absurd rfl h,seen := hP'.past.seen,shun := fun b hS => ⟨fun hr => (hP.shun b hS).1 (hfr b hr).1,by have := (hP.shun b hS).2; omega,by have := (hP.shun b hS).2; omega,fun e => (hP.shun b hS).1 (e ▸ hFr)⟩,norel := fun a ha => ?_,acq := fun h => by omega,fok := fok_of_block hfok eF,bare := fun a ha _ => (cel_of_block eF a).trans (hbare a ha) }
  ·rw [← hw']
   exact ⟨hbase.tape,hbase.os,hbase.output,Nat.le_trans hbase.size (by simp)⟩
  ·unfold Grp.at_ WgAt
   rw [← hw',hwg]
   simp
  ·rw [em,hsize,cnt0]
   exact (Phase.idle (c := 0) (.inl rfl) (by decide)).num (by decide)
  ·have : (9 : Nat) ≤ 4 := h
   omega
  ·rw [hdf,hP.past.hears,em]
   rfl
  ·obtain ⟨z,hz,rfl⟩ := moved_get (by omega) hy
   have := hL.old j z hj hz
   rw [woken_quitsD this,hdf]
   exact this
  ·rw [hdf]
   exact hL.above j (by simpa using hj)
  ·rcases hP'.past.known j a ha hm with hk | ⟨⟨b,e1,e2⟩,_⟩
   ·exact .inl hk
   ·refine .inr fun b' hb' => ?_
    rw [e1] at hb'
    cases hb'
    exact ⟨fun hw => absurd hw (hfw _),fun _ hr => (hP.shun _ e2).1 (hfr _ hr).1⟩
  ·exact (hP'.past.known j a ha hm).imp id .inr
  ·have hm : a.loc.isMemory = true := by
    cases hl : a.loc <;> rw [hl] at hb <;> first | rfl | cases hb
   rcases hP'.past.known j a ha hm with hk | ⟨⟨b,e1,e2⟩,_⟩
   ·exact hk
   ·rw [hb] at e1
    exact absurd ((Option.some.inj e1) ▸ hFr) (hP.shun _ e2).1
  ·refine NoRelease.app ?_ (ok_norel hes a)
   rcases ha with ha | ha | ha
   ·exact hP.norel a (hfr _ ha).1
   ·exact norel_fresh hP.past.seen (by omega)
   ·exact hP.norel a (by rw [ha]; exact hFr)
end
end Go.Proofs.Yteoenhhmcpipoaa
namespace Go.Proofs.Yteoenhhmcpipoaa
open Go.Conc
open Classical in
noncomputable def keepG (w : World) (ft : Foot) (F : Nat) : Frm := ⟨fun b => if ft.rd b ∧ b ≠ F then w.heap[b]? else none,fun _ => False⟩
def noFrm : Frm := ⟨fun _ => none,fun _ => False⟩
def lentA (h : List AObj) (fI : Nat) : List AObj := (frz h).set fI .dead
theorem snoc_get {α : Type} {l : List α} {x y : α} {i : Nat} (e : (l ++ [x])[i]? = some y) : (i = l.length ∧ y = x) ∨ l[i]? = some y := by
 rw [List.getElem?_append] at e
 split at e
 ·exact .inr e
 ·rename_i hge
  have hl := (List.getElem?_eq_some_iff.1 e).1
  simp at hl
  have h0 : i - l.length = 0 := by omega
  rw [h0] at e
  simp at e
  exact .inl ⟨by omega,e.symm⟩
def deads (n : Nat) : List AObj := List.replicate n .dead
def footA (ft : Foot) (F : Nat) : Foot := ⟨fun b => ft.rd b ∧ b ≠ F,fun _ => False,ft.tag⟩
def readF (ft : Foot) (x : Nat) : Foot := ⟨ft.rd,fun _ => False,x⟩
section
variable {ρ ρ' : Env} {h h' g : List AObj} {FC FC' : Frm} {w w' : World} {ft ft' : Foot} {fI : Nat}
theorem frz_group {o : AObj} {z : Nat} : frzO o ≠ .group z := fun e => by cases o <;> cases e
theorem HRel.less (H : HRel ρ h FC w ft) (hlen : h'.length = h.length)
  (hg : ∀ i o,h'[i]? = some o → o = .dead ∨ (∃ x,o = .group x ∧ ft'.tag = x + 32 * ρ.blk i) ∨ ∃ y,h[i]? = some y ∧ o = frzO y ∧ (o.live = true → ft'.rd (ρ.blk i)))
  (hr : ∀ b,ft'.rd b → ft.rd b) (hw : ∀ b,¬ ft'.wr b) (hF : ∀ b o,FC'.ob b = some o → w.heap[b]? = some o ∧ ft'.rd b) (hFw : ∀ b,¬ FC'.wr b) : HRel ρ h' FC' w ft' := by
 have lv : ∀ {i : Nat} {o : AObj},h'[i]? = some o → o.live = true → ∃ y,h[i]? = some y ∧ o = frzO y ∧ ft'.rd (ρ.blk i) := fun {i o} hi l => by
  rcases hg i o hi with rfl | ⟨x,rfl,_⟩ | ⟨y,hy,rfl,hrd⟩
  ·cases l
  ·cases l
  ·exact ⟨y,hy,rfl,hrd l⟩
 have nw : ∀ {i : Nat} {o : AObj},h'[i]? = some o → o.wrt = true → False := fun {i o} hi l => by
  rcases hg i o hi with rfl | ⟨x,rfl,_⟩ | ⟨y,hy,rfl,hrd⟩
  ·cases l
  ·cases l
  ·rw [frz_wrt] at l
   cases l
 refine ⟨fun i o hi => ?_,fun i j o o' hi hj l l' e => ?_,fun i o hi l => ?_,fun i o hi l => (nw hi l).elim,fun b hb => H.lt b (hr b hb),fun b hb => absurd hb (hw b),fun b o hb => ?_,fun b hb => absurd hb (hFw b),fun i x hi => ?_⟩
 ·rw [hlen]
  rcases hg i o hi with rfl | ⟨x,rfl,_⟩ | ⟨y,hy,rfl,_⟩
  ·trivial
  ·trivial
  ·exact frz_orel (H.obj i y hy)
 ·obtain ⟨y,hy,rfl,_⟩ := lv hi l
  obtain ⟨y',hy',rfl,_⟩ := lv hj l'
  exact H.inj i j y y' hy hy' (frz_live l).1 (frz_live l').1 e
 ·obtain ⟨y,hy,rfl,hrd⟩ := lv hi l
  exact hrd
 ·obtain ⟨a1,a2⟩ := hF b o hb
  exact ⟨a1,a2,fun a oa ha l => (nw ha l).elim⟩
 ·rcases hg i _ hi with e | ⟨y,e,ht⟩ | ⟨y,hy,e,_⟩
  ·cases e
  ·cases e
   exact ht
  ·exact absurd e.symm frz_group
theorem lentA_len : (lentA h fI).length = h.length := by simp [lentA,frz_len]
theorem lentA_get {i : Nat} {o : AObj} (e : (lentA h fI)[i]? = some o) : (i = fI ∧ o = .dead) ∨ (i ≠ fI ∧ ∃ y,h[i]? = some y ∧ frzO y = o) := by
 unfold lentA at e
 rcases set_get e with ⟨rfl,rfl,_⟩ | ⟨h1,e⟩
 ·exact .inl ⟨rfl,rfl⟩
 ·exact .inr ⟨h1,frz_get e⟩
theorem lentA_wrt {i : Nat} {o : AObj} (e : (lentA h fI)[i]? = some o) : o.wrt = false ∧ (∀ z,o ≠ .group z) ∧ frzO o = o := by
 rcases lentA_get e with ⟨_,rfl⟩ | ⟨_,y,_,rfl⟩
 ·exact ⟨rfl,(fun z e => by cases e),rfl⟩
 ·refine ⟨frz_wrt y,fun z => frz_group,?_⟩
  cases y <;> rfl
theorem lentA_rel (H : HRel ρ h FC w ft) {cs : List Value} {wr : Bool} {sz : Nat} (hf : h[fI]? = some (.cells cs wr sz)) : HRel ρ (lentA h fI) (keepG w ft (ρ.blk fI)) w (footA ft (ρ.blk fI)) := by
 refine H.less lentA_len (fun i o hi => ?_) (fun b hb => hb.1) (fun b hb => hb) (fun b o hb => ?_) fun b hb => hb
 ·rcases lentA_get hi with ⟨_,rfl⟩ | ⟨hn,y,hy,rfl⟩
  ·exact .inl rfl
  ·exact .inr (.inr ⟨y,hy,rfl,fun l => ⟨H.rd i y hy (frz_live l).1,fun e => hn (H.inj _ _ _ _ hy hf (frz_live l).1 rfl e)⟩⟩)
 ·unfold keepG at hb
  simp only at hb
  split at hb
  ·rename_i hc
   exact ⟨hb,hc⟩
  ·cases hb
theorem app3_get {A B : List AObj} {x o : AObj} {i : Nat} (e : (A ++ [x] ++ B)[i]? = some o) : A[i]? = some o ∨ (i = A.length ∧ o = x) ∨ (A.length < i ∧ B[i - (A.length + 1)]? = some o) := by
 rw [List.getElem?_append] at e
 split at e
 ·rcases snoc_get e with h | h
  ·exact .inr (.inl h)
  ·exact .inl h
 ·rename_i hge
  simp only [List.length_append,List.length_singleton] at hge e
  exact .inr (.inr ⟨by omega,e⟩)
theorem hired_rel {A B : List AObj} {x y : Nat} (H : HRel ρ (A ++ [.group x] ++ B) FC w ft) (hA : ∀ o ∈ A,o.wrt = false ∧ (∀ z,o ≠ .group z) ∧ frzO o = o) (hFw : ∀ b,¬ FC.wr b) {x' : Nat} (hx : x' + y = ft.tag) (hy : y ≤ x) : HRel ρ (A ++ [.group (x - y)] ++ deads B.length) FC w (readF ft x') := by
 have hp : (A ++ [AObj.group x] ++ B)[A.length]? = some (.group x) := by
  rw [List.append_assoc,List.getElem?_append_right (Nat.le_refl _)]
  simp
 have htag := H.tag _ _ hp
 refine H.less (by simp [deads]) (fun i o hi => ?_) (fun b hb => hb) (fun b hb => hb) (fun b o hb => ⟨(H.kept b o hb).1,(H.kept b o hb).2.1⟩) hFw
 rcases app3_get hi with hi' | ⟨rfl,rfl⟩ | ⟨_,hi'⟩
 ·have hlt := (List.getElem?_eq_some_iff.1 hi').1
  have hi2 : (A ++ [AObj.group x] ++ B)[i]? = some o := by
   rw [List.append_assoc,List.getElem?_append_left hlt]
   exact hi'
  exact .inr (.inr ⟨o,hi2,((hA o (List.mem_of_getElem? hi')).2.2).symm,fun l => H.rd i o hi2 l⟩)
 ·exact .inr (.inl ⟨_,rfl,by show x' = _; omega⟩)
 ·left
  have := List.mem_of_getElem? hi'
  exact (List.mem_replicate.1 this).2
theorem read_rel (H : HRel ρ h FC w ft) : HRel ρ (frz h) noFrm w (readF ft 0) := by
 refine H.less frz_len (fun i o hi => ?_) (fun b hb => hb) (fun b hb => hb) (fun b o hb => (by cases hb)) fun b hb => hb
 obtain ⟨y,hy,rfl⟩ := frz_get hi
 exact .inr (.inr ⟨y,hy,rfl,fun l => H.rd i y hy (frz_live l).1⟩)
def thawB (h g : List AObj) (fI : Nat) : List AObj := (unch h).set fI .dead ++ [.dead] ++ g
def joinE (ft ft' : Foot) (E : Nat → Prop) : Foot := ⟨fun b => ft'.rd b ∨ E b,fun b => ft.wr b ∨ ft'.wr b,0⟩
theorem thawB_len : (thawB h g fI).length = h.length + 1 + g.length := by
 simp [thawB,unch_len]
 omega
theorem thawB_get {i : Nat} {y : AObj} (e : (thawB h g fI)[i]? = some y) : (i < h.length ∧ y = .dead) ∨ (i < h.length ∧ i ≠ fI ∧ ∃ z,h[i]? = some z ∧ unchO z = y) ∨ y = .dead ∨ (h.length < i ∧ g[i - (h.length + 1)]? = some y) := by
 unfold thawB at e
 rcases app3_get e with e | ⟨_,e⟩ | ⟨h1,e⟩
 ·have hlt := (List.getElem?_eq_some_iff.1 e).1
  rw [List.length_set,unch_len] at hlt
  rcases set_get e with ⟨rfl,rfl,_⟩ | ⟨h1,e⟩
  ·exact .inl ⟨hlt,rfl⟩
  ·unfold unch at e
   rw [List.getElem?_map] at e
   obtain ⟨z,hz,ez⟩ := Option.map_eq_some_iff.1 e
   exact .inr (.inl ⟨hlt,h1,z,hz,ez⟩)
 ·exact .inr (.inr (.inl e))
 ·rw [List.length_set,unch_len] at h1 e
  exact .inr (.inr (.inr ⟨h1,e⟩))
theorem thawB_rel (H : HRel ρ h FC w ft) {cs : List Value} (hf : h[fI]? = some (.cells cs true 0)) {x : Nat} (H' : HRel ρ' (lentA h fI ++ [.group x] ++ g) (keepG w ft (ρ.blk fI)) w' ft') (hu : Env.upto h.length ρ ρ') (hgl : ∀ o ∈ g,o.live = true → o.wrt = true) (hng : ∀ z,.group z ∉ g)
  {E : Nat → Prop} (hEF : E (ρ.blk fI)) (hEl : ∀ b,E b → b < w'.heap.size) : HRel ρ' (thawB h g fI) FC w' (joinE ft ft' E) ∧ ∀ (i : Nat) (y : AObj),(thawB h g fI)[i]? = some y → y.live = true → ft'.rd (ρ'.blk i) := by
 have hlM : (lentA h fI ++ [AObj.group x] ++ g).length = h.length + 1 + g.length := by
  simp [lentA_len]
  omega
 have hfl : fI < h.length := (List.getElem?_eq_some_iff.1 hf).1
 have stay : ∀ b,ft.rd b → b ≠ ρ.blk fI → w'.heap[b]? = w.heap[b]? ∧ ft'.rd b ∧ ∀ (a : Nat) (oa : AObj),(lentA h fI ++ [AObj.group x] ++ g)[a]? = some oa → oa.wrt = true → ρ'.blk a ≠ b := fun b hr hc => by
  have hlt := H.lt b hr
  have := H'.kept b w.heap[b] (by unfold keepG; simp only; rw [if_pos ⟨hr,hc⟩,Array.getElem?_eq_getElem hlt])
  exact ⟨by rw [this.1,Array.getElem?_eq_getElem hlt],this.2⟩
 have live : ∀ {y : AObj},(unchO y).live = true → y.live = true ∧ unchO y = y := fun {y} l => by
  cases y <;> first | (cases l; done) | exact ⟨rfl,rfl⟩
 have wlive : ∀ {y : AObj},y.wrt = true → y.live = true := fun {y} l => by cases y <;> first | (cases l; done) | rfl
 have ne : ∀ {i : Nat} {y : AObj},h[i]? = some y → y.live = true → i ≠ fI → ρ.blk i ≠ ρ.blk fI := fun hy l hn e => hn (H.inj _ _ _ _ hy hf l rfl e)
 have gM : ∀ {i : Nat} {y : AObj},h.length < i → g[i - (h.length + 1)]? = some y → (lentA h fI ++ [AObj.group x] ++ g)[i]? = some y := fun hge hy => by
  rw [List.getElem?_append_right (by simp [lentA_len]; omega)]
  simpa [lentA_len] using hy
 -- a live block, in the first one's own words
 have inM : ∀ {i : Nat} {y : AObj},(thawB h g fI)[i]? = some y → y.live = true → (i < h.length ∧ i ≠ fI ∧ h[i]? = some y) ∨ (h.length < i ∧ (lentA h fI ++ [AObj.group x] ++ g)[i]? = some y ∧ y.wrt = true) := fun {i y} hy l => by
  rcases thawB_get hy with ⟨_,rfl⟩ | ⟨hlt,hn,z,hz,rfl⟩ | rfl | ⟨hge,hgy⟩
  ·cases l
  ·exact .inl ⟨hlt,hn,by rw [(live l).2]; exact hz⟩
  ·cases l
  ·exact .inr ⟨hge,gM hge hgy,hgl y (List.mem_of_getElem? hgy) l⟩
 have hsub : ∀ b,(joinE ft ft' E).wr b → (joinE ft ft' E).rd b := fun b hb => by
  rcases hb with hb | hb
  ·by_cases e : b = ρ.blk fI
   ·exact .inr (e ▸ hEF)
   ·exact .inl (stay b (H.sub b hb) e).2.1
  ·exact .inl (H'.sub b hb)
 have hrd : ∀ (i : Nat) (y : AObj),(thawB h g fI)[i]? = some y → y.live = true → ft'.rd (ρ'.blk i) := fun i y hi l => by
  rcases inM hi l with ⟨h1,n1,hy⟩ | ⟨h1,hy,yw⟩
  ·rw [(hu i h1).1]
   exact (stay _ (H.rd i _ hy l) (ne hy l n1)).2.1
  ·exact H'.rd i y hy l
 refine ⟨⟨fun i y hi => ?_,fun i j y z hi hj l l' e => ?_,fun i y hi l => .inl (hrd i y hi l),fun i y hi l => ?_,fun b hb => hb.elim (H'.lt b) (hEl b),hsub,fun b ob hb => ?_,fun b hb => .inl (H.keptW b hb),fun i z hi => ?_⟩,hrd⟩
 ·rw [thawB_len]
  by_cases l : y.live = true
  ·rcases inM hi l with ⟨hlt,hn,hy⟩ | ⟨hge,hy,_⟩
   ·rw [(hu i hlt).1,(stay _ (H.rd i y hy l) (ne hy l hn)).1]
    exact (H.obj i y hy).congr hu (by omega) hlt
   ·have := H'.obj i y hy
    rw [hlM] at this
    exact this
  ·cases y <;> first | trivial | exact absurd rfl l
 ·rcases inM hi l with ⟨h1,n1,hy⟩ | ⟨h1,hy,yw⟩ <;> rcases inM hj l' with ⟨h2,n2,hz⟩ | ⟨h2,hz,zw⟩
  ·rw [(hu i h1).1,(hu j h2).1] at e
   exact H.inj i j _ _ hy hz l l' e
  ·exfalso
   rw [(hu i h1).1] at e
   exact (stay _ (H.rd i _ hy l) (ne hy l n1)).2.2 j z hz zw e.symm
  ·exfalso
   rw [(hu j h2).1] at e
   exact (stay _ (H.rd j _ hz l') (ne hz l' n2)).2.2 i y hy yw e
  ·exact H'.inj i j y z hy hz l l' e
 ·rcases inM hi (wlive l) with ⟨h1,n1,hy⟩ | ⟨h1,hy,yw⟩
  ·rw [(hu i h1).1]
   exact .inl (H.wr i y hy l)
  ·exact .inr (H'.wr i y hy l)
 ·obtain ⟨a1,a2,a3⟩ := H.kept b ob hb
  have hbF : b ≠ ρ.blk fI := fun e => a3 fI _ hf rfl e.symm
  obtain ⟨s1,s2,s3⟩ := stay b a2 hbF
  refine ⟨by rw [s1]; exact a1,.inl s2,fun i y hi l => ?_⟩
  rcases inM hi (wlive l) with ⟨h1,n1,hy⟩ | ⟨h1,hy,yw⟩
  ·rw [(hu i h1).1]
   exact a3 i y hy l
  ·exact s3 i y hy l
 ·rcases thawB_get hi with ⟨_,e⟩ | ⟨hlt,hn,y,hy,e⟩ | e | ⟨hge,hgy⟩
  ·cases e
  ·cases y <;> cases e
  ·cases e
  ·exact absurd (List.mem_of_getElem? hgy) (hng z)
theorem HRel.snocDead (H : HRel ρ h FC w ft) (R κ : Nat) : HRel (ρ.put h.length R κ) (h ++ [.dead]) FC w ft := by
 have hup := Env.put_upto ρ h.length R κ
 have old : ∀ {i o},(h ++ [AObj.dead])[i]? = some o → o.live = true → h[i]? = some o ∧ i < h.length := fun {i o} hi l => by
  rcases snoc_get hi with ⟨_,rfl⟩ | hi
  ·cases l
  ·exact ⟨hi,(List.getElem?_eq_some_iff.1 hi).1⟩
 have wlive : ∀ {y : AObj},y.wrt = true → y.live = true := fun {y} l => by cases y <;> first | (cases l; done) | rfl
 refine ⟨fun i o hi => ?_,fun i j o o' hi hj l l' e => ?_,fun i o hi l => ?_,fun i o hi l => ?_,H.lt,H.sub,fun b o hb => ?_,H.keptW,fun i x hi => ?_⟩
 ·by_cases l : o.live = true
  ·obtain ⟨hi,hlt⟩ := old hi l
   rw [(hup i hlt).1]
   exact (H.obj i o hi).congr hup (by simp) hlt
  ·cases o <;> first | trivial | exact absurd rfl l
 ·obtain ⟨hi,h1⟩ := old hi l
  obtain ⟨hj,h2⟩ := old hj l'
  rw [(hup i h1).1,(hup j h2).1] at e
  exact H.inj i j o o' hi hj l l' e
 ·obtain ⟨hi,h1⟩ := old hi l
  rw [(hup i h1).1]
  exact H.rd i o hi l
 ·obtain ⟨hi,h1⟩ := old hi (wlive l)
  rw [(hup i h1).1]
  exact H.wr i o hi l
 ·obtain ⟨a1,a2,a3⟩ := H.kept b o hb
  refine ⟨a1,a2,fun i y hi l => ?_⟩
  obtain ⟨hi,h1⟩ := old hi (wlive l)
  rw [(hup i h1).1]
  exact a3 i y hi l
 ·rcases snoc_get hi with ⟨_,e⟩ | hi
  ·cases e
  ·rw [(hup i (List.getElem?_eq_some_iff.1 hi).1).1]
   exact H.tag i x hi
theorem HRel.tellO (H : HRel ρ h FC w ft) {d : Nat} (hd : h[d]? = some .dead) {o : AObj} (hw : o.wrt = false) (hng : ∀ z,o ≠ .group z) (ho : ORel h.length ρ d o w.heap[ρ.blk d]?) (hrd : o.live = true → ft.rd (ρ.blk d)) (hinj : o.live = true → ∀ j y,h[j]? = some y → y.live = true → ρ.blk j ≠ ρ.blk d) : HRel ρ (h.set d o) FC w ft := by
 refine ⟨fun i y hi => ?_,fun i j y z hi hj l l' e => ?_,fun i y hi l => ?_,fun i y hi l => ?_,H.lt,H.sub,fun b ob hb => ?_,H.keptW,fun i x hi => ?_⟩
 ·rw [List.length_set]
  rcases set_get hi with ⟨rfl,rfl,_⟩ | ⟨_,hi⟩
  ·exact ho
  ·exact H.obj i y hi
 ·rcases set_get hi with ⟨rfl,rfl,_⟩ | ⟨_,hi'⟩ <;> rcases set_get hj with ⟨rfl,rfl,_⟩ | ⟨_,hj'⟩
  ·rfl
  ·exact absurd e.symm (hinj l j z hj' l')
  ·exact absurd e (hinj l' i y hi' l)
  ·exact H.inj i j y z hi' hj' l l' e
 ·rcases set_get hi with ⟨rfl,rfl,_⟩ | ⟨_,hi⟩
  ·exact hrd l
  ·exact H.rd i y hi l
 ·rcases set_get hi with ⟨rfl,rfl,_⟩ | ⟨_,hi⟩
  ·rw [hw] at l
   cases l
  ·exact H.wr i y hi l
 ·obtain ⟨a1,a2,a3⟩ := H.kept b ob hb
  refine ⟨a1,a2,fun i y hi l => ?_⟩
  rcases set_get hi with ⟨rfl,rfl,_⟩ | ⟨_,hi⟩
  ·rw [hw] at l
   cases l
  ·exact a3 i y hi l
 ·rcases set_get hi with ⟨rfl,e,_⟩ | ⟨_,hi⟩
  ·exact absurd e.symm (hng x)
  ·exact H.tag i x hi
theorem HRel.snocO (H : HRel ρ h FC w ft) {o : AObj} {R κ : Nat} (hw : o.wrt = false) (hng : ∀ z,o ≠ .group z) (ho : ORel (h.length + 1) (ρ.put h.length R κ) h.length o w.heap[R]?) (hrd : o.live = true → ft.rd R) (hinj : o.live = true → ∀ j y,h[j]? = some y → y.live = true → ρ.blk j ≠ R) : HRel (ρ.put h.length R κ) (h ++ [o]) FC w ft := by
 have hup := Env.put_upto ρ h.length R κ
 have hs := (Env.put_self ρ h.length R κ).1
 have T := (H.snocDead R κ).tellO (d := h.length) (by simp) hw hng (by rw [hs]; simpa using ho) (fun l => by rw [hs]; exact hrd l) fun l j y hj ly => by
  rcases snoc_get hj with ⟨_,rfl⟩ | hj
  ·cases ly
  ·rw [hs,(hup j (List.getElem?_eq_some_iff.1 hj).1).1]
   exact hinj l j y hj ly
 simpa using T
end
section
variable {ρ ρ' : Env} {h : List AObj} {FC : Frm} {w w' : World} {ft : Foot}
theorem HRel.group (H : HRel ρ h FC w ft) (hno : ∀ (q z : Nat),h[q]? ≠ some (.group z)) (x : Obj) (κ : Nat) : HRel (ρ.put h.length w.heap.size κ) (h ++ [.group 1]) FC { w with heap := w.heap.push x } { ft with tag := 1 + 32 * w.heap.size } := by
 have hup := Env.put_upto ρ h.length w.heap.size κ
 have hold : ∀ {i oi},h[i]? = some oi → (ρ.put h.length w.heap.size κ).blk i = ρ.blk i := fun {i oi} hi => (hup i (List.getElem?_eq_some_iff.1 hi).1).1
 have hpush : ∀ i,i < w.heap.size → (w.heap.push x)[i]? = w.heap[i]? := fun i hi => by rw [Array.getElem?_push_lt hi,Array.getElem?_eq_getElem hi]
 have wl : ∀ {o : AObj},o.wrt = true → o.live = true := fun {o} hw => by cases o <;> first | rfl | cases hw
 refine ⟨fun i oi hi => ?_,fun i j oi oj hi hj l1 l2 e => ?_,fun i oi hi hl => ?_,fun i oi hi hl => ?_,fun y hy => ?_,fun y hy => H.sub y hy,fun y oy hy => ?_,fun y hy => H.keptW y hy,fun i y hi => ?_⟩
 ·rw [List.length_append]
  rcases snoc_get hi with ⟨rfl,rfl⟩ | hi
  ·trivial
  ·rw [hold hi]
   by_cases hl : oi.live = true
   ·show ORel _ _ _ _ (w.heap.push x)[ρ.blk i]?
    rw [hpush _ (H.live_lt hi hl)]
    exact (H.obj i oi hi).congr hup (by simp) (List.getElem?_eq_some_iff.1 hi).1
   ·cases oi <;> first | trivial | exact absurd rfl hl
 ·rcases snoc_get hi with ⟨_,rfl⟩ | hi
  ·cases l1
  ·rcases snoc_get hj with ⟨_,rfl⟩ | hj
   ·cases l2
   ·rw [hold hi,hold hj] at e
    exact H.inj i j oi oj hi hj l1 l2 e
 ·rcases snoc_get hi with ⟨_,rfl⟩ | hi
  ·cases hl
  ·rw [hold hi]
   exact H.rd i oi hi hl
 ·rcases snoc_get hi with ⟨_,rfl⟩ | hi
  ·cases hl
  ·rw [hold hi]
   exact H.wr i oi hi hl
 ·have := H.lt y hy
  show y < (w.heap.push x).size
  simp
  omega
 ·obtain ⟨a1,a2,a3⟩ := H.kept y oy hy
  refine ⟨?_,a2,fun a oa ha hw => ?_⟩
  ·show (w.heap.push x)[y]? = _
   rw [hpush y (H.lt y a2)]
   exact a1
  ·rcases snoc_get ha with ⟨_,rfl⟩ | ha
   ·cases hw
   ·rw [hold ha]
    exact a3 a oa ha hw
 ·rcases snoc_get hi with ⟨rfl,e⟩ | hi
  ·cases e
   rw [(Env.put_self ρ h.length w.heap.size κ).1]
  ·exact absurd hi (hno i y)
end
section
variable {P : Program} {W0 : World} {Post : Value → World → Prop} {G : Grp} {N m : Nat} {b : FB} {cs : List Frame} {FC : Frm} {ρ0 : Env} {K : List Item} {f : RG} {h : List AObj} {ops : Array Oper} {i : Nat} {rest : List Nat} {o : Oper} {k : List Nat}
theorem At.group (hk : b.kind ≠ .early) (ho : ops[i]? = some o) (hd : dstOk N o = true) (hg : gd ops o f.r = some true) {t : TypeId} (hop : o.op = .alloc t) {ti : TypeInfo} (hi : P.info? t = some ti) {z : Value} (hz : ti.zero = some z) (hzc : z.cells = #[.int .u64 0,.int .u32 0])
  {fI ph : Nat} (hf : h[fI]? = some (.cells [nilS,nilS,nilS] true 0)) (hph : ph < h.length) (R : Nat → Option (List Int))
  (hJ : ∀ (ρ : Env) (w : World) (ft : Foot) (ρ1 : Env) (G : Grp),HRel ρ h FC w ft → Env.upto m ρ0 ρ → Env.upto h.length ρ ρ1 → G.ty = t → G.R = R → G.C = ρ1.blk ph → G.F = ρ1.blk fI → ρ1.blk h.length = G.wg →
   At (JG P W0 Post G []) N b cs (keepG w ft (ρ.blk fI)) ρ1 (h.length + 1) (.inRegion ops rest :: K) (f.putO o.dst (ptr h.length 0)) (lentA h fI ++ [.group 1])) :
  At (J2 P W0 Post) N b cs FC ρ0 m (.inRegion ops (i :: rest) :: K) f h := by
 intro a ρ w ft A H hu hm
 refine J2.opens rfl fun w₁ h₁ _ => ?_
 have H₁ := H.rely h₁
 have hw := gd_wanted A hg
 have hnd : ∀ c,o.op ≠ .defer c := fun c e => by rw [hop] at e; cases e
 have hk' : (b.kind == CallKind.early) = false := by simpa using hk
 have hr : (execOp a.eval o).runT P w₁ #[] = (.ok (.value (.pointer (some ⟨w₁.heap.size,0,none⟩))) { w₁ with heap := w₁.heap.push (.cells z.cells t) },#[]) := by
  have hrun : RunsTo P (fun _ => False) (execOp a.eval o) w₁ fun nx w' => nx = .value (.pointer (some ⟨w₁.heap.size,0,none⟩)) ∧ w' = { w₁ with heap := w₁.heap.push (.cells z.cells t) } := by
   unfold execOp
   rw [hop]
   simp only [Instr.alloc]
   refine RunsTo.bind (RunsTo.bind (RunsTo.zeroValue hi hz ?_))
   unfold newVar newRow
   exact RunsTo.bind (RunsTo.bind (RunsTo.new (RunsTo.pure (RunsTo.pure (RunsTo.pure ⟨rfl,rfl⟩)))))
  obtain ⟨v,w',hr,rfl,rfl⟩ := quiet_run hrun
  exact hr
 have hfl := (List.getElem?_eq_some_iff.1 hf).1
 have hcell : ∀ a,a < 3 → w₁.cell? ⟨ρ.blk fI,a,none⟩ = some nilS := fun a ha => by
  have hv : ([nilS,nilS,nilS] : List Value)[a]? = some nilS := by
   match a,ha with
   | 0,_ => rfl
   | 1,_ => rfl
   | 2,_ => rfl
  have := (H₁.cell hf hv (.inl rfl)).1
  simpa [nilS,ren] using this
 have hfok : ∃ cs ty fr,w₁.heap[ρ.blk fI]? = some (.cells cs ty fr) ∧ cs.size = 3 ∧ ∀ a,a < 3 → w₁.frozen? ⟨ρ.blk fI,a,none⟩ = false := by
  have ho := H₁.obj fI _ hf
  match hx : w₁.heap[ρ.blk fI]?,ho with
  | some (.cells c' ty fr),ho => exact ⟨c',ty,fr,rfl,ho.2.1 rfl,fun a _ => H₁.frozen hf⟩
 refine ⟨⟨t,w₁.heap.size,ρ.blk ph,ρ.blk fI,R⟩,G (b.at (a.put o.dst (.pointer (some ⟨w₁.heap.size,0,none⟩))) (.inRegion ops rest :: K)) cs,#[],⟨fun b => ft.rd b ∧ b ≠ ρ.blk fI,fun _ => False,1 + 32 * w₁.heap.size⟩,rfl,H₁.rd fI _ hf rfl,hfok,hcell,?_,by simp,fun b hb => hb,fun b hb => hb,rfl,?_⟩
 ·have hf := FB.finish_at b a ops i rest K (.pointer (some ⟨w₁.heap.size,0,none⟩))
  rw [ho] at hf
  simp only [Option.bind_some] at hf
  rw [stepG_op ho hw hnd,← hf]
  simp only [stepG.apply,hr,if_true]
  simp [FB.at,hk',GStep.after,Go.Conc.G,seen,ConcR.wgBlock,hzc]
 ·have hup := Env.put_upto ρ h.length w₁.heap.size 0
  have hs := (Env.put_self ρ h.length w₁.heap.size 0).1
  have hL := lentA_rel H₁ hf
  have hno' : ∀ (q z : Nat),(lentA h fI)[q]? ≠ some (.group z) := fun q z e => (lentA_wrt e).2.1 z rfl
  have T := hL.group hno' (.cells z.cells t) 0
  rw [lentA_len] at T
  refine hJ ρ w₁ ft (ρ.put h.length w₁.heap.size 0) _ H₁ hu hup rfl rfl (hup ph hph).1.symm (hup fI hfl).1.symm hs _ _ _ _ (act_put (upto_act hup (by simp [lentA_len]) A) (dstOk_lt hd) (.inr ⟨by simp [VOk,AddrOk,lentA_len],by simp [ren,renAddr,hs]⟩)) ?_ (Env.upto_refl _ _) (by simp [lentA_len])
  rw [hzc] at T
  exact T
theorem At.hireG (hk : b.kind ≠ .early) (ho : ops[i]? = some o) (hg : gd ops o f.r = some true) {x : Operand} {ats : Array TypeId} (hop : o.op = .go { callee := .value x,args := #[],argTypes := ats }) (hdst : o.dst = none)
  {g : FuncId} {cap : List Value} (hx : ev f.r x = .func (.func g) ⟨[]⟩ ⟨cap⟩) (hcl : callable P g = true) {A B : List AObj} (hh : h = A ++ [.group 4] ++ B) (hA : ∀ o ∈ A,o.wrt = false ∧ (∀ z,o ≠ .group z) ∧ frzO o = o) (hFw : ∀ b,¬ FC.wr b) {s : Nat} (hs : s < 3) (hsk : s ∉ k)
  (hto : ∀ (ρ : Env) (w : World) (ft : Foot),HRel ρ (frz h) noFrm w ft → Env.upto m ρ0 ρ → ρ.blk A.length = G.wg → Toward P (AtDep P G s) (Go.Conc.G (Frame.enter P g ⟨cap.map (ren ρ)⟩ .deferred) [base0 P]) w ft)
  (hJ : At (JG P W0 Post G (s :: k)) N b cs FC ρ0 m (.inRegion ops rest :: K) f (A ++ [.group 1] ++ deads B.length)) :
  At (JG P W0 Post G k) N b cs FC ρ0 m (.inRegion ops (i :: rest) :: K) f h := by
 intro a ρ w ft Ac H hu hm
 subst hh
 have hp : (A ++ [AObj.group 4] ++ B)[A.length]? = some (.group 4) := by
  rw [List.append_assoc,List.getElem?_append_right (Nat.le_refl _)]
  simp
 have htag := H.tag _ _ hp
 have hlen : (A ++ [AObj.group 1] ++ deads B.length).length = (A ++ [AObj.group 4] ++ B).length := by simp [deads]
 intro gs w₁ sl t r q ws S hrel h0 I
 have hwg : ρ.blk A.length = G.wg := by
  have := I.tagw
  omega
 refine (?_ : JG P W0 Post G k (Go.Conc.G (b.at a (.inRegion ops (i :: rest) :: K)) cs) w ft) gs w₁ sl t r q ws S hrel h0 I
 clear I h0 hrel S ws q r t sl w₁ gs
 refine JG.spawn (fi := readF ft 0) (ft' := readF ft (ft.tag - 3)) rfl (by omega) hs hsk (fun b hb => hb) (fun b hb => hb) (fun b hb => hb) (fun b hb => hb) (by show ft.tag - 3 + 3 = ft.tag; omega) fun w₁ h₁ => ?_
 have H₁ := H.rely h₁
 refine ⟨_,_,stepG_go hk ho hg Ac hop hx w₁,?_,?_⟩
 ·exact born_toward rfl hcl (hto ρ w₁ _ (read_rel H₁) hu hwg)
 ·rw [show a.put o.dst undef = a by rw [hdst]; rfl]
  refine hJ a ρ w₁ _ (by rw [hlen]; exact Ac) ?_ hu (by rw [hlen]; exact hm)
  exact hired_rel (x := 4) (y := 3) H₁ hA hFw (x' := ft.tag - 3) (by omega) (by omega)
def cellO (n : Nat) : Option (List Int) → Value
 | none => nilS
 | some l => .slice (some ⟨n,0,none⟩) l.length fz
def objO : Option (List Int) → AObj
 | none => .dead
 | some l => .cells (l.map vint) false 1
def gotR (k : List Nat) (R : Nat → Option (List Int)) (a : Nat) : Option (List Int) := if a ∈ k then R a else none
def doneH (h g : List AObj) (fI : Nat) (X : Nat → Option (List Int)) : List AObj :=
 (thawB h g fI ++ [objO (X 0)] ++ [objO (X 1)] ++ [objO (X 2)]).set fI (.cells [cellO (thawB h g fI).length (X 0),cellO ((thawB h g fI).length + 1) (X 1),cellO ((thawB h g fI).length + 2) (X 2)] false 0)
theorem objO_wrt {x : Option (List Int)} : (objO x).wrt = false ∧ ∀ z,objO x ≠ .group z := by cases x <;> exact ⟨rfl,fun z e => by cases e⟩
theorem objO_live {x : Option (List Int)} (l : (objO x).live = true) : ∃ y,x = some y := by
 cases x with
 | none => cases l
 | some y => exact ⟨y,rfl⟩
theorem doneH_len {h g : List AObj} {fI : Nat} {X : Nat → Option (List Int)} : (doneH h g fI X).length = h.length + 1 + g.length + 3 := by
 simp [doneH,thawB_len]
theorem objO_rel {n : Nat} {ρ : Env} {i : Nat} {l : List Int} {ds : Array Value} {ty : TypeId} {fr : Nat × Nat} (hc : ds.size = ρ.cap i) (hl : ∀ (j : Nat) (x : Int),l[j]? = some x → ds[j]? = some (vint x)) (hle : l.length ≤ ds.size) : ORel n ρ i (objO (some l)) (some (.cells ds ty fr)) := by
 refine ⟨fun j v hv => ?_,fun h => (by cases h),fun _ => ⟨by omega,by simp; omega⟩,fun h => Bool.noConfusion h⟩
 rw [List.getElem?_map] at hv
 obtain ⟨y,hy,rfl⟩ := Option.map_eq_some_iff.1 hv
 exact .inr ⟨by simp [VOk],rfl,by rw [hl j y hy]; simp [vint,ren]⟩
theorem At.join {fI : Nat} {cl : List Value} {g : List AObj} {w1 : World} {ft1 : Foot} {ρ1 : Env} (H : HRel ρ1 h FC w1 ft1) (hf : h[fI]? = some (.cells cl true 0)) (hu1 : Env.upto h.length ρ1 ρ0) (hm0 : h.length ≤ m) (hGF : G.F = ρ1.blk fI) (hgl : ∀ o ∈ g,o.live = true → o.wrt = true) (hng : ∀ z,.group z ∉ g) {kk : List Item}
  (hJ : ∀ ρ,Env.upto h.length ρ0 ρ → At (J2 P W0 Post) N b cs FC ρ (h.length + 1 + g.length + 3) kk f (doneH h g fI (gotR k G.R))) :
  At (JG P W0 Post G k) N b cs (keepG w1 ft1 (ρ1.blk fI)) ρ0 m kk f (lentA h fI ++ [.group 12] ++ g) := by
 intro a ρ w ft A H' hu hm
 have hfl : fI < h.length := (List.getElem?_eq_some_iff.1 hf).1
 have hp : (lentA h fI ++ [AObj.group 12] ++ g)[h.length]? = some (.group 12) := by
  rw [List.append_assoc,List.getElem?_append_right (by rw [lentA_len]; exact Nat.le_refl _),lentA_len]
  simp
 have htag := H'.tag _ _ hp
 have hlen : (lentA h fI ++ [AObj.group 12] ++ g).length = h.length + 1 + g.length := by
  simp [lentA_len]
  omega
 refine JG.last (by omega) fun w₁ ff h₁ hnw hnF hfok hphi hbare hsep hlt => ?_
 have H₁ := H'.rely h₁
 have hup1 : Env.upto h.length ρ1 ρ := Env.upto_trans hu1 (Env.upto_le hu hm0)
 have hElt : ∀ b,(b = G.F ∨ ∃ a ∈ k,(ff a).rd b) → b < w₁.heap.size := fun b hb => by
  rcases hb with rfl | ⟨a,ha,hb⟩
  ·exact fok_lt hfok
  ·exact ((hphi a ha).2.1 b hb).1
 obtain ⟨T0,hrd0⟩ := thawB_rel H hf H₁ hup1 hgl hng (E := fun b => b = G.F ∨ ∃ a ∈ k,(ff a).rd b) (.inl hGF.symm) hElt
 -- the lists
 have pick : ∀ a : Nat,∃ Bκ : Nat × Nat,∀ l,a < 3 → gotR k G.R a = some l → w₁.cell? (G.cel a) = some (.slice (some ⟨Bκ.1,0,none⟩) l.length Bκ.2) ∧ a ∈ k ∧ (ff a).rd Bκ.1 ∧ (ff a).wr Bκ.1 ∧ ∃ ds ty fr,w₁.heap[Bκ.1]? = some (.cells ds ty fr) ∧ ds.size = Bκ.2 ∧ (∀ (j : Nat) (x : Int),l[j]? = some x → ds[j]? = some (vint x)) ∧ l.length ≤ ds.size := fun a => by
  cases hx : gotR k G.R a with
  | none => exact ⟨(0,0),fun l _ h => by cases h⟩
  | some l =>
   unfold gotR at hx
   split at hx
   ·rename_i ha
    obtain ⟨⟨v,hv,hl⟩,_⟩ := hphi a ha
    rw [hx] at hl
    obtain ⟨B,c,ds,ty,fr,e1,e2,e3,e4,e5,e6,e7⟩ := hl
    refine ⟨(B,c),fun l' _ hl' => ?_⟩
    cases hl'
    exact ⟨by rw [hv,e3],ha,e1,e2,ds,ty,fr,e4,e5,e6,by omega⟩
   ·cases hx
 obtain ⟨Bκ,hB⟩ := Classical.axiomOfChoice pick
 have hnone : ∀ a,a < 3 → gotR k G.R a = none → w₁.cell? (G.cel a) = some nilS := fun a ha hx => by
  unfold gotR at hx
  split at hx
  ·rename_i hk
   obtain ⟨⟨v,hv,hl⟩,_⟩ := hphi a hk
   rw [hx] at hl
   rw [hv]
   exact congrArg some hl
  ·rename_i hk
   exact hbare a ha hk
 have obj : ∀ (a n : Nat) (ρ' : Env),a < 3 → ORel (n + 1) (ρ'.put n (Bκ a).1 (Bκ a).2) n (objO (gotR k G.R a)) w₁.heap[(Bκ a).1]? := fun a n ρ' ha => by
  cases hx : gotR k G.R a with
  | none => trivial
  | some l =>
   obtain ⟨_,_,_,_,ds,ty,fr,e4,e5,e6,e7⟩ := hB a l ha hx
   rw [e4]
   exact objO_rel (by rw [(Env.put_self _ _ _ _).2,e5]) e6 e7
 have rdE : ∀ a,a < 3 → (objO (gotR k G.R a)).live = true → (joinE ft1 ft fun b => b = G.F ∨ ∃ a ∈ k,(ff a).rd b).rd (Bκ a).1 := fun a ha l => by
  obtain ⟨y,hy⟩ := objO_live l
  obtain ⟨_,h1,h2,_⟩ := hB a y ha hy
  exact .inr (.inr ⟨a,h1,h2⟩)
 have out : ∀ a,a < 3 → (objO (gotR k G.R a)).live = true → ¬ ft.rd (Bκ a).1 ∧ (Bκ a).1 ≠ G.F := fun a ha l => by
  obtain ⟨y,hy⟩ := objO_live l
  obtain ⟨_,h1,h2,h3,_⟩ := hB a y ha hy
  exact ⟨(hphi a h1).2.2.2 _ h3,((hphi a h1).2.1 _ h2).2⟩
 have apart : ∀ a a',a < 3 → a' < 3 → a ≠ a' → (objO (gotR k G.R a)).live = true → (objO (gotR k G.R a')).live = true → (Bκ a').1 ≠ (Bκ a).1 := fun a a' ha ha' hne l l' e => by
  obtain ⟨y,hy⟩ := objO_live l
  obtain ⟨y',hy'⟩ := objO_live l'
  obtain ⟨_,h1,h2,h3,_⟩ := hB a y ha hy
  obtain ⟨_,h1',h2',h3',_⟩ := hB a' y' ha' hy'
  exact hsep a h1 a' h1' hne _ h3 (e ▸ h2')
 have base0 : ∀ a,a < 3 → (objO (gotR k G.R a)).live = true → ∀ j y,(thawB h g fI)[j]? = some y → y.live = true → ρ.blk j ≠ (Bκ a).1 := fun a ha l j y hj ly e => (out a ha l).1 (e ▸ hrd0 j y hj ly)
 have W : ∀ a,(objO (gotR k G.R a)).wrt = false := fun a => objO_wrt.1
 have hn0 : (thawB h g fI).length = h.length + 1 + g.length := thawB_len
 generalize hT : thawB h g fI = T at *
 have T1 := T0.snocO (o := objO (gotR k G.R 0)) (R := (Bκ 0).1) (κ := (Bκ 0).2) objO_wrt.1 objO_wrt.2 (obj 0 _ ρ (by omega)) (rdE 0 (by omega)) (base0 0 (by omega))
 have up1 := Env.put_upto ρ T.length (Bκ 0).1 (Bκ 0).2
 have self1 := Env.put_self ρ T.length (Bκ 0).1 (Bκ 0).2
 generalize ρ.put T.length (Bκ 0).1 (Bκ 0).2 = ρa at *
 have base1 : ∀ a,a < 3 → a ≠ 0 → (objO (gotR k G.R a)).live = true → ∀ j y,(T ++ [objO (gotR k G.R 0)])[j]? = some y → y.live = true → ρa.blk j ≠ (Bκ a).1 := fun a ha hne l j y hj ly => by
  rcases snoc_get hj with ⟨rfl,rfl⟩ | hj
  ·rw [self1.1]
   exact apart a 0 ha (by omega) hne l ly
  ·rw [(up1 j (List.getElem?_eq_some_iff.1 hj).1).1]
   exact base0 a ha l j y hj ly
 have T2 := T1.snocO (o := objO (gotR k G.R 1)) (R := (Bκ 1).1) (κ := (Bκ 1).2) objO_wrt.1 objO_wrt.2 (obj 1 _ ρa (by omega)) (rdE 1 (by omega)) (base1 1 (by omega) (by omega))
 have l1 : (T ++ [objO (gotR k G.R 0)]).length = T.length + 1 := by simp
 rw [l1] at T2
 have up2 := Env.put_upto ρa (T.length + 1) (Bκ 1).1 (Bκ 1).2
 have self2 := Env.put_self ρa (T.length + 1) (Bκ 1).1 (Bκ 1).2
 generalize ρa.put (T.length + 1) (Bκ 1).1 (Bκ 1).2 = ρb at *
 have base2 : (objO (gotR k G.R 2)).live = true → ∀ j y,(T ++ [objO (gotR k G.R 0)] ++ [objO (gotR k G.R 1)])[j]? = some y → y.live = true → ρb.blk j ≠ (Bκ 2).1 := fun l j y hj ly => by
  rcases snoc_get hj with ⟨rfl,rfl⟩ | hj
  ·rw [l1,self2.1]
   exact apart 2 1 (by omega) (by omega) (by omega) l ly
  ·rw [(up2 j (by have := (List.getElem?_eq_some_iff.1 hj).1; omega)).1]
   exact base1 2 (by omega) (by omega) l j y hj ly
 have T3 := T2.snocO (o := objO (gotR k G.R 2)) (R := (Bκ 2).1) (κ := (Bκ 2).2) objO_wrt.1 objO_wrt.2 (obj 2 _ ρb (by omega)) (rdE 2 (by omega)) base2
 have l2 : (T ++ [objO (gotR k G.R 0)] ++ [objO (gotR k G.R 1)]).length = T.length + 2 := by simp
 rw [l2] at T3
 have up3 := Env.put_upto ρb (T.length + 2) (Bκ 2).1 (Bκ 2).2
 have self3 := Env.put_self ρb (T.length + 2) (Bκ 2).1 (Bκ 2).2
 generalize ρb.put (T.length + 2) (Bκ 2).1 (Bκ 2).2 = ρc at *
 have l3 : (T ++ [objO (gotR k G.R 0)] ++ [objO (gotR k G.R 1)] ++ [objO (gotR k G.R 2)]).length = T.length + 3 := by simp
 have upc : Env.upto T.length ρ ρc := Env.upto_trans up1 (Env.upto_trans (Env.upto_le up2 (by omega)) (Env.upto_le up3 (by omega)))
 have hblk : ∀ a,a < 3 → ρc.blk (T.length + a) = (Bκ a).1 ∧ ρc.cap (T.length + a) = (Bκ a).2 := fun a ha => by
  match a,ha with
  | 0,_ =>
   have e2 := up2 T.length (by omega)
   have e3 := up3 T.length (by omega)
   exact ⟨e3.1.trans (e2.1.trans self1.1),e3.2.trans (e2.2.trans self1.2)⟩
  | 1,_ =>
   have e3 := up3 (T.length + 1) (by omega)
   exact ⟨e3.1.trans self2.1,e3.2.trans self2.2⟩
  | 2,_ => exact self3
 have hblkF : ρc.blk fI = G.F := by rw [(upc fI (by omega)).1,(hup1 fI hfl).1,hGF]
 have hcel : ∀ a,a < 3 → w₁.cell? (G.cel a) = some (ren ρc (cellO (T.length + a) (gotR k G.R a))) := fun a ha => by
  cases hx : gotR k G.R a with
  | none =>
   rw [hnone a ha hx]
   simp [cellO,nilS,ren]
  | some l =>
   rw [(hB a l ha hx).1]
   obtain ⟨e1,e2⟩ := hblk a ha
   simp [cellO,ren,renAddr,renCap,e1,e2]
 have hok : ∀ a,a < 3 → VOk (T.length + 3) (cellO (T.length + a) (gotR k G.R a)) ∧ one (cellO (T.length + a) (gotR k G.R a)) = true := fun a ha => by
  cases gotR k G.R a with
  | none => exact ⟨by simp [cellO,nilS,VOk],rfl⟩
  | some l => exact ⟨by simp [cellO,VOk,AddrOk]; omega,rfl⟩
 have T4 := T3.tellO (d := fI) (o := .cells [cellO T.length (gotR k G.R 0),cellO (T.length + 1) (gotR k G.R 1),cellO (T.length + 2) (gotR k G.R 2)] false 0) ?_ rfl (fun z e => by cases e) ?_ (fun _ => ?_) fun _ j y hj ly => ?_
 rotate_left
 ·rw [List.getElem?_append_left (by rw [l2]; omega),List.getElem?_append_left (by rw [l1]; omega),List.getElem?_append_left (by omega),← hT]
  unfold thawB
  rw [List.append_assoc,List.getElem?_append_left (by rw [List.length_set,unch_len]; omega),List.getElem?_set_self (by rw [unch_len]; omega)]
 ·rw [l3,hblkF]
  obtain ⟨cs,ty,fr,e1,e2,_⟩ := hfok
  have hc : ∀ a,a < 3 → cs[a]? = some (ren ρc (cellO (T.length + a) (gotR k G.R a))) := fun a ha => by
   have := hcel a ha
   simpa [World.cell?,e1] using this
  rw [e1]
  refine ⟨fun i v hv => ?_,fun _ => e2,fun h => absurd rfl h,fun h => Bool.noConfusion h⟩
  match i,hv with
  | 0,hv =>
   cases hv
   exact .inr ⟨(hok 0 (by omega)).1,(hok 0 (by omega)).2,hc 0 (by omega)⟩
  | 1,hv =>
   cases hv
   exact .inr ⟨(hok 1 (by omega)).1,(hok 1 (by omega)).2,hc 1 (by omega)⟩
  | 2,hv =>
   cases hv
   exact .inr ⟨(hok 2 (by omega)).1,(hok 2 (by omega)).2,hc 2 (by omega)⟩
 ·rw [hblkF]
  exact .inr (.inl rfl)
 ·rw [hblkF]
  rcases snoc_get hj with ⟨rfl,rfl⟩ | hj
  ·rw [l2,(hblk 2 (by omega)).1]
   exact (out 2 (by omega) ly).2
  ·rcases snoc_get hj with ⟨rfl,rfl⟩ | hj
   ·rw [l1,(hblk 1 (by omega)).1]
    exact (out 1 (by omega) ly).2
   ·rcases snoc_get hj with ⟨rfl,rfl⟩ | hj
    ·rw [show T.length = T.length + 0 from rfl,(hblk 0 (by omega)).1]
     exact (out 0 (by omega) ly).2
    ·rw [(upc j (List.getElem?_eq_some_iff.1 hj).1).1]
     exact fun e => hnF (e ▸ hrd0 j y hj ly)
 have hD : doneH h g fI (gotR k G.R) = (T ++ [objO (gotR k G.R 0)] ++ [objO (gotR k G.R 1)] ++ [objO (gotR k G.R 2)]).set fI (.cells [cellO T.length (gotR k G.R 0),cellO (T.length + 1) (gotR k G.R 1),cellO (T.length + 2) (gotR k G.R 2)] false 0) := by
  rw [← hT]
  rfl
 rw [← hD] at T4
 refine ⟨_,fun b hb => ?_,T4.sub,?_⟩
 ·rcases hb with hb | hb | hb
  ·exact .inl hb
  ·exact .inr (.inl hb)
  ·exact .inr (.inr hb)
 ·refine hJ ρc (Env.upto_trans (Env.upto_le hu hm0) (Env.upto_le upc (by omega))) a _ w₁ _ ?_ T4 (Env.upto_refl _ _) (by rw [doneH_len]; exact Nat.le_refl _)
  rw [doneH_len]
  rw [hlen] at A
  refine upto_act (Env.upto_le upc (by omega)) (by omega) A
end
end Go.Proofs.Yteoenhhmcpipoaa
namespace Go.Proofs.Yteoenhhmcpipoaa
open Go.Conc Go.Conc.Lib Go.Proofs.Try
def LeftV (h : List AObj) (v : Value) : Option (List Int) → Prop
 | none => v = nilS
 | some l => ∃ r sz c L,v = .slice (some ⟨r,0,none⟩) l.length c ∧ h[r]? = some (.cells L true sz) ∧ (∀ (i : Nat) (x : Int),l[i]? = some x → L[i]? = some (vint x)) ∧ l.length ≤ L.length ∧ ((sz = 0 ∧ c = L.length ∧ c < fz) ∨ (sz = 1 ∧ c = fz))
theorem LeftV.ok {h : List AObj} {v : Value} {R : Option (List Int)} (H : LeftV h v R) : VOk h.length v ∧ one v = true ∧ v ≠ unk ∧ ∀ ρ,(ren ρ v).cells = #[ren ρ v] := by
 cases R with
 | none =>
  have : v = nilS := H
  subst this
  exact ⟨by simp [nilS,VOk],rfl,by simp [nilS,unk],fun ρ => by simp [nilS,ren,Value.cells]⟩
 | some l =>
  obtain ⟨r,sz,c,L,rfl,hr,_⟩ := H
  have := (List.getElem?_eq_some_iff.1 hr).1
  exact ⟨by simp [VOk,AddrOk]; exact this,rfl,by simp [unk],fun ρ => by simp [ren,Value.cells]⟩
section
variable {ρ : Env} {h : List AObj} {FC : Frm} {w : World} {ft : Foot}
theorem left_of (H : HRel ρ h FC w ft) {v : Value} {R : Option (List Int)} (hL : LeftV h v R) : leftV R (ren ρ v) w ft := by
 cases R with
 | none =>
  have : v = nilS := hL
  subst this
  simp [leftV,nilS,ren]
 | some l =>
  obtain ⟨r,sz,c,L,rfl,hr,hl,hlen,hc⟩ := hL
  have ho := H.obj r _ hr
  match hx : w.heap[ρ.blk r]?,ho with
  | some (.cells d' ty' fr'),D =>
   have hcap : d'.size = renCap ρ r c ∧ l.length ≤ renCap ρ r c := by
    unfold renCap
    rcases hc with ⟨rfl,rfl,hlt⟩ | ⟨rfl,rfl⟩
    ·rw [if_neg (by omega)]
     exact ⟨D.2.1 rfl,hlen⟩
    ·rw [if_pos (Nat.le_refl _)]
     obtain ⟨a1,a2⟩ := D.2.2.1 (by omega)
     omega
   refine ⟨ρ.blk r,renCap ρ r c,d',ty',fr',H.rd _ _ hr rfl,H.wr _ _ hr rfl,by simp [ren,renAddr],hx,hcap.1,fun i x hi => ?_,hcap.2⟩
   rcases D.1 i _ (hl i x hi) with ⟨y,_⟩ | ⟨_,_,y⟩
   ·cases y
   ·simpa [vint,ren] using y
end
theorem store_runT {P : Program} {w : World} {B off : Nat} {v u : Value} {t : TypeId} {ti : TypeInfo} (hi : P.info? t = some ti) (hsz : ti.size = 1) (h1 : one v = true) (hcv : v.cells = #[v]) (hc : w.cell? ⟨B,off,none⟩ = some u) (hf : w.frozen? ⟨B,off,none⟩ = false) :
  (Instr.storeAt t (.pointer (some ⟨B,off,none⟩)) v).runT P w #[] = (.ok () (w.setCell ⟨B,off,none⟩ v),#[⟨.cell ⟨B,off,none⟩,true,false⟩]) := by
 have hs : (sizeOf t).runT P w #[] = (.ok ti.size w,#[]) := by
  have hrun : RunsTo P (fun _ => False) (sizeOf t) w fun n w' => n = ti.size ∧ w' = w := RunsTo.sizeOf hi ⟨rfl,rfl⟩
  obtain ⟨n,w',hr,rfl,rfl⟩ := quiet_run hrun
  exact hr
 have hst : ∀ k : Unit → Go.Sem Unit,((Go.store ⟨B,off,none⟩ v).bind k).runT P w #[] = (k ()).runT P (w.setCell ⟨B,off,none⟩ v) #[⟨.cell ⟨B,off,none⟩,true,false⟩] := fun k => by
  rw [Sem.runT_bind']
  have : (Go.store ⟨B,off,none⟩ v).runT P w #[] = (.ok () (w.setCell ⟨B,off,none⟩ v),#[⟨.cell ⟨B,off,none⟩,true,false⟩]) := by
   unfold Go.store
   cases v <;> first | (cases h1; done) | (unfold Sem.runT; rw [hc,hf]; rfl)
  rw [this]
 have hl : v.cells.toList = [v] := by rw [hcv]
 have hb : Instr.storeAt t (.pointer (some ⟨B, off, none⟩)) v = (sizeOf t).bind fun n => if v.cells.size ≠ n then (stuck "storeVar: the value has not the size of the variable" : Go.Sem Unit).bind fun _ => storeCells ⟨B, off, none⟩ v.cells.toList else storeCells ⟨B, off, none⟩ v.cells.toList := rfl
 rw [hb,Sem.runT_bind',hs]
 simp only
 rw [if_neg (by rw [hcv,hsz]; simp),hl]
 show (storeCells ⟨B,off,none⟩ [v]).runT P w #[] = _
 unfold storeCells
 rw [add_mk]
 exact hst fun _ => storeCells ⟨B,off,none⟩ [] 1
theorem relyW_setCell {ft : Foot} {w : World} {B off : Nat} {v : Value} (hn : ¬ ft.rd B) : RelyW ft w (w.setCell ⟨B,off,none⟩ v) := by
 refine ⟨fun b hb => ?_,by simp [World.setCell],rfl,rfl,rfl⟩
 have : B ≠ b := fun e => hn (e ▸ hb)
 simp [World.setCell,Array.getElem?_modify,this]
section
variable {P : Program} {main : Bool} {J : JT} {G : Grp} {N m : Nat} {b : FB} {cs : List Frame} {FC : Frm} {ρ0 : Env} {K : List Item} {f : RG} {h : List AObj} {ops : Array Oper} {i : Nat} {rest : List Nat} {o : Oper}
theorem At.deferG (hJ : Closed P main J) (hk : b.kind ≠ .early) (hro : b.ro = none) (hbd : b.dfs = []) (ho : ops[i]? = some o) (hg : gd ops o f.r = some true) {fd : FuncId} {x : Operand} {ats : Array TypeId} (hop : o.op = .defer { callee := .value (.func fd),args := #[x],argTypes := ats }) (hdst : o.dst = none) {p : Nat} (hx : ev f.r x = ptr p 0) (hpm : p < m) (hds : f.ds = [])
  (h' : At J N { b with dfs := [dcall fd #[.pointer (some ⟨ρ0.blk p,0,none⟩)]] } cs FC ρ0 m (.inRegion ops rest :: K) f h) : At J N b cs FC ρ0 m (.inRegion ops (i :: rest) :: K) f h := by
 intro a ρ w ft A H hu hm
 have hw := gd_wanted A hg
 have hk' : (b.kind == CallKind.early) = false := by simpa using hk
 have hxv := ((ev_rel A.regs x).val (by rw [hx]; simp [unk,ptr])).2
 rw [hx] at hxv
 simp only [ren,renAddr,(hu p hpm).1] at hxv
 have had : a.defers = [] := by rw [A.defers,hds]; rfl
 obtain ⟨bf,bk,br,bd⟩ := b
 simp only at hk hro hbd
 subst hro hbd
 refine hJ.ctrl rfl rfl (g' := Go.Conc.G (FB.at ⟨bf,bk,none,[dcall fd #[.pointer (some ⟨ρ0.blk p,0,none⟩)]]⟩ a (.inRegion ops rest :: K)) cs) (fun w => ?_) (h' a ρ w ft A H hu hm)
 have e1 : ∀ (ds : List Deferred) (todo : List Item),FB.at ⟨bf,bk,none,ds⟩ a todo = ({ (default : Frame) with fn := bf,kind := bk } : Frame).at ⟨a.tmps,ds⟩ todo := fun ds todo => by simp [FB.at,Frame.at,had]
 rw [e1,e1]
 have := stepG_defer (P := P) (main := main) (b := { (default : Frame) with fn := bf,kind := bk }) (a := ⟨a.tmps,[]⟩) (k := K) (cs := cs) (w := w) (rest := rest) ho hw hk hop
 rw [this]
 have ex : (Act.eval ⟨a.tmps,[]⟩ x) = a.eval x := rfl
 simp [hdst,Act.put,ex,hxv]
theorem At.storeG (hk : b.kind ≠ .early) (ho : ops[i]? = some o) (hg : gd ops o f.r = some true) {t : TypeId} {x y : Operand} (hop : o.op = .store t x y) (hdst : o.dst = none) {ti : TypeInfo} (hi : P.info? t = some ti) (hsz : ti.size = 1) (hnr : (P.funcs[b.fn]?).any (·.norace) = false)
  {fI s : Nat} (hx : ev f.r x = .pointer (some ⟨fI,s,none⟩)) {v0 : Value} (hy : ev f.r y = v0) {R : Option (List Int)} (hv : LeftV h v0 R) (hfm : fI < m) (hF : G.F = ρ0.blk fI) (hs : s < 3)
  (hJ : ∀ ρ,Env.upto m ρ0 ρ → At (Toward P (AtLast P G s (ren ρ v0))) N b cs FC ρ h.length (.inRegion ops rest :: K) f h) :
  At (Toward P (AtDep P G s)) N b cs FC ρ0 m (.inRegion ops (i :: rest) :: K) f h := by
 intro a ρ w ft A H hu hm
 obtain ⟨hvo,h1,hne,hcv⟩ := hv.ok
 refine Toward.stop rfl fun w₁ h₁ => ⟨rfl,.inr ⟨ren ρ v0,fun w₂ h₂ hok hnF => ?_⟩⟩
 have H₂ := (H.rely h₁).rely h₂
 have hw := gd_wanted A hg
 have hnd : ∀ c,o.op ≠ .defer c := fun c e => by rw [hop] at e; cases e
 have hk' : (b.kind == CallKind.early) = false := by simpa using hk
 have hxv := ((ev_rel A.regs x).val (by rw [hx]; simp [unk])).2
 have hyv := ((ev_rel A.regs y).val (by rw [hy]; exact hne)).2
 have eF : ρ.blk fI = G.F := by rw [(hu fI hfm).1,hF]
 rw [hx] at hxv
 rw [hy] at hyv
 simp only [ren,renAddr,eF] at hxv
 obtain ⟨c',ty,fr,e1,e2,e3⟩ := hok
 obtain ⟨u,hu'⟩ : ∃ u,w₂.cell? ⟨G.F,s,none⟩ = some u := ⟨c'[s]'(by omega),by simp [World.cell?,e1,Array.getElem?_eq_getElem (show s < c'.size by omega)]⟩
 have hr : (execOp a.eval o).runT P w₂ #[] = (.ok .skip (w₂.setCell (G.cel s) (ren ρ v0)),#[depE G s]) := by
  have hs := store_runT (v := ren ρ v0) hi hsz (by rw [one_ren]; exact h1) (hcv ρ) hu' (e3 s hs)
  have he : execOp a.eval o = (Instr.storeAt t (a.eval x) (a.eval y)).bind fun _ => Pure.pure .skip := by
   unfold execOp
   rw [hop]
   rfl
  rw [he,Sem.runT_bind',hxv,hyv,hs]
  rfl
 refine ⟨Go.Conc.G (b.at a (.inRegion ops rest :: K)) cs,?_,?_⟩
 ·have hf := FB.finish_at b a ops i rest K undef
  rw [ho] at hf
  simp only [Option.bind_some,hdst] at hf
  have hput : a.put none undef = a := rfl
  rw [hput] at hf
  have hseen : seen P b.fn #[depE G s] = #[depE G s] := by
   unfold seen
   simp [depE,hnr]
  rw [stepG_op ho hw hnd,← hf]
  simp only [stepG.apply,hr,if_true]
  simp [FB.at,hk',GStep.after,Go.Conc.G,hseen]
 ·exact hJ ρ hu a ρ _ ft A (H₂.rely (relyW_setCell hnF)) (Env.upto_refl _ _) (Nat.le_refl _)
end
theorem At.doneG {Stop : JT} {N m : Nat} {b : FB} {FC : Frm} {ρ0 : Env} {f : RG} {h : List AObj} {G : Grp} {fn : Func} (hk : b.kind = .deferred) (hro : b.ro = none) (hbd : b.dfs = [dcall wgLink.done #[.pointer (some ⟨G.wg,0,none⟩)]]) (hds : f.ds = []) (hf : prog.funcs[b.fn]? = some fn) (hres : fn.results = #[]) (hty : G.ty = wgLink.tWg)
  {ph : Nat} {u : Value} {wr : Bool} (hC : h[ph]? = some (.cells [u] wr 0)) (hu1 : kn1 u = true) (hphm : ph < m) (hGC : G.C = ρ0.blk ph)
  (hst : ∀ g ρ w ft,HRel ρ h FC w ft → Env.upto m ρ0 ρ → AtDone prog G g w ft → Stop g w ft) :
  At (Toward prog Stop) N b [base0 prog] FC ρ0 m [] f h := by
 intro a ρ w ft A H hu hm
 have had : a.defers = [] := by rw [A.defers,hds]; rfl
 obtain ⟨bf,bk,br,bd⟩ := b
 simp only at hk hro hbd hf
 subst hk hro hbd
 have hJ := Toward.closed prog Stop
 refine hJ.ctrl rfl rfl (g' := Go.Conc.G { FB.at ⟨bf,.deferred,none,[dcall wgLink.done #[.pointer (some ⟨G.wg,0,none⟩)]]⟩ a [] with mode := .returning } [base0 prog]) (fun w => by simp [Go.Conc.G,stepG,stepG.exec,FB.at]) ?_
 have hfd := (wgLib.f_done : prog.funcs[wgLink.done]? = some (doneFn wgLink))
 refine hJ.ctrl rfl rfl (g' := Go.Conc.G ((baseD wgLink.done).at ⟨#[.pointer (some ⟨G.wg,0,none⟩),undef,undef,undef],[]⟩ [.code (Go.ConcR.Gen.body_done wgLink)]) ({ FB.at ⟨bf,.deferred,none,[]⟩ a [] with mode := .returning } :: [base0 prog])) (fun w => ?_) ?_
 ·have e1 : ∀ (ds : List Deferred) (todo : List Item),({ FB.at ⟨bf,.deferred,none,ds⟩ a todo with mode := .returning } : Frame) = { (baseD bf).at ⟨a.tmps,ds⟩ todo with mode := .returning } := fun ds todo => by simp [FB.at,Frame.at,had,baseD]
  rw [e1,e1]
  exact stepG_unwind_enter (a := ⟨a.tmps,[dcall wgLink.done #[.pointer (some ⟨G.wg,0,none⟩)]]⟩) rfl hfd (Go.ConcR.Gen.nm_done wgLink) rfl
 refine Toward.stop rfl fun w₁ h₁ => ?_
 have H₁ := H.rely h₁
 refine hst _ ρ _ _ H₁ hu ?_
 have eC : ρ.blk ph = G.C := by rw [(hu ph hphm).1,hGC]
 refine done_stop (qt := 2) (v := ren ρ u) hty rfl ?_ (by rw [← eC]; exact H₁.rd ph _ hC rfl) ?_
 ·refine .ctl (g' := Go.Conc.G (base0 prog) []) rfl (fun w => ?_) (base_quits (base_catches prog))
  have he : (results fn a.tmps).runT prog w #[] = (.ok (.tuple #[]) w,#[]) := by
   have hrun : RunsTo prog (fun _ => False) (results fn a.tmps) w fun v w' => v = .tuple #[] ∧ w' = w := by
    unfold results
    rw [hres,Array.mapM_eq_mapM_toList]
    exact RunsTo.bind (RunsTo.map (RunsTo.pure (RunsTo.pure ⟨by simp,rfl⟩)))
   obtain ⟨v,w',hr,rfl,rfl⟩ := quiet_run hrun
   exact hr
  simp only [Go.Conc.G,stepG,FB.at,unwind,had,hf,he,List.append_nil]
  simp [doReturn,base0,goexitEntry,GStep.after,seen]
 ·have := (H₁.cell hC (off := 0) rfl (.inr hu1)).1
  rw [eC] at this
  exact this
end Go.Proofs.Yteoenhhmcpipoaa
namespace Go.Proofs.Yteoenhhmcpipoaa
open Go.Conc
def lastOk (ops ops' : Array Oper) (last : Nat) : Nat → Array Bool → Array Bool → Bool
 | 0,L,L' => (Region.ready .any ops L == [last]) && (Region.ready .any ops' L').isEmpty
 | n + 1,L,L' => (Region.ready .any ops L == Region.ready .any ops' L') && !(Region.ready .any ops L).isEmpty && (Region.ready .any ops L).all fun i => lastOk ops ops' last n (L.setIfInBounds i true) (L'.setIfInBounds i true)
section
variable {P : Program} {main : Bool} {J : JT} {N m : Nat} {b : FB} {cs : List Frame} {FC : Frm} {ρ0 : Env} {k : List Item} {f : RG} {h : List AObj} {ops ops' : Array Oper} {last : Nat}
theorem At.orders (hJ : Closed P main J) (hk : b.kind ≠ .early) (hsame : ∀ (i : Nat) (o : Oper),ops'[i]? = some o → ops[i]? = some o ∧ ∀ r,gd ops' o r = gd ops o r) {S : List AObj → Prop} {K : RG → List AObj → Prop}
  (hK : ∀ f h,K f h → At J N b cs FC ρ0 m (.inRegion ops [last] :: k) f h) : ∀ (n t : Nat) (L L' : Array Bool) (f : RG) (h : List AObj),lastOk ops ops' last n L L' = true → AnyH P (Good P J) N ops' S n L' f h K → At J N b cs FC ρ0 m (.inRegion ops (Region.linearise.go .any ops (n + 1) t L []) :: k) f h := by
 intro n
 induction n with
 | zero =>
  intro t L L' f h hc hA
  unfold lastOk at hc
  have hr : Region.ready .any ops L = [last] := by simp at hc; exact hc.1
  have e : Region.linearise.go .any ops (0 + 1) t L [] = [last] := by
   simp only [Region.linearise.go]
   change (match (Region.ready .any ops L)[t % (Region.ready .any ops L).length]? with
    | some i => [i].reverse
    | none => [].reverse) = [last]
   rw [hr]
   simp [Nat.mod_one]
  rw [e]
  exact hK f h hA.2
 | succ n ih =>
  intro t L L' f h hc hA
  obtain ⟨_,h₁⟩ := hA
  unfold lastOk at hc
  simp only [Bool.and_eq_true,beq_iff_eq,Bool.not_eq_true',List.all_eq_true] at hc
  obtain ⟨⟨hr,hne⟩,hall⟩ := hc
  rw [Region.linearise.go]
  change At J N b cs FC ρ0 m (.inRegion ops (match (Region.ready .any ops L)[t % (Region.ready .any ops L).length]? with
   | some i => Region.linearise.go .any ops (n + 1) (t / (Region.ready .any ops L).length) (L.setIfInBounds i true) [i]
   | none => [].reverse) :: k) f h
  cases hi : (Region.ready .any ops L)[t % (Region.ready .any ops L).length]? with
  | none =>
   exfalso
   have hpos : 0 < (Region.ready .any ops L).length := by
    cases hr2 : Region.ready .any ops L with
    | nil => rw [hr2] at hne; cases hne
    | cons x xs => simp
   have := Nat.mod_lt t hpos
   rw [List.getElem?_eq_none_iff] at hi
   omega
  | some i =>
   simp only []
   rw [linearise_go_acc,List.reverse_singleton,List.singleton_append]
   have hm := List.mem_of_getElem? hi
   have hm' : i ∈ Region.ready .any ops' L' := by rw [← hr]; exact hm
   have hm2 := hm'
   rw [mem_ready] at hm2
   obtain ⟨_,o,ho',_⟩ := hm2
   obtain ⟨ho,hgd⟩ := hsame i o ho'
   obtain ⟨hN,K',hK',hsub⟩ := h₁ i hm' o ho'
   intro a ρ w ft A H hu hm0
   unfold opG at hK'
   rw [hgd] at hK'
   split at hK'
   ·rename_i hg
    exact step_any hJ hk ho hg hN A H hK' fun v h' ρ' w' ft' a' kk A' H' hu' hl' => ih _ _ _ _ _ (hall i hm) (hsub v h' kk).2 a' ρ' w' ft' A' H' (Env.upto_trans hu (Env.upto_le hu' hm0)) (Nat.le_trans hm0 hl')
   ·rename_i hg
    refine step_skip hJ ho hg A ?_
    exact ih _ _ _ _ _ (hall i hm) (hsub _ _ hK').2 _ ρ w ft (act_put A hN (vrel_undef _ _)) H hu hm0
   ·exact hK'.elim
theorem At.draw (hJ : Closed P main J) (hm : P.follows .mixedOrders = true) (hk : b.kind ≠ .early) (hsame : ∀ (i : Nat) (o : Oper),ops'[i]? = some o → ops[i]? = some o ∧ ∀ r,gd ops' o r = gd ops o r) {K : RG → List AObj → Prop} {id n : Nat} (hn : ops.size = n + 1) (_hn' : ops'.size = n)
  (hl : lastOk ops ops' last n (Array.replicate (n + 1) false) (Array.replicate n false) = true) {p : Plan} (hp : planOk P ops' p n (Array.replicate n false) none = true) {B : Option (List Nat)}
  (hq : planW P (Good P J) N ops' B h p true [] f h K) (hB : B ≠ none)
  (hK : ∀ f h,K f h → At J N b cs FC ρ0 m (.inRegion ops [last] :: k) f h) : At J N b cs FC ρ0 m (.code (.region id ops true) :: k) f h := by
 have hA : AnyH P (Good P J) N ops' (SameB B h) n (Array.replicate n false) f h K := by
  refine anyW_sound _ _ true [] f h down_init (fun j b e => by cases e) (fun _ => ?_) ?_
  ·cases B with
   | none => exact absurd rfl hB
   | some B => exact fun _ _ => rfl
  ·have := planW_eq (C := Good P J) (P := P) (N := N) (B := B) (h0 := h) (K := K) p n (Array.replicate n false) none true [] f h hp
   simp only [planT] at this
   rw [← this]
   exact hq
 intro a ρ w ft A H hu hm0
 refine hJ.step rfl fun w₁ h₁ => ⟨G (b.at a (.inRegion ops (Region.schedule (P.follows .mixedOrders) ops (w₁.tape w₁.drawn (.order b.fn id))) :: k)) cs,{ w₁ with drawn := w₁.drawn + 1 },#[],?_,rfl,(Stays.drawn ft w₁ _).guar (by simp),?_⟩
 ·simp [G,stepG,stepG.exec,FB.at,choose,Go.Sem.run,Question.forced,Question.cut]
 ·rw [show ({ w₁ with drawn := w₁.drawn + 1 } : World).heap = w₁.heap from rfl,Foot.ext_self]
  have H₁ := (H.rely h₁).of_drawn (w₁.drawn + 1)
  simp only [Region.schedule,hm,Bool.true_or,if_true]
  have := At.orders hJ hk hsame hK n (w₁.tape w₁.drawn (.order b.fn id)) _ _ f h hl hA a ρ _ ft A H₁ hu hm0
  rw [← hn] at this
  exact this
theorem At.enter {g : FuncId} {fn : Func} (hf : P.funcs[g]? = some fn) {c : Code} (hb : fn.body = some c) {args : List Value} (ha : args.length ≤ fn.ntmps) (hv : ∀ v ∈ args,VOk h.length v) {ρ : Env} {w : World} {ft : Foot} (H : HRel ρ h FC w ft)
  (hA : At J fn.ntmps ⟨g,.deferred,none,[]⟩ cs FC ρ h.length [.code c] ⟨regs args,[]⟩ h) : J (G (Frame.enter P g ⟨args.map (ren ρ)⟩ .deferred) cs) w ft := by
 have he : Frame.enter P g ⟨args.map (ren ρ)⟩ .deferred = FB.at ⟨g,.deferred,none,[]⟩ ⟨⟨args.map (ren ρ)⟩ ++ Array.replicate (fn.ntmps - args.length) undef,[]⟩ [.code c] := by
  simp [Frame.enter,FB.at,hf,hb]
 rw [he]
 refine hA _ ρ w ft ⟨fun t => ?_,by simp; omega,rfl,by simp⟩ H (fun _ _ => ⟨rfl,rfl⟩) (Nat.le_refl _)
 have ht : ((⟨args.map (ren ρ)⟩ : Array Value) ++ Array.replicate (fn.ntmps - args.length) undef).getD t undef = (args.map (ren ρ)).getD t undef := by
  rw [Array.getD_eq_getD_getElem?,List.getD_eq_getElem?_getD]
  by_cases hx : t < args.length
  ·rw [Array.getElem?_append_left (by simpa using hx)]
   simp
  ·rw [Array.getElem?_append_right (by simp; omega),List.getElem?_eq_none (by simp; omega)]
   simp only [Array.getElem?_replicate]
   split <;> rfl
 rw [ht]
 by_cases hx : t < args.length
 ·refine .inr ?_
  show VOk h.length (regs args t) ∧ _
  have e1 : regs args t = args[t] := by simp [regs,List.getD_eq_getElem?_getD,List.getElem?_eq_getElem hx]
  rw [e1]
  refine ⟨hv _ (List.getElem_mem hx),?_⟩
  show _ = ren ρ (regs args t)
  rw [e1]
  simp [List.getD_eq_getElem?_getD,List.getElem?_eq_getElem hx]
 ·refine .inl ?_
  show regs args t = unk
  simp [regs,List.getD_eq_getElem?_getD,List.getElem?_eq_none (Nat.le_of_not_lt hx)]
end
end Go.Proofs.Yteoenhhmcpipoaa
namespace Go.Proofs.Yteoenhhmcpipoaa
open Go.Conc Go.Conc.Lib Go.Proofs.Try
set_option maxRecDepth 100000
def foundR (ls : List Pas) (s : SkyR) (heads : Int) (d : Nat) (at_ : Nat) : Option (List Int) :=
 if dawnB ls s at_ heads [startW ls] = true then (match restR ls s heads d (dawnL ls s at_ heads [startW ls]) with | some r => some ((at_ : Int) :: r) | none => none) else none
section
variable {P : Program} {main : Bool} {J : JT} {N m : Nat} {b : FB} {cs : List Frame} {FC : Frm} {ρ0 : Env} {k : List Item} {f : RG} {h : List AObj}
theorem At.cond (hJ : Closed P main J) {c : Operand} {x y : Code} {t : Bool} (ht : ev f.r c = .bool t) (h' : At J N b cs FC ρ0 m (.code (if t then x else y) :: k) f h) : At J N b cs FC ρ0 m (.code (.cond c x y) :: k) f h := by
 intro a ρ w ft A H hu hm
 have hv := ((ev_rel A.regs c).val (by rw [ht]; simp [unk])).2
 rw [ht] at hv
 simp only [ren] at hv
 have he : ∀ todo,(b.at a todo).eval c = .bool t := fun todo => by rw [← hv]; cases c <;> rfl
 refine hJ.ctrl rfl rfl (g' := G (b.at a (.code (if t then x else y) :: k)) cs) (fun w => ?_) (h' a ρ w ft A H hu hm)
 have := he (.code (.cond c x y) :: k)
 simp only [FB.at] at this
 simp [G,stepG,stepG.exec,FB.at,this]
theorem At.skip (hJ : Closed P main J) (h' : At J N b cs FC ρ0 m k f h) : At J N b cs FC ρ0 m (.code .skip :: k) f h :=
 At.ctrl hJ (fun a w => by simp [G,stepG,stepG.exec,FB.at]) h'
end
section
variable {main : Bool} {J : JT} {h H : List AObj} {K : Value → List AObj → Prop} {KV : Value → Prop} {HL : List AObj → Prop} {n0 : Nat}
theorem sliK {v : Value} {s n : Nat} {cs : List Value} (hs : Sli h v s n cs) : v.cells = #[v] ∧ one v = true ∧ kn1 v = true := by
 obtain ⟨base,c,rfl,_⟩ := hs
 exact ⟨rfl,rfl,rfl⟩
theorem sbL {X B : List Nat} (S : SameX X h H) (hB : ∀ p ∈ B,p < h.length ∧ p ∉ X) : SameB (some B) h H := fun b hb => by
 obtain ⟨h1,h2⟩ := hB b hb
 exact S.2 b h1 h2
structure Given (h : List AObj) (pl ps pa ph at_ : Nat) (lv : Value) (ls : List Pas) (s : SkyR) (heads : Int) : Prop where
 gl : ∃ wr,h[pl]? = some (.cells [lv] wr 0)
 gsl : SliE h lv 6 Pas.cells ls
 gs : ∃ wr,h[ps]? = some (.cells s.cells wr 0)
 ga : ∃ wr,h[pa]? = some (.cells [vint (at_ : Nat)] wr 0)
 gh : ∃ wr,h[ph]? = some (.cells [vint heads] wr 0)
theorem Given.more {pl ps pa ph at_ : Nat} {lv : Value} {ls : List Pas} {s : SkyR} {heads : Int} (g : Given h pl ps pa ph at_ lv ls s heads) (S : SameX [] h H) : Given H pl ps pa ph at_ lv ls s heads := by
 obtain ⟨⟨w1,g1⟩,g2,⟨w3,g3⟩,⟨w4,g4⟩,⟨w5,g5⟩⟩ := g
 exact ⟨⟨w1,S.get g1 (by simp)⟩,S.sli g2 (by simp),⟨w3,S.get g3 (by simp)⟩,⟨w4,S.get g4 (by simp)⟩,⟨w5,S.get g5 (by simp)⟩⟩
structure MidW (h H : List AObj) (F : RG) (pl ps pa ph fI at_ : Nat) (ls : List Pas) (s : SkyR) (heads : Int) : Prop where
 S : SameX [] h H
 ds : F.ds = []
 r1 : F.r 1 = ptr pl 0
 r2 : F.r 2 = ptr ps 0
 r3 : F.r 3 = ptr pa 0
 r4 : F.r 4 = ptr ph 0
 r5 : F.r 5 = ptr fI 0
 r7 : F.r 7 = .bool (dawnB ls s at_ heads [startW ls])
 m : dawnB ls s at_ heads [startW ls] = true → ∃ M,MapW H (F.r 6) M ∧ SameW M (dawnL ls s at_ heads [startW ls])
theorem worker1 (hJ : Closed prog main J) {F : RG} {pl ps pa ph fI at_ : Nat} {lv : Value} {ls : List Pas} {s : SkyR} {heads : Int} (L : LsOk ls) (f : skyOk s) (hh : 0 ≤ heads ∧ heads ≤ 40) (g : Given h pl ps pa ph at_ lv ls s heads) (ds : F.ds = []) (r1 : F.r 1 = ptr pl 0) (r2 : F.r 2 = ptr ps 0) (r3 : F.r 3 = ptr pa 0) (r4 : F.r 4 = ptr ph 0) (r5 : F.r 5 = ptr fI 0) :
  W prog J 50 n0 31 (subC [1,0] (codeOf f31)) F h (fun e F' H => e = .normal ∧ MidW h H F' pl ps pa ph fI at_ ls s heads) := by
 rw [q31_1,r1,r2,r3,r4]
 obtain ⟨⟨w1,g1⟩,g2,⟨w3,g3⟩,⟨w4,g4⟩,⟨w5,g5⟩⟩ := id g
 have b1 := lt_of_get g1
 have b3 := lt_of_get g3
 have b4 := lt_of_get g4
 have b5 := lt_of_get g5
 have hB : ∀ {H : List AObj},SameX [] h H → SameB (some [pl,ps,pa,ph]) h H := fun S => sbL S fun p hp => by
  simp only [List.mem_cons,List.not_mem_nil,or_false] at hp
  refine ⟨?_,by simp⟩
  rcases hp with rfl | rfl | rfl | rfl <;> assumption
 have k1 : kn1 lv = true := (sliK g2).2.2
 refine ⟨[pl,ps,pa,ph],ldI (v := lv) g1 rfl k1 ⟨by simp [RdOk,ptrBlk],ldI (v := lv) g1 rfl k1 ⟨by simp [RdOk,ptrBlk],load_part (c := s.cells) g3 (by simp [SkyR.cells]) rfl rfl ⟨by simp [RdOk,ptrBlk],ldI (v := vint (at_ : Nat)) g4 rfl rfl ⟨by simp [RdOk,ptrBlk],ldI (v := vint heads) g5 rfl rfl ?_⟩⟩⟩⟩⟩
 -- behind both orders
 have fin : ∀ {mv : Value} {H1 : List AObj},SameX [] h H1 → MapW H1 mv [] → ∀ (b : Nat),mv = .map (some b) → h.length ≤ b → H1[b]? = some (.map ([].map entW) true) → ∀ {HQ : Value → Value → Value → List AObj → Prop},(∀ v11 v14 v13 H2,SameX [] h H2 → v14 = .bool (dawnB ls s at_ heads [startW ls]) → (dawnB ls s at_ heads [startW ls] = true → ∃ M,MapW H2 v13 M ∧ SameW M (dawnL ls s at_ heads [startW ls])) → HQ v11 v13 v14 H2) →
   (VOk H1.length (Value.bool true) ∧ one (Value.bool true) = true) ∧ aUpdX prog 84 mv (startW ls).val (.bool true) H1 fun h10 => SameB (some [pl,ps,pa,ph]) h h10 ∧ (Good prog J 33 [mv,lv,.agg ⟨s.cells⟩,vint (at_ : Nat),vint heads] h10 fun v11 h12 => SameB (some [pl,ps,pa,ph]) h h12 ∧ (aExt v11 0 fun v13 => aExt v11 1 fun v14 => HQ v11 v13 v14 h12)) := by
  intro mv H1 S1 _ b e hb hm HQ hq
  subst e
  refine ⟨⟨by simp [VOk],rfl⟩,updW (N := []) hm List.nodup_nil fun H2 N' S2 c2 nd2 m2 l2 => ?_⟩
  have T2 : SameX [] h H2 := S1.thru S2 (by simp; omega)
  have hs : SameW N' [startW ls] := fun y => by rw [m2 y]; simp
  refine ⟨hB T2,good33 hJ L f (T2.sli g2 (by simp)) hh ⟨b,true,rfl,c2,nd2⟩ (fun w hw => ?_) (fun hd H3 mv' M' S3 hm' hs' => ?_) fun hd H3 S3 => ?_⟩
  ·have := (hs w).1 hw
   rw [List.mem_singleton.1 this]
   exact startW_ok L
  ·rw [dawnB_same hs] at hd
   refine ⟨hB (T2.trans S3),ext0 (ext1 (hq _ _ _ H3 (T2.trans S3) (by rw [hd]) fun _ => ⟨M',hm',fun y => ?_⟩))⟩
   rw [hs' y]
   exact dawnL_same hs y
  ·rw [dawnB_same hs] at hd
   exact ⟨hB (T2.trans S3),ext0 (ext1 (hq _ _ _ H3 (T2.trans S3) (by rw [hd]) fun h => by rw [hd] at h; cases h))⟩
 have mid : ∀ {F' : RG} {H2 : List AObj} {v13 v14 : Value},SameX [] h H2 → v14 = .bool (dawnB ls s at_ heads [startW ls]) → (dawnB ls s at_ heads [startW ls] = true → ∃ M,MapW H2 v13 M ∧ SameW M (dawnL ls s at_ heads [startW ls])) → F'.ds = [] → F'.r 1 = ptr pl 0 → F'.r 2 = ptr ps 0 → F'.r 3 = ptr pa 0 → F'.r 4 = ptr ph 0 → F'.r 5 = ptr fI 0 → F'.r 6 = v13 → F'.r 7 = v14 → MidW h H2 F' pl ps pa ph fI at_ ls s heads := fun S e hm ds r1 r2 r3 r4 r5 r6 r7 => ⟨S,ds,r1,r2,r3,r4,r5,by rw [r7,e],fun h => by rw [r6]; exact hm h⟩
 refine ⟨by simp [RdOk,ptrBlk],⟨qNewM fun H1 p1 e1 S1 c1 l1 => ⟨hB S1,good34 hJ L (S1.sli g2 (by simp)) fun H2 S2 => ⟨hB (S1.trans S2),?_⟩⟩,good34 hJ L g2 fun H1 S1 => ⟨hB S1,qNewM fun H2 p2 e2 S2 c2 l2 => ⟨hB (S1.trans S2),?_⟩⟩⟩⟩
 ·have cm := S2.get c1 (by simp)
  exact fin (S1.trans S2) ⟨p1,true,rfl,cm,List.nodup_nil⟩ p1 rfl (by omega) cm fun v11 v14 v13 H3 S3 e hm => ⟨rfl,mid S3 e hm ds r1 r2 r3 r4 r5 rfl rfl⟩
 ·exact fin (S1.trans S2) ⟨p2,true,rfl,c2,List.nodup_nil⟩ p2 rfl (by have := S1.1; omega) c2 fun v11 v14 v13 H3 S3 e hm => ⟨rfl,mid S3 e hm ds r1 r2 r3 r4 r5 rfl rfl⟩
end
theorem shape31 : codeOf f31 = .seq (subC [0] (codeOf f31)) (.seq (subC [1,0] (codeOf f31)) (subC [1,1] (codeOf f31))) := by kernel_rfl
theorem op31 : p31_1_0.op = .defer { callee := .value (.func 32),args := #[.tmp 0],argTypes := #[82] } := by kernel_rfl
theorem shape231 : subC [1,1] (codeOf f31) = .block 0 (.seq (subC [1,1,0,0] (codeOf f31)) (.cond (.tmp 21) (.region 3 ops31_2 false) (.seq (subC [1,1,0,1,1,0] (codeOf f31)) (.cond (.tmp 32) (.seq (subC [1,1,0,1,1,1,0,0] (codeOf f31)) (.seq (subC [1,1,0,1,1,1,0,1,0] (codeOf f31)) (.cond (.tmp 43) (.region 7 ops31_3 true) .skip))) .skip)))) := by kernel_rfl
theorem opS231 : p31_2_4.op = .store 22 (.tmp 31) (.tmp 30) := by kernel_rfl
theorem opS331 : p31_3_6.op = .store 22 (.tmp 49) (.tmp 48) := by kernel_rfl
theorem tkS31 : tk prog 22 = some (false,1) := by kernel_rfl
theorem norace31 : (prog.funcs[(31 : Nat)]?).any (·.norace) = false := by kernel_rfl
noncomputable def pre31 : Array Oper := ops31_3.pop
def plan31 : Plan := .take 0 (.take 1 (.take 3 (.last 2 true (.last 4 true (.take 5 .fin)))))
theorem last31 : lastOk ops31_3 pre31 6 6 (Array.replicate 7 false) (Array.replicate 6 false) = true := by kernel_rfl
theorem plan31_ok : planOk prog pre31 plan31 6 (Array.replicate 6 false) none = true := by kernel_rfl
theorem same31 : ∀ (i : Nat) (o : Oper),pre31[i]? = some o → ops31_3[i]? = some o ∧ ∀ r,gd pre31 o r = gd ops31_3 o r := by
 intro i o hi
 have hz : pre31.size = 6 := by kernel_rfl
 have hlt : i < 6 := by
  have := (Array.getElem?_eq_some_iff.1 hi).1
  omega
 have hall : (List.range 6).all (fun j => (opGet pre31 j).guard.isNone) = true := by kernel_rfl
 have hg : (opGet pre31 i).guard = none := by
  have := List.all_eq_true.1 hall i (List.mem_range.2 hlt)
  simpa using this
 have ho : o = opGet pre31 i := by
  unfold opGet
  rw [Array.getD_eq_getD_getElem?,hi]
  rfl
 refine ⟨?_,fun r => ?_⟩
 ·unfold pre31 at hi
  rw [Array.getElem?_pop] at hi
  split at hi
  ·exact hi
  ·cases hi
 ·unfold gd
  rw [ho,hg]
section
variable {main : Bool} {J : JT} {h : List AObj} {K : RG → List AObj → Prop} {f : RG} {B : List Nat}
theorem w31 : planW prog (Good prog J) 50 pre31 (some B) h plan31 true [] f h K =
(aLoad false 1 (f.r 3) h fun v20 =>
RdOk (some B) (ptrBlk (f.r 3)) ∧ (aLoad false 1 (f.r 3) h fun v21 =>
RdOk (some B) (ptrBlk (f.r 3)) ∧ ((((1 * 1 : Nat) ≤ 16777216 ∧ (1 : Nat) ≤ 16777216 ∧ List.length [(vint 0)] = 1) ∧ aFill (zrep [(vint 0)] 1) [(0,1,v21)] fun c22 =>
aNewS 1 c22 h fun v23 h24 =>
SameB (some B) h h24 ∧ (((List.length [(vint 0)] = 1 ∧ 0 < (1 : Nat) ∧ 0 < (8 : Nat) ∧ (8 : Nat) ≤ 1024) ∧ aApp 1 v23 (f.r 8) h24 fun v25 h26 =>
SameB (some B) h h26 ∧ (aIdxA 3 1 (f.r 5) v20 fun v27 =>
K (RG.p (RG.p (RG.p (RG.p (RG.p (RG.p f 44 v20) 45 v21) 47 (f.r 8)) 46 v23) 48 v25) 49 v27) h26))))))) := by kernel_rfl
end
section
variable {ρ0 : Env} {h H : List AObj} {G : Grp} {m : Nat} {F : RG} {b : FB} {p pl ps pa ph fI at_ : Nat} {lv : Value} {ls : List Pas} {s : SkyR} {heads : Int} {d : Nat}
structure OfG (G : Grp) (ρ : Env) (p ph fI at_ : Nat) (R : Option (List Int)) : Prop where
 ty : G.ty = wgLink.tWg
 R : G.R at_ = R
 C : G.C = ρ.blk ph
 F : G.F = ρ.blk fI
 wg : ρ.blk p = G.wg
theorem stored31 (hb : b = ⟨31,.deferred,none,[dcall wgLink.done #[.pointer (some ⟨G.wg,0,none⟩)]]⟩) {ops : Array Oper} {i : Nat} {o : Oper} (ho : ops[i]? = some o) (hgd : gd ops o F.r = some true) {x y : Operand} (hop : o.op = .store 22 x y) (hdst : o.dst = none) (hat : at_ < 3)
  (hx : ev F.r x = ptr fI at_) {R : Option (List Int)} (hL : LeftV h (ev F.r y) R) (g : Given h pl ps pa ph at_ lv ls s heads) (hO : OfG G ρ0 p ph fI at_ R) (hph : ph < m) (hfI : fI < m) (ds : F.ds = []) :
  At (Toward prog (AtDep prog G at_)) 50 b [base0 prog] noFrm ρ0 m [.inRegion ops [i],.inBlock 0] F h := by
 subst hb
 obtain ⟨d0,ti,hd,hi,hg,hs⟩ := tk_some tkS31
 refine At.storeG (show CallKind.deferred ≠ CallKind.early by decide) ho hgd hop hdst hi hs norace31 hx rfl hL hfI hO.F hat fun ρ hu => ?_
 have hJ := Toward.closed prog (AtLast prog G at_ (ren ρ (ev F.r y)))
 obtain ⟨wr,g5⟩ := g.gh
 refine At.ops_nil hJ (At.inBlock hJ (At.doneG rfl rfl rfl ds at31 (by kernel_rfl) hO.ty g5 rfl (lt_of_get g5) (by rw [hO.C,(hu ph hph).1]) fun g' ρ' w' ft' H' hu' hD => ⟨hD,?_⟩))
 have := left_of H' hL
 rw [ren_congr hu' _ hL.ok.1] at this
 rw [hO.R]
 exact this
theorem nothing31 (hb : b = ⟨31,.deferred,none,[dcall wgLink.done #[.pointer (some ⟨G.wg,0,none⟩)]]⟩) (g : Given h pl ps pa ph at_ lv ls s heads) (hO : OfG G ρ0 p ph fI at_ none) (hph : ph < m) (ds : F.ds = []) :
  At (Toward prog (AtDep prog G at_)) 50 b [base0 prog] noFrm ρ0 m [.code .skip,.inBlock 0] F h := by
 subst hb
 have hJ := Toward.closed prog (AtDep prog G at_)
 obtain ⟨wr,g5⟩ := g.gh
 exact At.skip hJ (At.inBlock hJ (At.doneG rfl rfl rfl ds at31 (by kernel_rfl) hO.ty g5 rfl hph hO.C fun g' ρ' w' ft' H' hu' hD => ⟨hD.1,.inl ⟨hO.R,hD⟩⟩))
theorem worker2 (hb : b = ⟨31,.deferred,none,[dcall wgLink.done #[.pointer (some ⟨G.wg,0,none⟩)]]⟩) {h0 : List AObj} (L : LsOk ls) (f : skyOk s) (hh : 0 ≤ heads ∧ heads ≤ 40) (hs : s.days = (d : Int) + 1) (g : Given h pl ps pa ph at_ lv ls s heads) (hat : at_ < 3) (M : MidW h0 h F pl ps pa ph fI at_ ls s heads) (hO : OfG G ρ0 p ph fI at_ (foundR ls s heads d at_)) (hph : ph < m) (hfI : fI < m) (hm : m ≤ h.length) :
  At (Toward prog (AtDep prog G at_)) 50 b [base0 prog] noFrm ρ0 m [.code (subC [1,1] (codeOf f31))] F h := by
 have hJ := Toward.closed prog (AtDep prog G at_)
 have hbt : b.tag = 31 := by rw [hb]; rfl
 have hbk : b.kind ≠ .early := by
  rw [hb]
  exact show CallKind.deferred ≠ CallKind.early by decide
 obtain ⟨S0,ds,r1,r2,r3,r4,r5,r7,hmw⟩ := M
 obtain ⟨⟨w1,g1⟩,g2,⟨w3,g3⟩,⟨w4,g4⟩,⟨w5,g5⟩⟩ := id g
 have k1 : kn1 lv = true := (sliK g2).2.2
 have hd8 : d ≤ 7 := by
  have := f.1
  omega
 have hfz : (1 : Nat) < fz := by
  have hf : fz = 1180591620717411303424 := rfl
  omega
 rw [shape231]
 unfold foundR at hO
 refine At.block hJ (At.seq hJ (At.piece (Q := fun e F' H => e = .normal ∧ F'.ds = [] ∧ F'.r 1 = ptr pl 0 ∧ F'.r 2 = ptr ps 0 ∧ F'.r 3 = ptr pa 0 ∧ F'.r 4 = ptr ph 0 ∧ F'.r 5 = ptr fI 0 ∧ F'.r 6 = F.r 6 ∧ F'.r 7 = .bool (dawnB ls s at_ heads [startW ls]) ∧ F'.r 21 = .bool (dawnB ls s at_ heads [startW ls] && decide (d = 0)) ∧ H = h) hbt hbk (W_sound hJ mixed _ ?_) hm (Nat.le_refl _) ?_))
 ·rw [q31_2,r2,r7]
  refine cndB (fun hB => ?_) fun hB => ?_
  ·refine offI (ldI (v := vint s.days) g3 rfl rfl (eqlI ⟨rfl,ds,r1,r2,r3,r4,r5,rfl,r7,?_,rfl⟩))
   show Value.bool _ = _
   rw [hB]
   congr 1
   rw [Bool.true_and,decide_eq_decide]
   omega
  ·refine ⟨rfl,ds,r1,r2,r3,r4,r5,rfl,r7,?_,rfl⟩
   show Value.bool false = _
   rw [hB]
   rfl
 rintro e F1 H1 ⟨rfl,ds,r1,r2,r3,r4,r5,r6,r7',r21,rfl⟩
 refine .inl ⟨rfl,At.cond hJ (c := .tmp 21) r21 ?_⟩
 by_cases hB : dawnB ls s at_ heads [startW ls] = true
 rotate_left
 ·-- hungry on the first day
  have hB' : dawnB ls s at_ heads [startW ls] = false := by simpa using hB
  rw [hB'] at hO r7' ⊢
  simp only [Bool.false_and,Bool.false_eq_true,if_false] at hO ⊢
  refine At.seq hJ (At.piece (Q := fun e F' H => e = .normal ∧ F'.ds = [] ∧ F'.r 32 = .bool false ∧ H = H1) hbt hbk (W_sound hJ mixed _ ?_) hm (Nat.le_refl _) ?_)
  ·rw [q31_3,r7']
   exact ⟨rfl,ds,rfl,rfl⟩
  rintro e F2 H2 ⟨rfl,ds2,r32,rfl⟩
  refine .inl ⟨rfl,At.cond hJ (c := .tmp 32) r32 ?_⟩
  exact nothing31 hb g hO hph ds2
 rw [if_pos hB] at hO
 rw [hB] at r7' ⊢
 obtain ⟨M,hmv,hsame⟩ := hmw hB
 rw [← r6] at hmv
 have oM : ∀ w ∈ M,WdOk ls w := fun w hw => by
  have := (hsame w).1 hw
  unfold dawnL at this
  rw [List.mem_flatMap] at this
  obtain ⟨w0,h0,h1⟩ := this
  rw [List.mem_singleton.1 h0] at h1
  obtain ⟨z,hz,rfl⟩ := List.mem_map.1 h1
  exact afters_ok L f hh (startW_ok L) z hz
 cases d with
 | zero =>
  -- one day
  simp only [decide_true,Bool.and_true,if_true]
  refine At.region hJ ?_
  rw [show List.range ops31_2.size = [0,1,2,3,4] from by rw [z31_2]; rfl]
  obtain ⟨a1,a2,a3,a4,a5⟩ := o31_2_0 (J := Toward prog (AtDep prog G at_))
  refine At.op hJ hbk a1 a3 (a4 _) ?_
  rw [a5,a2,r3]
  refine ldI (v := vint (at_ : Nat)) g4 rfl rfl fun _ => ?_
  obtain ⟨b1,b2,b3,b4,b5⟩ := o31_2_1 (J := Toward prog (AtDep prog G at_))
  refine At.op hJ hbk b1 b3 (b4 _) ?_
  rw [b5,b2,show (F1.putO (some 28) (vint (at_ : Nat))).r 3 = ptr pa 0 from r3]
  refine ldI (v := vint (at_ : Nat)) g4 rfl rfl fun _ => ?_
  obtain ⟨c1,c2,c3,c4,c5⟩ := o31_2_2 (J := Toward prog (AtDep prog G at_))
  refine At.op hJ hbk c1 c3 (c4 _) ?_
  rw [c5,c2,show ((F1.putO (some 28) (vint (at_ : Nat))).putO (some 29) (vint (at_ : Nat))).r 29 = vint (at_ : Nat) from rfl]
  refine ⟨⟨by decide,by decide,rfl⟩,fillO (l := [vint (at_ : Nat)]) rfl rfl rfl (by decide) (fillI (qNew fun H2 p2 e2 S2 k2 l2 => fun _ => ?_))⟩
  obtain ⟨d1,d2,d3,d4,d5⟩ := o31_2_3 (J := Toward prog (AtDep prog G at_))
  refine At.op hJ hbk d1 d3 (d4 _) ?_
  rw [d5,d2]
  rw [show (((F1.putO (some 28) (vint (at_ : Nat))).putO (some 29) (vint (at_ : Nat))).putO (some 30) (.slice (some ⟨p2,0,none⟩) 1 1)).r 5 = ptr fI 0 from r5,show (((F1.putO (some 28) (vint (at_ : Nat))).putO (some 29) (vint (at_ : Nat))).putO (some 30) (.slice (some ⟨p2,0,none⟩) 1 1)).r 28 = vint (at_ : Nat) from rfl]
  refine idxAz hat fun _ => ?_
  obtain ⟨f1,f2,f3,f4,f5⟩ := o31_2_4 (J := Toward prog (AtDep prog G at_))
  refine stored31 hb f1 (f4 _) opS231 f2 hat (by show ptr fI (at_ * 1) = _; rw [Nat.mul_one]) (R := some [(at_ : Int)]) ⟨p2,0,1,[vint (at_ : Nat)],rfl,k2,fun i x hx => ?_,by simp,.inl ⟨rfl,rfl,hfz⟩⟩ (g.more S2) hO hph hfI ds
  match i,hx with
  | 0,hx =>
   cases hx
   rfl
 | succ d =>
  have hd0 : decide (d + 1 = 0) = false := by simp
  rw [hd0]
  simp only [Bool.and_false,Bool.false_eq_true,if_false]
  refine At.seq hJ (At.piece (Q := fun e F' H => e = .normal ∧ F' = RG.p (RG.p F1 33 (.bool true)) 32 (.bool true) ∧ H = H1) hbt hbk (W_sound hJ mixed _ ?_) hm (Nat.le_refl _) ?_)
  ·rw [q31_3,r7']
   exact ⟨rfl,rfl,rfl⟩
  rintro e F2 H2 ⟨rfl,rfl,rfl⟩
  refine .inl ⟨rfl,At.cond hJ (c := .tmp 32) (t := true) rfl ?_⟩
  rw [if_pos rfl]
  have hr : restR ls s heads (d + 1) (dawnL ls s at_ heads [startW ls]) = turnR ls s heads d M := (turnR_same d _ _ hsame).symm
  rw [hr] at hO
  refine At.seq hJ (At.piece (Q := fun e F' H => e = .normal ∧ F'.ds = [] ∧ F'.r 3 = ptr pa 0 ∧ F'.r 5 = ptr fI 0 ∧ TurnV H (F'.r 8) (turnR ls s heads d M) ∧ SameX [] H2 H) hbt hbk (W_sound hJ mixed _ ?_) hm (Nat.le_refl _) ?_)
  ·rw [q31_4,show (RG.p (RG.p F1 33 (.bool true)) 32 (.bool true)).r 1 = ptr pl 0 from r1,show (RG.p (RG.p F1 33 (.bool true)) 32 (.bool true)).r 2 = ptr ps 0 from r2,show (RG.p (RG.p F1 33 (.bool true)) 32 (.bool true)).r 4 = ptr ph 0 from r4]
   refine ldI (v := lv) g1 rfl k1 (load_part (c := s.cells) g3 (by simp [SkyR.cells]) rfl rfl (ldI (v := vint heads) g5 rfl rfl (offI (ldI (v := vint s.days) g3 rfl rfl (subI (by have := f.1; omega) ?_)))))
   have e : s.days - 1 = (d : Int) + 1 := by omega
   rw [e]
   exact good35 hJ L f hh d (by omega) g2 hmv oM fun H3 v S3 hv => ⟨rfl,ds,r3,r5,hv,S3⟩
  rintro e F3 H3 ⟨rfl,ds3,r3',r5',hv,S3⟩
  have hm3 : m ≤ H3.length := Nat.le_trans hm S3.1
  have g' := g.more S3
  refine .inl ⟨rfl,At.seq hJ (At.piece (Q := fun e F' H => e = .normal ∧ F' = RG.p (RG.p F3 42 (F3.r 8)) 43 (.bool (turnR ls s heads d M).isSome) ∧ H = H3) hbt hbk (W_sound hJ mixed _ ?_) hm3 (Nat.le_refl _) ?_)⟩
  ·rw [q31_5]
   generalize F3.r 8 = v8 at hv ⊢
   cases hR : turnR ls s heads d M with
   | none =>
    rw [hR] at hv
    have hv : v8 = .slice none 0 0 := hv
    subst hv
    exact neqNilZ (e := 3) (by kernel_rfl) (by kernel_rfl) ⟨rfl,rfl,rfl⟩
   | some l =>
    rw [hR] at hv
    have hlen := turnR_len _ _ _ hR
    obtain ⟨ob,O⟩ := hv
    obtain ⟨_,_,hO | ⟨i,c,sz,hi,rfl,_,_⟩⟩ := id O
    ·cases hO.2.2
    exact neqNilZ (e := 3) (by kernel_rfl) (by kernel_rfl) ⟨rfl,rfl,rfl⟩
  rintro e F4 H4 ⟨rfl,rfl,rfl⟩
  refine .inl ⟨rfl,At.cond hJ (c := .tmp 43) rfl ?_⟩
  cases hR : turnR ls s heads d M with
  | none =>
   rw [hR] at hO
   simp only [Option.isSome_none,Bool.false_eq_true,if_false]
   exact nothing31 hb g' hO hph ds3
  | some l =>
   rw [hR] at hO hv
   simp only [Option.isSome_some,if_true]
   have hlen := turnR_len _ _ _ hR
   obtain ⟨ob,O⟩ := hv
   obtain ⟨wr4,g4'⟩ := g'.ga
   have hlt4 := lt_of_get g4'
   refine At.draw hJ mixed hbk same31 (n := 6) z31_3 (by kernel_rfl) last31 plan31_ok (B := some [pa]) (K := fun F' H' => SameX [] H4 H' ∧ F'.ds = [] ∧ F'.r 49 = ptr fI at_ ∧ LeftV H' (F'.r 48) (some ((at_ : Int) :: l))) ?_ (by simp) ?_
   ·rw [w31,show (RG.p (RG.p F3 42 (F3.r 8)) 43 (.bool true)).r 3 = ptr pa 0 from r3',show (RG.p (RG.p F3 42 (F3.r 8)) 43 (.bool true)).r 5 = ptr fI 0 from r5',show (RG.p (RG.p F3 42 (F3.r 8)) 43 (.bool true)).r 8 = F3.r 8 from rfl]
    refine ldI (v := vint (at_ : Nat)) g4' rfl rfl ⟨by simp [RdOk,ptrBlk],ldI (v := vint (at_ : Nat)) g4' rfl rfl ⟨by simp [RdOk,ptrBlk],⟨by decide,by decide,rfl⟩,fillO (l := [vint (at_ : Nat)]) rfl rfl rfl (by decide) (fillI (qNew fun H5 p5 e5 S5 c5 l5 => ?_))⟩⟩
    refine ⟨sbL S5 fun p hp => ⟨by rw [List.mem_singleton.1 hp]; exact hlt4,by simp⟩,⟨rfl,by decide,by decide,by decide⟩,appF c5 rfl (by omega) (S5.sli (ownX_sli O) (by simp)) fun O6 => ?_⟩
    have S6 : SameX [] H5 (H5 ++ [.cells (vint (at_ : Nat) :: l.map vint) true 1]) := SameX.refl.app
    refine ⟨sbL (S5.trans S6) fun p hp => ⟨by rw [List.mem_singleton.1 hp]; exact hlt4,by simp⟩,?_⟩
    refine idxAz hat ⟨S5.trans S6,ds3,by show ptr fI (at_ * 1) = _; rw [Nat.mul_one],?_⟩
    have e1 : 1 + l.length = (((at_ : Nat) : Int) :: l).length := by rw [List.length_cons]; omega
    refine ⟨H5.length,1,fz,(((at_ : Nat) : Int) :: l).map vint,by show Value.slice _ (1 + l.length) fz = _; rw [e1],by simp,fun i x hx => by rw [List.getElem?_map,hx]; rfl,by simp,.inr ⟨rfl,rfl⟩⟩
   ·rintro F5 H5 ⟨S5,ds5,r49,hL⟩
    obtain ⟨f1,f2,f3,f4,f5⟩ := o31_3_6 (J := Toward prog (AtDep prog G at_))
    exact stored31 hb f1 (f4 _) opS331 f2 hat r49 hL (g'.more S5) hO hph hfI ds5
theorem worker_goes {w : World} {fi : Foot} (L : LsOk ls) (f : skyOk s) (hh : 0 ≤ heads ∧ heads ≤ 40) (hs : s.days = (d : Int) + 1) (g : Given h pl ps pa ph at_ lv ls s heads) (hat : at_ < 3) (hp : p < h.length) (hfI : fI < h.length) (hO : OfG G ρ0 p ph fI at_ (foundR ls s heads d at_)) (H : HRel ρ0 h noFrm w fi) :
  Toward prog (AtDep prog G at_) (Go.Conc.G (Frame.enter prog 31 ⟨([ptr p 0,ptr pl 0,ptr ps 0,ptr pa 0,ptr ph 0,ptr fI 0] : List Value).map (ren ρ0)⟩ .deferred) [base0 prog]) w fi := by
 have hJ := Toward.closed prog (AtDep prog G at_)
 obtain ⟨⟨w1,g1⟩,g2,⟨w3,g3⟩,⟨w4,g4⟩,⟨w5,g5⟩⟩ := id g
 have b1 := lt_of_get g1
 have b3 := lt_of_get g3
 have b4 := lt_of_get g4
 have b5 := lt_of_get g5
 refine At.enter at31 body31 (Nat.le_of_ble_eq_true rfl) (fun v hv => ?_) H ?_
 ·simp only [List.mem_cons,List.not_mem_nil,or_false] at hv
  rcases hv with rfl | rfl | rfl | rfl | rfl | rfl <;> simp [VOk,AddrOk] <;> assumption
 rw [show f31.ntmps = 50 from by kernel_rfl,shape31,r31_1]
 refine At.seq hJ (At.region hJ ?_)
 rw [show List.range ops31_1.size = [0] from by rw [z31_1]; rfl]
 obtain ⟨u1,u2,u3,u4,_⟩ := o31_1_0 (J := J1 prog w fun _ _ => True)
 have hop := op31
 refine At.deferG hJ (by decide) rfl rfl u1 (u4 _) hop u2 (p := p) rfl hp rfl ?_
 rw [hO.wg]
 refine At.ops_nil hJ (At.seq hJ (At.piece rfl (show CallKind.deferred ≠ CallKind.early by decide) (W_sound hJ mixed _ (worker1 hJ (fI := fI) L f hh g rfl rfl rfl rfl rfl rfl)) (Nat.le_refl _) (Nat.le_refl _) ?_))
 rintro e F1 H1 ⟨rfl,M⟩
 exact .inl ⟨rfl,worker2 rfl L f hh hs (g.more M.S) hat M hO b5 hfI M.S.1⟩
end
end Go.Proofs.Yteoenhhmcpipoaa
namespace Go.Proofs.Yteoenhhmcpipoaa
open Go.Conc Go.Proofs.Try
set_option maxRecDepth 100000
structure MidT (h H : List AObj) (F : RG) (pl ps ph fI : Nat) (lv : Value) (s : SkyR) (heads : Int) : Prop where
 S : SameX [] h H
 ds : F.ds = []
 r3 : F.r 3 = ptr pl 0
 r4 : F.r 4 = ptr ps 0
 r5 : F.r 5 = ptr ph 0
 r13 : F.r 13 = ptr fI 0
 hl : H[pl]? = some (.cells [lv] true 0)
 hs : H[ps]? = some (.cells s.cells true 0)
 hh : H[ph]? = some (.cells [vint heads] true 0)
 hf : H[fI]? = some (.cells [nilS,nilS,nilS] true 0)
 fI : h.length ≤ fI
section
variable {main : Bool} {J : JT} {h : List AObj} {K : Value → List AObj → Prop} {Sx : RG → List AObj → Prop}
theorem front12 (hJ : Closed prog main J) {ls : List Pas} {lv : Value} {s : SkyR} {heads : Int} (L : LsOk ls) (f : skyOk s) (hh : 0 ≤ heads ∧ heads ≤ 40) (hl : SliE h lv 6 Pas.cells ls)
  (hS : ∀ F H pl ps ph fI,MidT h H F pl ps ph fI lv s heads → Sx F H) :
  W prog J 75 h.length 12 (trunc 6 (codeOf f12)) (RG.mk (regs [lv,.agg ⟨s.cells⟩,vint heads]) []) h (thenK Sx (RetQ prog [.tmp 6,.tmp 7] h.length K)) := by
 rw [e12]
 have few := L.few
 have kk := sliK hl
 refine qBox1 kk.1 kk.2.1 fun H1 pl e1 S1 c1 l1 => qBox (l := s.cells) rfl fun H2 ps e2 S2 c2 l2 => qBox1 rfl rfl fun H3 ph e3 S3 c3 l3 => ?_
 have c1' := S3.get (S2.get c1 (by simp)) (by simp)
 have c2' := S3.get c2 (by simp)
 have T := (S1.trans S2).trans S3
 have hcnt : cntE (ls.length : Nat) 1 3 = 0 := by
  unfold cntE
  rw [if_neg (by omega),if_neg (by omega)]
 refine ldI (v := lv) c1' rfl kk.2.2 ?_
 rw [sliE_len (T.sli hl (by simp))]
 refine good26 hJ (neqI (cndI (fun h1 => absurd hcnt h1) fun _ => ldI (v := lv) c1' rfl kk.2.2 ?_))
 rw [sliE_len (T.sli hl (by simp)),hcnt]
 refine l12_1 hJ (fun k : Nat => ls.length - k) (fun k F H' => k ≤ ls.length ∧ SameX [] h H' ∧ H'[pl]? = some (.cells [lv] true 0) ∧ H'[ps]? = some (.cells s.cells true 0) ∧ H'[ph]? = some (.cells [vint heads] true 0) ∧ F.ds = [] ∧ F.r 3 = ptr pl 0 ∧ F.r 4 = ptr ps 0 ∧ F.r 5 = ptr ph 0 ∧ F.r 24 = lv ∧ F.r 25 = vint (ls.length : Nat) ∧ F.r 26 = vint (k : Nat)) ?_ (s := 0)
  (.inl ⟨by omega,T,c1',c2',c3,rfl,rfl,rfl,rfl,rfl,rfl,rfl⟩)
 rintro k F H' ⟨hk,S,d1,d2,d3,ds,r3,r4,r5,r24,r25,r26⟩ okc hnc
 rw [s12_1,r4,r5,r24,r25,r26]
 refine lssI (cndI (fun hlt => ?_) fun hge => ?_)
 ·have hkl : k < ls.length := by omega
  have hl' := S.sli hl (by simp)
  obtain ⟨b,o,cs,wr,sz,hidx,hb,hos,htk,hkn⟩ := sliE_elem (s := 6) (fun _ => rfl) (by decide) hl' hkl
  have fp := L.ok _ (List.getElem_mem hkl)
  generalize ls[k] = p at htk fp
  have q1 := lt_of_get d1
  have q2 := lt_of_get d2
  have q3 := lt_of_get d3
  refine hidx _ (load_part (c := p.cells) hb hos htk rfl (qAl fun H4 p4 e4 S4 c4 l4 => qStA (c := p.cells) c4 rfl rfl rfl fun H5 S5 c5 l5 => load_part (c := p.cells) c5 (by simp [Pas.cells]) rfl rfl ?_))
  have hz : pasE p = 0 := by unfold pasE; rw [if_pos fp]
  refine good27 hJ (neqI (cndI (fun h1 => absurd hz h1) fun _ => ?_))
  refine addI (by omega) ⟨k + 1,by dsimp only; omega,.inl ⟨by omega,(S.trans S4).thru S5 (by have := S.1; simp; omega),S5.get (S4.get d1 (by simp)) (by simp; omega),S5.get (S4.get d2 (by simp)) (by simp; omega),S5.get (S4.get d3 (by simp)) (by simp; omega),ds,r3,r4,r5,r24,r25,by show vint _ = vint _; congr 1⟩⟩
 ·refine load_part (c := s.cells) d2 (by simp [SkyR.cells]) rfl rfl ?_
  have hz : skyE s = 0 := by unfold skyE; rw [if_pos f]
  refine good28 hJ (neqI (cndI (fun h1 => absurd hz h1) fun _ => ldI (v := vint heads) d3 rfl rfl (good29 hJ (notI (cndN (fun h1 => absurd hh h1) fun _ => ?_)))))
  refine qAl fun H4 fI e4 S4 c4 l4 => hS _ H4 pl ps ph fI ⟨S.trans S4,ds,r3,r4,r5,rfl,S4.get d1 (by simp),S4.get d2 (by simp),S4.get d3 (by simp),c4,?_⟩
  have := S.1
  omega
end
end Go.Proofs.Yteoenhhmcpipoaa
namespace Go.Proofs.Yteoenhhmcpipoaa
open Go.Conc Go.Conc.Lib Go.Proofs.Try
set_option maxRecDepth 100000
theorem shape12 : subC [1,1,1,1,1,1] (codeOf f12) = .seq (.region 17 ops12_1 false) (.seq (.seq (subC [1,1,1,1,1,1,1,0,0] (codeOf f12)) (.block 2 (.loop (subC [1,1,1,1,1,1,1,0,1,0,0] (codeOf f12))))) (.seq (subC [1,1,1,1,1,1,1,1,0] (codeOf f12)) (subC [1,1,1,1,1,1,1,1,1] (codeOf f12)))) := by kernel_rfl
theorem round12 : (subC [1,1,1,1,1,1,1,0,1,0,0] (codeOf f12)) = .seq (subC [1,1,1,1,1,1,1,0,1,0,0,0] (codeOf f12)) (.seq (subC [1,1,1,1,1,1,1,0,1,0,0,1,0] (codeOf f12)) (.seq (.block 3 (.seq (subC [1,1,1,1,1,1,1,0,1,0,0,1,1,0,0,0] (codeOf f12)) (.seq (subC [1,1,1,1,1,1,1,0,1,0,0,1,1,0,0,1,0] (codeOf f12)) (.seq (subC [1,1,1,1,1,1,1,0,1,0,0,1,1,0,0,1,1,0] (codeOf f12)) (.region 23 ops12_2 false))))) (subC [1,1,1,1,1,1,1,0,1,0,0,1,1,1] (codeOf f12)))) := by kernel_rfl
theorem teqP (p q : Pas) : teq prog 10000 28 (.agg ⟨p.cells⟩) (.agg ⟨q.cells⟩) = mB (some (p.grass == q.grass)) (mB (some (p.bears == q.bears)) (mB (some (p.dry == q.dry)) (mB (some (p.wet == q.wet)) (mB (some (p.stubble == q.stubble)) (mB (some (p.sleep == q.sleep)) (some true)))))) := by kernel_rfl
theorem eqlP {p q : Pas} {KV : Value → Prop} (hk : KV (.bool (decide (p = q)))) : aBin prog .eql 28 (.agg ⟨p.cells⟩) (.agg ⟨q.cells⟩) KV := by
 show aEq prog false 28 (.agg ⟨p.cells⟩) (.agg ⟨q.cells⟩) KV
 have : teq prog 10000 28 (.agg ⟨p.cells⟩) (.agg ⟨q.cells⟩) = some (decide (p = q)) := by
  rw [teqP]
  simp only [mB_some,Option.some.injEq]
  rw [Bool.eq_iff_iff]
  simp only [Bool.and_eq_true,beq_iff_eq,decide_eq_true_eq,and_true]
  constructor
  ·rintro ⟨h1,h2,h3,h4,h5,h6⟩
   cases p
   cases q
   simp only at h1 h2 h3 h4 h5 h6
   simp only [h1,h2,h3,h4,h5,h6]
  ·rintro rfl
   exact ⟨rfl,rfl,rfl,rfl,rfl,rfl⟩
 unfold aEq
 rw [this]
 exact ⟨by kernel_rfl,hk⟩
theorem sli_frz {h H : List AObj} {v : Value} {s n : Nat} {cs : List Value} (hs : Sli h v s n cs) (hk : ∀ (i : Nat) cs wr sz,h[i]? = some (.cells cs wr sz) → ∃ wr',H[i]? = some (.cells cs wr' sz)) : Sli H v s n cs := by
 obtain ⟨base,c,rfl,hkn,hh⟩ := hs
 refine ⟨base,c,rfl,hkn,hh.imp id ?_⟩
 rintro ⟨b,o,e,h0⟩
 refine ⟨b,o,e,h0.imp id fun ⟨cs,wr,sz,hb,ht⟩ => ?_⟩
 obtain ⟨wr',hb'⟩ := hk b cs wr sz hb
 exact ⟨cs,wr',sz,hb',ht⟩
theorem frzC {h : List AObj} {i : Nat} {c : List Value} {wr : Bool} {sz : Nat} (hb : h[i]? = some (.cells c wr sz)) : (frz h)[i]? = some (.cells c false sz) := by
 unfold frz
 rw [List.getElem?_map,hb]
 rfl
theorem lentA_cells {h : List AObj} {fI i : Nat} {c : List Value} {wr : Bool} {sz : Nat} (hb : h[i]? = some (.cells c wr sz)) (h2 : i ≠ fI) : (lentA h fI)[i]? = some (.cells c false sz) := by
 unfold lentA
 rw [List.getElem?_set_ne (Ne.symm h2)]
 exact frzC hb
theorem alloc1 {h : List AObj} {v : Value} (hc : v.cells = #[v]) (h1 : one v = true) {HL : Value → List AObj → Prop} (hk : HL (ptr h.length 0) (h ++ [AObj.cells [v] true 0])) : aAlloc [vint 0] h fun v1 h2 => aStore 1 v1 v h2 fun h3 => HL v1 h3 := by
 show aStore 1 (ptr h.length 0) v (h ++ [AObj.cells [vint 0] true 0]) _
 refine store_cell (c := [vint 0]) (sz := 0) (by simp) (by simp) hc h1 ?_
 have e : (h ++ [AObj.cells [vint 0] true 0]).set h.length (.cells ([vint 0].set 0 v) true 0) = h ++ [.cells [v] true 0] := by simp
 rw [e]
 exact hk
def skipT (ls : List Pas) (n : Nat) : Bool := decide (0 < n) && decide (ls.getD n pas0 = ls.getD (n - 1) pas0)
def hiredL (ls : List Pas) : Nat → List Nat
 | 0 => []
 | n + 1 => if skipT ls n = true then hiredL ls n else n :: hiredL ls n
theorem hiredL_lt {ls : List Pas} : ∀ {n a : Nat},a ∈ hiredL ls n → a < n
 | n + 1,a,h => by
  unfold hiredL at h
  split at h
  ·have := hiredL_lt h
   omega
  ·rcases List.mem_cons.1 h with rfl | h
   ·omega
   ·have := hiredL_lt h
    omega
theorem hiredL_mem {ls : List Pas} : ∀ {n a : Nat},a < n → (a ∈ hiredL ls n ↔ skipT ls a = false)
 | n + 1,a,h => by
  unfold hiredL
  by_cases e : a = n
  ·subst e
   split
   ·rename_i hs
    rw [hs]
    exact ⟨fun h => absurd (hiredL_lt h) (by omega),fun h => by cases h⟩
   ·rename_i hs
    exact ⟨fun _ => by simpa using hs,fun _ => List.mem_cons_self⟩
  ·have ih := hiredL_mem (ls := ls) (n := n) (a := a) (by omega)
   split
   ·exact ih
   ·rw [List.mem_cons]
    exact ⟨fun h => ih.1 (h.resolve_left e),fun h => .inr (ih.2 h)⟩
structure RT (f : RG) (p pl ps ph fI n k : Nat) : Prop where
 ds : f.ds = []
 r3 : f.r 3 = ptr pl 0
 r4 : f.r 4 = ptr ps 0
 r5 : f.r 5 = ptr ph 0
 r13 : f.r 13 = ptr fI 0
 r14 : f.r 14 = ptr p 0
 r45 : f.r 45 = vint (n : Nat)
 r46 : f.r 46 = vint (k : Nat)
structure OwnB (B : List AObj) : Prop where
 wr : ∀ o ∈ B,o.live = true → o.wrt = true
 ng : ∀ z,.group z ∉ B
theorem OwnB.snoc {B : List AObj} (b : OwnB B) {c : List Value} : OwnB (B ++ [.cells c true 0]) := by
 refine ⟨fun o ho l => ?_,fun z hz => ?_⟩
 ·rcases List.mem_append.1 ho with ho | ho
  ·exact b.wr o ho l
  ·rw [List.mem_singleton.1 ho]
   rfl
 ·rcases List.mem_append.1 hz with hz | hz
  ·exact b.ng z hz
  ·cases List.mem_singleton.1 hz
theorem OwnB.deads {n : Nat} : OwnB (deads n) := by
 refine ⟨fun o ho l => ?_,fun z hz => ?_⟩
 ·rw [(List.mem_replicate.1 ho).2] at l
  cases l
 ·cases (List.mem_replicate.1 hz).2
structure LentT (A : List AObj) (pl ps ph : Nat) (lv : Value) (ls : List Pas) (s : SkyR) (heads : Int) : Prop where
 ok : ∀ o ∈ A,o.wrt = false ∧ (∀ z,o ≠ .group z) ∧ frzO o = o
 gl : A[pl]? = some (.cells [lv] false 0)
 gs : A[ps]? = some (.cells s.cells false 0)
 gh : A[ph]? = some (.cells [vint heads] false 0)
 sl : ∀ (x : Nat) (B : List AObj),SliE (A ++ [.group x] ++ B) lv 6 Pas.cells ls ∧ SliE (frz (A ++ [.group x] ++ B)) lv 6 Pas.cells ls
theorem inA {A B : List AObj} {o x : AObj} {i : Nat} (h : A[i]? = some o) : (A ++ [x] ++ B)[i]? = some o := by
 rw [List.append_assoc,List.getElem?_append_left (lt_of_get h)]
 exact h
theorem LentT.grp {A B : List AObj} {pl ps ph x : Nat} {lv : Value} {ls : List Pas} {s : SkyR} {heads : Int} (a : LentT A pl ps ph lv ls s heads) (b : OwnB B) (hx : x < 32) : GrpAt (A ++ [.group x] ++ B) A.length x := by
 refine ⟨?_,fun q z hq => ?_,hx⟩
 ·rw [List.append_assoc,List.getElem?_append_right (Nat.le_refl _)]
  simp
 ·rcases app3_get hq with h | ⟨h,_⟩ | ⟨_,h⟩
  ·exact absurd rfl ((a.ok _ (List.mem_of_getElem? h)).2.1 z)
  ·exact h
  ·exact absurd (List.mem_of_getElem? h) (b.ng z)
theorem set3 {A B : List AObj} {x y : AObj} : (A ++ [x] ++ B).set A.length y = A ++ [y] ++ B := by
 rw [List.append_assoc,List.set_append_right _ _ (Nat.le_refl _)]
 simp
section
variable {W0 : World} {Post : Value → World → Prop} {G : Grp} {m : Nat} {A : List AObj} {FC : Frm} {ρ0 : Env} {fs : List Frame} {b : FB} {k0 : List Item} {pl ps ph fI : Nat} {lv : Value} {ls : List Pas} {s : SkyR} {heads : Int} {d : Nat}
theorem testT {J : JT} (L : LsOk ls) {H : List AObj} {f : RG} {n a : Nat} (hn : n < ls.length) {wr : Bool} (hpl : H[pl]? = some (.cells [lv] wr 0)) (hsl : SliE H lv 6 Pas.cells ls) (ha : H[a]? = some (.cells [vint (n : Nat)] true 0)) (R : RT f A.length pl ps ph fI ls.length n) (r15 : f.r 15 = ptr a 0) {n0 : Nat} :
  W prog J 75 n0 12 (subC [1,1,1,1,1,1,1,0,1,0,0,1,1,0,0,1,0] (codeOf f12)) f H (fun e f' h' => ((skipT ls n = true ∧ e = .exit 3) ∨ (skipT ls n = false ∧ e = .normal)) ∧ RT f' A.length pl ps ph fI ls.length n ∧ f'.r 15 = ptr a 0 ∧ h' = H) := by
 have few := L.few
 obtain ⟨ds,r3,r4,r5,r13,r14,r45,r46⟩ := R
 rw [q12_5,r15,r3]
 have kk := (sliK hsl).2.2
 have el : ∀ {i : Nat} (hi : i < ls.length),∀ {KV : Value → Value → Prop},(∀ v,KV v (.agg ⟨(ls.getD i pas0).cells⟩)) → aIdx 6 lv (vint (i : Nat)) fun v => aLoad true 6 v H (KV v) := fun {i} hi {KV} hk => by
  obtain ⟨bb,o,cs,wr,sz,hidx,hb,hos,htk,hkn⟩ := sliE_elem (s := 6) (fun _ => rfl) (by decide) hsl (i := i) hi
  refine hidx _ (load_part (c := (ls.getD i pas0).cells) hb hos ?_ rfl (hk _))
  rw [htk,List.getD_eq_getElem?_getD,List.getElem?_eq_getElem hi]
  rfl
 refine ldI (v := vint (n : Nat)) ha rfl rfl (gtrI (cndI (fun h0 => ?_) fun h0 => ?_))
 ·have hn0 : 0 < n := by omega
  have e1 : ((n : Nat) : Int) - 1 = ((n - 1 : Nat) : Int) := by omega
  refine ldI (v := lv) hpl rfl kk (ldI (v := vint (n : Nat)) ha rfl rfl ?_)
  refine el hn fun _ => (ldI (v := lv) hpl rfl kk (ldI (v := vint (n : Nat)) ha rfl rfl (subI (by omega) ?_)))
  rw [e1]
  refine el (by omega) fun _ => (eqlP (cndI (fun he => ?_) fun he => ?_))
  ·refine ⟨.inl ⟨?_,rfl⟩,⟨ds,r3,r4,r5,r13,r14,r45,r46⟩,r15,rfl⟩
   unfold skipT
   rw [decide_eq_true hn0,decide_eq_true he]
   rfl
  ·refine ⟨.inr ⟨?_,rfl⟩,⟨ds,r3,r4,r5,r13,r14,r45,r46⟩,r15,rfl⟩
   unfold skipT
   rw [decide_eq_false he,Bool.and_false]
 ·have hn0 : ¬ 0 < n := by omega
  refine ⟨.inr ⟨?_,rfl⟩,⟨ds,r3,r4,r5,r13,r14,r45,r46⟩,r15,rfl⟩
  unfold skipT
  rw [decide_eq_false hn0,Bool.false_and]
noncomputable def restC : List Item := [.inBlock 2,.code (.seq (subC [1,1,1,1,1,1,1,1,0] (codeOf f12)) (subC [1,1,1,1,1,1,1,1,1] (codeOf f12)))]
theorem endT {J : JT} {main : Bool} (hJ : Closed prog main J) (hk : b.kind ≠ .early) (hb : b.tag = 12) {H : List AObj} {f : RG} {p : Nat} (hm : m ≤ H.length) {n k : Nat} (hk2 : k < 3) (R : RT f p pl ps ph fI n k)
  (hnext : ∀ f',RT f' p pl ps ph fI n (k + 1) → At J 75 b fs FC ρ0 m k0 f' H) : At J 75 b fs FC ρ0 m (.code (subC [1,1,1,1,1,1,1,0,1,0,0,1,1,1] (codeOf f12)) :: k0) f H := by
 obtain ⟨ds,r3,r4,r5,r13,r14,r45,r46⟩ := R
 refine At.piece (Q := fun e f' h' => e = .normal ∧ RT f' p pl ps ph fI n (k + 1) ∧ h' = H) hb hk (W_sound hJ mixed _ ?_) hm (Nat.le_refl _) ?_
 ·rw [q12_7,r46]
  exact addI (by omega) ⟨rfl,⟨ds,r3,r4,r5,r13,r14,r45,rfl⟩,rfl⟩
 rintro e f1 h1 ⟨rfl,R1,rfl⟩
 exact .inl ⟨rfl,hnext f1 R1⟩
theorem rounds (hty : G.ty = wgLink.tWg) (hk : b.kind ≠ .early) (hb : b.tag = 12) (L : LsOk ls) (fo : skyOk s) (hh : 0 ≤ heads ∧ heads ≤ 40) (hd : s.days = (d : Int) + 1) (hm : m = A.length + 1) (hfI : fI < A.length) (a : LentT A pl ps ph lv ls s heads) (hFw : ∀ x,¬ FC.wr x)
  (hR : ∀ n,n < ls.length → G.R n = foundR ls s heads d n) (hC : G.C = ρ0.blk ph) (hF : G.F = ρ0.blk fI)
  (hdone : ∀ f' B,f'.ds = [] → f'.r 13 = ptr fI 0 → OwnB B → At (JG prog W0 Post G (hiredL ls ls.length)) 75 b fs FC ρ0 m (.code (subC [1,1,1,1,1,1,1,1,1] (codeOf f12)) :: k0) f' (A ++ [.group 12] ++ B)) :
  ∀ (j n : Nat),n + j = ls.length → ∀ (f : RG) (B : List AObj),RT f A.length pl ps ph fI ls.length n → OwnB B →
   At (JG prog W0 Post G (hiredL ls n)) 75 b fs FC ρ0 m (.code (subC [1,1,1,1,1,1,1,0,1,0,0] (codeOf f12)) :: .inLoop (subC [1,1,1,1,1,1,1,0,1,0,0] (codeOf f12)) :: (restC ++ k0)) f (A ++ [.group 1] ++ B) := by
 have few := L.few
 intro j
 induction j with
 | zero =>
  intro n hn f B R oB
  have hn : n = ls.length := by omega
  subst hn
  have hJ := JG.closed prog W0 Post G (hiredL ls ls.length)
  have hmB : m ≤ (A ++ [AObj.group 1] ++ B).length := by simp; omega
  obtain ⟨ds,r3,r4,r5,r13,r14,r45,r46⟩ := R
  rw [round12]
  refine At.seq hJ (At.piece (Q := fun e f' h' => e = .normal ∧ f' = RG.p f 47 (.bool false) ∧ h' = A ++ [.group 1] ++ B) hb hk (W_sound hJ mixed _ ?_) hmB (Nat.le_refl _) ?_)
  ·rw [q12_2,r45,r46]
   refine lssI ⟨rfl,?_,rfl⟩
   rw [decide_eq_false (Int.lt_irrefl _)]
  rintro e f5 h5 ⟨rfl,rfl,rfl⟩
  refine .inl ⟨rfl,At.seq hJ (At.piece (Q := fun e f' h' => e = .exit 2 ∧ f' = RG.p f 47 (.bool false) ∧ h' = A ++ [.group 1] ++ B) hb hk (W_sound hJ mixed _ ?_) hmB (Nat.le_refl _) ?_)⟩
  ·rw [q12_3]
   exact cnd_false.2 ⟨rfl,rfl,rfl⟩
  rintro e f6 h6 ⟨rfl,rfl,rfl⟩
  refine .inr ⟨2,.code (.seq (subC [1,1,1,1,1,1,1,1,0] (codeOf f12)) (subC [1,1,1,1,1,1,1,1,1] (codeOf f12))) :: k0,rfl,by simp [exitTo,restC],?_⟩
  refine At.seq hJ (At.piece (Q := fun e f' h' => e = .normal ∧ f'.ds = [] ∧ f'.r 13 = ptr fI 0 ∧ h' = A ++ [.group 12] ++ B) hb hk (W_sound hJ mixed _ ?_) hmB (Nat.le_refl _) ?_)
  ·rw [q12_8,show (RG.p f 47 (.bool false)).r 14 = ptr A.length 0 from r14]
   exact good_wwait hty (a.grp oB (by omega)) ⟨rfl,ds,r13,set3⟩
  rintro e f7 h7 ⟨rfl,ds7,r7,rfl⟩
  exact .inl ⟨rfl,hdone f7 B ds7 r7 oB⟩
 | succ j ih =>
  intro n hn f B R oB
  have hJ := JG.closed prog W0 Post G (hiredL ls n)
  have hmB : m ≤ (A ++ [AObj.group 1] ++ B).length := by simp; omega
  have hnl : n < ls.length := by omega
  obtain ⟨ds,r3,r4,r5,r13,r14,r45,r46⟩ := R
  rw [round12]
  refine At.seq hJ (At.piece (Q := fun e f' h' => e = .normal ∧ f' = RG.p f 47 (.bool true) ∧ h' = A ++ [.group 1] ++ B) hb hk (W_sound hJ mixed _ ?_) hmB (Nat.le_refl _) ?_)
  ·rw [q12_2,r45,r46]
   refine lssI ⟨rfl,?_,rfl⟩
   have : ((n : Int) < ((ls.length : Nat) : Int)) := by omega
   rw [decide_eq_true this]
  rintro e f1 h1 ⟨rfl,rfl,rfl⟩
  refine .inl ⟨rfl,At.seq hJ (At.piece (Q := fun e f' h' => e = .normal ∧ f' = RG.p f 47 (.bool true) ∧ h' = A ++ [.group 1] ++ B) hb hk (W_sound hJ mixed _ ?_) hmB (Nat.le_refl _) ?_)⟩
  ·rw [q12_3]
   exact cnd_true.2 ⟨rfl,rfl,rfl⟩
  rintro e f2 h2 ⟨rfl,rfl,rfl⟩
  generalize hlB : (A ++ [AObj.group 1] ++ B).length = lB at hmB
  have hlB' : lB = A.length + 1 + B.length := by rw [← hlB]; simp; omega
  have hB1 : ∀ x,A ++ [AObj.group x] ++ B ++ [AObj.cells [vint (n : Nat)] true 0] = A ++ [AObj.group x] ++ (B ++ [AObj.cells [vint (n : Nat)] true 0]) := fun x => List.append_assoc _ _ _
  refine .inl ⟨rfl,At.seq hJ (At.block hJ (At.seq hJ (At.piece (Q := fun e f' h' => e = .normal ∧ RT f' A.length pl ps ph fI ls.length n ∧ f'.r 15 = ptr lB 0 ∧ h' = A ++ [.group 1] ++ (B ++ [AObj.cells [vint (n : Nat)] true 0])) hb hk (W_sound hJ mixed _ ?_) (by rw [hlB]; exact hmB) (Nat.le_refl _) ?_)))⟩
  ·rw [q12_4]
   rw [show (RG.p f 47 (.bool true)).r 46 = vint (n : Nat) from r46]
   exact alloc1 rfl rfl ⟨rfl,⟨ds,r3,r4,r5,r13,r14,r45,r46⟩,by rw [← hlB]; rfl,hB1 1⟩
  rintro e f3 h3 ⟨rfl,R3,r15,rfl⟩
  have oB1 : OwnB (B ++ [AObj.cells [vint (n : Nat)] true 0]) := oB.snoc
  have hmB1 : ∀ x,m ≤ (A ++ [AObj.group x] ++ (B ++ [AObj.cells [vint (n : Nat)] true 0])).length := fun x => by simp; omega
  have ga : ∀ x,(A ++ [AObj.group x] ++ (B ++ [AObj.cells [vint (n : Nat)] true 0]))[lB]? = some (.cells [vint (n : Nat)] true 0) := fun x => by
   rw [← hB1,List.getElem?_append_right (by simp; omega)]
   have : lB - (A ++ [AObj.group x] ++ B).length = 0 := by simp; omega
   rw [this]
   rfl
  have hl1 : (B ++ [AObj.cells [vint (n : Nat)] true 0]).length = B.length + 1 := by simp
  generalize B ++ [AObj.cells [vint (n : Nat)] true 0] = B1 at oB1 hmB1 ga hl1
  refine .inl ⟨rfl,At.seq hJ (At.piece hb hk (W_sound hJ mixed _ (testT L hnl (inA a.gl) (a.sl 1 B1).1 (ga 1) R3 r15)) (hmB1 1) (Nat.le_refl _) ?_)⟩
  rintro e f4 h4 ⟨hsk,R4,r15',rfl⟩
  rcases hsk with ⟨hsk,rfl⟩ | ⟨hsk,rfl⟩
  ·-- as the one ahead
   refine .inr ⟨3,.code (subC [1,1,1,1,1,1,1,0,1,0,0,1,1,1] (codeOf f12)) :: .inLoop (subC [1,1,1,1,1,1,1,0,1,0,0] (codeOf f12)) :: (restC ++ k0),rfl,by simp [exitTo,round12],?_⟩
   refine endT hJ hk hb (hmB1 1) (by omega) R4 fun f5 R5 => At.inLoop hJ ?_
   have := ih (n + 1) (by omega) f5 B1 R5 oB1
   rw [hiredL,if_pos hsk] at this
   exact this
  ·have hJ' := JG.closed prog W0 Post G (n :: hiredL ls n)
   obtain ⟨ds,r3,r4,r5,r13,r14,r45,r46⟩ := R4
   refine .inl ⟨rfl,At.seq hJ (At.piece (Q := fun e f' h' => e = .normal ∧ RT f' A.length pl ps ph fI ls.length n ∧ f'.r 15 = ptr lB 0 ∧ h' = A ++ [.group 4] ++ B1) hb hk (W_sound hJ mixed _ ?_) (hmB1 1) (Nat.le_refl _) ?_)⟩
   ·rw [q12_6,r14]
    exact good_wadd hty (a.grp oB1 (by omega)) ⟨rfl,⟨ds,r3,r4,r5,r13,r14,r45,r46⟩,r15',set3⟩
   rintro e f5 h5 ⟨rfl,R5,r15',rfl⟩
   have R5' := R5
   obtain ⟨ds,r3,r4,r5,r13,r14,r45,r46⟩ := R5
   refine .inl ⟨rfl,At.region hJ ?_⟩
   rw [show List.range ops12_2.size = [0,1] from by rw [z12_2]; rfl]
   obtain ⟨u1,u2,u3,u4,u5⟩ := o12_2_0 (J := JG prog W0 Post G (hiredL ls n))
   obtain ⟨w1,w2,w3,w4,w5⟩ := o12_2_1 (J := JG prog W0 Post G (hiredL ls n))
   refine At.op hJ hk u1 u3 (u4 _) ?_
   rw [u5,u2,r14,r3,r4,r15',r5,r13]
   refine ⟨rfl,fun _ => ?_⟩
   have lpl := lt_of_get a.gl
   have lps := lt_of_get a.gs
   have lph := lt_of_get a.gh
   refine At.hireG hk w1 (w4 _) w5 w2 (cap := [ptr A.length 0,ptr pl 0,ptr ps 0,ptr lB 0,ptr ph 0,ptr fI 0]) rfl (by kernel_rfl) rfl a.ok hFw (s := n) (by omega) (fun h => absurd (hiredL_lt h) (Nat.lt_irrefl _)) (fun ρ w ft HR hu hwgρ => ?_) ?_
   ·refine worker_goes L fo hh hd ⟨⟨_,frzC (inA a.gl)⟩,(a.sl 4 B1).2,⟨_,frzC (inA a.gs)⟩,⟨_,frzC (ga 4)⟩,⟨_,frzC (inA a.gh)⟩⟩ (by omega) (by rw [frz_len]; simp <;> omega) (by rw [frz_len]; simp <;> omega) ⟨hty,hR n hnl,?_,?_,hwgρ⟩ HR
    ·rw [(hu ph (by omega)).1,hC]
    ·rw [(hu fI (by omega)).1,hF]
   ·have hm2 : m ≤ (A ++ [AObj.group 1] ++ deads B1.length).length := by simp; omega
    refine At.ops_nil hJ' (At.inBlock hJ' (endT hJ' hk hb hm2 (by omega) (R := ?_) (p := A.length) (n := ls.length) (pl := pl) (ps := ps) (ph := ph) (fI := fI) (k := n) fun f6 R6 => At.inLoop hJ' ?_))
    ·exact ⟨ds,r3,r4,r5,r13,r14,r45,r46⟩
    ·have := ih (n + 1) (by omega) f6 (deads B1.length) R6 OwnB.deads
     rw [hiredL,if_neg (by rw [hsk]; decide),round12] at this
     exact this
end
theorem opg12 : p12_1_0.op = .alloc 82 := by kernel_rfl
theorem wg_zero : zc prog 82 = some [.int .u64 0,.int .u32 0] := by kernel_rfl
theorem idxVI {cs : List Value} {k : Nat} {v : Value} {KV : Value → Prop} (h3 : k < 3) (hv : cs[k]? = some v) (hk : KV v) : aIdxV 3 1 false (.agg ⟨cs⟩) (vint (k : Nat)) KV := by
 refine ⟨by omega,?_⟩
 unfold aField
 simp [hv,hk]
theorem unchC {h : List AObj} {i : Nat} {c : List Value} {wr : Bool} {sz : Nat} (hb : h[i]? = some (.cells c wr sz)) : (unch h)[i]? = some (.cells c wr sz) := by
 unfold unch
 rw [List.getElem?_map,hb]
 rfl
theorem unch_get {h : List AObj} {i : Nat} {o : AObj} (e : (unch h)[i]? = some o) : ∃ y,h[i]? = some y ∧ unchO y = o := by
 unfold unch at e
 rw [List.getElem?_map] at e
 exact Option.map_eq_some_iff.1 e
theorem unch_rel {ρ : Env} {h : List AObj} {FC : Frm} {w : World} {ft : Foot} (H : HRel ρ h FC w ft) : HRel ρ (unch h) FC w ft := by
 have lv : ∀ {y : AObj},(unchO y).live = true → y.live = true ∧ unchO y = y := fun {y} l => by
  cases y <;> first | (cases l; done) | exact ⟨rfl,rfl⟩
 have wr : ∀ {y : AObj},(unchO y).wrt = true → unchO y = y := fun {y} l => by
  cases y <;> first | (cases l; done) | rfl
 refine ⟨fun i o hi => ?_,fun i j o o' hi hj l l' e => ?_,fun i o hi l => ?_,fun i o hi l => ?_,H.lt,H.sub,fun b o hb => ?_,H.keptW,fun i z hi => ?_⟩
 ·rw [unch_len]
  obtain ⟨y,hy,rfl⟩ := unch_get hi
  have := H.obj i y hy
  cases y <;> first | trivial | exact this
 ·obtain ⟨y,hy,rfl⟩ := unch_get hi
  obtain ⟨y',hy',rfl⟩ := unch_get hj
  exact H.inj i j y y' hy hy' (lv l).1 (lv l').1 e
 ·obtain ⟨y,hy,rfl⟩ := unch_get hi
  exact H.rd i y hy (lv l).1
 ·obtain ⟨y,hy,rfl⟩ := unch_get hi
  rw [wr l] at l
  exact H.wr i y hy l
 ·obtain ⟨a1,a2,a3⟩ := H.kept b o hb
  refine ⟨a1,a2,fun a oa ha hw => ?_⟩
  obtain ⟨y,hy,rfl⟩ := unch_get ha
  rw [wr hw] at hw
  exact a3 a y hy hw
 ·obtain ⟨y,hy,e⟩ := unch_get hi
  cases y <;> cases e
theorem At.unch {J : JT} {N m : Nat} {b : FB} {cs : List Frame} {FC : Frm} {ρ0 : Env} {k : List Item} {f : RG} {h : List AObj} (h' : At J N b cs FC ρ0 m k f (unch h)) : At J N b cs FC ρ0 m k f h := fun a ρ w ft A H hu hm =>
 h' a ρ w ft (by rw [unch_len]; exact A) (unch_rel H) hu (by rw [unch_len]; exact hm)
theorem unchO_twice (o : AObj) : unchO (unchO o) = unchO o := by cases o <;> rfl
theorem unch_sli {h : List AObj} {v : Value} {s n : Nat} {cs : List Value} (hs : Sli h v s n cs) : Sli (unch h) v s n cs := sli_frz hs fun _i _c wr _sz hi => ⟨wr,unchC hi⟩
def firstX (X : Nat → Option (List Int)) : Option (List Int) := match X 0 with
 | some l => some l
 | none => match X 1 with
  | some l => some l
  | none => X 2
theorem firstX_at {X : Nat → Option (List Int)} {k : Nat} {l : List Int} (hk : k < 3) (h0 : ∀ a,a < k → X a = none) (h1 : X k = some l) : firstX X = some l := by
 unfold firstX
 match k,hk with
 | 0,_ => rw [h1]
 | 1,_ =>
  rw [h0 0 (by omega),h1]
 | 2,_ =>
  rw [h0 0 (by omega),h0 1 (by omega)]
  exact h1
theorem firstX_none {X : Nat → Option (List Int)} (h0 : ∀ a,a < 3 → X a = none) : firstX X = none := by
 unfold firstX
 rw [h0 0 (by omega),h0 1 (by omega)]
 exact h0 2 (by omega)
def turnT (ls : List Pas) (s : SkyR) (heads : Int) (d : Nat) : Option (List Int) := firstX (gotR (hiredL ls ls.length) (foundR ls s heads d))
section
variable {W0 : World} {Post : Value → World → Prop} {h : List AObj} {K : Value → List AObj → Prop}
def AnsT (h : List AObj) (K : Value → List AObj → Prop) : Option (List Int) → Prop
 | none => ∀ H',SameX [] h H' → K (.tuple ⟨[.slice none 0 0,vint 11]⟩) H'
 | some l => ∀ H' v,SameX [] h H' → Sli H' v 1 l.length (l.map vint) → K (.tuple ⟨[v,vint 0]⟩) H'
def AnsF (h : List AObj) (K : Value → List AObj → Prop) : Option (List Int) → Prop
 | none => ∀ H',SameX [] h H' → K (.tuple ⟨[.slice none 0 0,vint 11]⟩) H'
 | some l => ∀ H' b,SameX [] h H' → h.length ≤ b → H'[b]? = some (.cells (l.map vint) false 1) → K (.tuple ⟨[.slice (some ⟨b,0,none⟩) l.length fz,vint 0]⟩) H'
theorem sliF {H : List AObj} {b : Nat} {l : List Int} (hb : H[b]? = some (.cells (l.map vint) false 1)) : Sli H (.slice (some ⟨b,0,none⟩) l.length fz) 1 l.length (l.map vint) := by
 refine ⟨_,_,rfl,⟨by simp,knV l⟩,.inr ⟨b,0,rfl,.inr ⟨_,_,_,hb,?_⟩⟩⟩
 rw [List.drop_zero]
 exact List.take_of_length_le (by simp)
theorem ansF_of {h : List AObj} {K : Value → List AObj → Prop} {X : Option (List Int)} (a : AnsT h K X) : AnsF h K X := by
 cases X with
 | none => exact a
 | some l => exact fun H' b S _ hb => a H' _ S (sliF hb)
theorem tail12 {main : Bool} {J : JT} (hJ : Closed prog main J) {n0 n fI : Nat} {F : RG} {HT : List AObj} {X : Nat → Option (List Int)} (ds : F.ds = []) (r13 : F.r 13 = ptr fI 0) (hf : HT[fI]? = some (.cells [cellO n (X 0),cellO (n + 1) (X 1),cellO (n + 2) (X 2)] false 0)) (hn : ∀ a,a < 3 → HT[n + a]? = some (objO (X a))) (S : SameX [] h HT) (hln : h.length ≤ n) (hA : AnsF h K (firstX X)) :
  W prog J 75 n0 12 (subC [1,1,1,1,1,1,1,1,1] (codeOf f12)) F HT (contX pl12t prog J 75 n0 12 ct12t [1,1,1,1,1,1,1,1,1] (codeOf f12) [] (RetQ prog [.tmp 6,.tmp 7] n0 K)) := by
 rw [s12t_1,r13]
 have hcv : ∀ k,k < 3 → ([cellO n (X 0),cellO (n + 1) (X 1),cellO (n + 2) (X 2)] : List Value)[k]? = some (cellO (n + k) (X k)) := fun k hk => by
  match k,hk with
  | 0,_ => rfl
  | 1,_ => rfl
  | 2,_ => rfl
 have z2 : kn ([cellO n (X 0),cellO (n + 1) (X 1),cellO (n + 2) (X 2)] : List Value) = true := by
  cases X 0 <;> cases X 1 <;> cases X 2 <;> rfl
 refine load_part (c := [cellO n (X 0),cellO (n + 1) (X 1),cellO (n + 2) (X 2)]) hf (by simp) rfl z2 ?_
 refine l12t_2 hJ (fun k : Nat => 3 - k) (fun k F H' => k ≤ 3 ∧ H' = HT ∧ (∀ a,a < k → X a = none) ∧ F.ds = [] ∧ F.r 67 = .agg ⟨[cellO n (X 0),cellO (n + 1) (X 1),cellO (n + 2) (X 2)]⟩ ∧ F.r 68 = vint (k : Nat)) ?_ (s := 0)
  (.inl ⟨by omega,rfl,fun a h => absurd h (Nat.not_lt_zero _),ds,rfl,rfl⟩)
 rintro k F2 H' ⟨hk,rfl,hR,ds2,r67,r68⟩ okc hnc
 rw [s12t_2,r67,r68,ds2]
 refine lssI (cndI (fun hlt => ?_) fun hge => ?_)
 ·have hk3 : k < 3 := by omega
  refine idxVI hk3 (hcv k hk3) ?_
  cases hX : X k with
  | none =>
   refine neqNilZ (e := 3) (by kernel_rfl) (by kernel_rfl) (cnd_false.2 (addI (by omega) ⟨k + 1,by dsimp only; omega,.inl ⟨by omega,rfl,fun a ha => ?_,ds2,r67,rfl⟩⟩))
   by_cases e : a = k
   ·rw [e]
    exact hX
   ·exact hR a (by omega)
  | some l =>
   rw [firstX_at hk3 hR hX] at hA
   refine neqNilZ (e := 3) (by kernel_rfl) (by kernel_rfl) (cnd_true.2 (retL_same (by simp [unk,cellO]) (hA H' (n + k) S (by omega) ?_)))
   have hb := hn k hk3
   rw [hX] at hb
   exact hb
 ·have : k = 3 := by omega
  subst this
  rw [firstX_none hR] at hA
  exact retL_same (by simp [unk]) (hA _ S)
theorem doneH_old {U B : List AObj} {fI i : Nat} {X : Nat → Option (List Int)} (hi : i < U.length) (hn : i ≠ fI) : (doneH U B fI X)[i]? = (unch U)[i]? := by
 unfold doneH thawB
 rw [List.getElem?_set_ne (Ne.symm hn)]
 simp only [List.append_assoc]
 rw [List.getElem?_append_left (by rw [List.length_set,unch_len]; exact hi),List.getElem?_set_ne (Ne.symm hn)]
theorem doneH_at {U B : List AObj} {fI : Nat} {X : Nat → Option (List Int)} (hf : fI < U.length) : (doneH U B fI X)[fI]? = some (.cells [cellO (thawB U B fI).length (X 0),cellO ((thawB U B fI).length + 1) (X 1),cellO ((thawB U B fI).length + 2) (X 2)] false 0) := by
 unfold doneH
 rw [List.getElem?_set_self (by simp [thawB_len]; omega)]
theorem doneH_new {U B : List AObj} {fI a : Nat} {X : Nat → Option (List Int)} (hf : fI < U.length) (ha : a < 3) : (doneH U B fI X)[(thawB U B fI).length + a]? = some (objO (X a)) := by
 have hT : (thawB U B fI).length = U.length + 1 + B.length := thawB_len
 unfold doneH
 rw [List.getElem?_set_ne (by omega)]
 simp only [List.append_assoc]
 rw [List.getElem?_append_right (by omega)]
 have e : (thawB U B fI).length + a - (thawB U B fI).length = a := by omega
 rw [e]
 match a,ha with
 | 0,_ => rfl
 | 1,_ => rfl
 | 2,_ => rfl
theorem goodT12 {ls : List Pas} {lv : Value} {s : SkyR} {heads : Int} (L : LsOk ls) (fo : skyOk s) (hh : 0 ≤ heads ∧ heads ≤ 40) (d : Nat) (hd : s.days = (d : Int) + 1) (hl : SliE h lv 6 Pas.cells ls) (hA : AnsF (unch h) K (turnT ls s heads d)) : Good prog (J2 prog W0 Post) 12 [lv,.agg ⟨s.cells⟩,vint heads] h K := by
 have hJ2 := J2.closed prog W0 Post
 refine good_of_sem hJ2 at12 body12 (by kernel_rfl) (Nat.le_of_ble_eq_true rfl) fun ok => ?_
 rw [show f12.ntmps = 75 from by kernel_rfl,show f12.results.toList = [.tmp 6,.tmp 7] from by kernel_rfl]
 refine trunc_sound hJ2 mixed 6 (codeOf f12) (by kernel_rfl) (front12 hJ2 L fo hh hl fun F H pl ps ph fI M => ?_)
 intro b a k fs LL ρ FC w ft hb hk hL A R hn hcont
 suffices hAt : At (J2 prog W0 Post) 75 b fs FC ρ (unch H).length (.code (subC [1,1,1,1,1,1] (codeOf f12)) :: k) F (unch H) from At.unch hAt a ρ w ft A R (Env.upto_refl _ _) (by rw [unch_len]; exact Nat.le_refl _)
 have M2 : MidT (unch h) (unch H) F pl ps ph fI lv s heads := by
  refine ⟨⟨by rw [unch_len,unch_len]; exact M.S.1,fun i hi _ => ?_⟩,M.ds,M.r3,M.r4,M.r5,M.r13,unchC M.hl,unchC M.hs,unchC M.hh,unchC M.hf,by rw [unch_len]; exact M.fI⟩
  rw [unch_len] at hi
  unfold unch
  rw [List.getElem?_map,List.getElem?_map,M.S.2 i hi (by simp)]
 have hl2 : SliE (unch h) lv 6 Pas.cells ls := unch_sli hl
 have hlh : (unch h).length = h.length := unch_len
 have upH : ∀ {i : Nat} {o : AObj},(unch h)[i]? = some o → unchO o = o := fun e => by
  obtain ⟨y,_,rfl⟩ := unch_get e
  exact unchO_twice y
 clear A R hn M
 generalize unch H = U at M2
 rw [shape12]
 have lfI := lt_of_get M2.hf
 have lph := lt_of_get M2.hh
 refine At.seq hJ2 (At.region hJ2 ?_)
 rw [show List.range ops12_1.size = [0] from by rw [z12_1]; rfl]
 obtain ⟨u1,u2,u3,u4,u5⟩ := o12_1_0 (J := J2 prog W0 Post)
 obtain ⟨ti,z,hi,hz,hzl,_⟩ := zc_some wg_zero
 refine At.group hk u1 u3 (u4 _) opg12 hi hz (by rw [← Array.toList_inj,hzl]) M2.hf lph (foundR ls s heads d) fun ρ' w' ft' ρ1 G HR hu' hup hty hGR hC hF hwg => ?_
 have hJ := JG.closed prog W0 Post G []
 rw [u2]
 have kk := sliK hl
 -- what is lent
 have nfl : pl ≠ fI := fun e => by
  have := M2.hl
  rw [e,M2.hf] at this
  cases this
 have nfs : ps ≠ fI := fun e => by
  have := M2.hs
  rw [e,M2.hf] at this
  simp [SkyR.cells,nilS,vint] at this
 have nfh : ph ≠ fI := fun e => by
  have := M2.hh
  rw [e,M2.hf] at this
  cases this
 have hlA : (lentA U fI).length = U.length := lentA_len
 have keep : ∀ (i : Nat) (c : List Value) (wr : Bool) (sz : Nat),(unch h)[i]? = some (.cells c wr sz) → (lentA U fI)[i]? = some (.cells c false sz) := fun i c wr sz hi => by
  have h1 := M2.S.get hi (by simp)
  have h2 := lt_of_get hi
  have := M2.fI
  exact lentA_cells h1 (by omega)
 have lent : LentT (lentA U fI) pl ps ph lv ls s heads := by
  refine ⟨fun o ho => ?_,lentA_cells M2.hl nfl,lentA_cells M2.hs nfs,lentA_cells M2.hh nfh,fun x B => ⟨sli_frz hl2 fun i c wr sz hi => ⟨_,inA (keep i c wr sz hi)⟩,sli_frz hl2 fun i c wr sz hi => ⟨_,frzC (inA (keep i c wr sz hi))⟩⟩⟩
  obtain ⟨i,hi⟩ := List.getElem?_of_mem ho
  exact lentA_wrt hi
 have e0 : lentA U fI ++ [AObj.group 1] = lentA U fI ++ [AObj.group 1] ++ [] := (List.append_nil _).symm
 refine At.ops_nil hJ (At.seq hJ (At.seq hJ (At.piece (Q := fun e f' h' => e = .normal ∧ RT f' U.length pl ps ph fI ls.length 0 ∧ h' = lentA U fI ++ [AObj.group 1] ++ []) hb hk (W_sound hJ mixed _ ?_) (by simp [hlA]) (Nat.le_refl _) ?_)))
 ·rw [q12_1,show (F.putO (some 14) (ptr U.length 0)).r 3 = ptr pl 0 from M2.r3,show (lentA U fI ++ [AObj.group 1] : List AObj) = lentA U fI ++ [AObj.group 1] ++ [] from e0]
  refine ldI (v := lv) (inA lent.gl) rfl kk.2.2 ?_
  rw [sliE_len (lent.sl 1 []).1]
  exact ⟨rfl,⟨M2.ds,M2.r3,M2.r4,M2.r5,M2.r13,rfl,rfl,rfl⟩,by simp⟩
 rintro e f1 h1 ⟨rfl,R1,rfl⟩
 refine .inl ⟨rfl,At.block hJ (At.loop hJ ?_)⟩
 rw [← hlA] at R1
 refine rounds hty hk hb L fo hh hd (by rw [hlA]) (by rw [hlA]; exact lfI) lent (fun x hx => hx) (fun n _ => by rw [hGR]) hC hF (fun f2 B ds2 r13 oB => ?_) ls.length 0 (by omega) f1 [] R1 ⟨fun o ho => (by cases ho),fun z hz => (by cases hz)⟩
 refine At.join HR M2.hf hup (by omega) (by rw [hF,(hup fI lfI).1]) oB.wr oB.ng fun ρ3 hu3 => ?_
 rw [hGR]
 have hlHT : (doneH U B fI (gotR (hiredL ls ls.length) (foundR ls s heads d))).length = U.length + 1 + B.length + 3 := doneH_len
 have t1 := doneH_at (U := U) (B := B) (X := gotR (hiredL ls ls.length) (foundR ls s heads d)) lfI
 have t2 := fun a (ha : a < 3) => doneH_new (U := U) (B := B) (X := gotR (hiredL ls ls.length) (foundR ls s heads d)) lfI ha
 have S : SameX [] (unch h) (doneH U B fI (gotR (hiredL ls ls.length) (foundR ls s heads d))) := by
  refine ⟨by have := M2.S.1; omega,fun i hi _ => ?_⟩
  have h1 := M2.S.2 i hi (by simp)
  have h2 := M2.S.1
  have h3 := M2.fI
  rw [doneH_old (by omega) (by omega)]
  have g0 : (unch U)[i]? = (U[i]?).map unchO := by
   unfold unch
   rw [List.getElem?_map]
  rw [g0,h1]
  cases ho : (unch h)[i]? with
  | none => rfl
  | some o => rw [Option.map_some,upH ho]
 unfold turnT at hA
 have hnl : (unch h).length ≤ (thawB U B fI).length := by
  have h2 := M2.S.1
  rw [thawB_len]
  omega
 generalize doneH U B fI (gotR (hiredL ls ls.length) (foundR ls s heads d)) = HT at *
 intro a' ρ'' w'' ft'' A' R' hu'' hm'
 have hc : contX pl12t prog (J2 prog W0 Post) 75 h.length 12 ct12t [1,1,1,1,1,1,1,1,1] (codeOf f12) [] (RetQ prog [.tmp 6,.tmp 7] h.length K) = RetQ prog [.tmp 6,.tmp 7] h.length K := by kernel_rfl
 have tl : Sem (J2 prog W0 Post) 75 h.length 12 (subC [1,1,1,1,1,1,1,1,1] (codeOf f12)) f2 HT (RetQ prog [.tmp 6,.tmp 7] h.length K) := by
  rw [← hc]
  exact W_sound hJ2 mixed _ (tail12 hJ2 ds2 r13 t1 t2 S hnl hA)
 have up : Env.upto h.length ρ ρ'' := by
  have h1 := M2.S.1
  rw [hlh] at h1
  exact Env.upto_trans (Env.upto_le hu' (by omega)) (Env.upto_trans (Env.upto_le hup (by omega)) (Env.upto_trans (Env.upto_le hu3 (by omega)) (Env.upto_le hu'' (by omega))))
 exact tl b a' k fs LL ρ'' FC w'' _ hb hk hL A' R' (by rw [← hlh]; exact S.1) fun e f2 h2' ρ2 w2 ft2 a2 q q1 q2 q3 q4 => hcont e f2 h2' ρ2 w2 ft2 a2 q q1 q2 (Env.upto_trans up q3) q4
end
end Go.Proofs.Yteoenhhmcpipoaa
namespace Go.Proofs.Yteoenhhmcpipoaa
open Go.Conc Go.Conc.Lib Go.Proofs.Try
theorem turnT_same {q : Pas} {s : SkyR} {heads : Int} {d : Nat} : turnT [q,q] s heads d = foundR [q,q] s heads d 0 := by
 have h0 : skipT [q,q] 0 = false := rfl
 have h1 : skipT [q,q] 1 = true := by simp [skipT]
 have hh : hiredL [q,q] [q,q].length = [0] := by
  show hiredL [q,q] 2 = [0]
  rw [hiredL,if_pos h1,hiredL,if_neg (by rw [h0]; decide),hiredL]
 unfold turnT firstX
 rw [hh]
 simp only [gotR,List.mem_singleton,if_true]
 cases foundR [q,q] s heads d 0 with
 | none => rfl
 | some l => rfl
section
variable {W0 : World} {Post : Value → World → Prop} {h : List AObj} {K : Value → List AObj → Prop}
theorem good12 {q : Pas} {lv : Value} {s : SkyR} {heads : Int} (fq : pasOk q) (fo : skyOk s) (hh : 0 ≤ heads ∧ heads ≤ 40) (d : Nat) (hd : s.days = (d : Int) + 1) (hl : SliE h lv 6 Pas.cells [q,q]) (hA : AnsT (unch h) K (foundR [q,q] s heads d 0)) : Good prog (J2 prog W0 Post) 12 [lv,.agg ⟨s.cells⟩,vint heads] h K := by
 refine goodT12 ⟨⟨by simp,by simp⟩,fun x hx => ?_⟩ fo hh d hd hl (by rw [turnT_same]; exact ansF_of hA)
 simp only [List.mem_cons,List.not_mem_nil,or_false,or_self] at hx
 exact hx ▸ fq
end
end Go.Proofs.Yteoenhhmcpipoaa
