/- Parts of the proof, 6. No conditions. -/
import Derived.Test.YtaceckiodofdkaaDoorK5
import Derived.Test.YtaceckiodofdkaaDoorK2
import Derived.Test.YtaceckiodofdkaaDoorK3
namespace Go.Proofs.YtaceckiodofdkaaDoor
open Go.Conc
def frzO : AObj → AObj
 | .cells c _ sz => .cells c false sz
 | .map es _ => .map es false
 | _ => .dead
def frz (h : List AObj) : List AObj := h.map frzO
def unchO : AObj → AObj
 | .chan _ => .dead
 | .group _ => .dead
 | o => o
def unch (h : List AObj) : List AObj := h.map unchO
def Chs (ρ : Env) (h : List AObj) (b : Nat) : Prop := ∃ i cap,h[i]? = some (.chan cap) ∧ ρ.blk i = b
open Classical in
noncomputable def keepF (ρ : Env) (h : List AObj) (w : World) (ft : Foot) : Frm := ⟨fun b => if ft.rd b ∧ ¬ Chs ρ h b then w.heap[b]? else none,fun _ => False⟩
def lentF (ρ : Env) (h : List AObj) (ft : Foot) : Foot := ⟨fun b => ft.rd b ∧ ¬ Chs ρ h b,fun _ => False,ft.tag⟩
section
variable {ρ ρ' : Env} {h h' g : List AObj} {FC : Frm} {w w' : World} {ft ft' : Foot}
theorem frz_len : (frz h).length = h.length := by simp [frz]
theorem frz_get {i : Nat} {o : AObj} (e : (frz h)[i]? = some o) : ∃ x,h[i]? = some x ∧ frzO x = o := by
 unfold frz at e
 rw [List.getElem?_map] at e
 exact Option.map_eq_some_iff.1 e
theorem frz_wrt (o : AObj) : (frzO o).wrt = false := by cases o <;> rfl
theorem frz_live {o : AObj} (hl : (frzO o).live = true) : o.live = true ∧ ∀ cap,o ≠ .chan cap := by
 cases o <;> first | (cases hl; done) | exact ⟨rfl,fun _ e => by cases e⟩
theorem unch_len : (unch h).length = h.length := by simp [unch]
theorem not_chs (H : HRel ρ h FC w ft) {i : Nat} {o : AObj} (hi : h[i]? = some o) (hl : o.live = true) (hn : ∀ cap,o ≠ .chan cap) : ¬ Chs ρ h (ρ.blk i) := by
 rintro ⟨j,cap,hj,e⟩
 have := H.inj i j _ _ hi hj hl rfl e.symm
 subst this
 rw [hi] at hj
 cases hj
 exact hn cap rfl
theorem frz_orel {n b : Nat} {o : AObj} {x : Option Obj} (ho : ORel n ρ b o x) : ORel n ρ b (frzO o) x := by
 cases o with
 | cells c wr sz =>
  match x,ho with
  | some (.cells c' ty fr),ho =>
   obtain ⟨h1,h2,h3,_⟩ := ho
   exact ⟨fun i v hv => (h1 i v hv).imp (fun e => ⟨e.1,rfl⟩) id,h2,h3,fun e => by cases e⟩
 | map es wr =>
  match x,ho with
  | some (.map es' ty),ho => exact ho
 | _ => trivial
theorem frz_rel (H : HRel ρ h FC w ft) : HRel ρ (frz h) (keepF ρ h w ft) w (lentF ρ h ft) where
 obj := fun i o hi => by
  obtain ⟨x,hx,rfl⟩ := frz_get hi
  rw [frz_len]
  exact frz_orel (H.obj i x hx)
 inj := fun i j o o' hi hj l l' e => by
  obtain ⟨x,hx,rfl⟩ := frz_get hi
  obtain ⟨y,hy,rfl⟩ := frz_get hj
  exact H.inj i j x y hx hy (frz_live l).1 (frz_live l').1 e
 rd := fun i o hi l => by
  obtain ⟨x,hx,rfl⟩ := frz_get hi
  exact ⟨H.rd i x hx (frz_live l).1,not_chs H hx (frz_live l).1 (frz_live l).2⟩
 wr := fun i o hi l => by
  obtain ⟨x,hx,rfl⟩ := frz_get hi
  rw [frz_wrt] at l
  cases l
 lt := fun b hb => H.lt b hb.1
 sub := fun _ hb => hb.elim
 kept := fun b o hb => by
  unfold keepF at hb
  simp only at hb
  split at hb
  ·rename_i hc
   refine ⟨hb,hc,fun i oi hi l => ?_⟩
   obtain ⟨x,hx,rfl⟩ := frz_get hi
   rw [frz_wrt] at l
   cases l
  ·cases hb
 keptW := fun _ hb => hb.elim
 tag := fun i x hi => by
  obtain ⟨y,_,e⟩ := frz_get hi
  cases y <;> cases e
theorem lend_rel (H : HRel ρ h FC w ft) (hn : ∀ o ∈ h,o.wrt = false) (hw : ∀ b,¬ FC.wr b) : HRel ρ h FC w ft.lend where
 obj := H.obj
 inj := H.inj
 rd := H.rd
 wr := fun i o hi l => by rw [hn o (List.mem_of_getElem? hi)] at l; cases l
 lt := H.lt
 sub := fun _ hb => hb.elim
 kept := H.kept
 keptW := fun b hb => (hw b hb).elim
 tag := H.tag
def thawF (ρ : Env) (h : List AObj) (ft ft' : Foot) : Foot := ⟨fun b => ft'.rd b ∨ Chs ρ h b,fun b => ft.wr b ∨ ft'.wr b,ft'.tag⟩
theorem keep_ob (_H : HRel ρ h FC w ft) {b : Nat} (hr : ft.rd b) (hc : ¬ Chs ρ h b) : (keepF ρ h w ft).ob b = w.heap[b]? := if_pos ⟨hr,hc⟩
theorem thaw_rel (H : HRel ρ h FC w ft) (H' : HRel ρ' (frz h ++ g) (keepF ρ h w ft) w' ft') (hu : Env.upto h.length ρ ρ') (hg : ∀ o ∈ g,o.live = true → o.wrt = true) (hs : ∀ b,Chs ρ h b → b < w'.heap.size) :
  HRel ρ' (unch h ++ g) FC w' (thawF ρ h ft ft') ∧ (∀ b,(thawF ρ h ft ft').wr b → (thawF ρ h ft ft').rd b) := by
 have stay : ∀ b,ft.rd b → ¬ Chs ρ h b → w'.heap[b]? = w.heap[b]? ∧ ft'.rd b ∧ ∀ (a : Nat) (oa : AObj),(frz h ++ g)[a]? = some oa → oa.wrt = true → ρ'.blk a ≠ b := fun b hr hc => by
  have hlt := H.lt b hr
  have := H'.kept b w.heap[b] (by rw [keep_ob H hr hc,Array.getElem?_eq_getElem hlt])
  exact ⟨by rw [this.1,Array.getElem?_eq_getElem hlt],this.2⟩
 have hblk : ∀ i o,h[i]? = some o → ρ'.blk i = ρ.blk i := fun i o hi => (hu i (List.getElem?_eq_some_iff.1 hi).1).1
 -- what is met in the heap
 have get : ∀ {i : Nat} {o : AObj},(unch h ++ g)[i]? = some o → (∃ x,h[i]? = some x ∧ unchO x = o) ∨ (h.length ≤ i ∧ g[i - h.length]? = some o ∧ (frz h ++ g)[i]? = some o) := fun {i o} e => by
  rw [List.getElem?_append] at e
  split at e
  ·unfold unch at e
   rw [List.getElem?_map] at e
   exact .inl (Option.map_eq_some_iff.1 e)
  ·rename_i hge
   rw [unch_len] at hge e
   exact .inr ⟨by omega,e,by rw [List.getElem?_append_right (by rw [frz_len]; omega),frz_len]; exact e⟩
 have live : ∀ {x : AObj},(unchO x).live = true → x.live = true ∧ (∀ cap,x ≠ .chan cap) ∧ unchO x = x := fun {x} l => by
  cases x <;> first | (cases l; done) | exact ⟨rfl,(fun _ e => by cases e),rfl⟩
 have wlive : ∀ {o : AObj},o.wrt = true → o.live = true := fun {o} l => by cases o <;> first | (cases l; done) | rfl
 have old : ∀ {i : Nat} {x : AObj},h[i]? = some x → (unchO x).live = true → ft.rd (ρ.blk i) ∧ ¬ Chs ρ h (ρ.blk i) := fun {i x} hx l => by
  obtain ⟨l1,l2,_⟩ := live l
  exact ⟨H.rd i x hx l1,not_chs H hx l1 l2⟩
 have hsub : ∀ b,(thawF ρ h ft ft').wr b → (thawF ρ h ft ft').rd b := fun b hb => by
  rcases hb with hb | hb
  ·by_cases hc : Chs ρ h b
   ·exact .inr hc
   ·exact .inl (stay b (H.sub b hb) hc).2.1
  ·exact .inl (H'.sub b hb)
 refine ⟨⟨fun i o hi => ?_,fun i j o o' hi hj l l' e => ?_,fun i o hi l => ?_,fun i o hi l => ?_,fun b hb => hb.elim (H'.lt b) (hs b),hsub,fun b o hb => ?_,fun b hb => .inl (H.keptW b hb),fun i x hi => (by
  rcases get hi with ⟨y,_,e⟩ | ⟨_,_,hfi⟩
  ·cases y <;> cases e
  ·exact H'.tag i x hfi)⟩,hsub⟩
 ·rcases get hi with ⟨x,hx,rfl⟩ | ⟨hge,hgi,hfi⟩
  ·by_cases l : (unchO x).live = true
   ·obtain ⟨o1,o2⟩ := old hx l
    obtain ⟨_,_,e⟩ := live l
    rw [e,hblk i x hx,(stay _ o1 o2).1]
    have := (H.obj i x hx).congr (m := (unch h ++ g).length) hu (by rw [List.length_append,unch_len]; omega) (List.getElem?_eq_some_iff.1 hx).1
    exact this
   ·cases hx' : unchO x <;> rw [hx'] at l <;> first | trivial | exact absurd rfl l
  ·have := H'.obj i o hfi
   rw [List.length_append,frz_len] at this
   rw [List.length_append,unch_len]
   exact this
 ·rcases get hi with ⟨x,hx,rfl⟩ | ⟨hge,hgi,hfi⟩ <;> rcases get hj with ⟨y,hy,rfl⟩ | ⟨hge',hgj,hfj⟩
  ·rw [hblk i x hx,hblk j y hy] at e
   exact H.inj i j x y hx hy (live l).1 (live l').1 e
  ·exfalso
   obtain ⟨o1,o2⟩ := old hx l
   refine (stay _ o1 o2).2.2 j o' hfj (hg o' (List.mem_of_getElem? hgj) l') ?_
   rw [← e,hblk i x hx]
  ·exfalso
   obtain ⟨o1,o2⟩ := old hy l'
   refine (stay _ o1 o2).2.2 i o hfi (hg o (List.mem_of_getElem? hgi) l) ?_
   rw [e,hblk j y hy]
  ·exact H'.inj i j o o' hfi hfj l l' e
 ·rcases get hi with ⟨x,hx,rfl⟩ | ⟨hge,hgi,hfi⟩
  ·obtain ⟨o1,o2⟩ := old hx l
   rw [hblk i x hx]
   exact .inl (stay _ o1 o2).2.1
  ·exact .inl (H'.rd i o hfi l)
 ·rcases get hi with ⟨x,hx,rfl⟩ | ⟨hge,hgi,hfi⟩
  ·obtain ⟨_,_,e⟩ := live (wlive l)
   rw [e] at l
   rw [hblk i x hx]
   exact .inl (H.wr i x hx l)
  ·exact .inr (H'.wr i o hfi l)
 ·obtain ⟨a1,a2,a3⟩ := H.kept b o hb
  have hc : ¬ Chs ρ h b := fun ⟨i,cap,hi,e⟩ => a3 i _ hi rfl e
  obtain ⟨s1,s2,s3⟩ := stay b a2 hc
  refine ⟨by rw [s1]; exact a1,.inl s2,fun i oi hi l => ?_⟩
  rcases get hi with ⟨x,hx,rfl⟩ | ⟨hge,hgi,hfi⟩
  ·obtain ⟨_,_,e⟩ := live (wlive l)
   rw [e] at l
   rw [hblk i x hx]
   exact a3 i x hx l
  ·exact s3 i oi hfi l
end
def At (J : JT) (N : Nat) (b : FB) (cs : List Frame) (FC : Frm) (ρ0 : Env) (m : Nat) (k : List Item) (f : RG) (h : List AObj) : Prop :=
 ∀ (a : Act) (ρ : Env) (w : World) (ft : Foot),ActRel h.length ρ N f a → HRel ρ h FC w ft → Env.upto m ρ0 ρ → m ≤ h.length → J (G (b.at a k) cs) w ft
section
variable {P : Program} {main : Bool} {J : JT} {N m n1 : Nat} {fn : FuncId} {b : FB} {cs : List Frame} {FC : Frm} {ρ0 : Env} {k : List Item} {f : RG} {h : List AObj} {Q : QT} {c x y : Code} {ops : Array Oper} {i : Nat} {rest : List Nat} {o : Oper}
theorem At.ctrl (hJ : Closed P main J) {k' : List Item} (hst : ∀ a w,stepG P main (G (b.at a k) cs) w = .go (G (b.at a k') cs) w #[]) (h' : At J N b cs FC ρ0 m k' f h) : At J N b cs FC ρ0 m k f h :=
 fun a ρ w ft A H hu hm => hJ.ctrl rfl rfl (hst a) (h' a ρ w ft A H hu hm)
theorem At.seq (hJ : Closed P main J) (h' : At J N b cs FC ρ0 m (.code x :: .code y :: k) f h) : At J N b cs FC ρ0 m (.code (.seq x y) :: k) f h :=
 At.ctrl hJ (fun a w => by simp [G,stepG,stepG.exec,FB.at]) h'
theorem At.block (hJ : Closed P main J) {id : Nat} (h' : At J N b cs FC ρ0 m (.code c :: .inBlock id :: k) f h) : At J N b cs FC ρ0 m (.code (.block id c) :: k) f h :=
 At.ctrl hJ (fun a w => by simp [G,stepG,stepG.exec,FB.at]) h'
theorem At.inBlock (hJ : Closed P main J) {id : Nat} (h' : At J N b cs FC ρ0 m k f h) : At J N b cs FC ρ0 m (.inBlock id :: k) f h :=
 At.ctrl hJ (fun a w => by simp [G,stepG,stepG.exec,FB.at]) h'
theorem At.loop (hJ : Closed P main J) (h' : At J N b cs FC ρ0 m (.code c :: .inLoop c :: k) f h) : At J N b cs FC ρ0 m (.code (.loop c) :: k) f h :=
 At.ctrl hJ (fun a w => by simp [G,stepG,stepG.exec,FB.at]) h'
theorem At.inLoop (hJ : Closed P main J) (h' : At J N b cs FC ρ0 m (.code c :: .inLoop c :: k) f h) : At J N b cs FC ρ0 m (.inLoop c :: k) f h :=
 At.ctrl hJ (fun a w => by simp [G,stepG,stepG.exec,FB.at]) h'
theorem At.region (hJ : Closed P main J) {id : Nat} (h' : At J N b cs FC ρ0 m (.inRegion ops (List.range ops.size) :: k) f h) : At J N b cs FC ρ0 m (.code (.region id ops false) :: k) f h :=
 At.ctrl hJ (fun a w => by simp [G,stepG,stepG.exec,FB.at]) h'
theorem At.ops_nil (hJ : Closed P main J) (h' : At J N b cs FC ρ0 m k f h) : At J N b cs FC ρ0 m (.inRegion ops [] :: k) f h :=
 At.ctrl hJ (fun a w => by simp [G,stepG,stepG.exec,FB.at]) h'
theorem At.piece (hb : b.tag = fn) (hk : b.kind ≠ .early) (hs : Sem J N n1 fn c f h Q) (h1 : m ≤ n1) (h2 : n1 ≤ h.length) (hq : ∀ e f' h',Q e f' h' → (e = .normal ∧ At J N b cs FC ρ0 m k f' h') ∨ ∃ id k',e = .exit id ∧ exitTo id k = some k' ∧ At J N b cs FC ρ0 m k' f' h') : At J N b cs FC ρ0 m (.code c :: k) f h := by
 intro a ρ w ft A H hu hm
 refine hs b a k cs (fun _ _ _ _ => False) ρ FC w ft hb hk (fun _ _ _ _ _ hf _ => hf.elim) A H h2 fun e f' h' ρ' w' ft' a' q A' H' hu' hl' => ?_
 have up : Env.upto m ρ0 ρ' := Env.upto_trans hu (Env.upto_le hu' h1)
 rcases hq e f' h' q with ⟨rfl,hat⟩ | ⟨id,k',rfl,hex,hat⟩
 ·exact hat a' ρ' w' ft' A' H' up (Nat.le_trans h1 hl')
 ·unfold AfterJ
  simp only [hex]
  exact hat a' ρ' w' ft' A' H' up (Nat.le_trans h1 hl')
theorem At.op (hJ : Closed P main J) (hk : b.kind ≠ .early) (ho : ops[i]? = some o) (hd : dstOk N o = true) (hg : gd ops o f.r = some true) (hop : opW P (Good P J) o f.r h fun v h' => h.length ≤ h'.length → At J N b cs FC ρ0 m (.inRegion ops rest :: k) (f.putO o.dst v) h') :
  At J N b cs FC ρ0 m (.inRegion ops (i :: rest) :: k) f h := fun _a _ρ _w _ft A H hu hm =>
 step_any hJ hk ho hg (dstOk_lt hd) A H hop fun _v _h' ρ' w' ft' a' hK A' H' hu' hl' => hK hl' a' ρ' w' ft' A' H' (Env.upto_trans hu (Env.upto_le hu' hm)) (Nat.le_trans hm hl')
theorem At.drop {g : List AObj} {f' : RG} (ok : heapOk h) (hf : ∀ t,f'.r t = unk ∨ (f'.r t = f.r t ∧ VOk h.length (f'.r t))) (hd : f'.ds = f.ds) (hds : ∀ b ∈ f.ds,b < h.length) (hm' : m ≤ h.length) (h' : At J N b cs FC ρ0 m k f' h) : At J N b cs FC ρ0 m k f (h ++ g) := by
 intro a ρ w ft A H hu hm
 have gc := gc_drop (g := g) ok (Nat.le_refl h.length)
 have hcomp : ρ.comp id = ρ := rfl
 have H2 := gc.rel H
 rw [hcomp] at H2
 refine h' a ρ w ft ⟨fun t => ?_,A.size,by rw [hd]; exact A.defers,by rw [hd]; exact hds⟩ H2 hu hm'
 rcases hf t with e | ⟨e,hv⟩
 ·exact .inl e
 ·rcases A.regs t with e2 | ⟨_,e2⟩
  ·exact .inl (e.trans e2)
  ·exact .inr ⟨hv,by rw [e2,e]⟩
end
section
variable {P : Program} {W0 : World} {Post : Value → World → Prop} {T : Crew} {N m : Nat} {b : FB} {cs : List Frame} {FC : Frm} {ρ0 : Env} {K : List Item} {f : RG} {h : List AObj} {ops : Array Oper} {i : Nat} {rest : List Nat} {o : Oper}
theorem At.go (hk : b.kind ≠ .early) (ho : ops[i]? = some o) (hg : gd ops o f.r = some true) {x : Operand} {ats : Array TypeId} (hop : o.op = .go { callee := .value x,args := #[],argTypes := ats }) (hdst : o.dst = none)
  {g : FuncId} {cap : List Value} (hx : ev f.r x = .func (.func g) ⟨[]⟩ ⟨cap⟩) (hcl : callable P g = true) {k : Nat} (hkp : k ∉ T.pend) (hown : T.ch T.c = some (0,#[],false))
  {h0 hd : List AObj} (hh : h = h0 ++ hd) (hn : ∀ o ∈ h0,o.wrt = false) (hw : ∀ b,¬ FC.wr b) (ok : heapOk h0) (hm0 : m ≤ h0.length)
  (hto : ∀ (ρ : Env) (w : World) (ft : Foot),HRel ρ (frz h) (keepF ρ h w ft) w ft.lend → Env.upto m ρ0 ρ → Toward P (AtSend P T.c (T.phi k)) (G (Frame.enter P g ⟨cap.map (ren ρ)⟩ .deferred) [base0 P]) w ft.lend)
  (hnc : ∀ cap,.chan cap ∉ h)
  {f' : RG} (hf : ∀ t,f'.r t = unk ∨ (f'.r t = f.r t ∧ VOk h0.length (f'.r t))) (hfd : f'.ds = f.ds) (hds : ∀ b ∈ f.ds,b < h0.length)
  (hJ : At (JC P W0 Post (T.more k)) N b cs FC ρ0 m (.inRegion ops rest :: K) f' h0) :
  At (JC P W0 Post T) N b cs FC ρ0 m (.inRegion ops (i :: rest) :: K) f h := by
 intro a ρ w ft A H hu hm
 have nc : ∀ b,¬ Chs ρ h b := fun b ⟨j,cap,hj,_⟩ => hnc cap (List.mem_of_getElem? hj)
 refine go_step hk ho hg A hop hx hcl hkp hown (fun w₁ h₁ => ?_) fun w₁ h₁ => ?_
 ·have hlf : lentF ρ h ft = ft.lend := by
   unfold lentF Foot.lend
   simp only [Foot.mk.injEq,and_true]
   funext b
   simp [nc b]
  have hfr := frz_rel (H.rely h₁)
  rw [hlf] at hfr
  exact hto ρ w₁ ft hfr hu
 ·subst hh
  have gc := gc_drop (g := hd) ok (Nat.le_refl h0.length)
  have H2 := gc.rel (H.rely h₁)
  rw [show ρ.comp id = ρ from rfl] at H2
  refine hJ _ ρ w₁ ft.lend ⟨fun t => ?_,by simp [Act.put,hdst,A.size],by simp [Act.put,hdst,hfd,A.defers],by rw [hfd]; exact hds⟩ (lend_rel H2 hn hw) hu hm0
  simp only [Act.put,hdst]
  rcases hf t with e | ⟨e,hv⟩
  ·exact .inl e
  ·rcases A.regs t with e2 | ⟨_,e2⟩
   ·exact .inl (e.trans e2)
   ·exact .inr ⟨hv,by rw [e2,e]⟩
theorem At.recv (hk : b.kind ≠ .early) (ho : ops[i]? = some o) (hd : dstOk N o = true) (hg : gd ops o f.r = some true) {x : Operand} {t : TypeId} {ok : Bool} (hop : o.op = .recv t x ok)
  {dir : ChanDir} {e : TypeId} (hu : P.underlying t = some (.chan dir e)) {ie : TypeInfo} (hi : P.info? e = some ie) {z : Value} (hz : ie.zero = some z) {c : Nat} (hx : ev f.r x = .chan (some c)) (hcm : c < m) (hc : ρ0.blk c = T.c) (hp : T.pend ≠ [])
  (hN : ∀ k ∈ T.pend,∀ v,T.phi k v → ∃ v0,v = v0 ∧ VOk 0 v0 ∧ At (JC P W0 Post (T.less k)) N b cs FC ρ0 m (.inRegion ops rest :: K) (f.putO o.dst (recvd ok v0 true)) h) :
  At (JC P W0 Post T) N b cs FC ρ0 m (.inRegion ops (i :: rest) :: K) f h := by
 intro a ρ w ft A H hu' hm
 refine recv_step hk ho hg A hop hu hi hz hx (by rw [(hu' c hcm).1]; exact hc) hp fun k hkm v hv w₁ h₁ => ?_
 obtain ⟨v0,rfl,hv0,hat⟩ := hN k hkm v hv
 refine hat _ ρ w₁ ft (act_put A (dstOk_lt hd) (.inr ?_)) (H.rely h₁) hu' hm
 have h0 : VOk 0 (recvd ok v true) := by
  unfold recvd
  cases ok
  ·exact hv0
  ·simp [VOk,AOk,LOk,hv0]
 exact ⟨VOk.mono (Nat.zero_le _) _ h0,(ren0 _ h0).symm⟩
end
def Crew.put (T : Crew) (b : Nat) (y : Nat × Array Value × Bool) : Crew := { T with ch := putAt T.ch b (some y) }
section
variable {P : Program} {W0 : World} {Post : Value → World → Prop} {T : Crew} {g g0 : Goroutine} {w w₁ w' : World} {ft : Foot} {gs gs' : Array Goroutine} {t : Trace} {st st' : Nat → WS} {ix : Nat → Nat} {i k : Nat} {sl : Option (Nat × Nat)}
theorem setChan_heap (w : World) (c cap : Nat) (buf : Array Value) (cl : Bool) (s r : Nat) (tm : Bool) (b : Nat) : (w.setChan c cap buf cl s r tm).heap[b]? = if b = c ∧ c < w.heap.size then some (.chan cap buf cl s r tm) else w.heap[b]? := by
 unfold World.setChan
 by_cases h : c = b
 ·subst h
  by_cases hl : c < w.heap.size
  ·simp [hl]
  ·simp [hl]
 ·rw [if_neg (fun e => h e.1.symm)]
  simp [Array.getElem?_setIfInBounds_ne h]
theorem Inv.turn (I : Inv P W0 T ft gs w t st ix) {b : Nat} {x y : Nat × Array Value × Bool} (hb : T.ch b = some x) (hne : T.pend ≠ [] → b ≠ T.c) {s r : Nat} {tm : Bool} (hsr : s = r + y.2.1.size) (hs : gs'.size = gs.size) (ho : ∀ j,0 < j → gs'[j]? = gs[j]?)
  {u : Trace} (hmu : ∀ op ∈ u,op.act.touch? = none) (hq : ∀ j,∀ op ∈ u,∀ d,deafStep j d op = d) (hlow : ∀ op ∈ u,op.act.low w.heap.size) : Inv P W0 (T.put b y) ft gs' (w.setChan b y.1 y.2.1 y.2.2 s r tm) (t ++ u) st ix := by
 have hd := fun j => Deaf_quiet (t := t) (hq j)
 have hblt : b < w.heap.size := by
  obtain ⟨_,_,_,e⟩ := I.chan b x hb
  exact (Array.getElem?_eq_some_iff.1 e).1
 have hpas := fun a => setChan_heap w b y.1 y.2.1 y.2.2 s r tm a
 have heap : ∀ a,a ≠ b → (w.setChan b y.1 y.2.1 y.2.2 s r tm).heap[a]? = w.heap[a]? := fun a ha => by
  rw [hpas,if_neg (fun e => ha e.1)]
 have hsz : (w.setChan b y.1 y.2.1 y.2.2 s r tm).heap.size = w.heap.size := by simp [World.setChan]
 have rel : ∀ {f : Foot},¬ f.rd b → RelyW f w (w.setChan b y.1 y.2.1 y.2.2 s r tm) := fun hn =>
  ⟨fun a ha => heap a fun e => hn (e ▸ ha),by rw [hsz]; exact Nat.le_refl _,rfl,rfl,rfl⟩
 have hch : ∀ a z,(T.put b y).ch a = some z → ∃ z',T.ch a = some z' := fun a z ha => by
  by_cases e : a = b
  ·exact ⟨x,e ▸ hb⟩
  ·unfold Crew.put at ha
   dsimp only at ha
   rw [putAt_ne _ _ e] at ha
   exact ⟨z,ha⟩
 refine { base := ⟨I.base.tape,I.base.os,I.base.output,by rw [hsz]; exact I.base.size⟩,lt := fun a ha => by rw [hsz]; exact I.lt a ha,sub := I.sub,chan := fun a z ha => ?_,cnt := fun a z s' r' tm' ha hw => ?_,chft := fun a z ha => ?_,own := fun hp => ?_,nd := I.nd,ixr := fun l hl => by rw [hs]; exact I.ixr l hl,inj := I.inj,pnd := fun l hl => ?_,old := fun j z hj hz hnj => ?_,disj := I.disj,above := fun j hj => by rw [hd]; exact I.above j (by omega),hears := by rw [hd]; exact I.hears,clean := fun said => noRace_appendMute (I.clean said) hmu,known := I.known.mute hmu,done := done_mute I.done hmu,seen := by rw [hsz]; exact seen_app I.seen hlow }
 ·by_cases e : a = b
  ·subst e
   have : z = y := by
    unfold Crew.put at ha
    dsimp only at ha
    rw [putAt_self] at ha
    exact (Option.some.inj ha).symm
   subst this
   exact ⟨_,_,_,by rw [hpas,if_pos ⟨rfl,hblt⟩]⟩
  ·rw [heap a e]
   unfold Crew.put at ha
   dsimp only at ha
   rw [putAt_ne _ _ e] at ha
   exact I.chan a z ha
 ·by_cases e : a = b
  ·subst e
   have : z = y := by
    unfold Crew.put at ha
    dsimp only at ha
    rw [putAt_self] at ha
    exact (Option.some.inj ha).symm
   subst this
   rw [hpas,if_pos ⟨rfl,hblt⟩] at hw
   simp only [Option.some.injEq,Obj.chan.injEq] at hw
   obtain ⟨_,_,_,rfl,rfl,_⟩ := hw
   exact hsr
  ·rw [heap a e] at hw
   unfold Crew.put at ha
   dsimp only at ha
   rw [putAt_ne _ _ e] at ha
   exact I.cnt a z s' r' tm' ha hw
 ·obtain ⟨z',hz⟩ := hch a z ha
  exact I.chft a z' hz
 ·unfold Crew.put
  dsimp only
  rw [putAt_ne _ _ (Ne.symm (hne hp))]
  exact I.own hp
 ·obtain ⟨z,h1,h2,h3⟩ := I.pnd l hl
  refine ⟨z,by rw [ho _ (I.ixr l hl).1]; exact h1,by rw [hd]; exact h2,h3.imp (fun ⟨wl,fl,e,V⟩ => ⟨wl,fl,e,V.way,V.rely.trans (rel (V.ch b x hb)),fun a ha => by rw [hsz]; exact V.lt a ha,V.sub,fun a z ha => ?_,V.d1,V.d2,V.know.mute hmu⟩) id⟩
  obtain ⟨z',hz⟩ := hch a z ha
  exact V.ch a z' hz
 ·rw [ho j hj] at hz
  obtain ⟨n,e,h⟩ := I.old j z hj hz hnj
  exact ⟨n,e,by rw [hd]; exact h⟩
theorem setChan_rely {f : Foot} {c cap s r : Nat} {buf : Array Value} {cl tm : Bool} (hn : ¬ f.rd c) : RelyW f w (w.setChan c cap buf cl s r tm) :=
 ⟨fun b hb => by
  have hne : b ≠ c := fun e => hn (e ▸ hb)
  rw [setChan_heap,if_neg (fun e => hne e.1)],by simp [World.setChan],rfl,rfl,rfl⟩
theorem JC.room (hrun : g.status = .running) {b cap : Nat} {buf : Array Value} (hb : T.ch b = some (cap,buf,false)) (hne : T.pend ≠ [] → b ≠ T.c) (hroom : buf.size < cap) {v : Value}
  (h : ∀ w₁,RelyW ft w w₁ → ∃ g₂ z,stepG P true g w₁ = .comm g₂ #[scase b v z] true .send w₁ #[] ∧ JC P W0 Post (T.put b (cap,buf.push v,false)) (Conc.served g₂ undef) w₁ ft) : JC P W0 Post T g w ft :=
 JC.main hrun fun gs w₁ sl t st ix hrel h0 I => by
  obtain ⟨g₂,z,hgo,hN⟩ := h w₁ hrel
  obtain ⟨s,r,tm,hc⟩ := I.chan _ _ hb
  have hlt0 : 0 < gs.size := (Array.getElem?_eq_some_iff.1 h0).1
  have hlt : b < w₁.heap.size := (Array.getElem?_eq_some_iff.1 hc).1
  have hsr : s = r + buf.size := I.cnt _ _ s r tm hb hc
  have hr := crowd_send_room (P := P) (sl := sl) (gs := gs) (w := w₁) (w₁ := w₁) (i := 0) h0 (show stepG P (0 == 0) _ w₁ = _ from hgo) hc hroom (partners_nil fun j y hy => by
   rcases getElem?_stand _ _ _ _ hy with ⟨_,rfl⟩ | ⟨hj,hy⟩
   ·rfl
   ·exact I.noRecv (by omega) hy _)
  refine ⟨_,_,hr,?_⟩
  rw [finishComm_send,evs_front]
  refine hN _ _ sl _ st ix (setChan_rely (I.chft _ _ hb)) (Array.getElem?_setIfInBounds_self_of_lt hlt0) (I.turn (y := (cap,buf.push v,false)) hb hne (by simp; omega) (by simp) (fun j hj => Array.getElem?_setIfInBounds_ne (by omega)) ?_ ?_ ?_)
  ·intro op hop
   simp only [List.mem_toArray,List.mem_cons,List.not_mem_nil,or_false] at hop
   rcases hop with rfl | rfl <;> rfl
  ·intro j op hop d
   simp only [List.mem_toArray,List.mem_cons,List.not_mem_nil,or_false] at hop
   rcases hop with rfl | rfl <;> rfl
  ·intro op hop
   simp only [List.mem_toArray,List.mem_cons,List.not_mem_nil,or_false] at hop
   rcases hop with rfl | rfl <;> exact hlt
theorem Inv.noSend (I : Inv P W0 T ft gs w t st ix) (hp : T.pend = []) {j : Nat} {y : Goroutine} (hj : 0 < j) (hy : gs[j]? = some y) (c : Nat) (sd : Bool) : offersAt y c sd = [] := by
 obtain ⟨n,_,hq⟩ := I.old j _ hj hy fun k hk => by rw [hp] at hk; cases hk
 exact offersAt_of_not_blocked (by rcases hq.status with h | h <;> rw [h] <;> simp) _ _
theorem JC.take (hrun : g.status = .running) (hp : T.pend = []) {b cap : Nat} {buf : Array Value} {cl : Bool} (hb : T.ch b = some (cap,buf,cl)) (hsome : 0 < buf.size) {ok : Bool}
  (h : ∀ w₁,RelyW ft w w₁ → ∃ g₂ z,stepG P true g w₁ = .comm g₂ #[rcase b z] true (.recv ok) w₁ #[] ∧ JC P W0 Post (T.put b (cap,buf.extract 1 buf.size,cl)) (Conc.served g₂ (recvd ok (buf.getD 0 undef) true)) w₁ ft) : JC P W0 Post T g w ft :=
 JC.main hrun fun gs w₁ sl t st ix hrel h0 I => by
  obtain ⟨g₂,z,hgo,hN⟩ := h w₁ hrel
  obtain ⟨s,r,tm,hc⟩ := I.chan _ _ hb
  have hlt0 : 0 < gs.size := (Array.getElem?_eq_some_iff.1 h0).1
  have hlt : b < w₁.heap.size := (Array.getElem?_eq_some_iff.1 hc).1
  have hsr : s = r + buf.size := I.cnt _ _ s r tm hb hc
  have hr := crowd_recv_buf (P := P) (sl := sl) (gs := gs) (w := w₁) (w₁ := w₁) (i := 0) h0 (show stepG P (0 == 0) _ w₁ = _ from hgo) hc hsome (partners_nil fun j y hy => by
   rcases getElem?_stand _ _ _ _ hy with ⟨_,rfl⟩ | ⟨hj,hy⟩
   ·rfl
   ·exact I.noSend hp (by omega) hy _ _)
  refine ⟨_,_,hr,?_⟩
  rw [finishComm_recv,evs_front]
  refine hN _ _ sl _ st ix (setChan_rely (I.chft _ _ hb)) (Array.getElem?_setIfInBounds_self_of_lt hlt0) (I.turn (y := (cap,buf.extract 1 buf.size,cl)) hb (fun h => absurd hp h) (by simp; omega) (by simp) (fun j hj => Array.getElem?_setIfInBounds_ne (by omega)) ?_ ?_ ?_)
  ·intro op hop
   simp only [List.mem_toArray,List.mem_cons,List.not_mem_nil,or_false] at hop
   rcases hop with rfl | rfl <;> rfl
  ·intro j op hop d
   simp only [List.mem_toArray,List.mem_cons,List.not_mem_nil,or_false] at hop
   rcases hop with rfl | rfl <;> rfl
  ·intro op hop
   simp only [List.mem_toArray,List.mem_cons,List.not_mem_nil,or_false] at hop
   rcases hop with rfl | rfl <;> exact hlt
theorem setChan_same {b cap s r : Nat} {buf : Array Value} {cl tm : Bool} (hc : w.heap[b]? = some (.chan cap buf cl s r tm)) : w.setChan b cap buf cl s r tm = w := by
 unfold World.setChan
 have : w.heap.setIfInBounds b (.chan cap buf cl s r tm) = w.heap := by
  apply Array.ext_getElem?
  intro j
  by_cases e : b = j
  ·subst e
   rw [hc,Array.getElem?_setIfInBounds_self_of_lt (Array.getElem?_eq_some_iff.1 hc).1]
  ·rw [Array.getElem?_setIfInBounds_ne e]
 rw [this]
theorem put_same {b : Nat} {x : Nat × Array Value × Bool} (hb : T.ch b = some x) : T.put b x = T := by
 unfold Crew.put
 have : putAt T.ch b (some x) = T.ch := by
  funext j
  by_cases e : j = b
  ·subst e
   rw [putAt_self,hb]
  ·rw [putAt_ne _ _ e]
 rw [this]
theorem JC.drained (hrun : g.status = .running) (hp : T.pend = []) {b cap : Nat} (hb : T.ch b = some (cap,#[],true)) {ok : Bool} {z : Value}
  (h : ∀ w₁,RelyW ft w w₁ → ∃ g₂,stepG P true g w₁ = .comm g₂ #[rcase b z] true (.recv ok) w₁ #[] ∧ JC P W0 Post T (Conc.served g₂ (recvd ok z false)) w₁ ft) : JC P W0 Post T g w ft :=
 JC.main hrun fun gs w₁ sl t st ix hrel h0 I => by
  obtain ⟨g₂,hgo,hN⟩ := h w₁ hrel
  obtain ⟨s,r,tm,hc⟩ := I.chan _ _ hb
  have hlt0 : 0 < gs.size := (Array.getElem?_eq_some_iff.1 h0).1
  have hlt : b < w₁.heap.size := (Array.getElem?_eq_some_iff.1 hc).1
  have hsr := I.cnt _ _ s r tm hb hc
  have hr := crowd_recv_closed (P := P) (sl := sl) (gs := gs) (w := w₁) (w₁ := w₁) (i := 0) h0 (show stepG P (0 == 0) _ w₁ = _ from hgo) hc (partners_nil fun j y hy => by
   rcases getElem?_stand _ _ _ _ hy with ⟨_,rfl⟩ | ⟨hj,hy⟩
   ·rfl
   ·exact I.noSend hp (by omega) hy _ _)
  refine ⟨_,_,hr,?_⟩
  rw [finishComm_recv,evs_front]
  have I2 := I.turn (y := (cap,#[],true)) (s := s) (r := r) (tm := tm) (gs' := gs.setIfInBounds 0 (Conc.served g₂ (recvd ok z false))) (u := #[{ g := 0,fn := g₂.frame.fn,pos := g₂.frame.place,act := .recvClosed b }]) hb (fun h => absurd hp h) hsr (by simp) (fun j hj => Array.getElem?_setIfInBounds_ne (by omega)) (by
   intro op hop
   simp only [List.mem_toArray,List.mem_cons,List.not_mem_nil,or_false] at hop
   subst hop
   rfl) (by
   intro j op hop d
   simp only [List.mem_toArray,List.mem_cons,List.not_mem_nil,or_false] at hop
   subst hop
   rfl) (by
   intro op hop
   simp only [List.mem_toArray,List.mem_cons,List.not_mem_nil,or_false] at hop
   subst hop
   exact hlt)
  dsimp only at I2
  rw [setChan_same hc,put_same hb] at I2
  exact hN _ _ sl _ st ix (RelyW.refl _ _) (Array.getElem?_setIfInBounds_self_of_lt hlt0) I2
theorem Inv.all (I : Inv P W0 T ft gs w t st ix) (hp : T.pend = []) : ∀ i a,touchAt t i = some a → a.loc.isMemory = true → Knows t 0 i := fun i a ha hm => by
 rcases I.done i a ha hm with h | ⟨k,hk,_⟩
 ·exact h
 ·rw [hp] at hk
  cases hk
theorem Inv.turn0 (I : Inv P W0 T ft gs w t st ix) (hp : T.pend = []) {b : Nat} {x y : Nat × Array Value × Bool} (hb : T.ch b = some x) {s r : Nat} {tm : Bool} (hsr : s = r + y.2.1.size) (hs : gs'.size = gs.size) (ho : ∀ j,0 < j → gs'[j]? = gs[j]?)
  {u : Trace} (hg0 : ∀ op ∈ u,op.g = 0) (hq : ∀ j,∀ op ∈ u,∀ d,deafStep j d op = d) (hlow : ∀ op ∈ u,op.act.low w.heap.size) : Inv P W0 (T.put b y) ft gs' (w.setChan b y.1 y.2.1 y.2.2 s r tm) (t ++ u) st ix := by
 have J := I.turn (u := #[]) (y := y) (tm := tm) hb (fun h => absurd hp h) hsr hs ho (by simp) (by simp) (by simp)
 have e0 : t ++ (#[] : Trace) = t := by simp
 rw [e0] at J
 have hd := fun j => Deaf_quiet (t := t) (hq j)
 have kn := I.all hp
 have hsz : (w.setChan b y.1 y.2.1 y.2.2 s r tm).heap.size = w.heap.size := by simp [World.setChan]
 have know : ∀ i a,touchAt (t ++ u) i = some a → a.loc.isMemory = true → Knows (t ++ u) 0 i := fun i a ha hm => by
  rcases touch_app ha with ⟨_,h⟩ | ⟨op,hop,hg,h⟩
  ·exact (kn i a h hm).app _
  ·have := knows_own hg
   rw [hg0 op hop] at this
   exact this
 refine ⟨J.base,J.lt,J.sub,J.chan,J.cnt,J.chft,J.own,J.nd,J.ixr,J.inj,fun l hl => ?_,fun j z hj hz hnj => ?_,J.disj,fun j hj => ?_,?_,fun said => ?_,fun i a ha hm => .inl (know i a ha hm),fun i a ha hm => .inl (know i a ha hm),?_⟩
 ·have : l ∈ T.pend := hl
  rw [hp] at this
  cases this
 ·rw [hd]
  exact J.old j z hj hz hnj
 ·rw [hd]
  exact J.above j hj
 ·rw [hd]
  exact J.hears
 ·exact noRace_append (I.clean said) hg0 fun i a ha op hop b hb hcf => kn i a ha (conf_blk hcf).2.1
 ·rw [hsz]
  exact seen_app I.seen hlow
theorem JC.shut (hrun : g.status = .running) (hp : T.pend = []) {b cap : Nat} {buf : Array Value} (hb : T.ch b = some (cap,buf,false))
  (h : ∀ w₁,RelyW ft w w₁ → ∀ s r tm,w₁.heap[b]? = some (.chan cap buf false s r tm) → ∃ g',stepG P true g w₁ = .go g' (w₁.setChan b cap buf true s r tm) #[⟨.obj b,false,true⟩,⟨.obj b,true,true⟩] ∧ JC P W0 Post (T.put b (cap,buf,true)) g' w₁ ft) : JC P W0 Post T g w ft :=
 JC.main hrun fun gs w₁ sl t st ix hrel h0 I => by
  obtain ⟨s,r,tm,hc⟩ := I.chan _ _ hb
  obtain ⟨g',hgo,hN⟩ := h w₁ hrel s r tm hc
  have hlt0 : 0 < gs.size := (Array.getElem?_eq_some_iff.1 h0).1
  have hlt : b < w₁.heap.size := (Array.getElem?_eq_some_iff.1 hc).1
  have hsr : s = r + buf.size := I.cnt _ _ s r tm hb hc
  refine ⟨_,_,runT_crowd_go (P := P) (sl := sl) (i := 0) h0 (show stepG P (0 == 0) _ w₁ = _ from hgo),?_⟩
  have hev : MemOp.ofEvents 0 g.frame.fn g.frame.place #[⟨.obj b,false,true⟩,⟨.obj b,true,true⟩] = #[{ g := 0,fn := g.frame.fn,pos := g.frame.place,act := .access ⟨.obj b,false,true⟩ },{ g := 0,fn := g.frame.fn,pos := g.frame.place,act := .close b }] := by
   rw [ofEvents_eq]
   simp [MemAct.ofEvent]
  rw [hev]
  refine hN _ _ sl _ st ix (setChan_rely (I.chft _ _ hb)) (moved_own h0) (I.turn0 (y := (cap,buf,true)) hp hb hsr (by simp) (fun j hj => ?_) ?_ ?_ ?_)
  ·rw [Array.getElem?_setIfInBounds_ne (by omega),Array.getElem?_map]
   cases e : gs[j]? with
   | none => rfl
   | some y =>
    obtain ⟨n,_,hq⟩ := I.old j y hj e fun k hk => by rw [hp] at hk; cases hk
    rw [Option.map_some,woken_quitsD hq]
  ·intro op hop
   simp only [List.mem_toArray,List.mem_cons,List.not_mem_nil,or_false] at hop
   rcases hop with rfl | rfl <;> rfl
  ·intro j op hop d
   simp only [List.mem_toArray,List.mem_cons,List.not_mem_nil,or_false] at hop
   rcases hop with rfl | rfl <;> rfl
  ·intro op hop
   simp only [List.mem_toArray,List.mem_cons,List.not_mem_nil,or_false] at hop
   rcases hop with rfl | rfl <;> exact hlt
end
section
variable {P : Program} {main : Bool} {W0 : World} {Post : Value → World → Prop} {T : Crew} {w w₁ w' : World} {ft : Foot} {ρ ρ0 : Env} {h : List AObj} {FC : Frm} {N m : Nat} {f : RG} {b : FB} {a : Act} {cs : List Frame} {K : List Item} {ops : Array Oper} {i : Nat} {rest : List Nat} {o : Oper}
theorem stepG_close (hk : b.kind ≠ .early) (ho : ops[i]? = some o) (hg : gd ops o f.r = some true) (A : ActRel h.length ρ N f a) {x : Operand} {ats : Array TypeId} (hop : o.op = .call { callee := .builtin .close,args := #[x],argTypes := ats }) {c : Nat} (hx : ev f.r x = .chan (some c)) (hdst : o.dst = none)
  (w : World) {cap s r : Nat} {buf : Array Value} {tm : Bool} (hc : w.heap[ρ.blk c]? = some (.chan cap buf false s r tm)) :
  stepG P main (G (b.at a (.inRegion ops (i :: rest) :: K)) cs) w = .go (G (b.at a (.inRegion ops rest :: K)) cs) (w.setChan (ρ.blk c) cap buf true s r tm) #[⟨.obj (ρ.blk c),false,true⟩,⟨.obj (ρ.blk c),true,true⟩] := by
 have hw := gd_wanted A hg
 have hnd : ∀ c,o.op ≠ .defer c := fun c e => by rw [hop] at e; cases e
 have hk' : (b.kind == CallKind.early) = false := by simpa using hk
 have hxv := ((ev_rel A.regs x).val (by rw [hx]; simp [unk])).2
 rw [hx] at hxv
 simp only [ren] at hxv
 have hr : (execOp a.eval o).runT P w #[] = (.ok (.value (.tuple #[])) (w.setChan (ρ.blk c) cap buf true s r tm),#[⟨.obj (ρ.blk c),false,true⟩,⟨.obj (ρ.blk c),true,true⟩]) := by
  unfold execOp
  rw [hop]
  simp only [resolve,List.map_toArray,List.map_cons,List.map_nil,hxv]
  show (Sem.bind _ _).runT P w #[] = _
  rw [Sem.runT_bind']
  simp only [pure,Sem.runT]
  unfold invoke builtin
  simp only
  delta Builtin.close_
  dsimp only
  have h1 : (getObj (ρ.blk c)).runT P w #[] = (.ok (.chan cap buf false s r tm) w,#[⟨.obj (ρ.blk c),false,true⟩]) := by
   show Sem.runT P (.getObj _ .pure) w #[] = _
   unfold Sem.runT
   rw [hc]
   rfl
  have h2 : (setObj (ρ.blk c) (.chan cap buf true s r tm)).runT P w #[⟨.obj (ρ.blk c),false,true⟩] = (.ok () (w.setChan (ρ.blk c) cap buf true s r tm),#[⟨.obj (ρ.blk c),false,true⟩,⟨.obj (ρ.blk c),true,true⟩]) := by
   show Sem.runT P (.setObj _ _ (.pure ())) w _ = _
   unfold Sem.runT
   rw [hc]
   rfl
  have h3 : (Sem.bind (setObj (ρ.blk c) (.chan cap buf true s r tm)) fun _ => Sem.pure (Value.tuple #[])).runT P w #[⟨.obj (ρ.blk c),false,true⟩] = (.ok (Value.tuple #[]) (w.setChan (ρ.blk c) cap buf true s r tm),#[⟨.obj (ρ.blk c),false,true⟩,⟨.obj (ρ.blk c),true,true⟩]) := by
   rw [Sem.runT_bind',h2]
   rfl
  show (Sem.bind (Sem.bind (getObj (ρ.blk c)) _) _).runT P w #[] = _
  rw [Sem.runT_bind',Sem.runT_bind',h1]
  dsimp only
  rw [if_neg (by decide)]
  have h3' := h3
  simp only [bind,pure] at h3' ⊢
  rw [h3']
  rfl
 have hf := FB.finish_at b a ops i rest K (.tuple #[])
 rw [ho] at hf
 simp only [Option.bind_some,hdst] at hf
 have ha : a.put none (.tuple #[]) = a := rfl
 rw [ha] at hf
 rw [stepG_op ho hw hnd,← hf]
 simp only [stepG.apply,hr,if_true]
 simp [FB.at,hk',GStep.after,G,seen]
theorem At.room (hk : b.kind ≠ .early) (ho : ops[i]? = some o) (hg : gd ops o f.r = some true) {x y : Operand} (hop : o.op = .send x y) (hdst : o.dst = none) {c : Nat} (hx : ev f.r x = .chan (some c)) (hcm : c < m) {v : Value} (hy : ev f.r y = v) (hv : v ≠ unk) (hv0 : VOk 0 v)
  {cap : Nat} {buf : Array Value} (hb : T.ch (ρ0.blk c) = some (cap,buf,false)) (hne : T.pend ≠ [] → ρ0.blk c ≠ T.c) (hroom : buf.size < cap)
  (hJ : At (JC P W0 Post (T.put (ρ0.blk c) (cap,buf.push v,false))) N b cs FC ρ0 m (.inRegion ops rest :: K) f h) : At (JC P W0 Post T) N b cs FC ρ0 m (.inRegion ops (i :: rest) :: K) f h := by
 intro a ρ w ft A H hu hm
 refine JC.room rfl hb hne hroom (v := v) fun w₁ h₁ => ?_
 have hs := stepG_send (P := P) (main := true) (K := K) (cs := cs) (b := b) (rest := rest) hk ho hg A hop hx hy hv w₁
 rw [(hu c hcm).1,ren0 _ hv0] at hs
 refine ⟨_,_,hs,?_⟩
 rw [served_at,ho]
 simp only [Option.bind_some,hdst]
 exact hJ a ρ w₁ ft A (H.rely h₁) hu hm
theorem At.shut (hk : b.kind ≠ .early) (ho : ops[i]? = some o) (hg : gd ops o f.r = some true) {x : Operand} {ats : Array TypeId} (hop : o.op = .call { callee := .builtin .close,args := #[x],argTypes := ats }) (hdst : o.dst = none) {c : Nat} (hx : ev f.r x = .chan (some c)) (hcm : c < m)
  (hp : T.pend = []) {cap : Nat} {buf : Array Value} (hb : T.ch (ρ0.blk c) = some (cap,buf,false))
  (hJ : At (JC P W0 Post (T.put (ρ0.blk c) (cap,buf,true))) N b cs FC ρ0 m (.inRegion ops rest :: K) f h) : At (JC P W0 Post T) N b cs FC ρ0 m (.inRegion ops (i :: rest) :: K) f h := by
 intro a ρ w ft A H hu hm
 refine JC.shut rfl hp hb fun w₁ h₁ s r tm hc => ?_
 have e := (hu c hcm).1
 have hs := stepG_close (P := P) (main := true) (K := K) (cs := cs) (b := b) (rest := rest) hk ho hg A hop hx hdst w₁ (by rw [e]; exact hc)
 rw [e] at hs
 exact ⟨_,hs,hJ a ρ w₁ ft A (H.rely h₁) hu hm⟩
theorem At.take (hk : b.kind ≠ .early) (ho : ops[i]? = some o) (hd : dstOk N o = true) (hg : gd ops o f.r = some true) {x : Operand} {t : TypeId} {ok : Bool} (hop : o.op = .recv t x ok)
  {dir : ChanDir} {e : TypeId} (hu : P.underlying t = some (.chan dir e)) {ie : TypeInfo} (hi : P.info? e = some ie) {z : Value} (hz : ie.zero = some z) {c : Nat} (hx : ev f.r x = .chan (some c)) (hcm : c < m)
  (hp : T.pend = []) {cap : Nat} {buf : Array Value} {cl : Bool} (hb : T.ch (ρ0.blk c) = some (cap,buf,cl)) (hsome : 0 < buf.size) (hv0 : VOk 0 (buf.getD 0 undef))
  (hJ : At (JC P W0 Post (T.put (ρ0.blk c) (cap,buf.extract 1 buf.size,cl))) N b cs FC ρ0 m (.inRegion ops rest :: K) (f.putO o.dst (recvd ok (buf.getD 0 undef) true)) h) : At (JC P W0 Post T) N b cs FC ρ0 m (.inRegion ops (i :: rest) :: K) f h := by
 intro a ρ w ft A H hu' hm
 refine JC.take rfl hp hb hsome (ok := ok) fun w₁ h₁ => ?_
 have hs := stepG_recv (P := P) (main := true) (K := K) (cs := cs) (b := b) (rest := rest) hk ho hg A hop hu hi hz hx w₁
 rw [(hu' c hcm).1] at hs
 refine ⟨_,_,hs,?_⟩
 rw [served_at,ho]
 refine hJ _ ρ w₁ ft (act_put A (dstOk_lt hd) (.inr ?_)) (H.rely h₁) hu' hm
 have h1 : ∀ bv,VOk 0 bv → VOk 0 (recvd ok bv true) := fun bv hbv => by
  unfold recvd
  cases ok
  ·exact hbv
  ·simp [VOk,AOk,LOk,hbv]
 have h0 := h1 _ hv0
 exact ⟨VOk.mono (Nat.zero_le _) _ h0,(ren0 _ h0).symm⟩
theorem At.drained (hk : b.kind ≠ .early) (ho : ops[i]? = some o) (hd : dstOk N o = true) (hg : gd ops o f.r = some true) {x : Operand} {t : TypeId} {ok : Bool} (hop : o.op = .recv t x ok)
  {dir : ChanDir} {e : TypeId} (hu : P.underlying t = some (.chan dir e)) {ie : TypeInfo} (hi : P.info? e = some ie) {z : Value} (hz : ie.zero = some z) {c : Nat} (hx : ev f.r x = .chan (some c)) (hcm : c < m)
  (hp : T.pend = []) {cap : Nat} (hb : T.ch (ρ0.blk c) = some (cap,#[],true)) (hz0 : VOk 0 z)
  (hJ : At (JC P W0 Post T) N b cs FC ρ0 m (.inRegion ops rest :: K) (f.putO o.dst (recvd ok z false)) h) : At (JC P W0 Post T) N b cs FC ρ0 m (.inRegion ops (i :: rest) :: K) f h := by
 intro a ρ w ft A H hu' hm
 refine JC.drained rfl hp hb (ok := ok) (z := z) fun w₁ h₁ => ?_
 have hs := stepG_recv (P := P) (main := true) (K := K) (cs := cs) (b := b) (rest := rest) hk ho hg A hop hu hi hz hx w₁
 rw [(hu' c hcm).1] at hs
 refine ⟨_,hs,?_⟩
 rw [served_at,ho]
 refine hJ _ ρ w₁ ft (act_put A (dstOk_lt hd) (.inr ?_)) (H.rely h₁) hu' hm
 have h0 : VOk 0 (recvd ok z false) := by
  unfold recvd
  cases ok
  ·exact hz0
  ·simp [VOk,AOk,LOk,hz0]
 exact ⟨VOk.mono (Nat.zero_le _) _ h0,(ren0 _ h0).symm⟩
end
section
variable {P : Program} {main : Bool} {J : JT} {N m : Nat} {b : FB} {cs : List Frame} {FC : Frm} {ρ0 : Env} {k : List Item} {f : RG} {h : List AObj} {ops ops' : Array Oper} {last : Nat}
theorem At.enter {g : FuncId} {fn : Func} (hf : P.funcs[g]? = some fn) {c : Code} (hb : fn.body = some c) {args : List Value} (ha : args.length ≤ fn.ntmps) (hv : ∀ v ∈ args,VOk h.length v) {ρ : Env} {w : World} {ft : Foot} (H : HRel ρ h FC w ft)
  (hA : At J fn.ntmps ⟨g,.deferred,none,[]⟩ cs FC ρ h.length [.code c] ⟨regs args,[]⟩ h) : J (G (Frame.enter P g ⟨args.map (ren ρ)⟩ .deferred) cs) w ft := by
 have he : Frame.enter P g ⟨args.map (ren ρ)⟩ .deferred = FB.at ⟨g,.deferred,none,[]⟩ ⟨⟨args.map (ren ρ)⟩ ++ Array.replicate (fn.ntmps - args.length) undef,[]⟩ [.code c] := by
  simp [Frame.enter,FB.at,hf,hb]
 rw [he]
 refine hA _ ρ w ft ⟨fun t => ?_,by simp; omega,rfl,by simp⟩ H (fun _ _ => ⟨rfl,rfl⟩) (Nat.le_refl _)
 have ht : ((⟨args.map (ren ρ)⟩ : Array Value) ++ Array.replicate (fn.ntmps - args.length) undef).getD t undef = (args.map (ren ρ)).getD t undef := by
  rw [Array.getD_eq_getD_getElem?,List.getD_eq_getElem?_getD]
  by_cases hx : t < args.length
  ·rw [Array.getElem?_append_left (by simpa using hx)]
   simp
  ·rw [Array.getElem?_append_right (by simp; omega),List.getElem?_eq_none (by simp; omega)]
   simp only [Array.getElem?_replicate]
   split <;> rfl
 rw [ht]
 by_cases hx : t < args.length
 ·refine .inr ?_
  show VOk h.length (regs args t) ∧ _
  have e1 : regs args t = args[t] := by simp [regs,List.getD_eq_getElem?_getD,List.getElem?_eq_getElem hx]
  rw [e1]
  refine ⟨hv _ (List.getElem_mem hx),?_⟩
  show _ = ren ρ (regs args t)
  rw [e1]
  simp [List.getD_eq_getElem?_getD,List.getElem?_eq_getElem hx]
 ·refine .inl ?_
  show regs args t = unk
  simp [regs,List.getD_eq_getElem?_getD,List.getElem?_eq_none (Nat.le_of_not_lt hx)]
end
end Go.Proofs.YtaceckiodofdkaaDoor
namespace Go.Proofs.YtaceckiodofdkaaDoor
open Go.Conc Go.Proofs.Tryd
set_option maxRecDepth 100000
section
variable {P : Program} {main : Bool} {J : JT} {N m : Nat} {b : FB} {cs : List Frame} {FC : Frm} {ρ0 : Env} {k : List Item} {f : RG} {h : List AObj}
theorem At.cond (hJ : Closed P main J) {c : Operand} {x y : Code} {t : Bool} (ht : ev f.r c = .bool t) (h' : At J N b cs FC ρ0 m (.code (if t then x else y) :: k) f h) : At J N b cs FC ρ0 m (.code (.cond c x y) :: k) f h := by
 intro a ρ w ft A H hu hm
 have hv := ((ev_rel A.regs c).val (by rw [ht]; simp [unk])).2
 rw [ht] at hv
 simp only [ren] at hv
 have he : ∀ todo,(b.at a todo).eval c = .bool t := fun todo => by rw [← hv]; cases c <;> rfl
 refine hJ.ctrl rfl rfl (g' := G (b.at a (.code (if t then x else y) :: k)) cs) (fun w => ?_) (h' a ρ w ft A H hu hm)
 have := he (.code (.cond c x y) :: k)
 simp only [FB.at] at this
 simp [G,stepG,stepG.exec,FB.at,this]
end
def strU (cs : List Int) (l : List Int) : Int := l.foldl (fun s k => orU s (cs.getD k.toNat 0)) 0
theorem strU_snoc {cs l : List Int} {k : Int} : strU cs (l ++ [k]) = orU (strU cs l) (cs.getD k.toNat 0) := by simp [strU]
noncomputable def sentV (t : Tal) (cs l : List Int) (i : Nat) : Int := if truthS t (strU cs l) then (i : Int) else -1
theorem shape110 : codeOf f48 = .seq (subC [0] (codeOf f48)) (.seq (.seq (subC [1,0,0] (codeOf f48)) (.block 0 (.loop (subC [1,0,1,0,0] (codeOf f48))))) (.seq (subC [1,1,0] (codeOf f48)) (.cond (.tmp 24) (subC [1,1,1,0] (codeOf f48)) (subC [1,1,1,1] (codeOf f48))))) := by kernel_rfl
theorem round110 : subC [1,0,1,0,0] (codeOf f48) = .seq (subC [1,0,1,0,0,0] (codeOf f48)) (.seq (subC [1,0,1,0,0,1,0] (codeOf f48)) (.seq (subC [1,0,1,0,0,1,1,0] (codeOf f48)) (subC [1,0,1,0,0,1,1,1] (codeOf f48)))) := by kernel_rfl
structure R110 (f : RG) (b1 b2 b3 b4 : Nat) (lv : Value) (n k : Nat) (u : Int) : Prop where
 ds : f.ds = []
 r1 : f.r 1 = ptr b1 0
 r2 : f.r 2 = ptr b2 0
 r3 : f.r 3 = ptr b3 0
 r4 : f.r 4 = ptr b4 0
 r5 : f.r 5 = .int .u64 u
 r8 : f.r 8 = lv
 r9 : f.r 9 = vint (n : Nat)
 r10 : f.r 10 = vint (k : Nat)
section
variable {J : JT} {h : List AObj} {FC : Frm} {ρ0 : Env} {fs : List Frame} {b : FB} {k1 : List Item}
theorem loop110 (hJ : Closed prog false J) (hk : b.kind ≠ .early) {b1 b2 b3 b4 : Nat} {wr1 : Bool} {kv lv : Value} {cs l : List Int} (h1 : h[b1]? = some (.cells [kv] wr1 0)) (hc : Sli h kv 1 cs.length (cs.map fun n => .int .u64 n)) (hl : Sli h lv 1 l.length (l.map vint)) (hb : ∀ x ∈ l,0 ≤ x ∧ x < cs.length) (hll : l.length ≤ 1000)
  (hdone : ∀ f,R110 f b1 b2 b3 b4 lv l.length l.length (strU cs l) → At J 28 b fs FC ρ0 h.length k1 f h) :
  ∀ (d k : Nat) (f : RG),d = l.length - k → k ≤ l.length → R110 f b1 b2 b3 b4 lv l.length k (strU cs (l.take k)) → At J 28 b fs FC ρ0 h.length (.code (subC [1,0,1,0,0] (codeOf f48)) :: .inLoop (subC [1,0,1,0,0] (codeOf f48)) :: .inBlock 0 :: k1) f h := by
 intro d
 induction d with
 | zero =>
  intro k f hd hk' R
  have hkn : k = l.length := by omega
  subst hkn
  rw [round110]
  refine At.seq hJ (At.piece (Q := fun e f' h' => e = .normal ∧ f' = f.p 11 (.bool false) ∧ h' = h) rfl hk (W_sound hJ mixed _ ?_) (Nat.le_refl _) (Nat.le_refl _) ?_)
  ·rw [q48_3,R.r9,R.r10]
   refine lssI ⟨rfl,?_,rfl⟩
   simp
  rintro e f' h' ⟨rfl,rfl,rfl⟩
  refine .inl ⟨rfl,At.seq hJ (At.piece (Q := fun e f' h1 => e = .exit 0 ∧ f' = f.p 11 (.bool false) ∧ h1 = h') rfl hk (W_sound hJ mixed _ ?_) (Nat.le_refl _) (Nat.le_refl _) ?_)⟩
  ·rw [q48_4]
   exact cnd_false.2 ⟨rfl,rfl,rfl⟩
  rintro e f1 h1 ⟨rfl,rfl,rfl⟩
  refine .inr ⟨0,k1,rfl,by simp [exitTo],?_⟩
  refine hdone _ ⟨R.ds,R.r1,R.r2,R.r3,R.r4,?_,R.r8,R.r9,R.r10⟩
  have := R.r5
  rw [List.take_length] at this
  exact this
 | succ d ih =>
  intro k f hd hk' R
  have hkl : k < l.length := by omega
  have hx := List.getElem?_eq_getElem hkl
  have hbx := hb _ (List.getElem_mem hkl)
  rw [round110]
  refine At.seq hJ (At.piece (Q := fun e f' h' => e = .normal ∧ f' = f.p 11 (.bool true) ∧ h' = h) rfl hk (W_sound hJ mixed _ ?_) (Nat.le_refl _) (Nat.le_refl _) ?_)
  ·rw [q48_3,R.r9,R.r10]
   refine lssI ⟨rfl,?_,rfl⟩
   have : ((k : Int) < (l.length : Int)) := by omega
   simp [this]
  rintro e f' h' ⟨rfl,rfl,rfl⟩
  refine .inl ⟨rfl,At.seq hJ (At.piece (Q := fun e f' h1 => e = .normal ∧ f' = f.p 11 (.bool true) ∧ h1 = h') rfl hk (W_sound hJ mixed _ ?_) (Nat.le_refl _) (Nat.le_refl _) ?_)⟩
  ·rw [q48_4]
   exact cnd_true.2 ⟨rfl,rfl,rfl⟩
  rintro e f1 h ⟨rfl,rfl,rfl⟩
  refine .inl ⟨rfl,At.seq hJ (At.piece (Q := fun e f' h' => e = .normal ∧ R110 f' b1 b2 b3 b4 lv l.length k (strU cs (l.take (k + 1))) ∧ h' = h) rfl hk (W_sound hJ mixed _ ?_) (Nat.le_refl _) (Nat.le_refl _) ?_)⟩
  ·rw [q48_5]
   show aIdx 1 (f.r 8) (f.r 10) _
   rw [R.r8,R.r10]
   refine idx_load hl ⟨by omega,by omega⟩ (x := vint l[k]) (by rw [Int.toNat_natCast,List.getElem?_map,hx]; rfl) fun q => ?_
   show aLoad false 1 (f.r 1) h _
   rw [R.r1]
   refine ldI h1 rfl (sli_one hc).2.2 ?_
   refine idx_load hc ⟨by omega,by omega⟩ (x := .int .u64 (cs.getD l[k].toNat 0)) (by
    rw [List.getElem?_map,List.getD_eq_getElem?_getD,List.getElem?_eq_getElem (show l[k].toNat < cs.length by omega)]
    rfl) fun q2 => ?_
   show aBin prog .or 65 (f.r 5) _ _
   rw [R.r5]
   refine u_orI ⟨rfl,⟨R.ds,R.r1,R.r2,R.r3,R.r4,?_,R.r8,R.r9,R.r10⟩,rfl⟩
   show Value.int .u64 _ = _
   rw [List.take_add_one,hx]
   simp only [Option.toList]
   rw [strU_snoc]
  rintro e f2 h2 ⟨rfl,R2,rfl⟩
  refine .inl ⟨rfl,At.piece (Q := fun e f' h' => e = .normal ∧ R110 f' b1 b2 b3 b4 lv l.length (k + 1) (strU cs (l.take (k + 1))) ∧ h' = h2) rfl hk (W_sound hJ mixed _ ?_) (Nat.le_refl _) (Nat.le_refl _) ?_⟩
  ·rw [q48_6,R2.r10]
   refine addI (by omega) ⟨rfl,⟨R2.ds,R2.r1,R2.r2,R2.r3,R2.r4,R2.r5,R2.r8,R2.r9,rfl⟩,rfl⟩
  rintro e f3 h3 ⟨rfl,R3,rfl⟩
  exact .inl ⟨rfl,At.inLoop hJ (ih (k + 1) f3 (by omega) (by omega) R3)⟩
end
theorem work110 {h : List AObj} {FC : Frm} {ρ : Env} {w : World} {ft : Foot} (R : HRel ρ h FC w ft) {b0 b1 b2 b3 b4 c i : Nat} {lv kv cv nv : Value} {wr0 wr1 wr2 wr3 wr4 : Bool} {t : Tal} {cs l : List Int}
  (h0 : h[b0]? = some (.cells [lv] wr0 0)) (h1 : h[b1]? = some (.cells [kv] wr1 0)) (h2 : h[b2]? = some (.cells (talCells t cv nv) wr2 0)) (h3 : h[b3]? = some (.cells [.chan (some c)] wr3 0)) (h4 : h[b4]? = some (.cells [vint (i : Nat)] wr4 0))
  (ta : TalAt h (.agg ⟨talCells t cv nv⟩) t cv nv) (fine : TalFine t) (hc : Sli h kv 1 cs.length (cs.map fun n => .int .u64 n)) (hl : Sli h lv 1 l.length (l.map vint)) (hb : ∀ x ∈ l,0 ≤ x ∧ x < cs.length) (hll : l.length ≤ 1000)
  {T : Crew} (hlt : c < h.length) (hcT : ρ.blk c = T.c) {k : Nat} (hphi : T.phi k (vint (sentV t cs l i))) :
  Toward prog (AtSend prog T.c (T.phi k)) (G (Frame.enter prog 48 ⟨[ptr b0 0,ptr b1 0,ptr b2 0,ptr b3 0,ptr b4 0].map (ren ρ)⟩ .deferred) [base0 prog]) w ft := by
 have hJ := Toward.closed prog (AtSend prog T.c (T.phi k))
 have vp : ∀ {b : Nat} {x : AObj},h[b]? = some x → VOk h.length (ptr b 0) := fun hb => by
  have := lt_of_get hb
  simp [VOk,ptr,AddrOk,this]
 refine At.enter (fn := f48) (args := [ptr b0 0,ptr b1 0,ptr b2 0,ptr b3 0,ptr b4 0]) at48 body48 (Nat.le_of_ble_eq_true rfl) ?_ R ?_
 ·intro v hv
  simp only [List.mem_cons,List.not_mem_nil,or_false] at hv
  rcases hv with rfl | rfl | rfl | rfl | rfl
  ·exact vp h0
  ·exact vp h1
  ·exact vp h2
  ·exact vp h3
  ·exact vp h4
 rw [show f48.ntmps = 28 from by kernel_rfl,shape110]
 have kl := (sli_one hl).2.2
 refine At.seq hJ (At.piece (Q := fun e f' h' => e = .normal ∧ f' = (RG.mk (regs [ptr b0 0,ptr b1 0,ptr b2 0,ptr b3 0,ptr b4 0]) []).p 5 (.int .u64 0) ∧ h' = h) rfl (by simp) (W_sound hJ mixed _ ?_) (Nat.le_refl _) (Nat.le_refl _) ?_)
 ·rw [q48_1]
  exact ⟨rfl,rfl,rfl⟩
 rintro e f' h' ⟨rfl,rfl,rfl⟩
 refine .inl ⟨rfl,At.seq hJ (At.seq hJ (At.piece (Q := fun e f' h1 => e = .normal ∧ R110 f' b1 b2 b3 b4 lv l.length 0 (strU cs (l.take 0)) ∧ h1 = h') rfl (by simp) (W_sound hJ mixed _ ?_) (Nat.le_refl _) (Nat.le_refl _) ?_))⟩
 ·rw [q48_2]
  refine ldI h0 rfl kl (lenI hl ⟨rfl,⟨rfl,rfl,rfl,rfl,rfl,rfl,rfl,rfl,rfl⟩,rfl⟩)
 rintro e f1 h ⟨rfl,R1,rfl⟩
 refine .inl ⟨rfl,At.block hJ (At.loop hJ (loop110 hJ (by simp) h1 hc hl hb hll (fun f2 R2 => ?_) l.length 0 f1 rfl (by omega) R1))⟩
 refine At.seq hJ (At.piece (Q := fun e f' h' => e = .normal ∧ f'.ds = [] ∧ f'.r 3 = ptr b3 0 ∧ f'.r 4 = ptr b4 0 ∧ f'.r 24 = .bool (truthS t (strU cs l)) ∧ SameX [] h h') rfl (by simp) (W_sound hJ mixed _ ?_) (Nat.le_refl _) (Nat.le_refl _) ?_)
 ·rw [q48_7,R2.r2,R2.r5]
  refine load_part (c := talCells t cv nv) h2 (by rw [cs_val]; omega) rfl (talAt_kc ta) ?_
  refine good36 (h0 := h) hJ ta ta.ch ta.co ⟨[],by simp⟩ fun H bw bm S a1 a2 a3 wk hm => ?_
  refine good27 hJ wk a1 a2 a3 fine hm metOk_nil fun H2 es' S2 _ _ _ => ⟨rfl,R2.ds,R2.r3,R2.r4,rfl,S.thru S2 ?_⟩
  intro y hy
  simp at hy
  rcases hy with rfl | rfl
  ·exact .inr a1
  ·exact .inr a2
 rintro e f3 h5 ⟨rfl,ds,r3,r4,r24,S⟩
 refine .inl ⟨rfl,At.cond hJ (t := truthS t (strU cs l)) r24 ?_⟩
 have c3 := S.get h3 (by simp)
 have c4 := S.get h4 (by simp)
 cases hT : truthS t (strU cs l) with
 | true =>
  have e1 : sentV t cs l i = (i : Int) := by unfold sentV; rw [if_pos hT]
  rw [e1] at hphi
  show At _ _ _ _ _ _ _ (.code (subC [1,1,1,0] (codeOf f48)) :: _) _ _
  rw [r48_1]
  refine At.region hJ ?_
  rw [show List.range ops48_1.size = [0,1,2] from by rw [z48_1]; rfl]
  obtain ⟨o1,o2,o3,o4,o5⟩ := o48_1_0 (J := Toward prog (AtSend prog T.c (T.phi k)))
  obtain ⟨x1,x2,x3,x4,x5⟩ := o48_1_1 (J := Toward prog (AtSend prog T.c (T.phi k)))
  obtain ⟨y1,y2,y3,y4,y5⟩ := o48_1_2 (J := Toward prog (AtSend prog T.c (T.phi k)))
  refine At.op hJ (by simp) o1 o3 (o4 _) ?_
  rw [o5,o2,r3]
  refine ldI c3 rfl rfl fun _ => At.op hJ (by simp) x1 x3 (x4 _) ?_
  rw [x5,x2]
  show aLoad false 1 (f3.r 4) _ _
  rw [r4]
  refine ldI c4 rfl rfl fun _ => ?_
  intro a ρ' w' ft' A H' hu hm
  refine send_stop rfl rfl rfl y1 (y4 _) A ds y5 y2 (c := c) rfl (by rw [(hu c hlt).1]; exact hcT) (v := vint (i : Nat)) rfl (by simp [unk]) hphi at48 (by kernel_rfl) (base_catches _)
 | false =>
  have e1 : sentV t cs l i = -1 := by unfold sentV; rw [if_neg (by rw [hT]; decide)]
  rw [e1] at hphi
  show At _ _ _ _ _ _ _ (.code (subC [1,1,1,1] (codeOf f48)) :: _) _ _
  rw [r48_2]
  refine At.region hJ ?_
  rw [show List.range ops48_2.size = [0,1] from by rw [z48_2]; rfl]
  obtain ⟨o1,o2,o3,o4,o5⟩ := o48_2_0 (J := Toward prog (AtSend prog T.c (T.phi k)))
  obtain ⟨y1,y2,y3,y4,y5⟩ := o48_2_1 (J := Toward prog (AtSend prog T.c (T.phi k)))
  refine At.op hJ (by simp) o1 o3 (o4 _) ?_
  rw [o5,o2,r3]
  refine ldI c3 rfl rfl fun _ => ?_
  intro a ρ' w' ft' A H' hu hm
  refine send_stop rfl rfl rfl y1 (y4 _) A ds y5 y2 (c := c) rfl (by rw [(hu c hlt).1]; exact hcT) (v := vint (-1)) rfl (by simp [unk]) hphi at48 (by kernel_rfl) (base_catches _)
theorem At.weak {J : JT} {N m : Nat} {b : FB} {cs : List Frame} {FC : Frm} {ρ0 : Env} {k : List Item} {f f' : RG} {h : List AObj} (ok : heapOk h) (hf : ∀ t,f'.r t = unk ∨ (f'.r t = f.r t ∧ VOk h.length (f'.r t))) (hd : f'.ds = f.ds) (hds : f.ds = []) (hm' : m ≤ h.length) (h' : At J N b cs FC ρ0 m k f' h) : At J N b cs FC ρ0 m k f h := by
 have := At.drop (g := []) (f := f) ok hf hd (by rw [hds]; simp) hm' h'
 simpa using this
theorem frz_at {h : List AObj} {i : Nat} {c : List Value} {wr : Bool} {sz : Nat} (hb : h[i]? = some (.cells c wr sz)) : (frz h)[i]? = some (.cells c false sz) := by
 unfold frz
 rw [List.getElem?_map,hb]
 rfl
theorem frz_sli {h : List AObj} {v : Value} {s n : Nat} {cs : List Value} (hs : Sli h v s n cs) : Sli (frz h) v s n cs := by
 obtain ⟨base,c,rfl,hk,hh⟩ := hs
 refine ⟨base,c,rfl,hk,hh.imp id ?_⟩
 rintro ⟨b,o,e,h0⟩
 exact ⟨b,o,e,h0.imp id fun ⟨cs,wr,sz,hb,ht⟩ => ⟨cs,false,sz,frz_at hb,ht⟩⟩
theorem two_more {h H : List AObj} {x y : AObj} (S : SameX [] h H) (hl : H.length = h.length + 2) (hx : H[h.length]? = some x) (hy : H[h.length + 1]? = some y) : H = h ++ [x,y] := by
 obtain ⟨g,rfl⟩ := S.app0 (by simp)
 rw [List.length_append] at hl
 have h2 : g.length = 2 := by omega
 obtain ⟨a,b,rfl⟩ : ∃ a b,g = [a,b] := by
  cases g with
  | nil => simp at h2
  | cons a g => cases g with
   | nil => simp at h2
   | cons b g => cases g with
    | nil => exact ⟨a,b,rfl⟩
    | cons c g => simp at h2
 rw [List.getElem?_append_right (Nat.le_refl _)] at hx
 rw [List.getElem?_append_right (by omega)] at hy
 simp at hx hy
 rw [hx,hy]
structure Fr (h4 H : List AObj) (n : Nat) (a b p : Option Nat) (w : Value) : Prop where
 S : SameX [] h4 H
 ha : ∀ x,a = some x → h4.length ≤ x ∧ H[x]? = some (.chan 0)
 hb : ∀ x,b = some x → h4.length ≤ x ∧ H[x]? = some (.chan n) ∧ a ≠ some x
 hp : ∀ x,p = some x → h4.length ≤ x ∧ H[x]? = some (.cells [w] true 0)
section
variable {h4 H : List AObj} {n : Nat} {a b p : Option Nat} {w : Value} {K : Value → List AObj → Prop} {HL : List AObj → Prop}
theorem Fr.mkA (F : Fr h4 H n none b p w) (hk : ∀ H' x,Fr h4 H' n (some x) b p w → K (.chan (some x)) H') : (8 : Nat) ≤ 1024 ∧ aMkC (vint 0) H K := by
 have S : SameX [] H (H ++ [.chan (Int.toNat 0)]) := SameX.refl.app
 have hl := F.S.1
 refine ⟨by decide,⟨by omega,by omega⟩,hk _ H.length ⟨F.S.trans S,fun x hx => ?_,fun x hx => ?_,fun x hx => ?_⟩⟩
 ·cases hx
  exact ⟨hl,by simp⟩
 ·obtain ⟨h1,h2,_⟩ := F.hb x hx
  have := lt_of_get h2
  exact ⟨h1,S.get h2 (by simp),fun e => by cases e; omega⟩
 ·obtain ⟨h1,h2⟩ := F.hp x hx
  exact ⟨h1,S.get h2 (by simp)⟩
theorem Fr.mkB (F : Fr h4 H n a none p w) (hn : n ≤ 1000) (hk : ∀ H' x,Fr h4 H' n a (some x) p w → K (.chan (some x)) H') : (8 : Nat) ≤ 1024 ∧ aMkC (vint (n : Nat)) H K := by
 have S : SameX [] H (H ++ [.chan (Int.toNat (n : Nat))]) := SameX.refl.app
 have hl := F.S.1
 refine ⟨by decide,⟨by omega,by omega⟩,hk _ H.length ⟨F.S.trans S,fun x hx => ?_,fun x hx => ?_,fun x hx => ?_⟩⟩
 ·obtain ⟨h1,h2⟩ := F.ha x hx
  exact ⟨h1,S.get h2 (by simp)⟩
 ·cases hx
  refine ⟨hl,by simp,fun e => ?_⟩
  have := lt_of_get (F.ha _ e).2
  omega
 ·obtain ⟨h1,h2⟩ := F.hp x hx
  exact ⟨h1,S.get h2 (by simp)⟩
theorem Fr.al {v : Value} (F : Fr h4 H n a b none v) (hk : ∀ H' x,Fr h4 H' n a b (some x) w → K (ptr x 0) H') : aAlloc [w] H K := by
 refine qAl fun H' x e S c l => hk H' x ⟨F.S.trans S,fun y hy => ?_,fun y hy => ?_,fun y hy => ?_⟩
 ·obtain ⟨h1,h2⟩ := F.ha y hy
  exact ⟨h1,S.get h2 (by simp)⟩
 ·obtain ⟨h1,h2,h3⟩ := F.hb y hy
  exact ⟨h1,S.get h2 (by simp),h3⟩
 ·cases hy
  have := F.S.1
  exact ⟨by omega,c⟩
theorem Fr.st {x q : Nat} (F : Fr h4 H n (some x) b (some q) w) (hk : ∀ H',Fr h4 H' n (some x) b (some q) (.chan (some x)) → HL H') : aStore 1 (ptr q 0) (.chan (some x)) H HL := by
 obtain ⟨h1,h2⟩ := F.hp q rfl
 have hne : ∀ {y : Nat} {cap : Nat},H[y]? = some (.chan cap) → y ∉ [q] := fun hy hm => by
  rw [List.mem_singleton.1 hm,h2] at hy
  cases hy
 refine qSt h2 (by simp) rfl rfl fun H' S c l => hk H' ⟨F.S.thru S (by simp; exact h1),fun y hy => ?_,fun y hy => ?_,fun y hy => ?_⟩
 ·obtain ⟨g1,g2⟩ := F.ha y hy
  exact ⟨g1,S.get g2 (hne g2)⟩
 ·obtain ⟨g1,g2,g3⟩ := F.hb y hy
  exact ⟨g1,S.get g2 (hne g2),g3⟩
 ·cases hy
  exact ⟨h1,c⟩
end
def EleS (H : List AObj) (cells : List Value) (ls : List (List Int)) : Prop := ∀ (i : Nat) l,ls[i]? = some l → ∃ c,cells[i]? = some c ∧ Sli H c 1 l.length (l.map vint)
structure Mid92 (h H : List AObj) (f : RG) (t : Tal) (cv nv kv ov : Value) (p3 p5 p7 c1 c2 n : Nat) : Prop where
 S : SameX [] h H
 ds : f.ds = []
 r1 : f.r 1 = ov
 r3 : f.r 3 = ptr p3 0
 r5 : f.r 5 = ptr p5 0
 r7 : f.r 7 = ptr p7 0
 r8 : f.r 8 = .chan (some c2)
 h3 : H[p3]? = some (.cells (talCells t cv nv) true 0)
 h5 : H[p5]? = some (.cells [kv] true 0)
 h7 : H[p7]? = some (.cells [.chan (some c1)] true 0)
 hc1 : H[c1]? = some (.chan 0)
 hc2 : H[c2]? = some (.chan n)
 ne : c1 ≠ c2
section
variable {main : Bool} {J : JT} {h : List AObj} {K : Value → List AObj → Prop} {Sx : RG → List AObj → Prop}
theorem front92 {cv nv kv ov : Value} {t : Tal} {n : Nat} {cells ks : List Value} {nk : Nat} (ta : TalAt h (.agg ⟨talCells t cv nv⟩) t cv nv) (hk : Sli h kv 1 nk ks) (ho : Sli h ov 1 n cells) (hn : n ≤ 1000)
  (hS : ∀ f H p3 p5 p7 c1 c2,Mid92 h H f t cv nv kv ov p3 p5 p7 c1 c2 n → Sx f H) :
  W prog J 50 h.length 32 (trunc 2 (codeOf f32)) (RG.mk (regs [.agg ⟨talCells t cv nv⟩,ov,kv]) []) h (thenK Sx (RetQ prog [.tmp 6] h.length K)) := by
 rw [e32]
 have kk := sli_one hk
 refine qBox (tal_one ta) fun H1 p3 e1 S1 k1 l1 => qBox1 kk.1 kk.2.1 fun H2 p5 e2 S2 k2 l2 => ⟨[],lenI ho ⟨?_,?_⟩⟩
 ·obtain ⟨base,c,rfl,_⟩ := ho
  trivial
 have k1' := S2.get k1 (by simp)
 have F0 : Fr H2 H2 n none none none (.chan none) := ⟨SameX.refl,by simp,by simp,by simp⟩
 have tt : ∀ {H' : List AObj},SameB (some []) H2 H' := fun {H'} b hb => by cases hb
 have fin : ∀ {F : RG} {H : List AObj} {a b p : Nat},Fr H2 H n (some a) (some b) (some p) (.chan (some a)) → F.ds = [] → F.r 1 = ov → F.r 3 = ptr p3 0 → F.r 5 = ptr p5 0 → F.r 7 = ptr p 0 → F.r 8 = .chan (some b) → Sx F H := by
  intro F H a b p Z g0 g1 g3 g5 g7 g8
  have hb := Z.hb b rfl
  exact hS F H p3 p5 p a b ⟨(S1.trans S2).trans Z.S,g0,g1,g3,g5,g7,g8,Z.S.get k1' (by simp),Z.S.get k2 (by simp),(Z.hp p rfl).2,(Z.ha a rfl).2,hb.2.1,fun e => hb.2.2 (by rw [e])⟩
 refine ⟨F0.mkA fun Ha a Fa => ⟨tt,Fa.mkB hn fun Hb b Fb => Fb.al fun Hc p Fc => ⟨tt,Fc.st fun Hd Fd => ⟨tt,fin Fd rfl rfl rfl rfl rfl rfl⟩⟩,Fa.al fun Hb p Fb => ⟨tt,Fb.mkB hn fun Hc b Fc => Fc.st fun Hd Fd => ⟨tt,fin Fd rfl rfl rfl rfl rfl rfl⟩,Fb.st fun Hc Fc => ⟨tt,Fc.mkB hn fun Hd b Fd => fin Fd rfl rfl rfl rfl rfl rfl⟩⟩⟩,
  F0.mkB hn fun Ha b Fa => ⟨Fa.mkA fun Hb a Fb => ⟨tt,Fb.al fun Hc p Fc => ⟨tt,Fc.st fun Hd Fd => ⟨tt,fin Fd rfl rfl rfl rfl rfl rfl⟩⟩⟩,Fa.al fun Hb p Fb => ⟨tt,Fb.mkA fun Hc a Fc => ⟨tt,Fc.st fun Hd Fd => ⟨tt,fin Fd rfl rfl rfl rfl rfl rfl⟩⟩⟩⟩,
  F0.al fun Ha p Fa => ⟨tt,Fa.mkA fun Hb a Fb => ⟨tt,Fb.mkB hn fun Hc b Fc => Fc.st fun Hd Fd => ⟨tt,fin Fd rfl rfl rfl rfl rfl rfl⟩,Fb.st fun Hc Fc => ⟨tt,Fc.mkB hn fun Hd b Fd => fin Fd rfl rfl rfl rfl rfl rfl⟩⟩,Fa.mkB hn fun Hb b Fb => Fb.mkA fun Hc a Fc => ⟨tt,Fc.st fun Hd Fd => ⟨tt,fin Fd rfl rfl rfl rfl rfl rfl⟩⟩⟩⟩
end
theorem shape92 : subC [1,1] (codeOf f32) = .seq (.seq (subC [1,1,0,0] (codeOf f32)) (.block 0 (.loop (subC yp6 (codeOf f32))))) (subC [1,1,1] (codeOf f32)) := by kernel_rfl
theorem round92 : subC yp6 (codeOf f32) = .seq (subC [1,1,0,1,0,0,0] (codeOf f32)) (.seq (subC [1,1,0,1,0,0,1,0] (codeOf f32)) (.seq (.block 1 (.seq (subC [1,1,0,1,0,0,1,1,0,0,0] (codeOf f32)) (.region 5 ops32_1 false))) (subC [1,1,0,1,0,0,1,1,1] (codeOf f32)))) := by kernel_rfl
def R92 (ov : Value) (p3 p5 p7 c2 n i : Nat) : RG := ((((((((RG.mk (fun _ => unk) []).p 1 ov).p 3 (ptr p3 0)).p 5 (ptr p5 0)).p 7 (ptr p7 0)).p 8 (.chan (some c2))).p 18 ov).p 19 (vint (n : Nat))).p 20 (vint (i : Nat))
theorem r92_cases (ov : Value) (p3 p5 p7 c2 n i t : Nat) : (R92 ov p3 p5 p7 c2 n i).r t = unk ∨ t = 1 ∨ t = 3 ∨ t = 5 ∨ t = 7 ∨ t = 8 ∨ t = 18 ∨ t = 19 ∨ t = 20 := by
 by_cases h : t = 1 ∨ t = 3 ∨ t = 5 ∨ t = 7 ∨ t = 8 ∨ t = 18 ∨ t = 19 ∨ t = 20
 ·exact .inr h
 ·refine .inl ?_
  simp only [not_or] at h
  obtain ⟨h1,h2,h3,h4,h5,h6,h7,h8⟩ := h
  simp [R92,RG.p,beq_eq_false_iff_ne.2 h1,beq_eq_false_iff_ne.2 h2,beq_eq_false_iff_ne.2 h3,beq_eq_false_iff_ne.2 h4,beq_eq_false_iff_ne.2 h5,beq_eq_false_iff_ne.2 h6,beq_eq_false_iff_ne.2 h7,beq_eq_false_iff_ne.2 h8]
structure LentS (hz : List AObj) (t : Tal) (cv nv kv ov : Value) (cs : List Int) (p3 p5 p7 c1 c2 : Nat) (cells : List Value) (ls : List (List Int)) : Prop where
 ok : heapOk hz
 nw : ∀ x ∈ hz,x.wrt = false
 nc : ∀ cap,.chan cap ∉ hz
 h3 : hz[p3]? = some (.cells (talCells t cv nv) false 0)
 h5 : hz[p5]? = some (.cells [kv] false 0)
 h7 : hz[p7]? = some (.cells [.chan (some c1)] false 0)
 hc1 : c1 < hz.length
 hc2 : c2 < hz.length
 ta : TalAt hz (.agg ⟨talCells t cv nv⟩) t cv nv
 kv : Sli hz kv 1 cs.length (cs.map fun n => .int .u64 n)
 os : Sli hz ov 1 ls.length cells
 ovk : VOk hz.length ov
 el : EleS hz cells ls
 lb : ∀ l ∈ ls,l.length ≤ 1000 ∧ ∀ x ∈ l,0 ≤ x ∧ x < cs.length
 few : ls.length ≤ 1000
theorem LentS.regs {hz : List AObj} {t : Tal} {cv nv kv ov : Value} {cs : List Int} {p3 p5 p7 c1 c2 n i : Nat} {cells : List Value} {ls : List (List Int)} (L : LentS hz t cv nv kv ov cs p3 p5 p7 c1 c2 cells ls) {f : RG}
  (e1 : f.r 1 = ov) (e3 : f.r 3 = ptr p3 0) (e5 : f.r 5 = ptr p5 0) (e7 : f.r 7 = ptr p7 0) (e8 : f.r 8 = .chan (some c2)) (ez18 : f.r 18 = ov) (ez19 : f.r 19 = vint (n : Nat)) (ez20 : f.r 20 = vint (i : Nat)) :
  ∀ t,(R92 ov p3 p5 p7 c2 n i).r t = unk ∨ ((R92 ov p3 p5 p7 c2 n i).r t = f.r t ∧ VOk hz.length ((R92 ov p3 p5 p7 c2 n i).r t)) := by
 have vp : ∀ {b : Nat} {x : AObj},hz[b]? = some x → VOk hz.length (ptr b 0) := fun hb => by
  have := lt_of_get hb
  simp [VOk,ptr,AddrOk,this]
 intro t
 rcases r92_cases ov p3 p5 p7 c2 n i t with h | rfl | rfl | rfl | rfl | rfl | rfl | rfl | rfl
 ·exact .inl h
 ·exact .inr ⟨e1.symm,L.ovk⟩
 ·exact .inr ⟨e3.symm,vp L.h3⟩
 ·exact .inr ⟨e5.symm,vp L.h5⟩
 ·exact .inr ⟨e7.symm,vp L.h7⟩
 ·refine .inr ⟨e8.symm,?_⟩
  show VOk hz.length (.chan (some c2))
  simp [VOk,L.hc2]
 ·exact .inr ⟨ez18.symm,L.ovk⟩
 ·refine .inr ⟨ez19.symm,?_⟩
  show VOk hz.length (vint (n : Nat))
  simp [VOk]
 ·refine .inr ⟨ez20.symm,?_⟩
  show VOk hz.length (vint (i : Nat))
  simp [VOk]
def phi92 (t : Tal) (cs : List Int) (ls : List (List Int)) (k : Nat) (v : Value) : Prop := ∃ l,ls[k]? = some l ∧ v = vint (sentV t cs l k)
def crew92 (ch : Nat → Option (Nat × Array Value × Bool)) (c d : Nat) (t : Tal) (cs : List Int) (ls : List (List Int)) (buf : Array Value) (cl : Bool) (pend : List Nat) : Crew := ⟨putAt ch d (some (ls.length,buf,cl)),c,pend,phi92 t cs ls⟩
theorem crew92_put {ch : Nat → Option (Nat × Array Value × Bool)} {c d : Nat} {t : Tal} {cs : List Int} {ls : List (List Int)} {buf buf' : Array Value} {cl cl' : Bool} {pend : List Nat} : (crew92 ch c d t cs ls buf cl pend).put d (ls.length,buf',cl') = crew92 ch c d t cs ls buf' cl' pend := by
 unfold Crew.put crew92
 dsimp only
 congr 1
 funext j
 by_cases e : j = d
 ·subst e
  rw [putAt_self,putAt_self]
 ·rw [putAt_ne _ _ e,putAt_ne _ _ e,putAt_ne _ _ e]
section
variable {ch : Nat → Option (Nat × Array Value × Bool)} {W0 : World} {Post : Value → World → Prop} {b : FB} {fs : List Frame} {FC : Frm} {ρ0 : Env} {m : Nat} {k2 : List Item} {hz : List AObj} {t : Tal} {cv nv kv ov : Value} {cs : List Int} {p3 p5 p7 c1 c2 : Nat} {cells : List Value} {ls : List (List Int)}
theorem hire92 (hk : b.kind ≠ .early) (hown : ch (ρ0.blk c1) = some (0,#[],false)) (hne : ρ0.blk c1 ≠ ρ0.blk c2) (fine : TalFine t) (L : LentS hz t cv nv kv ov cs p3 p5 p7 c1 c2 cells ls) (hm : m ≤ hz.length) (hpm : c1 < m) (hw : ∀ b,¬ FC.wr b)
  (hdone : At (JC prog W0 Post (crew92 ch (ρ0.blk c1) (ρ0.blk c2) t cs ls #[] false (List.range ls.length))) 50 b fs FC ρ0 m k2 (R92 ov p3 p5 p7 c2 ls.length ls.length) hz) :
  ∀ (d i : Nat),d = ls.length - i → i ≤ ls.length → At (JC prog W0 Post (crew92 ch (ρ0.blk c1) (ρ0.blk c2) t cs ls #[] false (List.range i))) 50 b fs FC ρ0 m (.code (subC yp6 (codeOf f32)) :: .inLoop (subC yp6 (codeOf f32)) :: .inBlock 0 :: k2) (R92 ov p3 p5 p7 c2 ls.length i) hz := by
 intro d
 induction d with
 | zero =>
  intro i hd hi
  have hin : i = ls.length := by omega
  subst hin
  have hJ := JC.closed prog W0 Post (crew92 ch (ρ0.blk c1) (ρ0.blk c2) t cs ls #[] false (List.range ls.length))
  rw [round92]
  refine At.seq hJ (At.piece (Q := fun e f' h' => e = .normal ∧ f' = (R92 ov p3 p5 p7 c2 ls.length ls.length).p 21 (.bool false) ∧ h' = hz) rfl hk (W_sound hJ mixed _ ?_) hm (Nat.le_refl _) ?_)
  ·rw [q32_2]
   refine lssI ⟨rfl,?_,rfl⟩
   simp
  rintro e f' h' ⟨rfl,rfl,rfl⟩
  refine .inl ⟨rfl,At.seq hJ (At.piece (Q := fun e f' h1 => e = .exit 0 ∧ f' = (R92 ov p3 p5 p7 c2 ls.length ls.length).p 21 (.bool false) ∧ h1 = h') rfl hk (W_sound hJ mixed _ ?_) hm (Nat.le_refl _) ?_)⟩
  ·rw [q32_3]
   exact cnd_false.2 ⟨rfl,rfl,rfl⟩
  rintro e f1 h1 ⟨rfl,rfl,rfl⟩
  refine .inr ⟨0,k2,rfl,by simp [exitTo],?_⟩
  exact At.weak L.ok (L.regs rfl rfl rfl rfl rfl rfl rfl rfl) rfl rfl hm hdone
 | succ d ih =>
  intro i hd hi
  have hil : i < ls.length := by omega
  have hJ := JC.closed prog W0 Post (crew92 ch (ρ0.blk c1) (ρ0.blk c2) t cs ls #[] false (List.range i))
  have hJ2 := JC.closed prog W0 Post (crew92 ch (ρ0.blk c1) (ρ0.blk c2) t cs ls #[] false (List.range i ++ [i]))
  rw [round92]
  refine At.seq hJ (At.piece (Q := fun e f' h' => e = .normal ∧ f' = (R92 ov p3 p5 p7 c2 ls.length i).p 21 (.bool true) ∧ h' = hz) rfl hk (W_sound hJ mixed _ ?_) hm (Nat.le_refl _) ?_)
  ·rw [q32_2]
   refine lssI ⟨rfl,?_,rfl⟩
   have : ((i : Int) < (ls.length : Int)) := by omega
   simp [this]
  rintro e f' h' ⟨rfl,rfl,rfl⟩
  refine .inl ⟨rfl,At.seq hJ (At.piece (Q := fun e f' h1 => e = .normal ∧ f' = (R92 ov p3 p5 p7 c2 ls.length i).p 21 (.bool true) ∧ h1 = h') rfl hk (W_sound hJ mixed _ ?_) hm (Nat.le_refl _) ?_)⟩
  ·rw [q32_3]
   exact cnd_true.2 ⟨rfl,rfl,rfl⟩
  rintro e f1 hz ⟨rfl,rfl,rfl⟩
  obtain ⟨l,hl⟩ : ∃ l,ls[i]? = some l := ⟨_,List.getElem?_eq_getElem hil⟩
  obtain ⟨c,hc,E⟩ := L.el i l hl
  obtain ⟨hll,hlb⟩ := L.lb l (List.mem_of_getElem? hl)
  refine .inl ⟨rfl,At.seq hJ (At.block hJ (At.seq hJ (At.piece (Q := fun e f' h' => e = .normal ∧ f'.ds = [] ∧ (f'.r 1 = ov ∧ f'.r 3 = ptr p3 0 ∧ f'.r 5 = ptr p5 0 ∧ f'.r 7 = ptr p7 0 ∧ f'.r 8 = .chan (some c2) ∧ f'.r 18 = ov ∧ f'.r 19 = vint (ls.length : Nat) ∧ f'.r 20 = vint (i : Nat)) ∧ f'.r 9 = ptr hz.length 0 ∧ f'.r 10 = ptr (hz.length + 1) 0 ∧ h' = hz ++ [.cells [vint (i : Nat)] true 0,.cells [c] true 0]) rfl hk (W_sound hJ mixed _ ?_) hm (Nat.le_refl _) ?_)))⟩
  ·rw [q32_4]
   refine idx_load L.os ⟨by show (0 : Int) ≤ (i : Nat); omega,by show ((i : Nat) : Int) < _; omega⟩ (by rw [Int.toNat_natCast]; exact hc) fun p => ?_
   refine qAl fun H1 p9 e1 S1 k1 l1 => qAl fun H2 p10 e2 S2 k2 l2 => ?_
   refine qSt (S2.get k1 (by simp)) (by simp) rfl rfl fun H3 S3 k3 l3 => qSt (S3.get k2 (by simp; omega)) (by simp) (sli_one E).1 (sli_one E).2.1 fun H4 S4 k4 l4 => ?_
   have SS : SameX [] hz H4 := ((S1.trans S2).thru S3 (by intro x hx; rw [List.mem_singleton.1 hx]; exact .inr (by omega))).thru S4 (by intro x hx; rw [List.mem_singleton.1 hx]; exact .inr (by omega))
   have k3' := S4.get k3 (by simp; omega)
   have e2' : p10 = hz.length + 1 := by omega
   subst e1 e2'
   exact ⟨rfl,rfl,⟨rfl,rfl,rfl,rfl,rfl,rfl,rfl,rfl⟩,rfl,rfl,two_more SS (by omega) k3' k4⟩
  rintro e f h' ⟨rfl,ds,⟨r1,r3,r5,r7,r8,r18,r19,r20⟩,r9,r10,rfl⟩
  refine .inl ⟨rfl,At.region hJ ?_⟩
  rw [show List.range ops32_1.size = [0,1] from by rw [z32_1]; rfl]
  obtain ⟨o1,o2,o3,o4,o5⟩ := o32_1_0 (J := JC prog W0 Post (crew92 ch (ρ0.blk c1) (ρ0.blk c2) t cs ls #[] false (List.range i)))
  obtain ⟨x1,x2,x3,x4,x5⟩ := o32_1_1 (J := JC prog W0 Post (crew92 ch (ρ0.blk c1) (ρ0.blk c2) t cs ls #[] false (List.range i)))
  refine At.op hJ hk o1 o3 (o4 _) ?_
  rw [o5,r9,r10,r3,r5,r7,o2]
  refine ⟨rfl,fun _ => ?_⟩
  have fz : ∀ {q : Nat} {l : List Value} {wr : Bool} {sz : Nat},(hz ++ [.cells [vint (i : Nat)] true 0,.cells [c] true 0])[q]? = some (.cells l wr sz) → (frz (hz ++ [.cells [vint (i : Nat)] true 0,.cells [c] true 0]))[q]? = some (.cells l false sz) := frz_at
  have ga : (hz ++ [.cells [vint (i : Nat)] true 0,.cells [c] true 0])[hz.length]? = some (.cells [vint (i : Nat)] true 0) := by simp
  have gb : (hz ++ [.cells [vint (i : Nat)] true 0,.cells [c] true 0])[hz.length + 1]? = some (.cells [c] true 0) := by simp
  have hT : (crew92 ch (ρ0.blk c1) (ρ0.blk c2) t cs ls #[] false (List.range i)).ch (ρ0.blk c1) = some (0,#[],false) := by
   unfold crew92
   dsimp only
   rw [putAt_ne _ _ hne]
   exact hown
  refine At.go hk x1 (x4 _) x5 x2 (g := 48) (cap := [ptr (hz.length + 1) 0,ptr p5 0,ptr p3 0,ptr p7 0,ptr hz.length 0]) rfl (by kernel_rfl) (k := i) (by show i ∉ List.range i; simp) hT rfl L.nw hw L.ok hm (fun ρ w ft R hu => ?_) (fun cap hcm => ?_) (f' := R92 ov p3 p5 p7 c2 ls.length i) (L.regs r1 r3 r5 r7 r8 r18 r19 r20) ds.symm (by show ∀ x ∈ f.ds,_; rw [ds]; simp) ?_
  ·exact work110 (T := crew92 ch (ρ0.blk c1) (ρ0.blk c2) t cs ls #[] false (List.range i)) R (fz gb) (fz (get_app L.h5)) (fz (get_app L.h3)) (fz (get_app L.h7)) (fz ga) ⟨rfl,frz_sli (sli_app L.ta.ch),frz_sli (sli_app L.ta.co)⟩ fine (frz_sli (sli_app L.kv)) (frz_sli (sli_app E)) hlb hll (by rw [frz_len,List.length_append]; have := L.hc1; omega) (hu c1 hpm).1 (k := i) ⟨l,hl,rfl⟩
  ·rcases List.mem_append.1 hcm with y | y
   ·exact L.nc cap y
   ·simp at y
  ·refine At.ops_nil hJ2 (At.inBlock hJ2 (At.piece (Q := fun e f' h' => e = .normal ∧ f' = ((R92 ov p3 p5 p7 c2 ls.length i).p 26 (vint (i + 1 : Nat))).p 20 (vint (i + 1 : Nat)) ∧ h' = hz) rfl hk (W_sound hJ2 mixed _ ?_) hm (Nat.le_refl _) ?_))
   ·rw [q32_5]
    have hf := L.few
    refine addI (by omega) ⟨rfl,?_,rfl⟩
    rfl
   rintro e f1 h1 ⟨rfl,rfl,rfl⟩
   refine .inl ⟨rfl,At.inLoop hJ2 ?_⟩
   have := ih (i + 1) (by omega) (by omega)
   rw [List.range_succ] at this
   exact At.weak L.ok (L.regs rfl rfl rfl rfl rfl rfl rfl rfl) rfl rfl hm this
end
theorem At.skip {P : Program} {main : Bool} {J : JT} {N m : Nat} {b : FB} {cs : List Frame} {FC : Frm} {ρ0 : Env} {k : List Item} {f : RG} {h : List AObj} (hJ : Closed P main J) (h' : At J N b cs FC ρ0 m k f h) : At J N b cs FC ρ0 m (.code .skip :: k) f h :=
 At.ctrl hJ (fun a w => by simp [G,stepG,stepG.exec,FB.at]) h'
theorem At.forget {J : JT} {N m : Nat} {b : FB} {cs : List Frame} {FC : Frm} {ρ0 : Env} {k : List Item} {f f' : RG} {h : List AObj} (hf : ∀ t,f'.r t = unk ∨ f'.r t = f.r t) (hd : f'.ds = f.ds) (h' : At J N b cs FC ρ0 m k f' h) : At J N b cs FC ρ0 m k f h := by
 intro a ρ w ft A H hu hm
 refine h' a ρ w ft ⟨fun t => ?_,A.size,by rw [hd]; exact A.defers,by rw [hd]; exact A.ok⟩ H hu hm
 rcases hf t with e | e
 ·exact .inl e
 ·rw [e]
  exact A.regs t
theorem shape92b : subC [1,1,1] (codeOf f32) = .seq (.seq (subC [1,1,1,0,0] (codeOf f32)) (.block 2 (.loop (subC yp1 (codeOf f32))))) (subC [1,1,1,1] (codeOf f32)) := by kernel_rfl
theorem round92b : subC yp1 (codeOf f32) = .seq (subC [1,1,1,0,1,0,0,0] (codeOf f32)) (.seq (subC [1,1,1,0,1,0,0,1,0] (codeOf f32)) (.seq (.block 3 (.seq (.region 9 ops32_2 false) (.seq (subC [1,1,1,0,1,0,0,1,1,0,0,1,0] (codeOf f32)) (.cond (.tmp 34) (.region 11 ops32_3 false) .skip)))) (subC [1,1,1,0,1,0,0,1,1,1] (codeOf f32)))) := by kernel_rfl
theorem shape92c : subC [1,1,1,1] (codeOf f32) = .seq (.region 13 ops32_4 false) (.seq (subC [1,1,1,1,1,0] (codeOf f32)) (.seq (.seq (subC [1,1,1,1,1,1,0,0] (codeOf f32)) (.block 4 (.loop (subC yp4 (codeOf f32))))) (subC yp16 (codeOf f32)))) := by kernel_rfl
theorem round92c : subC yp4 (codeOf f32) = .seq (.region 16 ops32_5 false) (.seq (subC [1,1,1,1,1,1,0,1,0,0,1,0] (codeOf f32)) (subC [1,1,1,1,1,1,0,1,0,0,1,1] (codeOf f32))) := by kernel_rfl
def vis (is : List Nat) : Array Value := ⟨is.map fun k => vint (k : Nat)⟩
theorem vis_push {is : List Nat} {k : Nat} : (vis is).push (vint (k : Nat)) = vis (is ++ [k]) := by
 unfold vis
 apply Array.ext'
 simp
theorem vis_size {is : List Nat} : (vis is).size = is.length := by simp [vis]
theorem vis_tail {i : Nat} {is : List Nat} : (vis (i :: is)).extract 1 (vis (i :: is)).size = vis is := by
 refine Array.ext (by simp [vis]) fun j h1 h2 => ?_
 simp [vis]
noncomputable def goodS (t : Tal) (cs : List Int) (ls : List (List Int)) (k : Nat) : Bool := match ls[k]? with | some l => truthS t (strU cs l) | none => false
noncomputable def firstS (t : Tal) (cs : List Int) (ls : List (List Int)) : Nat := ls.findIdx fun l => truthS t (strU cs l)
def mnI (a : Int) (k : Nat) : Int := min a (k : Int)
theorem fold_min : ∀ (is : List Nat) (n : Int),(is.foldl mnI n ≤ n ∧ ∀ k ∈ is,is.foldl mnI n ≤ k) ∧ (is.foldl mnI n = n ∨ ∃ k ∈ is,is.foldl mnI n = k)
 | [],n => by simp
 | i :: is,n => by
  obtain ⟨⟨h1,h2⟩,h3⟩ := fold_min is (mnI n i)
  rw [List.foldl_cons]
  have hm : mnI n i = min n (i : Int) := rfl
  refine ⟨⟨by omega,fun k hk => ?_⟩,?_⟩
  ·rcases List.mem_cons.1 hk with rfl | hk
   ·omega
   ·exact h2 k hk
  ·rcases h3 with h3 | ⟨k,hk,h3⟩
   ·by_cases e : n ≤ (i : Int)
    ·exact .inl (by omega)
    ·exact .inr ⟨i,List.mem_cons_self,by omega⟩
   ·exact .inr ⟨k,List.mem_cons_of_mem _ hk,h3⟩
theorem first_min {t : Tal} {cs : List Int} {ls : List (List Int)} {is : List Nat} (h1 : ∀ k ∈ is,goodS t cs ls k = true) (h2 : ∀ k,goodS t cs ls k = true → k ∈ is) : is.foldl mnI (ls.length : Int) = (firstS t cs ls : Nat) := by
 obtain ⟨⟨a1,a2⟩,a3⟩ := fold_min is (ls.length : Int)
 have hlt : ∀ k,goodS t cs ls k = true → k < ls.length ∧ firstS t cs ls ≤ k := fun k hk => by
  unfold goodS at hk
  cases e : ls[k]? with
  | none => rw [e] at hk; cases hk
  | some l =>
   rw [e] at hk
   dsimp only at hk
   obtain ⟨hkl,rfl⟩ := List.getElem?_eq_some_iff.1 e
   refine ⟨hkl,?_⟩
   rcases Nat.lt_or_ge k (firstS t cs ls) with h | h
   ·have := List.not_of_lt_findIdx h
    rw [this] at hk
    cases hk
   ·exact h
 have hfl : firstS t cs ls ≤ ls.length := List.findIdx_le_length
 rcases a3 with a3 | ⟨k,hk,a3⟩
 ·by_cases e : firstS t cs ls < ls.length
  ·have hg : goodS t cs ls (firstS t cs ls) = true := by
    unfold goodS
    rw [List.getElem?_eq_getElem e]
    exact List.findIdx_getElem (w := e)
   have := a2 _ (h2 _ hg)
   omega
  ·omega
 ·have := hlt k (h1 k hk)
  have e : firstS t cs ls < ls.length := by omega
  have hg : goodS t cs ls (firstS t cs ls) = true := by
   unfold goodS
   rw [List.getElem?_eq_getElem e]
   exact List.findIdx_getElem (w := e)
  have := a2 _ (h2 _ hg)
  omega
def Q92 (ov : Value) (p7 c2 n j : Nat) : RG := (((((RG.mk (fun _ => unk) []).p 1 ov).p 7 (ptr p7 0)).p 8 (.chan (some c2))).p 28 (vint (n : Nat))).p 29 (vint (j : Nat))
theorem q92_cases (ov : Value) (p7 c2 n j t : Nat) : (Q92 ov p7 c2 n j).r t = unk ∨ t = 1 ∨ t = 7 ∨ t = 8 ∨ t = 28 ∨ t = 29 := by
 by_cases h : t = 1 ∨ t = 7 ∨ t = 8 ∨ t = 28 ∨ t = 29
 ·exact .inr h
 ·refine .inl ?_
  simp only [not_or] at h
  obtain ⟨h1,h2,h3,h4,h5⟩ := h
  simp [Q92,RG.p,beq_eq_false_iff_ne.2 h1,beq_eq_false_iff_ne.2 h2,beq_eq_false_iff_ne.2 h3,beq_eq_false_iff_ne.2 h4,beq_eq_false_iff_ne.2 h5]
theorem q92_forget {ov : Value} {p7 c2 n j : Nat} {f : RG} (e1 : f.r 1 = ov) (e7 : f.r 7 = ptr p7 0) (e8 : f.r 8 = .chan (some c2)) (ez28 : f.r 28 = vint (n : Nat)) (ez29 : f.r 29 = vint (j : Nat)) : ∀ t,(Q92 ov p7 c2 n j).r t = unk ∨ (Q92 ov p7 c2 n j).r t = f.r t := by
 intro t
 rcases q92_cases ov p7 c2 n j t with h | rfl | rfl | rfl | rfl | rfl
 ·exact .inl h
 ·exact .inr e1.symm
 ·exact .inr e7.symm
 ·exact .inr e8.symm
 ·exact .inr ez28.symm
 ·exact .inr ez29.symm
section
variable {ch : Nat → Option (Nat × Array Value × Bool)} {W0 : World} {Post : Value → World → Prop} {b : FB} {fs : List Frame} {FC : Frm} {ρ0 : Env} {m : Nat} {k3 : List Item} {hz : List AObj} {t : Tal} {cv nv kv ov : Value} {cs : List Int} {p3 p5 p7 c1 c2 : Nat} {cells : List Value} {ls : List (List Int)}
theorem recv92 (hk : b.kind ≠ .early) (hne : ρ0.blk c1 ≠ ρ0.blk c2) (L : LentS hz t cv nv kv ov cs p3 p5 p7 c1 c2 cells ls) (hm : m ≤ hz.length) (hpm : c1 < m) (hpm2 : c2 < m)
  (hdone : ∀ is : List Nat,(∀ k ∈ is,goodS t cs ls k = true) → (∀ k,goodS t cs ls k = true → k ∈ is) → At (JC prog W0 Post (crew92 ch (ρ0.blk c1) (ρ0.blk c2) t cs ls (vis is) false [])) 50 b fs FC ρ0 m k3 (Q92 ov p7 c2 ls.length ls.length) hz) :
  ∀ (d j : Nat) (pend is : List Nat),d = ls.length - j → pend.length + j = ls.length → pend.Nodup → (∀ k ∈ pend,k < ls.length) → is.length ≤ j → (∀ k ∈ is,goodS t cs ls k = true) → (∀ k,goodS t cs ls k = true → k ∉ pend → k ∈ is) →
   At (JC prog W0 Post (crew92 ch (ρ0.blk c1) (ρ0.blk c2) t cs ls (vis is) false pend)) 50 b fs FC ρ0 m (.code (subC yp1 (codeOf f32)) :: .inLoop (subC yp1 (codeOf f32)) :: .inBlock 2 :: k3) (Q92 ov p7 c2 ls.length j) hz := by
 intro d
 induction d with
 | zero =>
  intro j pend is hd hpj hnd hlt hil h1 h2
  have hp : pend = [] := List.length_eq_zero_iff.1 (by omega)
  subst hp
  have hj : j = ls.length := by simpa using hpj
  subst hj
  have hJ := JC.closed prog W0 Post (crew92 ch (ρ0.blk c1) (ρ0.blk c2) t cs ls (vis is) false [])
  rw [round92b]
  refine At.seq hJ (At.piece (Q := fun e f' h' => e = .normal ∧ f' = (Q92 ov p7 c2 ls.length ls.length).p 30 (.bool false) ∧ h' = hz) rfl hk (W_sound hJ mixed _ ?_) hm (Nat.le_refl _) ?_)
  ·rw [q32_7]
   refine lssI ⟨rfl,?_,rfl⟩
   simp
  rintro e f' h' ⟨rfl,rfl,rfl⟩
  refine .inl ⟨rfl,At.seq hJ (At.piece (Q := fun e f' h1 => e = .exit 2 ∧ f' = (Q92 ov p7 c2 ls.length ls.length).p 30 (.bool false) ∧ h1 = h') rfl hk (W_sound hJ mixed _ ?_) hm (Nat.le_refl _) ?_)⟩
  ·rw [q32_8]
   exact cnd_false.2 ⟨rfl,rfl,rfl⟩
  rintro e f1 h1' ⟨rfl,rfl,rfl⟩
  refine .inr ⟨2,k3,rfl,by simp [exitTo],?_⟩
  exact At.forget (q92_forget rfl rfl rfl rfl rfl) rfl (hdone is h1 fun k hk => h2 k hk (by simp))
 | succ d ih =>
  intro j pend is hd hpj hnd hlt hil h1 h2
  have hJ := JC.closed prog W0 Post (crew92 ch (ρ0.blk c1) (ρ0.blk c2) t cs ls (vis is) false pend)
  rw [round92b]
  refine At.seq hJ (At.piece (Q := fun e f' h' => e = .normal ∧ f' = (Q92 ov p7 c2 ls.length j).p 30 (.bool true) ∧ h' = hz) rfl hk (W_sound hJ mixed _ ?_) hm (Nat.le_refl _) ?_)
  ·rw [q32_7]
   refine lssI ⟨rfl,?_,rfl⟩
   have : ((j : Int) < (ls.length : Int)) := by omega
   simp [this]
  rintro e f' h' ⟨rfl,rfl,rfl⟩
  refine .inl ⟨rfl,At.seq hJ (At.piece (Q := fun e f' h1 => e = .normal ∧ f' = (Q92 ov p7 c2 ls.length j).p 30 (.bool true) ∧ h1 = h') rfl hk (W_sound hJ mixed _ ?_) hm (Nat.le_refl _) ?_)⟩
  ·rw [q32_8]
   exact cnd_true.2 ⟨rfl,rfl,rfl⟩
  rintro e f1 hz ⟨rfl,rfl,rfl⟩
  refine .inl ⟨rfl,At.seq hJ (At.block hJ (At.seq hJ (At.region hJ ?_)))⟩
  rw [show List.range ops32_2.size = [0,1,2] from by rw [z32_2]; rfl]
  obtain ⟨o1,o2,o3,o4,o5⟩ := o32_2_0 (J := JC prog W0 Post (crew92 ch (ρ0.blk c1) (ρ0.blk c2) t cs ls (vis is) false pend))
  obtain ⟨x1,x2,x3,x4,x5⟩ := o32_2_1 (J := JC prog W0 Post (crew92 ch (ρ0.blk c1) (ρ0.blk c2) t cs ls (vis is) false pend))
  refine At.op hJ hk o1 o3 (o4 _) ?_
  rw [o5,o2]
  refine ldI L.h7 rfl rfl fun _ => ?_
  have hpne : pend ≠ [] := by rintro rfl; simp at hpj; omega
  refine At.recv hk x1 x3 (x4 _) x5 (dir := .both) (e := 3) (by kernel_rfl) (ie := (prog.info? 3).getD default) (by kernel_rfl) (z := vint 0) (by kernel_rfl) (c := c1) rfl hpm rfl hpne fun k hkp v hv => ?_
  obtain ⟨l,hl,rfl⟩ := hv
  refine ⟨_,rfl,by simp [VOk],?_⟩
  have hJ2 := JC.closed prog W0 Post (crew92 ch (ρ0.blk c1) (ρ0.blk c2) t cs ls (vis is) false (pend.erase k))
  obtain ⟨y1,y2,y3,y4,y5⟩ := o32_2_2 (J := JC prog W0 Post (crew92 ch (ρ0.blk c1) (ρ0.blk c2) t cs ls (vis is) false (pend.erase k)))
  show At (JC prog W0 Post (crew92 ch (ρ0.blk c1) (ρ0.blk c2) t cs ls (vis is) false (pend.erase k))) 50 b fs FC ρ0 m _ _ hz
  rw [x2]
  refine At.op hJ2 hk y1 y3 (y4 _) ?_
  rw [y5,y2]
  intro _
  have hkp' : k ∈ pend := hkp
  have hel := List.length_erase_of_mem hkp'
  have hpos := List.length_pos_of_mem hkp'
  have hf := L.few
  have hgood : goodS t cs ls k = truthS t (strU cs l) := by
   unfold goodS
   rw [hl]
  refine At.ops_nil hJ2 (At.seq hJ2 (At.piece (Q := fun e f' h' => e = .normal ∧ f'.ds = [] ∧ (f'.r 1 = ov ∧ f'.r 7 = ptr p7 0 ∧ f'.r 8 = .chan (some c2) ∧ f'.r 28 = vint (ls.length : Nat) ∧ f'.r 29 = vint (j : Nat)) ∧ f'.r 11 = vint (sentV t cs l k) ∧ f'.r 34 = .bool (decide (sentV t cs l k ≥ 0)) ∧ h' = hz) rfl hk (W_sound hJ2 mixed _ ?_) hm (Nat.le_refl _) ?_))
  ·rw [q32_9]
   exact geqI ⟨rfl,rfl,⟨rfl,rfl,rfl,rfl,rfl⟩,rfl,rfl,rfl⟩
  rintro e f hz' ⟨rfl,ds,⟨r1,r7,r8,r28,r29⟩,r11,r34,rfl⟩
  refine .inl ⟨rfl,At.cond hJ2 (t := decide (sentV t cs l k ≥ 0)) r34 ?_⟩
  -- behind the answer
  have next : ∀ (is' : List Nat) (f : RG),is'.length ≤ j + 1 → (∀ k ∈ is',goodS t cs ls k = true) → (∀ k',goodS t cs ls k' = true → k' ∉ pend.erase k → k' ∈ is') → f.ds = [] → f.r 1 = ov → f.r 7 = ptr p7 0 → f.r 8 = .chan (some c2) → f.r 28 = vint (ls.length : Nat) → f.r 29 = vint (j : Nat) →
    At (JC prog W0 Post (crew92 ch (ρ0.blk c1) (ρ0.blk c2) t cs ls (vis is') false (pend.erase k))) 50 b fs FC ρ0 m (.inBlock 3 :: .code (subC [1,1,1,0,1,0,0,1,1,1] (codeOf f32)) :: .inLoop (subC yp1 (codeOf f32)) :: .inBlock 2 :: k3) f hz' := by
   intro is' f hil' h1' h2' ds r1 r7 r8 r28 r29
   have hJ3 := JC.closed prog W0 Post (crew92 ch (ρ0.blk c1) (ρ0.blk c2) t cs ls (vis is') false (pend.erase k))
   refine At.inBlock hJ3 (At.piece (Q := fun e f' h' => e = .normal ∧ f'.ds = [] ∧ (f'.r 1 = ov ∧ f'.r 7 = ptr p7 0 ∧ f'.r 8 = .chan (some c2) ∧ f'.r 28 = vint (ls.length : Nat) ∧ f'.r 29 = vint (j + 1 : Nat)) ∧ h' = hz') rfl hk (W_sound hJ3 mixed _ ?_) hm (Nat.le_refl _) ?_)
   ·rw [q32_10,r29]
    exact addI (by omega) ⟨rfl,ds,⟨r1,r7,r8,r28,rfl⟩,rfl⟩
   rintro e f1 h1'' ⟨rfl,ds,⟨r1,r7,r8,r28,r29⟩,rfl⟩
   refine .inl ⟨rfl,At.inLoop hJ3 (At.forget (q92_forget r1 r7 r8 r28 r29) ds.symm ?_)⟩
   exact ih (j + 1) (pend.erase k) is' (by omega) (by omega) (hnd.erase k) (fun l hl => hlt l (List.mem_of_mem_erase hl)) hil' h1' h2'
  cases hT : truthS t (strU cs l) with
  | true =>
   have e1 : sentV t cs l k = (k : Int) := by unfold sentV; rw [if_pos hT]
   rw [e1] at r11
   rw [decide_eq_true (show sentV t cs l k ≥ 0 by rw [e1]; omega)]
   show At _ _ _ _ _ _ _ (.code (.region 11 ops32_3 false) :: _) _ _
   refine At.region hJ2 ?_
   rw [show List.range ops32_3.size = [0,1,2] from by rw [z32_3]; rfl]
   obtain ⟨u1,u2,u3,u4,u5⟩ := o32_3_0 (J := JC prog W0 Post (crew92 ch (ρ0.blk c1) (ρ0.blk c2) t cs ls (vis is) false (pend.erase k)))
   obtain ⟨w1,w2,w3,w4,w5⟩ := o32_3_1 (J := JC prog W0 Post (crew92 ch (ρ0.blk c1) (ρ0.blk c2) t cs ls (vis is) false (pend.erase k)))
   obtain ⟨z1,z2,z3,z4,z5⟩ := o32_3_2 (J := JC prog W0 Post (crew92 ch (ρ0.blk c1) (ρ0.blk c2) t cs ls (vis is) false (pend.erase k)))
   refine At.op hJ2 hk u1 u3 (u4 _) ?_
   rw [u5,u2]
   intro _
   refine At.op hJ2 hk w1 w3 (w4 _) ?_
   rw [w5,w2]
   intro _
   refine At.room hk z1 (z4 _) z5 z2 (c := c2) (by show f.r 8 = _; exact r8) hpm2 (v := vint (k : Nat)) (by show f.r 11 = _; exact r11) (by simp [unk]) (by simp [VOk]) (cap := ls.length) (buf := vis is) (by
    unfold crew92
    dsimp only
    rw [putAt_self]) (fun _ e => hne e.symm) (by rw [vis_size]; omega) ?_
   rw [crew92_put,vis_push]
   have hJ3 := JC.closed prog W0 Post (crew92 ch (ρ0.blk c1) (ρ0.blk c2) t cs ls (vis (is ++ [k])) false (pend.erase k))
   refine At.ops_nil hJ3 (next (is ++ [k]) _ (by simp; omega) (fun k' hk' => ?_) (fun k' hk' hn' => ?_) ds r1 r7 r8 r28 r29)
   ·rcases List.mem_append.1 hk' with hk' | hk'
    ·exact h1 k' hk'
    ·rw [List.mem_singleton.1 hk',hgood]
     exact hT
   ·by_cases e : k' = k
    ·exact List.mem_append_right _ (List.mem_singleton.2 e)
    ·exact List.mem_append_left _ (h2 k' hk' fun y => hn' ((List.mem_erase_of_ne e).2 y))
  | false =>
   have e1 : sentV t cs l k = -1 := by unfold sentV; rw [if_neg (by rw [hT]; decide)]
   rw [decide_eq_false (show ¬ sentV t cs l k ≥ 0 by rw [e1]; omega)]
   show At _ _ _ _ _ _ _ (.code .skip :: _) _ _
   refine At.skip hJ2 (next is f (by omega) h1 (fun k' hk' hn' => ?_) ds r1 r7 r8 r28 r29)
   by_cases e : k' = k
   ·rw [e,hgood,hT] at hk'
    cases hk'
   ·exact h2 k' hk' fun y => hn' ((List.mem_erase_of_ne e).2 y)
structure Grown (hz H : List AObj) : Prop where
 S : SameX [] hz H
 wr : ∀ i o,hz.length ≤ i → H[i]? = some o → o.wrt = true
theorem drain92 (hk : b.kind ≠ .early) (hm : m ≤ hz.length) (hpm2 : c2 < m)
  (hdone : ∀ f H,Grown hz H → f.ds = [] → f.r 12 = vint (firstS t cs ls : Nat) → At (JC prog W0 Post (crew92 ch (ρ0.blk c1) (ρ0.blk c2) t cs ls #[] true [])) 50 b fs FC ρ0 m k3 f H) :
  ∀ (is : List Nat) (cur : Int) (f : RG) (H : List AObj),(-1000 ≤ cur ∧ cur ≤ 1000) → is.foldl mnI cur = (firstS t cs ls : Nat) → Grown hz H → f.ds = [] → f.r 12 = vint cur → f.r 41 = .chan (some c2) →
   At (JC prog W0 Post (crew92 ch (ρ0.blk c1) (ρ0.blk c2) t cs ls (vis is) true [])) 50 b fs FC ρ0 m (.code (subC yp4 (codeOf f32)) :: .inLoop (subC yp4 (codeOf f32)) :: .inBlock 4 :: k3) f H := by
 intro is
 induction is with
 | nil =>
  intro cur f H hcur hf G ds r12 r41
  have hmH : m ≤ H.length := Nat.le_trans hm G.S.1
  have hJ := JC.closed prog W0 Post (crew92 ch (ρ0.blk c1) (ρ0.blk c2) t cs ls (vis []) true [])
  rw [round92c]
  refine At.seq hJ (At.region hJ ?_)
  rw [show List.range ops32_5.size = [0,1] from by rw [z32_5]; rfl]
  obtain ⟨x1,x2,x3,x4,x5⟩ := o32_5_0 (J := JC prog W0 Post (crew92 ch (ρ0.blk c1) (ρ0.blk c2) t cs ls (vis []) true []))
  obtain ⟨y1,y2,y3,y4,y5⟩ := o32_5_1 (J := JC prog W0 Post (crew92 ch (ρ0.blk c1) (ρ0.blk c2) t cs ls (vis []) true []))
  refine At.drained hk x1 x3 (x4 _) x5 (dir := .both) (e := 3) (by kernel_rfl) (ie := (prog.info? 3).getD default) (by kernel_rfl) (z := vint 0) (by kernel_rfl) (c := c2) (by show f.r 41 = _; exact r41) hpm2 rfl (cap := ls.length) (by
   unfold crew92
   dsimp only
   rw [putAt_self]
   rfl) (by simp [VOk]) ?_
  rw [x2]
  refine At.op hJ hk y1 y3 (y4 _) ?_
  rw [y5,y2]
  show aExt (.tuple ⟨[vint 0,.bool false]⟩) 1 _
  refine ext1 fun _ => At.ops_nil hJ (At.seq hJ (At.piece (Q := fun e f' h' => e = .exit 4 ∧ f'.ds = [] ∧ f'.r 12 = vint cur ∧ h' = H) rfl hk (W_sound hJ mixed _ ?_) hmH (Nat.le_refl _) ?_))
  ·rw [q32_13]
   exact cnd_false.2 ⟨rfl,ds,r12,rfl⟩
  rintro e f1 h1 ⟨rfl,ds,r12,rfl⟩
  refine .inr ⟨4,k3,rfl,by simp [exitTo],hdone _ _ G ds ?_⟩
  rw [r12]
  exact congrArg vint hf
 | cons i is ih =>
  intro cur f H hcur hf G ds r12 r41
  have hmH : m ≤ H.length := Nat.le_trans hm G.S.1
  have hJ := JC.closed prog W0 Post (crew92 ch (ρ0.blk c1) (ρ0.blk c2) t cs ls (vis (i :: is)) true [])
  have hJ2 := JC.closed prog W0 Post (crew92 ch (ρ0.blk c1) (ρ0.blk c2) t cs ls (vis is) true [])
  rw [round92c]
  refine At.seq hJ (At.region hJ ?_)
  rw [show List.range ops32_5.size = [0,1] from by rw [z32_5]; rfl]
  obtain ⟨x1,x2,x3,x4,x5⟩ := o32_5_0 (J := JC prog W0 Post (crew92 ch (ρ0.blk c1) (ρ0.blk c2) t cs ls (vis (i :: is)) true []))
  obtain ⟨y1,y2,y3,y4,y5⟩ := o32_5_1 (J := JC prog W0 Post (crew92 ch (ρ0.blk c1) (ρ0.blk c2) t cs ls (vis is) true []))
  have e0 : (vis (i :: is)).getD 0 undef = vint (i : Nat) := rfl
  have e1 : (vis (i :: is)).extract 1 (vis (i :: is)).size = vis is := vis_tail
  refine At.take hk x1 x3 (x4 _) x5 (dir := .both) (e := 3) (by kernel_rfl) (ie := (prog.info? 3).getD default) (by kernel_rfl) (z := vint 0) (by kernel_rfl) (c := c2) (by show f.r 41 = _; exact r41) hpm2 rfl (cap := ls.length) (buf := vis (i :: is)) (cl := true) (by
   unfold crew92
   dsimp only
   rw [putAt_self]) (by rw [vis_size]; simp) (by rw [e0]; simp [VOk]) ?_
  rw [x2,e0,e1,crew92_put]
  refine At.op hJ2 hk y1 y3 (y4 _) ?_
  rw [y5,y2]
  show aExt (.tuple ⟨[vint (i : Nat),.bool true]⟩) 1 _
  refine ext1 fun _ => At.ops_nil hJ2 (At.seq hJ2 (At.piece (Q := fun e f' h' => e = .normal ∧ f'.ds = [] ∧ f'.r 12 = vint cur ∧ f'.r 41 = .chan (some c2) ∧ f'.r 42 = .tuple ⟨[vint (i : Nat),.bool true]⟩ ∧ h' = H) rfl hk (W_sound hJ2 mixed _ ?_) hmH (Nat.le_refl _) ?_))
  ·rw [q32_13]
   exact cnd_true.2 ⟨rfl,ds,r12,r41,rfl,rfl⟩
  rintro e f1 h1 ⟨rfl,ds,r12,r41,r42,rfl⟩
  refine .inl ⟨rfl,At.piece (Q := fun e f' h' => e = .normal ∧ f'.ds = [] ∧ f'.r 12 = vint (min cur (i : Int)) ∧ f'.r 41 = .chan (some c2) ∧ Grown hz h') rfl hk (W_sound hJ2 mixed _ ?_) hmH (Nat.le_refl _) ?_⟩
  ·rw [q32_14,r42]
   refine ext0 ⟨by decide,fill1 rfl rfl (by decide) (fillI (qNew fun H2 p e2 S2 k2 l2 => ?_))⟩
   rw [r12]
   refine good44 hJ2 (p := p) (b := (i : Int)) k2 ⟨rfl,ds,rfl,r41,G.S.trans S2,fun q o hq ho => ?_⟩
   by_cases hlt : q < h1.length
   ·rw [S2.2 q hlt (by simp)] at ho
    exact G.wr q o hq ho
   ·have := lt_of_get ho
    have : q = p := by omega
    subst this
    rw [k2] at ho
    cases ho
    rfl
  rintro e f2 h2 ⟨rfl,ds,r12,r41,G2⟩
  exact .inl ⟨rfl,At.inLoop hJ2 (ih (min cur (i : Int)) f2 h2 (by omega) (by rw [← hf]; rfl) G2 ds r12 r41)⟩
end
theorem same_unch {h H g : List AObj} (S : SameX [] h H) : SameX [] (unch h) (unch H ++ g) := by
 refine ⟨by rw [List.length_append,unch_len,unch_len]; have := S.1; omega,fun i hi _ => ?_⟩
 rw [unch_len] at hi
 have h1 := S.2 i hi (by simp)
 have hlt : i < (unch H).length := by rw [unch_len]; have := S.1; omega
 rw [List.getElem?_append_left hlt]
 unfold unch
 rw [List.getElem?_map,List.getElem?_map,h1]
open Classical in
noncomputable def chOf (ρ : Env) (h : List AObj) (w : World) (b : Nat) : Option (Nat × Array Value × Bool) :=
 if Chs ρ h b then (match w.heap[b]? with | some (.chan cap _ _ _ _ _) => some (cap,#[],false) | _ => none) else none
theorem chOf_some {ρ : Env} {h : List AObj} {FC : Frm} {w : World} {ft : Foot} (H : HRel ρ h FC w ft) {b i cap : Nat} (hi : h[i]? = some (.chan cap)) (hb : ρ.blk i = b) : chOf ρ h w b = some (cap,#[],false) ∧ w.heap[b]? = some (.chan cap #[] false 0 0 false) ∧ ft.rd b := by
 have ho := H.obj i _ hi
 rw [hb] at ho
 have hr := H.rd i _ hi rfl
 rw [hb] at hr
 cases hw : w.heap[b]? with
 | none => rw [hw] at ho; exact ho.elim
 | some x =>
  rw [hw] at ho
  cases x with
  | chan cap' buf closed s r tm =>
   obtain ⟨rfl,rfl,rfl,rfl,rfl,rfl⟩ := ho
   refine ⟨?_,rfl,hr⟩
   unfold chOf
   rw [if_pos ⟨i,_,hi,hb⟩,hw]
  | _ => exact ho.elim
theorem chOf_none {ρ : Env} {h : List AObj} {w : World} {b : Nat} (hn : ¬ Chs ρ h b) : chOf ρ h w b = none := if_neg hn
section
variable {W0 : World} {Post : Value → World → Prop} {h : List AObj} {K : Value → List AObj → Prop}
theorem good32 {cv nv kv ov : Value} {t : Tal} {cs : List Int} {cells : List Value} {ls : List (List Int)} (ta : TalAt h (.agg ⟨talCells t cv nv⟩) t cv nv) (fine : TalFine t) (hkv : Sli h kv 1 cs.length (cs.map fun n => .int .u64 n)) (ho : Sli h ov 1 ls.length cells) (el : EleS h cells ls)
    (lb : ∀ l ∈ ls,l.length ≤ 1000 ∧ ∀ x ∈ l,0 ≤ x ∧ x < cs.length) (few : ls.length ≤ 1000)
    (hK : ∀ H,SameX [] (unch h) H → K (vint (firstS t cs ls : Nat)) H) : Good prog (J1 prog W0 Post) 32 [.agg ⟨talCells t cv nv⟩,ov,kv] h K := by
  have hJ1 := J1.closed prog W0 Post
  refine good_of_sem hJ1 at32 body32 (by kernel_rfl) (Nat.le_of_ble_eq_true rfl) fun ok => ?_
  rw [show f32.ntmps = 50 from by kernel_rfl,show f32.results.toList = [.tmp 6] from by kernel_rfl]
  refine trunc_sound hJ1 mixed 2 (codeOf f32) (by kernel_rfl) (front92 ta hkv ho few fun f H p3 p5 p7 c1 c2 M => ?_)
  intro b a k fs L ρ FC w ft hb hk hL A R hn hcont
  have RZ := frz_rel R
  have hp1 := lt_of_get M.hc1
  have hp2 := lt_of_get M.hc2
  have LN : LentS (frz H) t cv nv kv ov cs p3 p5 p7 c1 c2 cells ls :=
    { ok := RZ.ok
      nw := fun x hx => by
        obtain ⟨y,_,rfl⟩ := List.mem_map.1 hx
        exact frz_wrt y
      nc := fun cap hx => by
        obtain ⟨y,_,e⟩ := List.mem_map.1 hx
        cases y <;> cases e
      h3 := frz_at M.h3
      h5 := frz_at M.h5
      h7 := frz_at M.h7
      hc1 := by rw [frz_len]; exact hp1
      hc2 := by rw [frz_len]; exact hp2
      ta := ⟨rfl,frz_sli (M.S.sli ta.ch (by simp)),frz_sli (M.S.sli ta.co (by simp))⟩
      kv := frz_sli (M.S.sli hkv (by simp))
      os := frz_sli (M.S.sli ho (by simp))
      ovk := by
        have := M.S.sli ho (by simp)
        obtain ⟨base,c,rfl,_,hh⟩ := this
        rcases hh with ⟨rfl,_⟩ | ⟨b,o,rfl,h0⟩
        · simp [VOk]
        · have hv : VOk H.length (.slice (some ⟨b,o,none⟩) ls.length c) := by
            have := A.regs 1
            rcases this with e | ⟨e,_⟩
            · rw [M.r1] at e; cases e
            · rw [M.r1] at e; exact e
          rw [frz_len]
          exact hv
      el := fun i l hl => by
        obtain ⟨c,hc,hs⟩ := el i l hl
        exact ⟨c,hc,frz_sli (M.S.sli hs (by simp))⟩
      lb := lb
      few := few }
  obtain ⟨d1,d2,d3⟩ := chOf_some R M.hc1 rfl
  obtain ⟨g1,g2,g3⟩ := chOf_some R M.hc2 rfl
  have hne : ρ.blk c1 ≠ ρ.blk c2 := fun e => M.ne (R.inj c1 c2 _ _ M.hc1 M.hc2 rfl rfl e)
  have hch : ∀ x,putAt (chOf ρ H w) (ρ.blk c2) (some (ls.length,(#[] : Array Value),false)) x = chOf ρ H w x := fun x => by
    by_cases e : x = ρ.blk c2
    · rw [e,putAt_self,g1]
    · rw [putAt_ne _ _ e]
  have e0 : vis [] = (#[] : Array Value) := rfl
  refine J1.crew (T := crew92 (chOf ρ H w) (ρ.blk c1) (ρ.blk c2) t cs ls #[] false []) (f' := lentF ρ H ft) rfl (fun b x hx => ?_) (fun b hb => ⟨hb.1,(hch b).trans (chOf_none hb.2)⟩) (fun b hb => hb.elim) ?_
  · have hx : chOf ρ H w b = some x := (hch b).symm.trans hx
    by_cases hx2 : Chs ρ H b
    · obtain ⟨i,cap,hi,hib⟩ := hx2
      obtain ⟨q1,q2,q3⟩ := chOf_some R hi hib
      have : some x = some (cap,#[],false) := hx.symm.trans q1
      cases this
      exact ⟨q3,rfl,q2⟩
    · have : some x = none := hx.symm.trans (chOf_none hx2)
      cases this
  -- all the workers' time
  have hJ := JC.closed prog W0 Post (crew92 (chOf ρ H w) (ρ.blk c1) (ρ.blk c2) t cs ls #[] false [])
  have hJn := JC.closed prog W0 Post (crew92 (chOf ρ H w) (ρ.blk c1) (ρ.blk c2) t cs ls #[] false (List.range ls.length))
  have hw0 : ∀ b,¬ (keepF ρ H w ft).wr b := fun b hb => hb
  have hpm : c1 < (frz H).length := LN.hc1
  have hpm2 : c2 < (frz H).length := LN.hc2
  suffices hAt : At (JC prog W0 Post (crew92 (chOf ρ H w) (ρ.blk c1) (ρ.blk c2) t cs ls #[] false [])) 50 b fs (keepF ρ H w ft) ρ (frz H).length (.code (subC [1,1] (codeOf f32)) :: k) f (frz H) from
    hAt a ρ w _ (by rw [frz_len]; exact A) RZ (Env.upto_refl _ _) (Nat.le_refl _)
  rw [shape92]
  refine At.seq hJ (At.seq hJ (At.piece (Q := fun e f' h' => e = .normal ∧ f'.ds = [] ∧ (f'.r 1 = ov ∧ f'.r 3 = ptr p3 0 ∧ f'.r 5 = ptr p5 0 ∧ f'.r 7 = ptr p7 0 ∧ f'.r 8 = .chan (some c2) ∧ f'.r 18 = ov ∧ f'.r 19 = vint (ls.length : Nat) ∧ f'.r 20 = vint (0 : Nat)) ∧ h' = frz H) rfl hk (W_sound hJ mixed _ ?_) (Nat.le_refl _) (Nat.le_refl _) ?_))
  · rw [q32_1,M.r1]
    exact lenI LN.os ⟨rfl,M.ds,⟨M.r1,M.r3,M.r5,M.r7,M.r8,rfl,rfl,rfl⟩,rfl⟩
  rintro e f1 h1 ⟨rfl,ds,⟨r1,r3,r5,r7,r8,r18,r19,r20⟩,rfl⟩
  refine .inl ⟨rfl,At.block hJ (At.loop hJ (At.weak LN.ok (LN.regs r1 r3 r5 r7 r8 r18 r19 r20) ds.symm ds (Nat.le_refl _) ?_))⟩
  refine hire92 hk d1 hne fine LN (Nat.le_refl _) hpm hw0 ?_ ls.length 0 rfl (by omega)
  -- the answers
  rw [shape92b]
  refine At.seq hJn (At.seq hJn (At.piece (Q := fun e f' h' => e = .normal ∧ f'.ds = [] ∧ (f'.r 1 = ov ∧ f'.r 7 = ptr p7 0 ∧ f'.r 8 = .chan (some c2) ∧ f'.r 28 = vint (ls.length : Nat) ∧ f'.r 29 = vint (0 : Nat)) ∧ h' = frz H) rfl hk (W_sound hJn mixed _ ?_) (Nat.le_refl _) (Nat.le_refl _) ?_))
  · rw [q32_6]
    show aLenS ov _
    exact lenI LN.os ⟨rfl,rfl,⟨rfl,rfl,rfl,rfl,rfl⟩,rfl⟩
  rintro e f2 h2 ⟨rfl,ds2,⟨s1,s7,s8,s28,s29⟩,rfl⟩
  refine .inl ⟨rfl,At.block hJn (At.loop hJn (At.forget (q92_forget s1 s7 s8 s28 s29) ds2.symm ?_))⟩
  refine recv92 hk hne LN (Nat.le_refl _) hpm hpm2 (fun is hg1 hg2 => ?_) ls.length 0 (List.range ls.length) [] rfl (by simp) List.nodup_range (fun k hk => List.mem_range.1 hk) (by simp) (by simp) (fun k hk hn => absurd (List.mem_range.2 ?_) hn)
  rotate_left
  · unfold goodS at hk
    cases e : ls[k]? with
    | none => rw [e] at hk; cases hk
    | some l => exact (List.getElem?_eq_some_iff.1 e).1
  -- its own channel is closed
  have hJc := JC.closed prog W0 Post (crew92 (chOf ρ H w) (ρ.blk c1) (ρ.blk c2) t cs ls (vis is) false [])
  have hJd := JC.closed prog W0 Post (crew92 (chOf ρ H w) (ρ.blk c1) (ρ.blk c2) t cs ls (vis is) true [])
  rw [shape92c]
  refine At.seq hJc (At.region hJc ?_)
  rw [show List.range ops32_4.size = [0,1] from by rw [z32_4]; rfl]
  obtain ⟨u1,u2,u3,u4,u5⟩ := o32_4_0 (J := JC prog W0 Post (crew92 (chOf ρ H w) (ρ.blk c1) (ρ.blk c2) t cs ls (vis is) false []))
  obtain ⟨w1,w2,w3,w4,w5⟩ := o32_4_1 (J := JC prog W0 Post (crew92 (chOf ρ H w) (ρ.blk c1) (ρ.blk c2) t cs ls (vis is) false []))
  refine At.op hJc hk u1 u3 (u4 _) ?_
  rw [u5,u2]
  intro _
  refine At.shut hk w1 (w4 _) w5 w2 (c := c2) rfl hpm2 rfl (cap := ls.length) (buf := vis is) (by
    unfold crew92
    dsimp only
    rw [putAt_self]) ?_
  rw [crew92_put]
  refine At.ops_nil hJd (At.seq hJd (At.piece (Q := fun e f' h' => e = .normal ∧ f'.ds = [] ∧ f'.r 8 = .chan (some c2) ∧ f'.r 12 = vint (ls.length : Nat) ∧ h' = frz H) rfl hk (W_sound hJd mixed _ ?_) (Nat.le_refl _) (Nat.le_refl _) ?_))
  · rw [q32_11]
    show aLenS ov _
    exact lenI LN.os ⟨rfl,rfl,rfl,rfl,rfl⟩
  rintro e f3 h3 ⟨rfl,ds3,t8,t12,rfl⟩
  refine .inl ⟨rfl,At.seq hJd (At.seq hJd (At.piece (Q := fun e f' h' => e = .normal ∧ f'.ds = [] ∧ f'.r 41 = .chan (some c2) ∧ f'.r 12 = vint (ls.length : Nat) ∧ h' = frz H) rfl hk (W_sound hJd mixed _ ?_) (Nat.le_refl _) (Nat.le_refl _) ?_))⟩
  · rw [q32_12]
    exact ⟨rfl,ds3,t8,t12,rfl⟩
  rintro e f4 h4 ⟨rfl,ds4,t41,t12,rfl⟩
  refine .inl ⟨rfl,At.block hJd (At.loop hJd ?_)⟩
  refine drain92 (t := t) (cs := cs) (ls := ls) hk (Nat.le_refl _) hpm2 (fun f5 H5 G5 ds5 r12 => ?_) is (ls.length : Int) f4 (frz H) (by omega) (first_min hg1 hg2) ⟨SameX.refl,fun i o hi ho => absurd (lt_of_get ho) (by omega)⟩ ds4 t12 t41
  -- behind the workers' time
  intro a' ρ' w' ft' A' R' hu' hm'
  obtain ⟨g,rfl⟩ := G5.S.app0 (by simp)
  have som : ∀ b,Chs ρ H b → (putAt (chOf ρ H w) (ρ.blk c2) (some (ls.length,(#[] : Array Value),true)) b).isSome = true := fun b ⟨i,cap,hi,hib⟩ => by
    by_cases e : b = ρ.blk c2
    · rw [e,putAt_self]
      rfl
    · rw [putAt_ne _ _ e,(chOf_some R hi hib).1]
      rfl
  refine JC.last (f' := thawF ρ H ft ft') rfl (fun b hb => hb.imp id (som b)) (fun b hb => ?_) fun w₂ hrel hch2 => ?_
  · rcases hb with hb | hb
    · by_cases hc : Chs ρ H b
      · exact .inr hc
      · have hr := R.sub b hb
        have hlt := R.lt b hr
        exact .inl (R'.kept b w.heap[b] (by rw [keep_ob R hr hc,Array.getElem?_eq_getElem hlt])).2.1
    · exact .inl (R'.sub b hb)
  have hu : Env.upto H.length ρ ρ' := by
    rw [← frz_len (h := H)]
    exact hu'
  obtain ⟨RT,_⟩ := thaw_rel R (R'.rely hrel) hu (fun o ho _ => by
    obtain ⟨i,hi⟩ := List.mem_iff_getElem?.1 ho
    exact G5.wr ((frz H).length + i) o (by omega) (by rw [List.getElem?_append_right (by omega)]; simpa using hi)) fun b hb => hch2 b (som b hb)
  have le : (frz H ++ g).length = (unch H ++ g).length := by simp [frz_len,unch_len]
  have S := same_unch (g := g) M.S
  have S1 : h.length ≤ (unch H ++ g).length := by have := S.1; rwa [unch_len] at this
  have hc : contX pl32t prog (J1 prog W0 Post) 50 h.length 32 ct32t yp16 (codeOf f32) [] (RetQ prog [.tmp 6] h.length K) = RetQ prog [.tmp 6] h.length K := by kernel_rfl
  have tl : Sem (J1 prog W0 Post) 50 h.length 32 (subC yp16 (codeOf f32)) f5 (unch H ++ g) (RetQ prog [.tmp 6] h.length K) := by
    rw [← hc]
    refine W_sound hJ1 mixed _ ?_
    rw [s32t_1,ds5,r12]
    exact retL_same (by simp [unk]) (hK _ S)
  exact tl b a' k fs L ρ' FC w₂ _ hb hk hL (by rw [← le]; exact A') RT S1 fun e f2 h2' ρ2 w2 ft2 a2 q q1 q2 q3 q4 => hcont e f2 h2' ρ2 w2 ft2 a2 q q1 q2 (Env.upto_trans (Env.upto_le hu hn) q3) q4
end
structure Sm (h H : List AObj) : Prop where
 len : h.length ≤ H.length
 get : ∀ (i : Nat) (x : AObj),h[i]? = some x → H[i]? = some x ∨ ((∃ cap,x = .chan cap) ∨ ∃ z,x = .group z) ∧ H[i]? = some .dead
theorem Sm.refl {h : List AObj} : Sm h h := ⟨Nat.le_refl _,fun _ _ h => .inl h⟩
theorem Sm.of {h H : List AObj} (S : SameX [] h H) : Sm h H := ⟨S.1,fun i x hx => .inl (S.get hx (by simp))⟩
theorem Sm.unch {h H : List AObj} (S : SameX [] (unch h) H) : Sm h H := ⟨by have := S.1; rwa [unch_len] at this,fun i x hx => by
 have h1 : (Go.Proofs.YtaceckiodofdkaaDoor.unch h)[i]? = some (unchO x) := by
  unfold Go.Proofs.YtaceckiodofdkaaDoor.unch
  rw [List.getElem?_map,hx]
  rfl
 have h2 := S.get h1 (by simp)
 cases x with
 | chan cap => exact .inr ⟨.inl ⟨cap,rfl⟩,h2⟩
 | group z => exact .inr ⟨.inr ⟨z,rfl⟩,h2⟩
 | _ => exact .inl h2⟩
theorem Sm.trans {h H G : List AObj} (a : Sm h H) (b : Sm H G) : Sm h G := ⟨Nat.le_trans a.1 b.1,fun i x hx => by
 rcases a.2 i x hx with h1 | ⟨h1,h2⟩
 ·exact b.2 i x h1
 ·rcases b.2 i _ h2 with h3 | ⟨⟨cap,h3⟩ | ⟨z,h3⟩,_⟩
  ·exact .inr ⟨h1,h3⟩
  ·cases h3
  ·cases h3⟩
theorem Sm.at {h H : List AObj} (a : Sm h H) {i : Nat} {c : List Value} {wr : Bool} {sz : Nat} (hx : h[i]? = some (.cells c wr sz)) : H[i]? = some (.cells c wr sz) := by
 rcases a.2 i _ hx with h1 | ⟨⟨cap,h1⟩ | ⟨z,h1⟩,_⟩
 ·exact h1
 ·cases h1
 ·cases h1
theorem Sm.sli {h H : List AObj} (a : Sm h H) {v : Value} {s n : Nat} {cs : List Value} (hs : Sli h v s n cs) : Sli H v s n cs := by
 obtain ⟨base,c,rfl,hk,hh⟩ := hs
 refine ⟨base,c,rfl,hk,hh.imp id ?_⟩
 rintro ⟨b,o,e,h0⟩
 exact ⟨b,o,e,h0.imp id fun ⟨cs,wr,sz,hb,ht⟩ => ⟨cs,wr,sz,a.at hb,ht⟩⟩
theorem Sm.tal {h H : List AObj} (a : Sm h H) {v cv nv : Value} {t : Tal} (ht : TalAt h v t cv nv) : TalAt H v t cv nv := ⟨ht.val,a.sli ht.ch,a.sli ht.co⟩
theorem Sm.own {h H : List AObj} (a : Sm h H) {s len : Nat} {cs : List Value} {v : Value} {o : Option Nat} (ho : OwnX h s cs len v o) : OwnX H s cs len v o := by
 obtain ⟨h1,h2,h3 | ⟨i,c,sz,rfl,h4,h5,h6⟩⟩ := ho
 ·exact ⟨h1,h2,.inl h3⟩
 ·exact ⟨h1,h2,.inr ⟨i,c,sz,rfl,h4,a.at h5,h6⟩⟩
theorem run_all : ∀ n ∈ List.range 8,∀ many ∈ List.range (n + 1),(pickS (stM n many) (puM n many) n []).1 = picksR n many 0 ∧ pickOk bdM (stM n many) (puM n many) n [] = true := of_decide_eq_true (by kernel_rfl)
theorem setM_some {t : Tal} {m : Int} : ∀ k,setM t m k ≠ 0 → ∃ j,j < k ∧ ((t.counts[j]?).getD ⟨0,0,0,0⟩).man = m
 | 0,h => absurd rfl h
 | k + 1,h => by
  unfold setM at h
  by_cases e : ((t.counts[k]?).getD ⟨0,0,0,0⟩).man = m
  ·exact ⟨k,by omega,e⟩
  ·rw [if_neg e] at h
   obtain ⟨j,h1,h2⟩ := setM_some k h
   exact ⟨j,by omega,h2⟩
theorem menTo_nodup (t : Tal) (n : Nat) : (menTo t n).Nodup := by
 unfold menTo
 refine List.Pairwise.filter _ ?_
 rw [List.pairwise_map]
 exact List.Pairwise.imp (fun {a b} (hab : a < b) => by omega) List.pairwise_lt_range
theorem menR_few {t : Tal} : (menR t).length ≤ t.counts.length := by
 have : (menR t).length ≤ (t.counts.map (·.man)).length := by
  refine List.Nodup.length_le_of_subset (menTo_nodup t 9) fun m hm => ?_
  unfold menTo at hm
  have h := of_decide_eq_true (List.mem_filter.1 hm).2
  obtain ⟨j,h1,h2⟩ := setM_some (t := t) (m := m) t.counts.length (by unfold setA at h; omega)
  rw [List.getElem?_eq_getElem h1] at h2
  exact List.mem_map.2 ⟨_,List.getElem_mem h1,h2⟩
 simpa using this
noncomputable def menO (t : Tal) : Option (List Int) := firstN (fun many => (picksR (menR t).length many 0).find? fun l => truthS t (strU (setsR t) l)) ((menR t).length + 1)
noncomputable def menL (t : Tal) : List Int := if wrongE t = 0 then ((menO t).getD []).map fun k => (menR t).getD k.toNat 0 else []
theorem first_find {t : Tal} {cs : List Int} {ls : List (List Int)} : ls.find? (fun l => truthS t (strU cs l)) = ls[firstS t cs ls]? := List.find?_eq_getElem?_findIdx
section
variable {W0 : World} {Post : Value → World → Prop} {h H : List AObj} {K : Value → List AObj → Prop}
theorem good16 {v cv nv : Value} {t : Tal} (ht : TalAt H v t cv nv) (hK : ∀ H' w,Sm H H' → Sli H' w 1 (menL t).length ((menL t).map vint) → K (.tuple ⟨[w,vint (wrongE t)]⟩) H') : Good prog (J1 prog W0 Post) 16 [v] H K := by
 have hJ := J1.closed prog W0 Post
 refine g16 hJ fun ok => ?_
 rw [e16,ht.val]
 refine qBox (tal_one ht) fun H1 p1 e1 S1 c1 l1 => ?_
 have t1 : TalAt H1 (.agg ⟨talCells t cv nv⟩) t cv nv := ⟨rfl,S1.sli ht.ch (by simp),S1.sli ht.co (by simp)⟩
 refine load_part (c := talCells t cv nv) c1 (by rw [cs_val]; omega) rfl (talAt_kc t1) ?_
 refine good24 hJ t1 fun H2 bw bm S2 hbw hbm hne w hm => ext0 (ext1 ?_)
 have T2 : SameX [] H H2 := S1.trans S2
 have nil : ∀ {H' : List AObj} {e : Int},SameX [] H H' → wrongE t = e → e ≠ 0 → retL H.length K [] [.slice none 0 0,vint e] H' := fun {H' e} S he h0 => by
  subst he
  refine retL_same (by simp [unk]) (hK H' _ (Sm.of S) ?_)
  unfold menL
  rw [if_neg h0]
  exact ⟨none,0,rfl,⟨rfl,rfl⟩,.inl ⟨rfl,rfl⟩⟩
 refine neqI (cndI (fun h0 => nil T2 (by unfold wrongE; rw [if_pos h0]) h0) fun h0 => ?_)
 have h0 : talErr t = 0 := Classical.not_not.1 h0
 have fine := talErr_fine h0
 have hfew := fine.few
 refine good27 (u' := 127) hJ w hbw hbm hne fine hm metOk_nil fun H3 es3 S3 w3 hm3 met3 => notI ?_
 have T3 : SameX [] H1 H3 := S2.thru S3 (by simp; omega)
 have c3 := T3.get c1 (by simp)
 have t3 := talAt_same t1 T3 (by simp)
 cases hT : decide (TruthIs t (limN 127 t.counts t.counts.length)) with
 | false =>
  refine cnd_true.2 (nil (S1.trans T3) ?_ (by decide))
  have : truthS t 127 = false := hT
  unfold wrongE
  rw [if_neg (not_not_intro h0),this]
  rfl
 | true =>
 have eE : wrongE t = 0 := by
  have : truthS t 127 = true := hT
  unfold wrongE
  rw [if_neg (not_not_intro h0),this]
  rfl
 refine cnd_false.2 (load_part (c := talCells t cv nv) c3 (by rw [cs_val]; omega) rfl (talAt_kc t3) ?_)
 refine good30 hJ t3 (by omega) fun H4 wv kv ow S4 Ow how Ks => ext0 (ext1 ?_)
 have hwf := menR_few (t := t)
 refine qAl fun H5 pw e5 S5 c5 l5 => qSt c5 (by simp) (ownX_val Ow).1 (ownX_val Ow).2.1 fun H6 S6 c6 l6 => ?_
 have c6 : H6[pw]? = some (.cells [wv] true 0) := c6
 have T46 : SameX [] H4 H6 := S5.thru S6 (by simp; omega)
 have Ow6 := ownX_keep Ow T46 (by simp)
 have Ks6 := T46.sli Ks (by simp)
 have c16 := T46.get (S4.get c3 (by simp)) (by simp)
 have t6 := talAt_same (talAt_same t3 S4 (by simp)) T46 (by simp)
 have TT : SameX [] H H6 := ((S1.trans T3).trans S4).trans T46
 have lk : (setsR t).length = (menR t).length := by unfold setsR; rw [List.length_map]
 have kwv := (ownX_val Ow).2.2
 refine ldI c6 rfl kwv (lenI (ownX_sli Ow6) (addI (by omega) ?_))
 generalize hn : (menR t).length = n at *
 have ok6 : p1 < H6.length := lt_of_get c16
 refine l16_1 hJ (fun m : Nat => n + 1 - m) (fun m F H' => Sm H6 H' ∧ m ≤ n + 1 ∧ (∀ i,i < m → (picksR n i 0).find? (fun l => truthS t (strU (setsR t) l)) = none) ∧ F.ds = [] ∧ F.r 1 = ptr p1 0 ∧ F.r 6 = ptr pw 0 ∧ F.r 7 = kv ∧ F.r 32 = vint ((n : Int) + 1) ∧ F.r 33 = vint (m : Nat)) ?_ (s := 0)
  (.inl ⟨Sm.refl,by omega,fun i hi => absurd hi (Nat.not_lt_zero _),rfl,rfl,rfl,rfl,rfl,rfl⟩)
 rintro m F H' ⟨M,hm',hno,ds,r1,r6,r7,r32,r33⟩ okc hnc
 have cw := M.at c6
 have ct := M.at c16
 have tt := M.tal t6
 have Kk := M.sli Ks6
 have Ok := M.own Ow6
 rw [s16_1,r1,r6,r7,r32,r33,ds]
 refine lssI (cndI (fun hlt => ?_) fun hge => ?_)
 ·refine qAl fun Ha pm ea Sa ca la => qSt ca (by simp) rfl rfl fun Hb Sb cb lb => ?_
  have cb : Hb[pm]? = some (.cells [vint (m : Nat)] true 0) := cb
  have Tb : SameX [] H' Hb := Sa.thru Sb (by simp; omega)
  refine qAl fun Hc pl ec Sc cc lc => ?_
  have Tc : SameX [] H' Hc := Tb.trans Sc
  have hTb := Tb.1
  have lwp := lt_of_get cw
  have lpm := lt_of_get cb
  refine ldI (Tc.get cw (by simp)) rfl kwv (lenI (ownX_sli (ownX_keep Ok Tc (by simp))) ⟨rfl,?_⟩)
  obtain ⟨ra,rb⟩ := run_all n (List.mem_range.2 (by omega)) m (List.mem_range.2 (by omega))
  refine good75S (oo := none) (a := ([] : List (List Int))) hJ (pass91 (lo := Hc.length) (n := n) (many := m) (wv := wv) hJ (fun KV hk => lenI (ownX_sli Ow6) hk) kwv (by omega) (by omega) (by omega) (by omega) (by omega) (by omega) (by omega)) (by omega) (by simp; omega) ⟨Tc.get cw (by simp),Sc.get cb (by simp),⟨_,cc,OwnL.nil⟩,Nat.le_refl _⟩ rb fun Hd _ o' Md Id => ?_
  rw [ra] at Id
  obtain ⟨lv,cl,LL⟩ := Id.hl
  obtain ⟨hlo,cells,Oc,he⟩ := id LL
  have klv := ownX_val Oc
  -- what stays through pick
  have stay : ∀ {p : Nat} {x : AObj},H'[p]? = some x → Hd[p]? = some x := fun {p x} hx => by
   have := lt_of_get hx
   exact Md.get (Tc.get hx (by simp)) (by simp; omega) (by simp)
  have Smd : Sm H' Hd := ⟨Nat.le_trans Tc.1 Md.1.1,fun i x hx => .inl (stay hx)⟩
  refine load_part (c := talCells t cv nv) (Smd.at ct) (by rw [cs_val]; omega) rfl (talAt_kc tt) (ldI cl rfl klv.2.2 ?_)
  have hpl : (picksR n m 0).length ≤ 1000 := by
   have hb := List.all_eq_true.1 (show (List.range 8).all (fun n => (List.range (n + 1)).all fun m => decide ((picksR n m 0).length ≤ 1000)) = true from by kernel_rfl) n (List.mem_range.2 (by omega))
   exact of_decide_eq_true (List.all_eq_true.1 hb m (List.mem_range.2 (by omega)))
  refine good32 (cs := setsR t) (ls := picksR n m 0) (Smd.tal tt) fine (Smd.sli Kk) (ownX_sli Oc) (fun i l hl => ?_) (fun l hl => ?_) hpl fun He Se => ?_
  ·obtain ⟨lv2,b2,x1,x2,_⟩ := he i l hl
   exact ⟨lv2,x1,ownX_sli x2⟩
  ·obtain ⟨y1,y2⟩ := picksR_mem hl
   exact ⟨by omega,fun x hx => by have := y2 x hx; rw [lk]; omega⟩
  have Me := Sm.unch Se
  have cle := Me.at cl
  have Oce := Me.own Oc
  refine ldI cle rfl klv.2.2 (lenI (ownX_sli Oce) (lssI (cndI (fun hlt2 => ?_) fun hge2 => ?_)))
  · -- found
   have hfl : firstS t (setsR t) (picksR n m 0) < (picksR n m 0).length := by omega
   obtain ⟨l,hl⟩ : ∃ l,(picksR n m 0)[firstS t (setsR t) (picksR n m 0)]? = some l := ⟨_,List.getElem?_eq_getElem hfl⟩
   obtain ⟨lv2,b2,x1,x2,_⟩ := he _ l hl
   have x2e := Me.own x2
   have hlm := picksR_mem (List.mem_of_getElem? hl)
   have hfind : (picksR n m 0).find? (fun l => truthS t (strU (setsR t) l)) = some l := by rw [first_find,hl]
   have hO : menO t = some l := by
    unfold menO
    rw [hn]
    exact firstN_some (by omega) hno hfind
   have hL : menL t = l.map fun k => (menR t).getD k.toNat 0 := by
    unfold menL
    rw [if_pos eE,hO]
    rfl
   refine ldI cle rfl klv.2.2 (idx_load (ownX_sli Oce) ⟨by omega,by omega⟩ (x := lv2) (by rw [Int.toNat_natCast]; exact x1) fun q => lenI (ownX_sli x2e) ?_)
   have cwe := (Smd.trans Me).at cw
   have Owe := (Smd.trans Me).own Ok
   refine l16_2 hJ (fun j : Nat => l.length - j) (fun j F H2 => SameX [] He H2 ∧ j ≤ l.length ∧ (∃ oo,OwnX H2 1 (((l.take j).map fun k => (menR t).getD k.toNat 0).map vint) j (F.r 11) oo ∧ ∀ q,oo = some q → He.length ≤ q) ∧ F.ds = [] ∧ F.r 6 = ptr pw 0 ∧ F.r 51 = lv2 ∧ F.r 52 = vint (l.length : Nat) ∧ F.r 53 = vint (j : Nat)) ?_ (s := 0)
    (.inl ⟨SameX.refl,by omega,⟨none,ownX_nil,by simp⟩,ds,r6,rfl,rfl,rfl⟩)
   clear okc hnc
   rintro j F2 H2 ⟨S2',hj,⟨oo,Oo,hoo⟩,ds2,q6,q51,q52,q53⟩ okc hnc
   generalize hov : F2.r 11 = ov at Oo
   rw [s16_2,q6,q51,q52,q53,hov,ds2]
   refine lssI (cndI (fun hlt3 => ?_) fun hge3 => ?_)
   ·have hjl : j < l.length := by omega
    have hx := List.getElem?_eq_getElem hjl
    have hb := hlm.2 _ (List.getElem_mem hjl)
    refine idx_load (ownX_sli (ownX_keep x2e S2' (by simp))) ⟨by omega,by omega⟩ (x := vint l[j]) (by rw [Int.toNat_natCast,List.getElem?_map,hx]; rfl) fun q => ?_
    refine ldI (S2'.get cwe (by simp)) rfl kwv (idx_load (ownX_sli (ownX_keep Owe S2' (by simp))) ⟨by omega,by omega⟩ (x := vint ((menR t).getD l[j].toNat 0)) (by
     rw [List.getElem?_map,List.getD_eq_getElem?_getD,List.getElem?_eq_getElem (show l[j].toNat < (menR t).length by omega)]
     rfl) fun q2 => ⟨by decide,fill1 rfl rfl (by decide) (fillI (qNew fun H7 p7 e7 S7 c7 l7 => ⟨by decide,?_⟩))⟩)
    refine ownX_more (ownX_keep Oo S7 (by simp)) (by omega) (by omega) (ownX_sli (ownX_new (n := 1) (l := [vint ((menR t).getD l[j].toNat 0)]) c7 rfl rfl)) fun v8 H8 p8 e8 O8 S8 => addI (by omega) ⟨j + 1,by dsimp only; omega,.inl ⟨(S2'.trans S7).thru S8 (fun y hy => ?_),by omega,⟨some p8,?_,fun y hy => ?_⟩,ds2,q6,q51,q52,by show vint _ = vint _; congr 1⟩⟩
    ·rw [Option.mem_toList] at hy
     exact .inr (hoo y hy)
    ·rw [List.take_add_one,hx,List.map_append,List.map_append]
     exact O8
    ·cases hy
     have := S2'.1
     have := S7.1
     omega
   ·have hje : j = l.length := by omega
    subst hje
    refine retL_same (nu2 (own_nunk Oo) (by simp [unk])) ?_
    have := hK H2 ov ((((Sm.of TT).trans M).trans (Smd.trans Me)).trans (Sm.of S2')) (by
     rw [hL,List.length_map]
     have := ownX_sli Oo
     rw [List.take_length] at this
     exact this)
    rw [eE] at this
    exact this
  ·have hnone : (picksR n m 0).find? (fun l => truthS t (strU (setsR t) l)) = none := by
    rw [first_find]
    exact List.getElem?_eq_none (by omega)
   refine addI (by omega) ⟨m + 1,by dsimp only; omega,.inl ⟨M.trans (Smd.trans Me),by omega,fun i hi => ?_,ds,r1,r6,r7,r32,by show vint _ = vint _; congr 1⟩⟩
   by_cases e : i = m
   ·rw [e]
    exact hnone
   ·exact hno i (by omega)
 ·have hO : menO t = none := by
   unfold menO
   rw [hn]
   exact firstN_none fun i hi => hno i (by omega)
  have hL : menL t = [] := by
   unfold menL
   rw [if_pos eE,hO]
   rfl
  refine retL_same (by simp [unk]) ?_
  have := hK H' (.slice none 0 0) ((Sm.of TT).trans M) (by
   rw [hL]
   exact ⟨none,0,rfl,⟨rfl,rfl⟩,.inl ⟨rfl,rfl⟩⟩)
  rw [eE] at this
  exact this
end
end Go.Proofs.YtaceckiodofdkaaDoor
