/- Parts of the proof, 5. No conditions. -/
import Derived.Test.YtcmgjbflljmphaaGreatDoorK4
import Derived.Test.YtcmgjbflljmphaaGreatDoorK3
namespace Go.Proofs.YtcmgjbflljmphaaGreatDoor
open Go.Conc
def JF : JT := fun _ _ _ => False
theorem closedF (P : Program) (main : Bool) : Closed P main JF where
 rely := fun h _ => h
 step := fun _ h => by
  obtain ⟨_,_,_,_,_,_,h⟩ := h _ (RelyW.refl _ _)
  exact h
section
variable {P : Program} {main : Bool} {J : JT} {C : CB} {N n0 : Nat} {ds : List Nat} {fn : FuncId} {ops : Array Oper}
def QP (Q : QB) : QT := fun e f h => ∃ l ds x,f = rgOf l ds ∧ h = hOf x ∧ Q e l ds x = true
theorem xjump_t {pend : Option Code} {Q : QB} {l : T Value} {ds : List Nat} {x : XH} (hx : xjump pend Q l ds x = true) : jumpQ pend (QP Q) ⟨gt l,ds⟩ (hOf x) := by
 unfold xjump at hx
 unfold jumpQ
 split at hx
 ·exact ⟨l,ds,x,rfl,rfl,hx⟩
 ·exact ⟨l,ds,x,rfl,rfl,hx⟩
 ·exact ⟨l,ds,x,rfl,rfl,hx⟩
 ·cases hx
def LSound (J : JT) (N n0 : Nat) (fn : FuncId) (lp : Code → T Value → List Nat → XH → QB → Bool) : Prop := ∀ b l ds x Q,lp b l ds x Q = true → Sem J N n0 fn (.loop b) (rgOf l ds) (hOf x) (QP Q)
theorem first_run (hC : CSound P JF C) {todo : List Nat} {l : T Value} {x : XH} {K : LB} (hx : xops P C N ops todo l x [] K = true) {ρ : Env} {FC : Frm} {w : World} {ft : Foot} {a : Act}
  (A : ActRel (hOf x).length ρ N (rgOf l ds) a) (H : HRel ρ (hOf x) FC w ft) : ∃ l1 x1,K l1 x1 = true ∧ heapOk (hOf x1) ∧ (∀ t,gt l1 t = unk ∨ VOk (hOf x1).length (gt l1 t)) ∧ (hOf x).length ≤ (hOf x1).length := by
 have hs := SemOps_of (J := JF) (N := N) (n0 := (hOf x).length) (fn := 0) (Q := fun e f h => e = .normal ∧ LP ds K f h) (closedF P true) todo (dec := []) (fun j b e => by cases e) (by simpa using xops_t (ds := ds) hC todo (fun j b e => by cases e) (fun j hj => by cases hj) hx)
 refine Classical.byContradiction fun hn => ?_
 refine hs ⟨0,.normal,none,[]⟩ a [] [] (fun _ _ _ _ => False) ρ FC w ft rfl (by simp) (fun _ _ _ _ _ z _ => z.elim) A H (Nat.le_refl _) ?_
 intro e f' h' ρ' w' ft' a' q A' H' hu hl
 obtain ⟨rfl,l1,x1,rfl,rfl,hk⟩ := q
 exact hn ⟨l1,x1,hk,H'.ok,fun t => (A'.regs t).imp id fun z => z.1,hl⟩
theorem simT_t {σ : Nat → Nat} : ∀ {l1 l2 : T Value},simT σ l1 l2 = true → ∀ t,gt l2 t = sub σ (gt l1 t)
 | .nil,.nil,_,t => by simp [gt,tget_nil,sub_undef]
 | .node a l r,.node b l' r',hx,t => by
  unfold simT at hx
  obtain ⟨x,y⟩ := and_t hx
  obtain ⟨x,z⟩ := and_t x
  cases t with
  | zero => exact simV_t x
  | succ t =>
   unfold gt
   rw [tget_node,tget_node]
   split
   ·exact simT_t z _
   ·exact simT_t y _
 | .nil,.node b l' r',hx,t => by cases hx
 | .node a l r,.nil,hx,t => by cases hx
theorem addP_ex {n0 : Nat} {a b : Value} {acc : List (Nat × Nat)} {k : List (Nat × Nat) → Bool} (hx : addP n0 a b acc k = true) : ∃ s,k s = true := by
 unfold addP at hx
 split at hx
 ·rename_i x y _ _
  cases hc : (Nat.ble n0 x && !(acc.any fun p => Nat.beq p.1 x)) with
  | true =>
   rw [hc,cond_true,fN_eq,fN_eq] at hx
   exact ⟨_,hx⟩
  | false =>
   rw [hc,cond_false] at hx
   exact ⟨_,hx⟩
 ·exact ⟨_,hx⟩
theorem prs_ex {n0 : Nat} : ∀ (l1 l2 : T Value) {acc : List (Nat × Nat)} {k : List (Nat × Nat) → Bool},prs n0 l1 l2 acc k = true → ∃ s,k s = true
 | .node a l r,.node b l' r',acc,k,hx => by
  unfold prs at hx
  obtain ⟨s1,hx⟩ := addP_ex hx
  obtain ⟨s2,hx⟩ := prs_ex l l' hx
  exact prs_ex r r' hx
 | .nil,l2,acc,k,hx => by
  unfold prs at hx
  exact ⟨_,hx⟩
 | .node a l r,.nil,acc,k,hx => by
  unfold prs at hx
  exact ⟨_,hx⟩
theorem sg_same {n : Nat} : ∀ {s : List (Nat × Nat)},(s.all fun p => Nat.ble n p.1) = true → Same n (sg s)
 | [],_,b,_ => rfl
 | (a,c) :: l,hx,b,hb => by
  simp only [List.all_cons,Bool.and_eq_true] at hx
  have := ble_t hx.1
  unfold sg
  have hne : Nat.beq a b = false := by
   cases h : Nat.beq a b with
   | false => rfl
   | true => have := Nat.eq_of_beq_eq_true h; omega
  rw [hne,cond_false]
  exact sg_same hx.2 b hb
theorem xsim_t {n0 n1 : Nat} {l1 l2 : T Value} {x1 x2 : XH} (hx : xsim n1 l1 x1 l2 x2 = true) (ok : heapOk (hOf x1)) (hr : ∀ t,gt l1 t = unk ∨ VOk (hOf x1).length (gt l1 t)) (hn : n0 ≤ n1) (hl : n1 ≤ (hOf x1).length) (hd : ∀ d ∈ ds,d < n1) :
  ∃ σ,GCR n0 σ (rgOf l2 ds) (hOf x2) (rgOf l1 ds) (hOf x1) := by
 unfold xsim at hx
 obtain ⟨s,hx⟩ := prs_ex l1 l2 hx
 obtain ⟨a,b⟩ := and_t hx
 obtain ⟨a1,a2⟩ := and_t a
 have hs := sg_same a1
 have hb : ∀ i,i < x1.n → sg (swp s) (sg s i) = i ∧ (isDead (tget .dead x1.t i) = true ∨ hg x2 (sg s i) (fun o => simO (sg s) (tget .dead x1.t i) o) = true) := by
  intro i hi
  have := List.all_eq_true.1 b i (List.mem_range.2 hi)
  obtain ⟨p,q⟩ := and_t this
  exact ⟨Nat.eq_of_beq_eq_true p,by simpa using q⟩
 have hat : ∀ {i : Nat} {o : AObj},(hOf x1)[i]? = some o → i < x1.n ∧ o = tget .dead x1.t i := by
  intro i o hi
  have hlt := (List.getElem?_eq_some_iff.1 hi).1
  rw [hOf_len] at hlt
  refine ⟨hlt,?_⟩
  unfold hOf at hi
  rw [List.getElem?_map,List.getElem?_range hlt] at hi
  simpa using hi.symm
 refine ⟨sg s,⟨Nat.le_trans hn hl,fun b hb => hs b (Nat.lt_of_lt_of_le hb hn),fun i o hi => ?_,fun i j o o' hi hj _ _ e => ?_,ok⟩,fun t => ?_,?_,fun b hb => Nat.lt_of_lt_of_le (hd b hb) hl⟩
 ·obtain ⟨hlt,rfl⟩ := hat hi
  rcases (hb i hlt).2 with h | h
  ·left
   unfold isDead at h
   split at h
   ·assumption
   ·cases h
  ·obtain ⟨o,ho,h⟩ := hg_t h
   right
   rw [ho,(simO_t h).1]
 ·have h1 := (hb i (hat hi).1).1
  have h2 := (hb j (hat hj).1).1
  rw [← h1,← h2,e]
 ·rcases hr t with h | h
  ·exact .inl h
  ·exact .inr ⟨simT_t a2 t,h⟩
 ·show ds = ds.map (sg s)
  exact ((List.map_congr_left fun d hd' => hs d (hd d hd')).trans (List.map_id _)).symm
theorem joinOf_t {a : Code} {ops : Array Oper} (h : joinOf P a = some ops) : ∃ id,a = .region id ops true := by
 unfold joinOf at h
 split at h
 ·rename_i id ops'
  cases hm : multi P ops' ops'.size (Array.replicate ops'.size false) with
  | true => rw [hm] at h; cases h; exact ⟨id,rfl⟩
  | false => rw [hm] at h; cases h
 ·cases h
theorem xjoin_t (hJ : Closed P main J) (hm : P.follows .mixedOrders = true) (hC : CSound P J C) (hC0 : CSound P JF C) {id : Nat} {b : Code} {l : T Value} {x : XH} {k : T Value → XH → Bool} {Q : QT} (hx : xjoin P C N ops l x k = true)
  (hb : ∀ l x,k l x = true → Sem J N n0 fn b (rgOf l ds) (hOf x) Q) : Sem J N n0 fn (.seq (.region id ops true) b) (rgOf l ds) (hOf x) Q := by
 intro b' a' k' cs' L' ρ FC w ft g1 g2 g3 g4 g5 g6 gc
 unfold xjoin at hx
 obtain ⟨l1,x1,hk,ok,hr,hl⟩ := first_run (ds := ds) hC0 hx g4 g5
 obtain ⟨k1,k2⟩ := and_t hk
 have hs : Sem J N n0 fn (.seq (.region id ops true) b) (rgOf l ds) (hOf x) Q := by
  refine Sem_seq hJ ((Sem_region_draw hJ hm (Q := fun e f h => e = .normal ∧ LP ds (fun l2 x2 => xsim x.n l1 x1 l2 x2) f h) (by simpa using xdraw_t (ds := ds) hC k1)).mono ?_)
  rintro e f h ⟨rfl,l2,x2,rfl,rfl,hsim⟩
  rw [hOf_len] at hl g6
  obtain ⟨σ,hg⟩ := xsim_t (ds := ds) hsim ok hr g6 hl (fun d hd => by
   have := g4.ok d hd
   rw [hOf_len] at this
   exact this)
  exact Sem.gc hg (hb l1 x1 k2)
 exact hs b' a' k' cs' L' ρ FC w ft g1 g2 g3 g4 g5 g6 gc
theorem xseq_t (hJ : Closed P main J) (hm : P.follows .mixedOrders = true) (hC : CSound P J C) (hC0 : CSound P JF C) {a b : Code} {ra rb : T Value → List Nat → XH → QB → Bool}
  (ha : ∀ l ds x Q,ra l ds x Q = true → Sem J N n0 fn a (rgOf l ds) (hOf x) (QP Q)) (hb : ∀ l ds x Q,rb l ds x Q = true → Sem J N n0 fn b (rgOf l ds) (hOf x) (QP Q)) {l : T Value} {ds : List Nat} {x : XH} {Q : QB} (hx : xseq P C N a ra rb l ds x Q = true) :
  Sem J N n0 fn (.seq a b) (rgOf l ds) (hOf x) (QP Q) := by
 unfold xseq at hx
 split at hx
 ·rename_i ops hj
  obtain ⟨id,rfl⟩ := joinOf_t hj
  exact xjoin_t hJ hm hC hC0 hx fun l x hk => hb l ds x Q hk
 ·refine Sem_seq hJ ((ha l ds x _ hx).mono fun e f h q => ?_)
  obtain ⟨l',ds',x',rfl,rfl,hq⟩ := q
  cases e with
  | normal => exact hb _ _ _ _ hq
  | _ => exact ⟨l',ds',x',rfl,rfl,hq⟩
theorem xC_t (hJ : Closed P main J) (hm : P.follows .mixedOrders = true) (hC : CSound P J C) (hC0 : CSound P JF C) {lp : Code → T Value → List Nat → XH → QB → Bool} (hL : LSound J N n0 fn lp) : ∀ (c : Code) (l : T Value) (ds : List Nat) (x : XH) (Q : QB),xC P C N fn lp c l ds x Q = true → Sem J N n0 fn c (rgOf l ds) (hOf x) (QP Q)
 | .skip,l,ds,x,Q,hx => Sem_skip hJ ⟨l,ds,x,rfl,rfl,hx⟩
 | .label _,l,ds,x,Q,hx => Sem_label hJ ⟨l,ds,x,rfl,rfl,hx⟩
 | .ret,l,ds,x,Q,hx => Sem_ret ⟨l,ds,x,rfl,rfl,hx⟩
 | .exit id,l,ds,x,Q,hx => Sem_exit hJ ⟨l,ds,x,rfl,rfl,hx⟩
 | .seq a b,l,ds,x,Q,hx => xseq_t hJ hm hC hC0 (ra := xC P C N fn lp a) (rb := xC P C N fn lp b) (fun l ds x Q h => xC_t hJ hm hC hC0 hL a l ds x Q h) (fun l ds x Q h => xC_t hJ hm hC hC0 hL b l ds x Q h) hx
 | .cond c a b,l,ds,x,Q,hx => by
  change xcnd (ev (gt l) c) (xC P C N fn lp a l ds x Q) (xC P C N fn lp b l ds x Q) = true at hx
  unfold xcnd at hx
  split at hx
  ·rename_i e
   exact Sem_cond hJ (t := true) e (by simpa using xC_t hJ hm hC hC0 hL a l ds x Q hx)
  ·rename_i e
   exact Sem_cond hJ (t := false) e (by simpa using xC_t hJ hm hC hC0 hL b l ds x Q hx)
  ·cases hx
 | .block id a,l,ds,x,Q,hx => by
  refine Sem_block hJ ((xC_t hJ hm hC hC0 hL a l ds x (blkQ id Q) hx).mono fun e f h q => ?_)
  obtain ⟨l',ds',x',rfl,rfl,hq⟩ := q
  cases e with
  | exit i =>
   unfold blkQ at hq
   simp only at hq
   unfold blockK
   simp only
   cases hi : i == id with
   | true => rw [hi,cond_true] at hq; exact ⟨l',ds',x',rfl,rfl,hq⟩
   | false => rw [hi,cond_false] at hq; exact ⟨l',ds',x',rfl,rfl,hq⟩
  | _ => exact ⟨l',ds',x',rfl,rfl,hq⟩
 | .scope a,l,ds,x,Q,hx => Sem_scope hJ (xC_t hJ hm hC hC0 hL a l ds x Q hx)
 | .region id ops draw,l,ds,x,Q,hx => by
  change (bif draw then xdraw P C N ops l x fun l x => Q .normal l ds x else xops P C N ops (List.range ops.size) l x [] fun l x => Q .normal l ds x) = true at hx
  cases draw with
  | true =>
   rw [cond_true] at hx
   refine (Sem_region_draw hJ hm (Q := fun e f h => e = .normal ∧ LP ds (fun l x => Q .normal l ds x) f h) ?_).mono ?_
   ·simpa using xdraw_t (ds := ds) hC hx
   ·rintro e f h ⟨rfl,l',x',rfl,rfl,hq⟩
    exact ⟨l',ds,x',rfl,rfl,hq⟩
  | false =>
   rw [cond_false] at hx
   refine (Sem_region_text hJ (Q := fun e f h => e = .normal ∧ LP ds (fun l x => Q .normal l ds x) f h) ?_).mono ?_
   ·simpa using xops_t (ds := ds) hC (List.range ops.size) (dec := []) (fun j b e => by cases e) (fun j hj => by cases hj) hx
   ·rintro e f h ⟨rfl,l',x',rfl,rfl,hq⟩
    exact ⟨l',ds,x',rfl,rfl,hq⟩
 | .loop b,l,ds,x,Q,hx => hL b l ds x Q hx
 | .rangeFunc fop params assign body,l,ds,x,Q,hx => by
  change xrange P C N fn (ev (gt l) fop) params assign body l ds x Q = true at hx
  unfold xrange at hx
  split at hx
  ·rename_i g first cap e
   obtain ⟨a,hx⟩ := and_t hx
   obtain ⟨a1,a2⟩ := and_t a
   obtain ⟨a2,a3⟩ := and_t a2
   obtain ⟨y1,e1,hx⟩ := hpush_t hx
   obtain ⟨y2,e2,hx⟩ := hpush_t hx
   have hg := hC _ _ _ _ hx
   rw [← e2,← e1,← hOf_len x] at hg
   refine Sem_range hJ (blt_t a1) (f := rgOf l ds) e (blt_t a2) (hg.mono fun v h' hk => ?_) a3
   obtain ⟨x',rfl,hk⟩ := hk
   obtain ⟨o,ho,hk⟩ := hg_t hk
   split at hk
   ·rename_i st pend fn' r size params' assign' body' dfr
    obtain ⟨k1,k2⟩ := and_t hk
    obtain ⟨y,ey,k2⟩ := hset_t k2
    refine ⟨st,pend,fn',r,size,params',assign',body',dfr,ho,fun e => ?_,?_⟩
    ·subst e
     cases k1
    ·rw [ey]
     exact xjump_t k2
   ·cases hk
  ·cases hx
 | .goto _,l,ds,x,Q,hx => by cases hx
 | .refuse _,l,ds,x,Q,hx => by cases hx
theorem xtake_t : ∀ (ds : List Nat) {x : XH} {K : XH → Bool},xtake ds x K = true → takeW ds (hOf x) (HP K)
 | [],x,K,hx => ⟨x,rfl,hx⟩
 | d :: ds,x,K,hx => by
  unfold xtake at hx
  obtain ⟨o,ho,hx⟩ := hg_t hx
  split at hx
  ·obtain ⟨y,e,hx⟩ := hset_t hx
   refine ⟨ho,?_⟩
   rw [e]
   exact xtake_t ds hx
  ·cases hx
theorem takeW_mono : ∀ (ds : List Nat) {h : List AObj} {K K' : List AObj → Prop},takeW ds h K → (∀ h,K h → K' h) → takeW ds h K'
 | [],h,K,K',hx,hk => hk _ hx
 | d :: ds,h,K,K',hx,hk => ⟨hx.1,takeW_mono ds hx.2 hk⟩
theorem resW_mono : ∀ (rs : List ResultVar) {r : Nat → Value} {h : List AObj} {K K' : List Value → Prop},resW P rs r h K → (∀ vs,K vs → K' vs) → resW P rs r h K'
 | [],r,h,K,K',hx,hk => hk _ hx
 | .tmp t :: rs,r,h,K,K',hx,hk => ⟨hx.1,resW_mono rs hx.2 fun vs => hk _⟩
 | .cell a t :: rs,r,h,K,K',hx,hk => by
  unfold resW at hx ⊢
  split at hx
  ·obtain ⟨v,k1,k2⟩ := pin_aLoad _ hx
   exact k2 (fun v => resW P rs r h fun vs => K' (v :: vs)) (resW_mono rs k1 fun vs => hk _)
  ·exact hx.elim
theorem xres_t : ∀ (rs : List ResultVar) {r : Nat → Value} {x : XH} {K : List Value → Bool},xres P rs r x K = true → resW P rs r (hOf x) fun vs => K vs = true
 | [],r,x,K,hx => hx
 | .tmp t :: rs,r,x,K,hx => by
  unfold xres at hx
  rw [fV_eq] at hx
  obtain ⟨a,b⟩ := and_t hx
  refine ⟨fun e => ?_,xres_t rs b⟩
  rw [e] at a
  cases a
 | .cell a t :: rs,r,x,K,hx => by
  unfold xres at hx
  unfold resW
  split at hx
  ·rename_i e
   simp only [e]
   obtain ⟨v,k1,k2⟩ := pin_aLoad _ (xLoad_t hx)
   exact k2 (fun v => resW P rs r (hOf x) fun vs => K (v :: vs) = true) (xres_t rs k1)
  ·cases hx
theorem xret_t {rs : List ResultVar} {K : KB} {e : Exit} {f : RG} {h : List AObj} (hq : QP (xret P rs K) e f h) : RetQ P rs n0 (KP K) e f h := by
 obtain ⟨l,ds,x,rfl,rfl,hq⟩ := hq
 have main : xtake ds x (fun h => xres P rs (gt l) h fun vs => K (pack vs) h) = true → takeW (rgOf l ds).ds (hOf x) fun h => resW P rs (rgOf l ds).r h fun vs => KP K (pack vs) h ∨ ∃ σ h' v,GC n0 σ h h' ∧ pack vs = sub σ v ∧ VOk h'.length v ∧ KP K v h' := by
  intro hq
  refine takeW_mono ds (xtake_t ds hq) fun h hk => ?_
  obtain ⟨y,rfl,hk⟩ := hk
  exact resW_mono rs (xres_t rs hk) fun vs hv => .inl ⟨y,rfl,hv⟩
 unfold xret at hq
 unfold RetQ
 split at hq
 ·exact main hq
 ·exact main hq
 ·cases hq
theorem xputs_t : ∀ (ts : List Nat) (vs : List Value) {l : T Value} {K : T Value → Bool},xputs l ts vs K = true → ∃ l',gt l' = putAll (gt l) ts vs ∧ K l' = true
 | [],vs,l,K,hx => by
  cases vs <;> exact ⟨l,rfl,hx⟩
 | t :: ts,[],l,K,hx => ⟨l,rfl,hx⟩
 | t :: ts,v :: vs,l,K,hx => by
  unfold xputs at hx
  obtain ⟨l1,h1,h2⟩ := tset_t _ hx
  obtain ⟨l',e1,e2⟩ := xputs_t ts vs h1
  refine ⟨l',?_,e2⟩
  show gt l' = putAll (fun i => bif i == t then v else gt l i) ts vs
  rw [gt_set h2]
  exact e1
theorem xround_t {l n0 : Nat} {K : KB} {e : Exit} {f : RG} {h : List AObj} (hq : QP (xround l K) e f h) : roundQ l n0 (KP K) e f h := by
 obtain ⟨l',ds,x,rfl,rfl,hq⟩ := hq
 obtain ⟨o,ho,hq⟩ := hg_t hq
 unfold xroundC at hq
 split at hq
 ·rename_i st pend fn r size params assign body dfr
  refine ⟨st,pend,fn,r,size,params,assign,body,dfr,ho,?_⟩
  split at hq
  ·exact .inl (hset_t hq)
  ·exact .inl (hset_t hq)
  ·exact .inl (hset_t hq)
  ·cases hq
 ·cases hq
theorem putAll_range : ∀ (args : List Value) (k : Nat) (r : Nat → Value) (t : Nat),putAll r (List.range' k args.length) args t = if k ≤ t ∧ t < k + args.length then args.getD (t - k) unk else r t
 | [],k,r,t => by
  rw [if_neg (by simp)]
  rfl
 | v :: args,k,r,t => by
  show putAll (fun i => bif i == k then v else r i) (List.range' (k + 1) args.length) args t = _
  rw [putAll_range args (k + 1)]
  simp only [List.length_cons]
  by_cases h1 : k + 1 ≤ t ∧ t < k + 1 + args.length
  ·rw [if_pos h1,if_pos (by omega)]
   have : t - k = (t - (k + 1)) + 1 := by omega
   rw [this,List.getD_cons_succ]
  ·rw [if_neg h1]
   by_cases e : t = k
   ·subst e
    rw [if_pos (by omega)]
    simp
   ·have : (t == k) = false := by simpa using e
    rw [this,if_neg (by omega)]
    rfl
theorem regT_t {r : Nat → Value} : ∀ (n : Nat) {k : T Value → Bool},regT r n k = true → ∃ l,k l = true ∧ ∀ t,gt l t = if t < n then r t else unk
 | 0,k,hx => ⟨.nil,hx,fun t => by simp [gt,tget_nil]⟩
 | n + 1,k,hx => by
  unfold regT at hx
  obtain ⟨l,h1,h2⟩ := regT_t n hx
  rw [fV_eq] at h1
  obtain ⟨l',h3,h4⟩ := tset_t _ h1
  refine ⟨l',h3,fun t => ?_⟩
  show tget unk l' t = _
  rw [h4]
  by_cases e : t = n
  ·subst e; simp
  ·rw [if_neg e]
   show gt l t = _
   rw [h2]
   by_cases e2 : t < n
   ·rw [if_pos e2,if_pos (by omega)]
   ·rw [if_neg e2,if_neg (by omega)]
theorem Sem.less {h : List AObj} {c : Code} {f f' : RG} {Q : QT} (hr : ∀ t,f'.r t = unk ∨ f'.r t = f.r t) (hd : f'.ds = f.ds) (hs : Sem J N n0 fn c f' h Q) : Sem J N n0 fn c f h Q := by
 intro b a k cs L ρ FC w ft h1 h2 h3 h4 h5 h6 hc
 refine hs b a k cs L ρ FC w ft h1 h2 h3 ⟨fun t => ?_,h4.size,by rw [hd]; exact h4.defers,by rw [hd]; exact h4.ok⟩ h5 h6 hc
 rcases hr t with e | e
 ·exact .inl e
 ·rw [e]
  exact h4.regs t
theorem putAll_less : ∀ (ps : List Nat) (vs : List Value) {r r' : Nat → Value},(∀ t,r' t = unk ∨ r' t = r t) → ∀ t,putAll r' ps vs t = unk ∨ putAll r' ps vs t = putAll r ps vs t
 | [],vs,r,r',h,t => by cases vs <;> exact h t
 | p :: ps,[],r,r',h,t => h t
 | p :: ps,v :: vs,r,r',h,t => by
  refine putAll_less ps vs (fun x => ?_) t
  by_cases e : x = p
  ·have : (x == p) = true := by simpa using e
   simp [this]
  ·have : (x == p) = false := by simpa using e
   simpa [this] using h x
def SemL (J : JT) (N n0 : Nat) (fn : FuncId) (c : Code) (f : RG) (h : List AObj) (Q : QT) : Prop :=
 ∀ (b : FB) (a : Act) (k : List Item) (cs : List Frame) (L : Option Code → Act → World → Foot → Prop) (ρ : Env) (FC : Frm) (w : World) (ft : Foot),b.tag = fn → b.kind ≠ .early → LeaveOk J b cs L →
  ActRel h.length ρ N f a → HRel ρ h FC w ft → n0 ≤ h.length → Cont J N n0 b k cs L ρ FC Q → J (G (b.at a (.code c :: .inLoop c :: k)) cs) w ft
theorem SemL_step {h : List AObj} (hJ : Closed P main J) {c : Code} {f : RG} {Q : QT} (hx : Sem J N n0 fn c f h (thenK (fun f h => SemL J N n0 fn c f h Q) Q)) : SemL J N n0 fn c f h Q := by
 intro b a k cs L ρ FC w ft h1 h2 h3 h4 h5 h6 hc
 refine hx b a (.inLoop c :: k) cs L ρ FC w ft h1 h2 h3 h4 h5 h6 fun e f' h' ρ' w' ft' a' q g1 g2 g3 g4 => ?_
 cases e with
 | normal =>
  refine hJ.ctrl rfl rfl (g' := G (b.at a' (.code c :: .inLoop c :: k)) cs) (fun w => by simp [G,stepG,stepG.exec,FB.at]) ?_
  exact q b a' k cs L ρ' FC w' ft' h1 h2 h3 g1 g2 g4 fun e f3 h3' ρ3 w3 ft3 a3 q r1 r2 r3 r4 => hc e f3 h3' ρ3 w3 ft3 a3 q r1 r2 (Env.upto_trans g3 r3) r4
 | exit id => exact AfterJ.push (fun _ => rfl) (by simp) (hc _ _ _ _ _ _ _ q g1 g2 g3 g4)
 | ret => exact AfterJ.push (fun _ => rfl) (by simp) (hc _ _ _ _ _ _ _ q g1 g2 g3 g4)
 | goto l => exact hc _ _ _ _ _ _ _ q g1 g2 g3 g4
 | panic l => exact hc _ _ _ _ _ _ _ q g1 g2 g3 g4
 | outgrown => exact hc _ _ _ _ _ _ _ q g1 g2 g3 g4
theorem Sem_of_SemL {h : List AObj} (hJ : Closed P main J) {c : Code} {f : RG} {Q : QT} (hx : SemL J N n0 fn c f h Q) : Sem J N n0 fn (.loop c) f h Q := by
 intro b a k cs L ρ FC w ft h1 h2 h3 h4 h5 h6 hc
 refine hJ.ctrl rfl rfl (g' := G (b.at a (.code c :: .inLoop c :: k)) cs) (fun w => by simp [G,stepG,stepG.exec,FB.at]) ?_
 exact hx b a k cs L ρ FC w ft h1 h2 h3 h4 h5 h6 hc
def XS (P : Program) (n : Nat) : Prop := ∀ (main : Bool) (J : JT),Closed P main J → CSound P J (xcall P n) ∧ ∀ N n0 fn b l ds x Q,xloop P n N fn b l ds x Q = true → SemL J N n0 fn b (rgOf l ds) (hOf x) (QP Q)
theorem x_sound (hm : P.follows .mixedOrders = true) : ∀ n : Nat,XS P n
 | 0 => fun main J hJ => ⟨fun g args x K hx => (by unfold xcall at hx; cases hx),fun N n0 fn b l ds x Q hx => (by unfold xloop at hx; cases hx)⟩
 | n + 1 => by
  intro main J hJ
  obtain ⟨hC,hL⟩ := x_sound hm n main J hJ
  have hC0 := (x_sound hm n true JF (closedF P true)).1
  have hL' : ∀ N n0 fn,LSound J N n0 fn (xloop P n N fn) := fun N n0 fn b l ds x Q hx => Sem_of_SemL hJ (hL N n0 fn b l ds x Q hx)
  refine ⟨fun g args x K hx => ?_,fun N n0 fn b l ds x Q hx => ?_⟩
  ·unfold xcall at hx
   split at hx
   ·rename_i fn hf
    unfold xenter at hx
    split at hx
    ·rename_i c hb
     obtain ⟨a,hx⟩ := and_t hx
     obtain ⟨a1,a2⟩ := and_t a
     have a1 := ble_t a1
     obtain ⟨l,e,hx⟩ := xputs_t _ _ hx
     refine good_of_sem hJ hf hb (by simpa using a2) a1 fun ok => ?_
     have := xC_t hJ hm hC hC0 (hL' fn.ntmps (hOf x).length g) c l [] x _ hx
     have hr : rgOf l [] = ⟨regs args,[]⟩ := by
      unfold rgOf regs
      congr 1
      rw [e,List.range_eq_range']
      funext t
      rw [putAll_range]
      by_cases ht : t < args.length
      ·rw [if_pos (by omega)]
       simp
      ·rw [if_neg (by omega),List.getD_eq_getElem?_getD,List.getElem?_eq_none (by omega)]
       rfl
     rw [hr] at this
     exact this.mono fun e f h q => xret_t q
    ·cases hx
   ·obtain ⟨a,hx⟩ := and_t hx
    obtain ⟨o,ho,hx⟩ := hg_t hx
    unfold xinto at hx
    split at hx
    ·rename_i pend fn r size params assign body dfr
     obtain ⟨a1,hx⟩ := and_t hx
     obtain ⟨a1,a2⟩ := and_t a1
     obtain ⟨l0,hx,e0⟩ := regT_t _ hx
     obtain ⟨l',e1,hx⟩ := xputs_t params.toList args hx
     have a1 : params.size = args.length := by simpa using a1
     have hyid : g = yid P (g - P.funcs.size) := (Nat.add_sub_cancel' (ble_t a)).symm
     rw [hyid]
     refine good_round hJ ho a1 (fun t ht => blt_t (List.all_eq_true.1 a2 t ht)) fun ok => ?_
     refine Sem.less (f' := rgOf l' []) (fun t => ?_) rfl ((xC_t hJ hm hC hC0 (hL' size (hOf x).length (fn + 1000000)) assign l' [] x _ hx).mono fun e f h1 q => ?_)
     ·show gt l' t = unk ∨ gt l' t = putAll r params.toList args t
      rw [e1]
      refine putAll_less _ _ (fun x => ?_) t
      rw [e0]
      split
      ·exact .inr rfl
      ·exact .inl rfl
     ·obtain ⟨l2,ds2,x2,rfl,rfl,hq⟩ := q
      simp only at hq
      split at hq
      ·obtain ⟨o2,ho2,hq⟩ := hg_t hq
       split at hq
       ·rename_i pend' fn' r' size' params' assign' body' dfr'
        obtain ⟨y,ey,hq⟩ := hset_t hq
        refine ⟨rfl,pend',fn',r',size',params',assign',body',dfr',ho2,?_⟩
        rw [ey]
        exact (xC_t hJ hm hC hC0 (hL' size (hOf x).length (fn + 1000000)) body l2 [] y _ hq).mono fun e f h2 q => xround_t q
       ·cases hq
      ·cases hq
    ·cases hx
  ·unfold xloop at hx
   refine SemL_step hJ ((xC_t hJ hm hC hC0 (hL' N n0 fn) b l ds x _ hx).mono fun e f h q => ?_)
   obtain ⟨l',ds',x',rfl,rfl,hq⟩ := q
   cases e with
   | normal => exact hL N n0 fn b l' ds' x' Q hq
   | _ => exact ⟨l',ds',x',rfl,rfl,hq⟩
end
section
variable {P : Program} {main : Bool} {J : JT} {g : FuncId} {args : List Value} {h : List AObj} {K K' : Value → List AObj → Prop}
theorem good_frame (hT : TagFree J) (hg : Good P J g args [] K) (hcl : callable P g = true) (hlt : g < P.funcs.size) (ha : ∀ v ∈ args,VOk 0 v) (hk : ∀ v h',K v h' → VOk 0 v ∧ K' v h) : Good P J g args h K' := by
 rcases hg with ⟨ho,hg⟩ | ⟨⟨_,hx⟩,_⟩
 rotate_left
 ·rw [hcl] at hx
  cases hx
 have hcall : callable P g = true := by
  rcases ho with ⟨_,e⟩ | ⟨e,_⟩
  ·exact e
  ·exact absurd hlt (Nat.not_lt.2 e)
 refine .inl ⟨.inl ⟨hlt,hcall⟩,fun ρ FC w ft cs c cargs fr H hargs hl hent hc => ?_⟩
 have hfr : fr = Frame.enter P g ⟨cargs⟩ .normal := by
  rcases hent with ⟨_,e⟩ | ⟨e,_⟩
  ·exact e
  ·exact absurd hlt (Nat.not_lt.2 e)
 have ob : ∃ ob : Nat → Option Obj,(∀ b,ft.rd b → ob b = w.heap[b]?) ∧ (∀ b,¬ ft.rd b → ob b = none) := by
  classical
  exact ⟨fun b => if ft.rd b then w.heap[b]? else none,fun b hb => if_pos hb,fun b hb => if_neg hb⟩
 obtain ⟨ob,ob1,ob2⟩ := ob
 have H0 : HRel ρ [] ⟨ob,ft.wr⟩ w ft := by
  refine ⟨fun b o hb => by simp at hb,fun b b' o o' hb => by simp at hb,fun b o hb => by simp at hb,fun b o hb => by simp at hb,H.lt,H.sub,fun b o hb => ?_,fun b hb => hb,fun b x hb => (by simp at hb)⟩
  by_cases hr : ft.rd b
  ·refine ⟨?_,hr,fun a oa ha => by simp at ha⟩
   rw [← ob1 b hr]
   exact hb
  ·have : ob b = some o := hb
   rw [ob2 b hr] at this
   cases this
 refine hg ρ ⟨ob,ft.wr⟩ w ft cs c cargs fr H0 (fun i => ?_) hl (.inl ⟨hlt,hfr⟩) fun v h' ρ' w' ft' cv hK H' hu hl' hv => ?_
 ·rcases hargs i with e | ⟨_,e⟩
  ·exact .inl e
  ·by_cases hi : i < args.length
   ·have : args.getD i unk ∈ args := by
     rw [List.getD_eq_getElem?_getD,List.getElem?_eq_getElem hi]
     exact List.getElem_mem hi
    exact .inr ⟨ha _ this,e⟩
   ·left
    rw [List.getD_eq_getElem?_getD,List.getElem?_eq_none (by omega)]
    rfl
 ·obtain ⟨hv0,hK'⟩ := hk v h' hK
  have kp : ∀ b,ft.rd b → w'.heap[b]? = w.heap[b]? ∧ ft'.rd b := by
   intro b hb
   have hlt' := H.lt b hb
   have : (⟨ob,ft.wr⟩ : Frm).ob b = some w.heap[b] := by
    show ob b = _
    rw [ob1 b hb,Array.getElem?_eq_getElem hlt']
   obtain ⟨a1,a2,_⟩ := H'.kept b _ this
   exact ⟨by rw [a1,Array.getElem?_eq_getElem hlt'],a2⟩
  refine hT _ _ ft' ft.tag (hc v h ρ w' { ft' with tag := ft.tag } cv hK' ⟨fun b o hb => ?_,H.inj,fun b o hb hl => (kp _ (H.rd b o hb hl)).2,fun b o hb hw => H'.keptW _ (H.wr b o hb hw),H'.lt,H'.sub,fun b o hb => ?_,fun b hb => H'.keptW _ (H.keptW b hb),H.tag⟩ (Env.upto_refl _ _) (Nat.le_refl _) ?_)
  ·cases hlv : o.live with
   | false => cases o <;> first | trivial | exact H.obj b _ hb | cases hlv
   | true =>
    rw [(kp _ (H.rd b o hb hlv)).1]
    exact H.obj b o hb
  ·obtain ⟨a1,a2,a3⟩ := H.kept b o hb
   exact ⟨by rw [(kp b a2).1]; exact a1,(kp b a2).2,a3⟩
  ·rcases hv with e | ⟨_,e⟩
   ·exact .inl e
   ·exact .inr ⟨VOk.mono (Nat.zero_le _) v hv0,by rw [e,ren0 v hv0,ren0 v hv0]⟩
end
section
variable {P : Program} {J : JT} {g : FuncId} {args : List Value} {h h0 : List AObj} {K K' : Value → List AObj → Prop} {σ : Nat → Nat}
structure Lies (σ : Nat → Nat) (h0 h : List AObj) : Prop where
 cell : ∀ (i : Nat) (o : AObj),h0[i]? = some o → ∃ c wr,o = .cells c false 0 ∧ LOk h0.length c ∧ h[σ i]? = some (.cells (c.map (sub σ)) wr 0)
 inj : ∀ i j,i < h0.length → j < h0.length → σ i = σ j → i = j
theorem good_in (hT : TagFree J) (hg : Good P J g args h0 K) (hcl : callable P g = true) (hlt : g < P.funcs.size) (L : Lies σ h0 h) (ha : ∀ v ∈ args,VOk h0.length v)
  (hk : ∀ v h',K v h' → (VOk 0 v ∧ K' v h) ∨ ∃ k c sz v1,h'[k]? = some (.cells c true sz) ∧ LOk 0 c ∧ v = sub (fun _ => k) v1 ∧ v ≠ unk ∧ VOk (h.length + 1) (sub (fun _ => h.length) v1) ∧ K' (sub (fun _ => h.length) v1) (h ++ [.cells c true sz])) :
  Good P J g (args.map (sub σ)) h K' := by
 rcases hg with ⟨ho,hg⟩ | ⟨⟨_,hx⟩,_⟩
 rotate_left
 ·rw [hcl] at hx
  cases hx
 have hcall : callable P g = true := by
  rcases ho with ⟨_,e⟩ | ⟨e,_⟩
  ·exact e
  ·exact absurd hlt (Nat.not_lt.2 e)
 refine .inl ⟨.inl ⟨hlt,hcall⟩,fun ρ FC w ft cs c cargs fr H hargs hl hent hc => ?_⟩
 have hfr : fr = Frame.enter P g ⟨cargs⟩ .normal := by
  rcases hent with ⟨_,e⟩ | ⟨e,_⟩
  ·exact e
  ·exact absurd hlt (Nat.not_lt.2 e)
 have ob : ∃ ob : Nat → Option Obj,(∀ b,ft.rd b → ob b = w.heap[b]?) ∧ (∀ b,¬ ft.rd b → ob b = none) := by
  classical
  exact ⟨fun b => if ft.rd b then w.heap[b]? else none,fun b hb => if_pos hb,fun b hb => if_neg hb⟩
 obtain ⟨ob,ob1,ob2⟩ := ob
 have lt0 : ∀ {b : Nat} {o : AObj},h0[b]? = some o → b < h0.length := fun hb => (List.getElem?_eq_some_iff.1 hb).1
 have H0 : HRel (ρ.comp σ) h0 ⟨ob,ft.wr⟩ w ft := by
  refine ⟨fun b o hb => ?_,fun b b' o o' hb hb' _ _ lw e => ?_,fun b o hb _ => ?_,fun b o hb hw => ?_,H.lt,H.sub,fun b o hb => ?_,fun b hb => hb,fun b x hb => (by
   obtain ⟨c,wr,e,_⟩ := L.cell b _ hb
   cases e)⟩
  ·obtain ⟨c,wr,rfl,ok,hs⟩ := L.cell b o hb
   have hr := H.obj _ _ hs
   have h2 : ORel h0.length (ρ.comp σ) b (.cells c wr 0) w.heap[ρ.blk (σ b)]? := ORel.sub (o := .cells c wr 0) hr ok
   show ORel h0.length (ρ.comp σ) b (.cells c false 0) w.heap[ρ.blk (σ b)]?
   match w.heap[ρ.blk (σ b)]?,h2 with
   | some (.cells c' ty fr),⟨h1,h2,h3,h4⟩ => exact ⟨fun i v hv => (h1 i v hv).imp (fun u => ⟨u.1,rfl⟩) id,h2,h3,fun x => by cases x⟩
  ·obtain ⟨c,wr,rfl,ok,hs⟩ := L.cell b o hb
   obtain ⟨c2,wr2,rfl,ok2,hs2⟩ := L.cell b' o' hb'
   exact lw.elim (fun k => by cases k) fun k => by cases k
  ·obtain ⟨c,wr,rfl,ok,hs⟩ := L.cell b o hb
   exact H.rd _ _ hs rfl
  ·obtain ⟨c,wr,rfl,ok,hs⟩ := L.cell b o hb
   cases hw
  ·by_cases hr : ft.rd b
   ·refine ⟨?_,hr,fun a oa ha hw => ?_⟩
    ·rw [← ob1 b hr]
     exact hb
    ·obtain ⟨c,wr,rfl,ok,hs⟩ := L.cell a oa ha
     cases hw
   ·have : ob b = some o := hb
    rw [ob2 b hr] at this
    cases this
 refine hg (ρ.comp σ) ⟨ob,ft.wr⟩ w ft cs c cargs fr H0 (fun i => ?_) (by rw [hl,List.length_map]) (.inl ⟨hlt,hfr⟩) fun v h' ρ' w' ft' cv hK H' hu hl' hv => ?_
 ·have hi' := hargs i
  by_cases hi : i < args.length
  ·have e1 : args.getD i unk = args[i] := by rw [List.getD_eq_getElem?_getD,List.getElem?_eq_getElem hi]; rfl
   have e2 : (args.map (sub σ)).getD i unk = sub σ args[i] := by rw [List.getD_eq_getElem?_getD,List.getElem?_map,List.getElem?_eq_getElem hi]; rfl
   rw [e1]
   rw [e2] at hi'
   rcases hi' with e | ⟨_,e⟩
   ·exact .inl (sub_inv e)
   ·exact .inr ⟨ha _ (List.getElem_mem hi),by rw [e,ren_sub]⟩
  ·left
   rw [List.getD_eq_getElem?_getD,List.getElem?_eq_none (by omega)]
   rfl
 ·have kp : ∀ b,ft.rd b → w'.heap[b]? = w.heap[b]? ∧ ft'.rd b := by
   intro b hb
   have hlt' := H.lt b hb
   have : (⟨ob,ft.wr⟩ : Frm).ob b = some w.heap[b] := by
    show ob b = _
    rw [ob1 b hb,Array.getElem?_eq_getElem hlt']
   obtain ⟨a1,a2,_⟩ := H'.kept b _ this
   exact ⟨by rw [a1,Array.getElem?_eq_getElem hlt'],a2⟩
  rcases hk v h' hK with ⟨hv0,hK'⟩ | ⟨k,c2,sz,v1,hk1,hk2,rfl,hk3,hk4,hK'⟩
  ·refine hT _ _ ft' ft.tag (hc v h ρ w' { ft' with tag := ft.tag } cv hK' ⟨fun b o hb => ?_,H.inj,fun b o hb hl => (kp _ (H.rd b o hb hl)).2,fun b o hb hw => H'.keptW _ (H.wr b o hb hw),H'.lt,H'.sub,fun b o hb => ?_,fun b hb => H'.keptW _ (H.keptW b hb),H.tag⟩ (Env.upto_refl _ _) (Nat.le_refl _) ?_)
   ·cases hlv : o.live with
    | false => cases o <;> first | trivial | exact H.obj b _ hb | cases hlv
    | true =>
     rw [(kp _ (H.rd b o hb hlv)).1]
     exact H.obj b o hb
   ·obtain ⟨a1,a2,a3⟩ := H.kept b o hb
    exact ⟨by rw [(kp b a2).1]; exact a1,(kp b a2).2,a3⟩
   ·rcases hv with e | ⟨_,e⟩
    ·exact .inl e
    ·exact .inr ⟨VOk.mono (Nat.zero_le _) v hv0,by rw [e,ren0 v hv0,ren0 v hv0]⟩
  ·obtain ⟨ρ2,hρ2⟩ : ∃ ρ2 : Env,ρ2 = ⟨fun b => if b = h.length then ρ'.blk k else ρ.blk b,fun b => if b = h.length then ρ'.cap k else ρ.cap b⟩ := ⟨_,rfl⟩
   have rn : ρ2.blk h.length = ρ'.blk k ∧ ρ2.cap h.length = ρ'.cap k := by subst hρ2; simp
   have ro : ∀ b,b < h.length → ρ2.blk b = ρ.blk b ∧ ρ2.cap b = ρ.cap b := fun b hb => by subst hρ2; simp [Nat.ne_of_lt hb]
   have hup : Env.upto h.length ρ ρ2 := ro
   have split : ∀ {b : Nat} {o : AObj},(h ++ [AObj.cells c2 true sz])[b]? = some o → (b < h.length ∧ h[b]? = some o) ∨ (b = h.length ∧ o = .cells c2 true sz) := fun {b o} hb => by
    rcases Nat.lt_or_ge b h.length with x | x
    ·rw [List.getElem?_append_left x] at hb
     exact .inl ⟨x,hb⟩
    ·have hlt2 := (List.getElem?_eq_some_iff.1 hb).1
     simp at hlt2
     have : b = h.length := by omega
     subst this
     exact .inr ⟨rfl,by simpa using hb.symm⟩
   have nw : ∀ b,ft.rd b → ρ'.blk k ≠ b := fun b hb => by
    have hlt' := H.lt b hb
    have : (⟨ob,ft.wr⟩ : Frm).ob b = some w.heap[b] := by
     show ob b = _
     rw [ob1 b hb,Array.getElem?_eq_getElem hlt']
    exact (H'.kept b _ this).2.2 k _ hk1 rfl
   refine hT _ _ ft' ft.tag (hc _ _ ρ2 w' { ft' with tag := ft.tag } cv hK' ⟨fun b o hb => ?_,fun b b' o o' hb hb' l l' lw e => ?_,fun b o hb hl => ?_,fun b o hb hw => ?_,H'.lt,H'.sub,fun b o hb => ?_,fun b hb => H'.keptW _ (H.keptW b hb),fun b x hb => (by
    rcases split hb with ⟨_,hb⟩ | ⟨_,e⟩
    ·rw [(hup b (List.getElem?_eq_some_iff.1 hb).1).1]
     exact H.tag b x hb
    ·cases e)⟩ hup (by simp) ?_)
   ·rcases split hb with ⟨x,hb⟩ | ⟨rfl,rfl⟩
    ·cases hlv : o.live with
     | false => cases o <;> first | trivial | exact (hup b (List.getElem?_eq_some_iff.1 hb).1).1.trans (H.obj b _ hb) | cases hlv
     | true =>
      have := (H.obj b o hb).congr hup (Nat.le_of_lt (by simp : h.length < (h ++ [AObj.cells c2 true sz]).length)) x
      rw [(ro b x).1,(kp _ (H.rd b o hb hlv)).1]
      exact this
    ·have hr := H'.obj k _ hk1
     rw [rn.1]
     match w'.heap[ρ'.blk k]?,hr with
     | some (.cells c' ty fr),⟨h1,h2,h3,h4⟩ =>
      refine ⟨fun i v hv => ?_,h2,fun hz => by rw [rn.2]; exact h3 hz,h4⟩
      have v0 : VOk 0 v := (LOk_iff _).1 hk2 v (List.mem_of_getElem? hv)
      rcases h1 i v hv with u | ⟨_,a2,a3⟩
      ·exact .inl u
      ·exact .inr ⟨VOk.mono (Nat.zero_le _) v v0,a2,by rw [a3,ren0 v v0,ren0 v v0]⟩
   ·rcases split hb with ⟨x,hb⟩ | ⟨rfl,rfl⟩
    ·rcases split hb' with ⟨x',hb'⟩ | ⟨rfl,rfl⟩
     ·rw [(ro b x).1,(ro b' x').1] at e
      exact H.inj _ _ _ _ hb hb' l l' lw e
     ·rw [(ro b x).1,rn.1] at e
      exact absurd e.symm (nw _ (H.rd b o hb l))
    ·rcases split hb' with ⟨x',hb'⟩ | ⟨rfl,rfl⟩
     ·rw [(ro b' x').1,rn.1] at e
      exact absurd e (nw _ (H.rd b' o' hb' l'))
     ·rfl
   ·rcases split hb with ⟨x,hb⟩ | ⟨rfl,rfl⟩
    ·rw [(ro b x).1]
     exact (kp _ (H.rd b o hb hl)).2
    ·rw [rn.1]
     exact H'.rd k _ hk1 rfl
   ·rcases split hb with ⟨x,hb⟩ | ⟨rfl,rfl⟩
    ·rw [(ro b x).1]
     exact H'.keptW _ (H.wr b o hb hw)
    ·rw [rn.1]
     exact H'.wr k _ hk1 rfl
   ·obtain ⟨a1,a2,a3⟩ := H.kept b o hb
    refine ⟨by rw [(kp b a2).1]; exact a1,(kp b a2).2,fun a oa ha hw => ?_⟩
    rcases split ha with ⟨x,ha⟩ | ⟨rfl,rfl⟩
    ·rw [(ro a x).1]
     exact a3 a oa ha hw
    ·rw [rn.1]
     exact nw b a2
   ·rcases hv with e | ⟨_,e⟩
    ·exact absurd e hk3
    ·refine .inr ⟨by simpa using hk4,?_⟩
     rw [e,ren_sub,ren_sub]
     congr 1
     show Env.mk (fun _ => ρ'.blk k) (fun _ => ρ'.cap k) = Env.mk (fun _ => ρ2.blk h.length) (fun _ => ρ2.cap h.length)
     rw [rn.1,rn.2]
noncomputable def isInts (l : List Int) (e : Int) : KB := fun v x =>
 match v with
 | .tuple ⟨[.slice (some ⟨k,0,none⟩) n _,.int .i64 e']⟩ => (Nat.beq n l.length && decide (e' = e)) && hg x k fun o =>
  match o with
  | .cells c true _ => simL eqP c (l.map vint)
  | _ => false
 | _ => false
def isTwo (a b : Int) : KB := fun v _ =>
 match v with
 | .tuple ⟨[.int .i64 a',.int .i64 b']⟩ => decide (a' = a) && decide (b' = b)
 | _ => false
theorem isInts_t {l : List Int} {e : Int} {v : Value} {h' : List AObj} (hx : KP (isInts l e) v h') : ∃ k c sz,h'[k]? = some (.cells (l.map vint) true sz) ∧ v = .tuple ⟨[.slice (some ⟨k,0,none⟩) l.length c,vint e]⟩ := by
 obtain ⟨x,rfl,hx⟩ := hx
 unfold isInts at hx
 split at hx
 ·rename_i k n c e'
  obtain ⟨a,hy⟩ := and_t hx
  clear hx
  obtain ⟨a1,a2⟩ := and_t a
  have a1 := Nat.eq_of_beq_eq_true a1
  have a2 : e' = e := of_decide_eq_true a2
  subst a1 a2
  obtain ⟨o,ho,hz⟩ := hg_t hy
  clear hy
  split at hz
  ·rename_i cs sz
   have := simL_t (g := id) (fun a b h => eqP_t h) hz
   rw [List.map_id] at this
   exact ⟨k,c,sz,by rw [this]; exact ho,rfl⟩
  ·cases hz
 ·cases hx
theorem isTwo_t {a b : Int} {v : Value} {h' : List AObj} (hx : KP (isTwo a b) v h') : v = .tuple ⟨[vint a,vint b]⟩ := by
 obtain ⟨x,rfl,hx⟩ := hx
 unfold isTwo at hx
 split at hx
 ·obtain ⟨a1,a2⟩ := and_t hx
  have a1 := of_decide_eq_true a1
  have a2 := of_decide_eq_true a2
  subst a1 a2
  rfl
 ·cases hx
theorem run_ints {l : List Int} {e : Int} (hT : TagFree J) (hg : Good P J g args h0 (KP (isInts l e))) (hcl : callable P g = true) (hlt : g < P.funcs.size) (L : Lies σ h0 h) (ha : ∀ v ∈ args,VOk h0.length v)
  (hk : ∀ c sz,K' (.tuple ⟨[.slice (some ⟨h.length,0,none⟩) l.length c,vint e]⟩) (h ++ [.cells (l.map vint) true sz])) : Good P J g (args.map (sub σ)) h K' :=
 good_in hT hg hcl hlt L ha fun v h' hx => by
  obtain ⟨k,c,sz,hk1,rfl⟩ := isInts_t hx
  refine .inr ⟨k,_,sz,.tuple ⟨[.slice (some ⟨0,0,none⟩) l.length c,vint e]⟩,hk1,?_,by simp [sub,subA,subL],by simp [unk],?_,?_⟩
  ·rw [LOk_iff]
   intro v hv
   obtain ⟨x,_,rfl⟩ := List.mem_map.1 hv
   simp [VOk]
  ·simp [sub,subA,subL,VOk,AOk,LOk,AddrOk]
  ·simpa [sub,subA,subL] using hk c sz
theorem run_two {a b : Int} (hT : TagFree J) (hg : Good P J g args h0 (KP (isTwo a b))) (hcl : callable P g = true) (hlt : g < P.funcs.size) (L : Lies σ h0 h) (ha : ∀ v ∈ args,VOk h0.length v)
  (hk : K' (.tuple ⟨[vint a,vint b]⟩) h) : Good P J g (args.map (sub σ)) h K' :=
 good_in hT hg hcl hlt L ha fun v h' hx => by
  cases isTwo_t hx
  exact .inl ⟨by simp [VOk,AOk,LOk],hk⟩
end
end Go.Proofs.YtcmgjbflljmphaaGreatDoor
namespace Go.Proofs.YtcmgjbflljmphaaGreatDoor
open Go.Conc Go.Proofs.Tryz
set_option maxRecDepth 100000
def exV (p : Nat) : Value := .agg ⟨troCells exTro (.slice (some ⟨p,0,none⟩) 2 2)⟩
def exF : AObj := .cells [vint 4,vint 3,vint 5,vint 4] false 0
def exH1 : XH := ⟨1,.node exF .nil .nil⟩
def exH (l : List Int) : XH := ⟨2,.node exF (.node (.cells (l.map vint) false 0) .nil .nil) .nil⟩
theorem run37 : xcall prog 200 15 [exV 0,.slice (some ⟨1,0,none⟩) 3 3,vint 4] (exH [0,1,-1]) (isInts [5,3,6,5] 0) = true := by kernel_rfl
theorem run38 : xcall prog 200 17 [exV 0,.slice (some ⟨1,0,none⟩) 2 2] (exH [0,1]) (isTwo 2 0) = true := by kernel_rfl
theorem run39 : xcall prog 200 18 [exV 0] exH1 (isInts [-1,0,1] 0) = true := by kernel_rfl
theorem run34 : xcall prog 200 20 [exTro.well.val,.agg ⟨[vint 12,vint 20,vint 1,vint 4,vint 3,vint 2]⟩,.agg ⟨[vint 3,vint 2,vint 2]⟩,vint 0,vint 3] ⟨0,.nil⟩ (isTwo 4 0) = true := by kernel_rfl
section
variable {main : Bool} {J : JT} {h : List AObj} {K : Value → List AObj → Prop} {p q : Nat}
theorem lies1 {wr : Bool} (hp : h[p]? = some (.cells (exTro.flocks.flatMap Dro.cells) wr 0)) : Lies (fun _ => p) (hOf exH1) h := by
 have e : hOf exH1 = [exF] := rfl
 rw [e]
 refine ⟨fun i o hi => ?_,fun i j hi hj _ => by simp at hi hj; omega⟩
 match i,hi with
 | 0,hi =>
  cases hi
  exact ⟨_,wr,rfl,by simp [LOk,VOk],hp⟩
theorem lies2 {l : List Int} {wr wr2 : Bool} (hp : h[p]? = some (.cells (exTro.flocks.flatMap Dro.cells) wr 0)) (hq : h[q]? = some (.cells (l.map vint) wr2 0)) (hne : p ≠ q) : Lies (fun i => if i = 0 then p else q) (hOf (exH l)) h := by
 have e : hOf (exH l) = [exF,.cells (l.map vint) false 0] := rfl
 have hs : ∀ v ∈ l.map vint,sub (fun i => if i = 0 then p else q) v = v := fun v hv => by
  obtain ⟨x,_,rfl⟩ := List.mem_map.1 hv
  simp [sub]
 rw [e]
 refine ⟨fun i o hi => ?_,fun i j hi hj he => ?_⟩
 ·match i,hi with
  | 0,hi =>
   cases hi
   exact ⟨_,wr,rfl,by simp [LOk,VOk],hp⟩
  | 1,hi =>
   cases hi
   refine ⟨_,wr2,rfl,ints_ok _ _,?_⟩
   rw [List.map_congr_left hs,List.map_id']
   exact hq
 ·simp at hi hj
  have hi2 : i = 0 ∨ i = 1 := by omega
  have hj2 : j = 0 ∨ j = 1 := by omega
  rcases hi2 with rfl | rfl <;> rcases hj2 with rfl | rfl <;> simp at he ⊢ <;> omega
theorem ex37 (hT : TagFree J) (hJ : Closed prog main J) {wr wr2 : Bool} (hp : h[p]? = some (.cells (exTro.flocks.flatMap Dro.cells) wr 0)) (hq : h[q]? = some (.cells ([0,1,-1].map vint) wr2 0)) (hne : p ≠ q)
  (hK : ∀ H lv,SameX [] h H → Sli H lv 1 4 [vint 5,vint 3,vint 6,vint 5] → K (.tuple ⟨[lv,vint 0]⟩) H) : Good prog J 15 [exV p,.slice (some ⟨q,0,none⟩) 3 3,vint 4] h K := by
 have hg := (x_sound mixed 200 main J hJ).1 15 _ _ _ run37
 have := run_ints (K' := K) hT hg (by kernel_rfl) (blt_t (by kernel_rfl : Nat.blt 15 prog.funcs.size = true)) (lies2 hp hq hne) (by simp [exV,troCells,VOk,AOk,LOk,AddrOk,exH,hOf]) fun c sz => hK _ _ SameX.refl.app (sli_new (wr := true) (sz := sz) (by simp) rfl rfl)
 simpa [sub,subA,subL,exV,troCells] using this
theorem ex38 (hT : TagFree J) (hJ : Closed prog main J) {wr wr2 : Bool} (hp : h[p]? = some (.cells (exTro.flocks.flatMap Dro.cells) wr 0)) (hq : h[q]? = some (.cells ([0,1].map vint) wr2 0)) (hne : p ≠ q)
  (hK : K (.tuple ⟨[vint 2,vint 0]⟩) h) : Good prog J 17 [exV p,.slice (some ⟨q,0,none⟩) 2 2] h K := by
 have hg := (x_sound mixed 200 main J hJ).1 17 _ _ _ run38
 have := run_two (K' := K) hT hg (by kernel_rfl) (blt_t (by kernel_rfl : Nat.blt 17 prog.funcs.size = true)) (lies2 hp hq hne) (by simp [exV,troCells,VOk,AOk,LOk,AddrOk,exH,hOf]) hK
 simpa [sub,subA,subL,exV,troCells] using this
theorem ex39 (hT : TagFree J) (hJ : Closed prog main J) {wr : Bool} (hp : h[p]? = some (.cells (exTro.flocks.flatMap Dro.cells) wr 0))
  (hK : ∀ H lv,SameX [] h H → Sli H lv 1 3 [vint (-1),vint 0,vint 1] → K (.tuple ⟨[lv,vint 0]⟩) H) : Good prog J 18 [exV p] h K := by
 have hg := (x_sound mixed 200 main J hJ).1 18 _ _ _ run39
 have := run_ints (K' := K) hT hg (by kernel_rfl) (blt_t (by kernel_rfl : Nat.blt 18 prog.funcs.size = true)) (lies1 hp) (by simp [exV,troCells,VOk,AOk,LOk,AddrOk,exH1,hOf]) fun c sz => hK _ _ SameX.refl.app (sli_new (wr := true) (sz := sz) (by simp) rfl rfl)
 simpa [sub,subA,subL,exV,troCells] using this
theorem ex34 (hT : TagFree J) (hJ : Closed prog main J) (hK : K (.tuple ⟨[vint 4,vint 0]⟩) h) : Good prog J 20 [exTro.well.val,.agg ⟨[vint 12,vint 20,vint 1,vint 4,vint 3,vint 2]⟩,.agg ⟨[vint 3,vint 2,vint 2]⟩,vint 0,vint 3] h K := by
 have hg := (x_sound mixed 200 main J hJ).1 20 _ _ _ run34
 refine good_frame hT hg (by kernel_rfl) (blt_t (by kernel_rfl : Nat.blt 20 prog.funcs.size = true)) (by simp [exTro,Wel.val,Wel.cells,VOk,AOk,LOk]) fun v h' hx => ?_
 cases isTwo_t hx
 exact ⟨by simp [VOk,AOk,LOk],hK⟩
end
section
variable {W0 : World} {Post : Value → World → Prop} {h : List AObj} {K : Value → List AObj → Prop}
theorem fld_wel {fv : Value} {KV : Value → Prop} (hk : KV exTro.well.val) : aField true 3 0 (.agg ⟨troCells exTro fv⟩) KV :=
 ⟨(Nat.le_of_ble_eq_true rfl : 0 + 3 ≤ 4),hk⟩
theorem good19f (hK : ∀ H,SameX [] (unch h) H → K (.bool true) H) : Good prog (J1 prog W0 Post) 6 [] h K := by
 have hJ := J1.closed prog W0 Post
 refine g6 hJ fun ok => ?_
 rw [e6]
 refine good16 hJ fun H1 f1 S1 q1 T1 => ?_
 refine ⟨by decide,fill_one rfl rfl rfl (by decide) (fill_one rfl rfl rfl (by decide) (fill_one rfl rfl rfl (by decide) (fillI (qNew fun H2 p2 e2 S2 c2 l2 => ?_))))⟩
 have := lt_of_get q1
 refine ex37 (J1.tagFree _ _ _) hJ (S2.get q1 (by simp)) c2 (by omega) fun H3 lv S3 L3 => ?_
 refine vext0 (vext1 ?_)
 refine good16 hJ fun H4 f4 S4 q4 T4 => ?_
 refine ⟨by decide,fill_one rfl rfl rfl (by decide) (fill_one rfl rfl rfl (by decide) (fillI (qNew fun H5 p5 e5 S5 c5 l5 => ?_)))⟩
 have := lt_of_get q4
 refine ex38 (J1.tagFree _ _ _) hJ (S5.get q4 (by simp)) c5 (by omega) ?_
 refine vext0 (vext1 ?_)
 refine good16 hJ fun H7 f7 S7 q7 T7 => ?_
 refine ex39 (J1.tagFree _ _ _) hJ q7 fun H8 rv S8 R8 => ?_
 refine vext0 (vext1 ?_)
 refine good16 hJ fun H9 f9 S9 q9 T9 => ?_
 refine ⟨by decide,fill_one rfl rfl rfl (by decide) (fill_one rfl rfl rfl (by decide) (fillI (qNew fun H10 p10 e10 S10 c10 l10 => ?_)))⟩
 have s10 := ownX_sli (ownX_new (s := 1) (n := 2) (l := [vint 2,vint 0]) c10 rfl rfl)
 refine good19 (t := exTro) (cs := [2,0]) ⟨T9.val,S10.sli T9.fl (by simp)⟩ s10 (by decide) (fun he => absurd ex_servE he) (fun _ hp => absurd hp (by rw [ex_pick]; decide)) fun _ i c os H hp hos S O => ?_
 have hi : i = 1 := by
  rw [ex_pick] at hp
  omega
 subst hi
 have ho : os = [1,0] := by
  rw [ex_all] at hos
  exact (Option.some.inj hos).symm
 subst ho
 rw [ex_wait]
 -- what is kept till the end
 have A10 : SameX [] H3 H10 := (((S4.trans S5).trans S7).trans S8).trans (S9.trans S10)
 have B10 : SameX [] H8 H10 := S9.trans S10
 have L : Sli H lv 1 4 [vint 5,vint 3,vint 6,vint 5] := S.sli (unch_sli (A10.sli L3 (by simp))) (by simp)
 have R : Sli H rv 1 3 [vint (-1),vint 0,vint 1] := S.sli (unch_sli (B10.sli R8 (by simp))) (by simp)
 show aExt _ 0 _
 refine good16 hJ fun H11 f11 S11 q11 T11 => ?_
 rw [T11.val]
 refine fld_wel ?_
 refine good21 hJ (good22 hJ (ex34 (J1.tagFree _ _ _) hJ (vext0 (vext1 ?_))))
 have S11' : SameX [] H H11 := S11
 have ct : ∀ {a b : Int} {A B : Prop},a = b → A → cnd (.bool (decide (a = b))) A B := fun e hA => by rw [decide_eq_true e]; exact cnd_true.2 hA
 refine eqlI (ct rfl (eqlI (ct rfl (eqlI (ct rfl (eqlI (ct rfl (eqlI (ct rfl (eqlI (ct rfl (eqlI (ct rfl (eqlI (ct rfl ?_)))))))))))))))
 refine ⟨by decide,fill_one rfl rfl rfl (by decide) (fill_one rfl rfl rfl (by decide) (fill_one rfl rfl rfl (by decide) (fill_one rfl rfl rfl (by decide) (fillI (qNew fun H13 p13 e13 S13 c13 l13 => ?_)))))⟩
 have s13 := ownX_sli (ownX_new (s := 1) (n := 4) (l := [vint 5,vint 3,vint 6,vint 5]) c13 rfl rfl)
 have S1113 : SameX [] H H13 := S11'.trans S13
 refine good23 (xs := [5,3,6,5]) (ys := [5,3,6,5]) hJ (S1113.sli L (by simp)) s13 (by decide) (cnd_true.2 ?_)
 refine ⟨by decide,fill_one rfl rfl rfl (by decide) (fill_one rfl rfl rfl (by decide) (fill_one rfl rfl rfl (by decide) (fillI (qNew fun H14 p14 e14 S14 c14 l14 => ?_))))⟩
 have s14 := ownX_sli (ownX_new (s := 1) (n := 3) (l := [vint (-1),vint 0,vint 1]) c14 rfl rfl)
 refine good23 (xs := [-1,0,1]) (ys := [-1,0,1]) hJ ((S1113.trans S14).sli R (by simp)) s14 (by decide) (cnd_true.2 ?_)
 refine ⟨by decide,fill_one rfl rfl rfl (by decide) (fill_one rfl rfl rfl (by decide) (fillI (qNew fun H15 p15 e15 S15 c15 l15 => ?_)))⟩
 have s15 := ownX_sli (ownX_new (s := 1) (n := 2) (l := [vint 1,vint 0]) c15 rfl rfl)
 refine good23 (xs := [1,0]) (ys := [1,0]) hJ (((S1113.trans S14).trans S15).sli O (by simp)) s15 (by decide) ?_
 have A0 : SameX [] h H10 := ((S1.trans S2).trans S3).trans A10
 have U : SameX [] (unch h) (unch H10) := by
  have := same_unch (g := []) A0
  rwa [List.append_nil] at this
 exact retL_same (by simp [unk]) (hK _ (((U.trans S).trans (S1113.trans S14)).trans S15))
theorem good6 (hK : ∀ H,K (.bool true) H) : Good prog (J1 prog W0 Post) 6 [] h K := good19f fun H _ => hK H
end
end Go.Proofs.YtcmgjbflljmphaaGreatDoor
