/- Parts of the proof, 4. No conditions. -/
import Derived.Test.YtlladcglhjlbpaaGreatDoorK3
import Derived.Conc.Holds
import Derived.Conc.Beside
import Derived.Test.YtlladcglhjlbpaaGreatDoorK2
namespace Go.Proofs.YtlladcglhjlbpaaGreatDoor
open Go.Conc
abbrev QB := Exit → T Value → List Nat → XH → Bool
noncomputable def xjump (pend : Option Code) (Q : QB) (l : T Value) (ds : List Nat) (h : XH) : Bool :=
 match pend with
 | none => Q .normal l ds h
 | some .ret => Q .ret l ds h
 | some (.exit id) => Q (.exit id) l ds h
 | _ => false
noncomputable def seqQ (Q : QB) (k : T Value → List Nat → XH → Bool) : QB := fun e l ds h =>
 match e with
 | .normal => k l ds h
 | e => Q e l ds h
noncomputable def blkQ (id : Nat) (Q : QB) : QB := fun e l ds h =>
 match e with
 | .exit i => bif i == id then Q .normal l ds h else Q (.exit i) l ds h
 | e => Q e l ds h
noncomputable def xcnd (v : Value) (a b : Bool) : Bool :=
 match v with
 | .bool true => a
 | .bool false => b
 | _ => false
noncomputable def xrange (P : Program) (C : CB) (N fn : Nat) (v : Value) (params : Array Tmp) (assign body : Code) (l : T Value) (ds : List Nat) (x : XH) (Q : QB) : Bool :=
 match v with
 | .func (.func g) ⟨first⟩ ⟨cap⟩ => (Nat.blt fn 1000000 && (Nat.blt g P.funcs.size && callable P g)) && hpush x .deferred fun h => hpush h (.loop .ready none fn (gt l) N params assign body x.n) fun y =>
  C g (first ++ [.func (.yield (x.n + 1)) ⟨[]⟩ ⟨[]⟩] ++ cap) y fun _ h' => hg h' (x.n + 1) fun o =>
   match o with
   | .loop st pend _ _ _ _ _ _ _ => !(st == .busy) && hset h' (x.n + 1) .dead fun h' => xjump pend Q l (x.n :: ds) h'
   | _ => false
 | _ => false
def ordF (P : Program) (ops : Array Oper) : Nat → Array Bool → List Nat
 | 0,_ => []
 | n + 1,L => match pickN P ops L with
  | some i => i :: ordF P ops n (L.setIfInBounds i true)
  | none => match Region.ready .any ops L with
   | [] => []
   | i :: _ => i :: ordF P ops n (L.setIfInBounds i true)
def multi (P : Program) (ops : Array Oper) : Nat → Array Bool → Bool
 | 0,_ => false
 | n + 1,L => match pickN P ops L with
  | some i => multi P ops n (L.setIfInBounds i true)
  | none => match Region.ready .any ops L with
   | [] => false
   | [i] => multi P ops n (L.setIfInBounds i true)
   | _ => true
def blkV : Value → Option Nat
 | .pointer (some a) => some a.block
 | .slice (some a) _ _ => some a.block
 | .map (some b) => some b
 | _ => none
def sg : List (Nat × Nat) → Nat → Nat
 | [],b => b
 | (a,c) :: l,b => bif Nat.beq a b then c else sg l b
def swp (l : List (Nat × Nat)) : List (Nat × Nat) := l.map fun p => (p.2,p.1)
def addP (n0 : Nat) (a b : Value) (acc : List (Nat × Nat)) (k : List (Nat × Nat) → Bool) : Bool :=
 match blkV a,blkV b with
 | some x,some y => bif Nat.ble n0 x && !(acc.any fun p => Nat.beq p.1 x) then fN x fun x => fN y fun y => k ((x,y) :: acc) else k acc
 | _,_ => k acc
noncomputable def prs (n0 : Nat) : T Value → T Value → List (Nat × Nat) → (List (Nat × Nat) → Bool) → Bool
 | .node a l r,.node b l' r',acc,k => addP n0 a b acc fun acc => prs n0 l l' acc fun acc => prs n0 r r' acc k
 | _,_,acc,k => k acc
noncomputable def simT (σ : Nat → Nat) : T Value → T Value → Bool
 | .nil,.nil => true
 | .node a l r,.node b l' r' => simV σ a b && simT σ l l' && simT σ r r'
 | _,_ => false
def isDead : AObj → Bool
 | .dead => true
 | _ => false
noncomputable def xsim (n0 : Nat) (l1 : T Value) (x1 : XH) (l2 : T Value) (x2 : XH) : Bool :=
 prs n0 l1 l2 [] fun s => (s.all fun p => Nat.ble n0 p.1) && simT (sg s) l1 l2 &&
  (List.range x1.n).all fun i => (Nat.beq (sg (swp s) (sg s i)) i) && ((isDead (tget .dead x1.t i)) || hg x2 (sg s i) fun o => simO (sg s) (tget .dead x1.t i) o)
noncomputable def xjoin (P : Program) (C : CB) (N : Nat) (ops : Array Oper) (l : T Value) (x : XH) (k : T Value → XH → Bool) : Bool :=
 xops P C N ops (ordF P ops ops.size (Array.replicate ops.size false)) l x [] fun l1 x1 => xdraw P C N ops l x (fun l2 x2 => xsim x.n l1 x1 l2 x2) && k l1 x1
def joinOf (P : Program) : Code → Option (Array Oper)
 | .region _ ops true => bif multi P ops ops.size (Array.replicate ops.size false) then some ops else none
 | _ => none
noncomputable def xseq (P : Program) (C : CB) (N : Nat) (a : Code) (ra rb : T Value → List Nat → XH → QB → Bool) (l : T Value) (ds : List Nat) (h : XH) (Q : QB) : Bool :=
 match joinOf P a with
 | some ops => xjoin P C N ops l h fun l h => rb l ds h Q
 | none => ra l ds h (seqQ Q fun l ds h => rb l ds h Q)
noncomputable def xC (P : Program) (C : CB) (N fn : Nat) (lp : Code → T Value → List Nat → XH → QB → Bool) (c : Code) : T Value → List Nat → XH → QB → Bool :=
 Code.rec (motive := fun _ => T Value → List Nat → XH → QB → Bool)
  (fun l ds h Q => Q .normal l ds h)
  (fun _ ops draw l ds h Q => bif draw then xdraw P C N ops l h fun l h => Q .normal l ds h else xops P C N ops (List.range ops.size) l h [] fun l h => Q .normal l ds h)
  (fun a _ iha ihb l ds h Q => xseq P C N a iha ihb l ds h Q)
  (fun c _ _ iha ihb l ds h Q => xcnd (ev (gt l) c) (iha l ds h Q) (ihb l ds h Q))
  (fun id _ ih l ds h Q => ih l ds h (blkQ id Q))
  (fun b _ l ds h Q => lp b l ds h Q)
  (fun fop params assign body _ _ l ds h Q => xrange P C N fn (ev (gt l) fop) params assign body l ds h Q)
  (fun id l ds h Q => Q (.exit id) l ds h)
  (fun _ ih l ds h Q => ih l ds h Q)
  (fun _ l ds h Q => Q .normal l ds h)
  (fun _ _ _ _ _ => false)
  (fun l ds h Q => Q .ret l ds h)
  (fun _ _ _ _ _ => false) c
noncomputable def xtake : List Nat → XH → (XH → Bool) → Bool
 | [],h,K => K h
 | d :: ds,h,K => hg h d fun o => match o with
  | .deferred => hset h d .dead fun h => xtake ds h K
  | _ => false
def isU : Value → Bool
 | .tuple ⟨[.tuple ⟨[]⟩]⟩ => true
 | _ => false
noncomputable def xres (P : Program) : List ResultVar → (Nat → Value) → XH → (List Value → Bool) → Bool
 | [],_,_,K => K []
 | .tmp t :: rs,r,h,K => fV (r t) fun v => !isU v && xres P rs r h fun vs => K (v :: vs)
 | .cell a t :: rs,r,h,K => match tk P t with
  | some (g,s) => xLoad g s (r a) h fun v => xres P rs r h fun vs => K (v :: vs)
  | none => false
noncomputable def xputs : T Value → List Nat → List Value → (T Value → Bool) → Bool
 | l,t :: ts,v :: vs,K => tset unk 9 l t v fun l => xputs l ts vs K
 | l,_,_,K => K l
noncomputable def xroundC (l : Nat) (K : KB) (e : Exit) (h : XH) (o : AObj) : Bool :=
 match o with
 | .loop _ _ fn r size params assign body dfr =>
  match e with
  | .normal => hset h l (.loop .ready none fn r size params assign body dfr) fun h => K (.bool true) h
  | .exit id => hset h l (.loop .done (some (.exit id)) fn r size params assign body dfr) fun h => K (.bool false) h
  | .ret => hset h l (.loop .done (some .ret) fn r size params assign body dfr) fun h => K (.bool false) h
  | _ => false
 | _ => false
noncomputable def xround (l : Nat) (K : KB) : QB := fun e _ _ h => hg h l (xroundC l K e h)
noncomputable def xret (P : Program) (rs : List ResultVar) (K : KB) : QB := fun e l ds h =>
 match e with
 | .normal | .ret => xtake ds h fun h => xres P rs (gt l) h fun vs => K (pack vs) h
 | _ => false
noncomputable def regT (r : Nat → Value) : Nat → (T Value → Bool) → Bool
 | 0,k => k .nil
 | n + 1,k => regT r n fun l => fV (r n) fun v => tset unk 9 l n v k
noncomputable def xenter (P : Program) (C : CB) (lp : Nat → Nat → Code → T Value → List Nat → XH → QB → Bool) (g : FuncId) (args : List Value) (h : XH) (K : KB) (fn : Func) : Bool :=
 match fn.body with
 | some c => (Nat.ble args.length fn.ntmps && !(fn.name == "runtime.NumGoroutine")) && xputs .nil (List.range args.length) args fun l =>
  xC P C fn.ntmps g (lp fn.ntmps g) c l [] h (xret P fn.results.toList K)
 | none => false
noncomputable def xinto (P : Program) (C : CB) (lp : Nat → Nat → Code → T Value → List Nat → XH → QB → Bool) (l : Nat) (args : List Value) (h : XH) (K : KB) (o : AObj) : Bool :=
 match o with
 | .loop .ready _ fn r size params assign body _ => (params.size == args.length && params.toList.all fun t => Nat.blt t size) && regT r size fun t => xputs t params.toList args fun t =>
  xC P C size (fn + 1000000) (lp size (fn + 1000000)) assign t [] h fun e t ds h =>
   match e,ds with
   | .normal,[] => hg h l fun o => match o with
    | .loop .ready pend fn' r' size' params' assign' body' dfr' => hset h l (.loop .busy pend fn' r' size' params' assign' body' dfr') fun h =>
     xC P C size (fn + 1000000) (lp size (fn + 1000000)) body t [] h (xround l K)
    | _ => false
   | _,_ => false
 | _ => false
mutual
/-- A call. -/
noncomputable def xcall (P : Program) : Nat → CB
 | 0,_,_,_,_ => false
 | n + 1,g,args,h,K =>
  match P.funcs[g]? with
  | some fn => xenter P (xcall P n) (xloop P n) g args h K fn
  | none => Nat.ble P.funcs.size g && hg h (g - P.funcs.size) (xinto P (xcall P n) (xloop P n) (g - P.funcs.size) args h K)
/-- A loop. -/
noncomputable def xloop (P : Program) : Nat → Nat → Nat → Code → T Value → List Nat → XH → QB → Bool
 | 0,_,_,_,_,_,_,_ => false
 | n + 1,N,fn,b,l,ds,h,Q => xC P (xcall P n) N fn (xloop P n N fn) b l ds h (seqQ Q fun l ds h => xloop P n N fn b l ds h Q)
end
def JF : JT := fun _ _ _ => False
theorem closedF (P : Program) (main : Bool) : Closed P main JF where
 rely := fun h _ => h
 step := fun _ h => by
  obtain ⟨_,_,_,_,_,_,h⟩ := h _ (RelyW.refl _ _)
  exact h
section
variable {P : Program} {main : Bool} {J : JT} {C : CB} {N n0 : Nat} {ds : List Nat} {fn : FuncId} {ops : Array Oper}
def QP (Q : QB) : QT := fun e f h => ∃ l ds x,f = rgOf l ds ∧ h = hOf x ∧ Q e l ds x = true
theorem xjump_t {pend : Option Code} {Q : QB} {l : T Value} {ds : List Nat} {x : XH} (hx : xjump pend Q l ds x = true) : jumpQ pend (QP Q) ⟨gt l,ds⟩ (hOf x) := by
 unfold xjump at hx
 unfold jumpQ
 split at hx
 ·exact ⟨l,ds,x,rfl,rfl,hx⟩
 ·exact ⟨l,ds,x,rfl,rfl,hx⟩
 ·exact ⟨l,ds,x,rfl,rfl,hx⟩
 ·cases hx
def LSound (J : JT) (N n0 : Nat) (fn : FuncId) (lp : Code → T Value → List Nat → XH → QB → Bool) : Prop := ∀ b l ds x Q,lp b l ds x Q = true → Sem J N n0 fn (.loop b) (rgOf l ds) (hOf x) (QP Q)
theorem first_run (hC : CSound P JF C) {todo : List Nat} {l : T Value} {x : XH} {K : LB} (hx : xops P C N ops todo l x [] K = true) {ρ : Env} {FC : Frm} {w : World} {ft : Foot} {a : Act}
  (A : ActRel (hOf x).length ρ N (rgOf l ds) a) (H : HRel ρ (hOf x) FC w ft) : ∃ l1 x1,K l1 x1 = true ∧ heapOk (hOf x1) ∧ (∀ t,gt l1 t = unk ∨ VOk (hOf x1).length (gt l1 t)) ∧ (hOf x).length ≤ (hOf x1).length := by
 have hs := SemOps_of (J := JF) (N := N) (n0 := (hOf x).length) (fn := 0) (Q := fun e f h => e = .normal ∧ LP ds K f h) (closedF P true) todo (dec := []) (fun j b e => by cases e) (by simpa using xops_t (ds := ds) hC todo (fun j b e => by cases e) (fun j hj => by cases hj) hx)
 refine Classical.byContradiction fun hn => ?_
 refine hs ⟨0,.normal,none,[]⟩ a [] [] (fun _ _ _ _ => False) ρ FC w ft rfl (by simp) (fun _ _ _ _ _ z _ => z.elim) A H (Nat.le_refl _) ?_
 intro e f' h' ρ' w' ft' a' q A' H' hu hl
 obtain ⟨rfl,l1,x1,rfl,rfl,hk⟩ := q
 exact hn ⟨l1,x1,hk,H'.ok,fun t => (A'.regs t).imp id fun z => z.1,hl⟩
theorem simT_t {σ : Nat → Nat} : ∀ {l1 l2 : T Value},simT σ l1 l2 = true → ∀ t,gt l2 t = sub σ (gt l1 t)
 | .nil,.nil,_,t => by simp [gt,tget_nil,sub_undef]
 | .node a l r,.node b l' r',hx,t => by
  unfold simT at hx
  obtain ⟨x,y⟩ := and_t hx
  obtain ⟨x,z⟩ := and_t x
  cases t with
  | zero => exact simV_t x
  | succ t =>
   unfold gt
   rw [tget_node,tget_node]
   split
   ·exact simT_t z _
   ·exact simT_t y _
 | .nil,.node b l' r',hx,t => by cases hx
 | .node a l r,.nil,hx,t => by cases hx
theorem addP_ex {n0 : Nat} {a b : Value} {acc : List (Nat × Nat)} {k : List (Nat × Nat) → Bool} (hx : addP n0 a b acc k = true) : ∃ s,k s = true := by
 unfold addP at hx
 split at hx
 ·rename_i x y _ _
  cases hc : (Nat.ble n0 x && !(acc.any fun p => Nat.beq p.1 x)) with
  | true =>
   rw [hc,cond_true,fN_eq,fN_eq] at hx
   exact ⟨_,hx⟩
  | false =>
   rw [hc,cond_false] at hx
   exact ⟨_,hx⟩
 ·exact ⟨_,hx⟩
theorem prs_ex {n0 : Nat} : ∀ (l1 l2 : T Value) {acc : List (Nat × Nat)} {k : List (Nat × Nat) → Bool},prs n0 l1 l2 acc k = true → ∃ s,k s = true
 | .node a l r,.node b l' r',acc,k,hx => by
  unfold prs at hx
  obtain ⟨s1,hx⟩ := addP_ex hx
  obtain ⟨s2,hx⟩ := prs_ex l l' hx
  exact prs_ex r r' hx
 | .nil,l2,acc,k,hx => by
  unfold prs at hx
  exact ⟨_,hx⟩
 | .node a l r,.nil,acc,k,hx => by
  unfold prs at hx
  exact ⟨_,hx⟩
theorem sg_same {n : Nat} : ∀ {s : List (Nat × Nat)},(s.all fun p => Nat.ble n p.1) = true → Same n (sg s)
 | [],_,b,_ => rfl
 | (a,c) :: l,hx,b,hb => by
  simp only [List.all_cons,Bool.and_eq_true] at hx
  have := ble_t hx.1
  unfold sg
  have hne : Nat.beq a b = false := by
   cases h : Nat.beq a b with
   | false => rfl
   | true => have := Nat.eq_of_beq_eq_true h; omega
  rw [hne,cond_false]
  exact sg_same hx.2 b hb
theorem xsim_t {n0 n1 : Nat} {l1 l2 : T Value} {x1 x2 : XH} (hx : xsim n1 l1 x1 l2 x2 = true) (ok : heapOk (hOf x1)) (hr : ∀ t,gt l1 t = unk ∨ VOk (hOf x1).length (gt l1 t)) (hn : n0 ≤ n1) (hl : n1 ≤ (hOf x1).length) (hd : ∀ d ∈ ds,d < n1) :
  ∃ σ,GCR n0 σ (rgOf l2 ds) (hOf x2) (rgOf l1 ds) (hOf x1) := by
 unfold xsim at hx
 obtain ⟨s,hx⟩ := prs_ex l1 l2 hx
 obtain ⟨a,b⟩ := and_t hx
 obtain ⟨a1,a2⟩ := and_t a
 have hs := sg_same a1
 have hb : ∀ i,i < x1.n → sg (swp s) (sg s i) = i ∧ (isDead (tget .dead x1.t i) = true ∨ hg x2 (sg s i) (fun o => simO (sg s) (tget .dead x1.t i) o) = true) := by
  intro i hi
  have := List.all_eq_true.1 b i (List.mem_range.2 hi)
  obtain ⟨p,q⟩ := and_t this
  exact ⟨Nat.eq_of_beq_eq_true p,by simpa using q⟩
 have hat : ∀ {i : Nat} {o : AObj},(hOf x1)[i]? = some o → i < x1.n ∧ o = tget .dead x1.t i := by
  intro i o hi
  have hlt := (List.getElem?_eq_some_iff.1 hi).1
  rw [hOf_len] at hlt
  refine ⟨hlt,?_⟩
  unfold hOf at hi
  rw [List.getElem?_map,List.getElem?_range hlt] at hi
  simpa using hi.symm
 refine ⟨sg s,⟨Nat.le_trans hn hl,fun b hb => hs b (Nat.lt_of_lt_of_le hb hn),fun i o hi => ?_,fun i j o o' hi hj _ _ e => ?_,ok⟩,fun t => ?_,?_,fun b hb => Nat.lt_of_lt_of_le (hd b hb) hl⟩
 ·obtain ⟨hlt,rfl⟩ := hat hi
  rcases (hb i hlt).2 with h | h
  ·left
   unfold isDead at h
   split at h
   ·assumption
   ·cases h
  ·obtain ⟨o,ho,h⟩ := hg_t h
   right
   rw [ho,(simO_t h).1]
 ·have h1 := (hb i (hat hi).1).1
  have h2 := (hb j (hat hj).1).1
  rw [← h1,← h2,e]
 ·rcases hr t with h | h
  ·exact .inl h
  ·exact .inr ⟨simT_t a2 t,h⟩
 ·show ds = ds.map (sg s)
  exact ((List.map_congr_left fun d hd' => hs d (hd d hd')).trans (List.map_id _)).symm
theorem joinOf_t {a : Code} {ops : Array Oper} (h : joinOf P a = some ops) : ∃ id,a = .region id ops true := by
 unfold joinOf at h
 split at h
 ·rename_i id ops'
  cases hm : multi P ops' ops'.size (Array.replicate ops'.size false) with
  | true => rw [hm] at h; cases h; exact ⟨id,rfl⟩
  | false => rw [hm] at h; cases h
 ·cases h
theorem xjoin_t (hJ : Closed P main J) (hm : P.follows .mixedOrders = true) (hC : CSound P J C) (hC0 : CSound P JF C) {id : Nat} {b : Code} {l : T Value} {x : XH} {k : T Value → XH → Bool} {Q : QT} (hx : xjoin P C N ops l x k = true)
  (hb : ∀ l x,k l x = true → Sem J N n0 fn b (rgOf l ds) (hOf x) Q) : Sem J N n0 fn (.seq (.region id ops true) b) (rgOf l ds) (hOf x) Q := by
 intro b' a' k' cs' L' ρ FC w ft g1 g2 g3 g4 g5 g6 gc
 unfold xjoin at hx
 obtain ⟨l1,x1,hk,ok,hr,hl⟩ := first_run (ds := ds) hC0 hx g4 g5
 obtain ⟨k1,k2⟩ := and_t hk
 have hs : Sem J N n0 fn (.seq (.region id ops true) b) (rgOf l ds) (hOf x) Q := by
  refine Sem_seq hJ ((Sem_region_draw hJ hm (Q := fun e f h => e = .normal ∧ LP ds (fun l2 x2 => xsim x.n l1 x1 l2 x2) f h) (by simpa using xdraw_t (ds := ds) hC k1)).mono ?_)
  rintro e f h ⟨rfl,l2,x2,rfl,rfl,hsim⟩
  rw [hOf_len] at hl g6
  obtain ⟨σ,hg⟩ := xsim_t (ds := ds) hsim ok hr g6 hl (fun d hd => by
   have := g4.ok d hd
   rw [hOf_len] at this
   exact this)
  exact Sem.gc hg (hb l1 x1 k2)
 exact hs b' a' k' cs' L' ρ FC w ft g1 g2 g3 g4 g5 g6 gc
theorem xseq_t (hJ : Closed P main J) (hm : P.follows .mixedOrders = true) (hC : CSound P J C) (hC0 : CSound P JF C) {a b : Code} {ra rb : T Value → List Nat → XH → QB → Bool}
  (ha : ∀ l ds x Q,ra l ds x Q = true → Sem J N n0 fn a (rgOf l ds) (hOf x) (QP Q)) (hb : ∀ l ds x Q,rb l ds x Q = true → Sem J N n0 fn b (rgOf l ds) (hOf x) (QP Q)) {l : T Value} {ds : List Nat} {x : XH} {Q : QB} (hx : xseq P C N a ra rb l ds x Q = true) :
  Sem J N n0 fn (.seq a b) (rgOf l ds) (hOf x) (QP Q) := by
 unfold xseq at hx
 split at hx
 ·rename_i ops hj
  obtain ⟨id,rfl⟩ := joinOf_t hj
  exact xjoin_t hJ hm hC hC0 hx fun l x hk => hb l ds x Q hk
 ·refine Sem_seq hJ ((ha l ds x _ hx).mono fun e f h q => ?_)
  obtain ⟨l',ds',x',rfl,rfl,hq⟩ := q
  cases e with
  | normal => exact hb _ _ _ _ hq
  | _ => exact ⟨l',ds',x',rfl,rfl,hq⟩
theorem xC_t (hJ : Closed P main J) (hm : P.follows .mixedOrders = true) (hC : CSound P J C) (hC0 : CSound P JF C) {lp : Code → T Value → List Nat → XH → QB → Bool} (hL : LSound J N n0 fn lp) : ∀ (c : Code) (l : T Value) (ds : List Nat) (x : XH) (Q : QB),xC P C N fn lp c l ds x Q = true → Sem J N n0 fn c (rgOf l ds) (hOf x) (QP Q)
 | .skip,l,ds,x,Q,hx => Sem_skip hJ ⟨l,ds,x,rfl,rfl,hx⟩
 | .label _,l,ds,x,Q,hx => Sem_label hJ ⟨l,ds,x,rfl,rfl,hx⟩
 | .ret,l,ds,x,Q,hx => Sem_ret ⟨l,ds,x,rfl,rfl,hx⟩
 | .exit id,l,ds,x,Q,hx => Sem_exit hJ ⟨l,ds,x,rfl,rfl,hx⟩
 | .seq a b,l,ds,x,Q,hx => xseq_t hJ hm hC hC0 (ra := xC P C N fn lp a) (rb := xC P C N fn lp b) (fun l ds x Q h => xC_t hJ hm hC hC0 hL a l ds x Q h) (fun l ds x Q h => xC_t hJ hm hC hC0 hL b l ds x Q h) hx
 | .cond c a b,l,ds,x,Q,hx => by
  change xcnd (ev (gt l) c) (xC P C N fn lp a l ds x Q) (xC P C N fn lp b l ds x Q) = true at hx
  unfold xcnd at hx
  split at hx
  ·rename_i e
   exact Sem_cond hJ (t := true) e (by simpa using xC_t hJ hm hC hC0 hL a l ds x Q hx)
  ·rename_i e
   exact Sem_cond hJ (t := false) e (by simpa using xC_t hJ hm hC hC0 hL b l ds x Q hx)
  ·cases hx
 | .block id a,l,ds,x,Q,hx => by
  refine Sem_block hJ ((xC_t hJ hm hC hC0 hL a l ds x (blkQ id Q) hx).mono fun e f h q => ?_)
  obtain ⟨l',ds',x',rfl,rfl,hq⟩ := q
  cases e with
  | exit i =>
   unfold blkQ at hq
   simp only at hq
   unfold blockK
   simp only
   cases hi : i == id with
   | true => rw [hi,cond_true] at hq; exact ⟨l',ds',x',rfl,rfl,hq⟩
   | false => rw [hi,cond_false] at hq; exact ⟨l',ds',x',rfl,rfl,hq⟩
  | _ => exact ⟨l',ds',x',rfl,rfl,hq⟩
 | .scope a,l,ds,x,Q,hx => Sem_scope hJ (xC_t hJ hm hC hC0 hL a l ds x Q hx)
 | .region id ops draw,l,ds,x,Q,hx => by
  change (bif draw then xdraw P C N ops l x fun l x => Q .normal l ds x else xops P C N ops (List.range ops.size) l x [] fun l x => Q .normal l ds x) = true at hx
  cases draw with
  | true =>
   rw [cond_true] at hx
   refine (Sem_region_draw hJ hm (Q := fun e f h => e = .normal ∧ LP ds (fun l x => Q .normal l ds x) f h) ?_).mono ?_
   ·simpa using xdraw_t (ds := ds) hC hx
   ·rintro e f h ⟨rfl,l',x',rfl,rfl,hq⟩
    exact ⟨l',ds,x',rfl,rfl,hq⟩
  | false =>
   rw [cond_false] at hx
   refine (Sem_region_text hJ (Q := fun e f h => e = .normal ∧ LP ds (fun l x => Q .normal l ds x) f h) ?_).mono ?_
   ·simpa using xops_t (ds := ds) hC (List.range ops.size) (dec := []) (fun j b e => by cases e) (fun j hj => by cases hj) hx
   ·rintro e f h ⟨rfl,l',x',rfl,rfl,hq⟩
    exact ⟨l',ds,x',rfl,rfl,hq⟩
 | .loop b,l,ds,x,Q,hx => hL b l ds x Q hx
 | .rangeFunc fop params assign body,l,ds,x,Q,hx => by
  change xrange P C N fn (ev (gt l) fop) params assign body l ds x Q = true at hx
  unfold xrange at hx
  split at hx
  ·rename_i g first cap e
   obtain ⟨a,hx⟩ := and_t hx
   obtain ⟨a1,a2⟩ := and_t a
   obtain ⟨a2,a3⟩ := and_t a2
   obtain ⟨y1,e1,hx⟩ := hpush_t hx
   obtain ⟨y2,e2,hx⟩ := hpush_t hx
   have hg := hC _ _ _ _ hx
   rw [← e2,← e1,← hOf_len x] at hg
   refine Sem_range hJ (blt_t a1) (f := rgOf l ds) e (blt_t a2) (hg.mono fun v h' hk => ?_) a3
   obtain ⟨x',rfl,hk⟩ := hk
   obtain ⟨o,ho,hk⟩ := hg_t hk
   split at hk
   ·rename_i st pend fn' r size params' assign' body' dfr
    obtain ⟨k1,k2⟩ := and_t hk
    obtain ⟨y,ey,k2⟩ := hset_t k2
    refine ⟨st,pend,fn',r,size,params',assign',body',dfr,ho,fun e => ?_,?_⟩
    ·subst e
     cases k1
    ·rw [ey]
     exact xjump_t k2
   ·cases hk
  ·cases hx
 | .goto _,l,ds,x,Q,hx => by cases hx
 | .refuse _,l,ds,x,Q,hx => by cases hx
theorem xtake_t : ∀ (ds : List Nat) {x : XH} {K : XH → Bool},xtake ds x K = true → takeW ds (hOf x) (HP K)
 | [],x,K,hx => ⟨x,rfl,hx⟩
 | d :: ds,x,K,hx => by
  unfold xtake at hx
  obtain ⟨o,ho,hx⟩ := hg_t hx
  split at hx
  ·obtain ⟨y,e,hx⟩ := hset_t hx
   refine ⟨ho,?_⟩
   rw [e]
   exact xtake_t ds hx
  ·cases hx
theorem takeW_mono : ∀ (ds : List Nat) {h : List AObj} {K K' : List AObj → Prop},takeW ds h K → (∀ h,K h → K' h) → takeW ds h K'
 | [],h,K,K',hx,hk => hk _ hx
 | d :: ds,h,K,K',hx,hk => ⟨hx.1,takeW_mono ds hx.2 hk⟩
theorem resW_mono : ∀ (rs : List ResultVar) {r : Nat → Value} {h : List AObj} {K K' : List Value → Prop},resW P rs r h K → (∀ vs,K vs → K' vs) → resW P rs r h K'
 | [],r,h,K,K',hx,hk => hk _ hx
 | .tmp t :: rs,r,h,K,K',hx,hk => ⟨hx.1,resW_mono rs hx.2 fun vs => hk _⟩
 | .cell a t :: rs,r,h,K,K',hx,hk => by
  unfold resW at hx ⊢
  split at hx
  ·obtain ⟨v,k1,k2⟩ := pin_aLoad _ hx
   exact k2 (fun v => resW P rs r h fun vs => K' (v :: vs)) (resW_mono rs k1 fun vs => hk _)
  ·exact hx.elim
theorem xres_t : ∀ (rs : List ResultVar) {r : Nat → Value} {x : XH} {K : List Value → Bool},xres P rs r x K = true → resW P rs r (hOf x) fun vs => K vs = true
 | [],r,x,K,hx => hx
 | .tmp t :: rs,r,x,K,hx => by
  unfold xres at hx
  rw [fV_eq] at hx
  obtain ⟨a,b⟩ := and_t hx
  refine ⟨fun e => ?_,xres_t rs b⟩
  rw [e] at a
  cases a
 | .cell a t :: rs,r,x,K,hx => by
  unfold xres at hx
  unfold resW
  split at hx
  ·rename_i e
   simp only [e]
   obtain ⟨v,k1,k2⟩ := pin_aLoad _ (xLoad_t hx)
   exact k2 (fun v => resW P rs r (hOf x) fun vs => K (v :: vs) = true) (xres_t rs k1)
  ·cases hx
theorem xret_t {rs : List ResultVar} {K : KB} {e : Exit} {f : RG} {h : List AObj} (hq : QP (xret P rs K) e f h) : RetQ P rs n0 (KP K) e f h := by
 obtain ⟨l,ds,x,rfl,rfl,hq⟩ := hq
 have main : xtake ds x (fun h => xres P rs (gt l) h fun vs => K (pack vs) h) = true → takeW (rgOf l ds).ds (hOf x) fun h => resW P rs (rgOf l ds).r h fun vs => KP K (pack vs) h ∨ ∃ σ h' v,GC n0 σ h h' ∧ pack vs = sub σ v ∧ VOk h'.length v ∧ KP K v h' := by
  intro hq
  refine takeW_mono ds (xtake_t ds hq) fun h hk => ?_
  obtain ⟨y,rfl,hk⟩ := hk
  exact resW_mono rs (xres_t rs hk) fun vs hv => .inl ⟨y,rfl,hv⟩
 unfold xret at hq
 unfold RetQ
 split at hq
 ·exact main hq
 ·exact main hq
 ·cases hq
theorem xputs_t : ∀ (ts : List Nat) (vs : List Value) {l : T Value} {K : T Value → Bool},xputs l ts vs K = true → ∃ l',gt l' = putAll (gt l) ts vs ∧ K l' = true
 | [],vs,l,K,hx => by
  cases vs <;> exact ⟨l,rfl,hx⟩
 | t :: ts,[],l,K,hx => ⟨l,rfl,hx⟩
 | t :: ts,v :: vs,l,K,hx => by
  unfold xputs at hx
  obtain ⟨l1,h1,h2⟩ := tset_t _ hx
  obtain ⟨l',e1,e2⟩ := xputs_t ts vs h1
  refine ⟨l',?_,e2⟩
  show gt l' = putAll (fun i => bif i == t then v else gt l i) ts vs
  rw [gt_set h2]
  exact e1
theorem xround_t {l n0 : Nat} {K : KB} {e : Exit} {f : RG} {h : List AObj} (hq : QP (xround l K) e f h) : roundQ l n0 (KP K) e f h := by
 obtain ⟨l',ds,x,rfl,rfl,hq⟩ := hq
 obtain ⟨o,ho,hq⟩ := hg_t hq
 unfold xroundC at hq
 split at hq
 ·rename_i st pend fn r size params assign body dfr
  refine ⟨st,pend,fn,r,size,params,assign,body,dfr,ho,?_⟩
  split at hq
  ·exact .inl (hset_t hq)
  ·exact .inl (hset_t hq)
  ·exact .inl (hset_t hq)
  ·cases hq
 ·cases hq
theorem putAll_range : ∀ (args : List Value) (k : Nat) (r : Nat → Value) (t : Nat),putAll r (List.range' k args.length) args t = if k ≤ t ∧ t < k + args.length then args.getD (t - k) unk else r t
 | [],k,r,t => by
  rw [if_neg (by simp)]
  rfl
 | v :: args,k,r,t => by
  show putAll (fun i => bif i == k then v else r i) (List.range' (k + 1) args.length) args t = _
  rw [putAll_range args (k + 1)]
  simp only [List.length_cons]
  by_cases h1 : k + 1 ≤ t ∧ t < k + 1 + args.length
  ·rw [if_pos h1,if_pos (by omega)]
   have : t - k = (t - (k + 1)) + 1 := by omega
   rw [this,List.getD_cons_succ]
  ·rw [if_neg h1]
   by_cases e : t = k
   ·subst e
    rw [if_pos (by omega)]
    simp
   ·have : (t == k) = false := by simpa using e
    rw [this,if_neg (by omega)]
    rfl
theorem regT_t {r : Nat → Value} : ∀ (n : Nat) {k : T Value → Bool},regT r n k = true → ∃ l,k l = true ∧ ∀ t,gt l t = if t < n then r t else unk
 | 0,k,hx => ⟨.nil,hx,fun t => by simp [gt,tget_nil]⟩
 | n + 1,k,hx => by
  unfold regT at hx
  obtain ⟨l,h1,h2⟩ := regT_t n hx
  rw [fV_eq] at h1
  obtain ⟨l',h3,h4⟩ := tset_t _ h1
  refine ⟨l',h3,fun t => ?_⟩
  show tget unk l' t = _
  rw [h4]
  by_cases e : t = n
  ·subst e; simp
  ·rw [if_neg e]
   show gt l t = _
   rw [h2]
   by_cases e2 : t < n
   ·rw [if_pos e2,if_pos (by omega)]
   ·rw [if_neg e2,if_neg (by omega)]
theorem Sem.less {h : List AObj} {c : Code} {f f' : RG} {Q : QT} (hr : ∀ t,f'.r t = unk ∨ f'.r t = f.r t) (hd : f'.ds = f.ds) (hs : Sem J N n0 fn c f' h Q) : Sem J N n0 fn c f h Q := by
 intro b a k cs L ρ FC w ft h1 h2 h3 h4 h5 h6 hc
 refine hs b a k cs L ρ FC w ft h1 h2 h3 ⟨fun t => ?_,h4.size,by rw [hd]; exact h4.defers,by rw [hd]; exact h4.ok⟩ h5 h6 hc
 rcases hr t with e | e
 ·exact .inl e
 ·rw [e]
  exact h4.regs t
theorem putAll_less : ∀ (ps : List Nat) (vs : List Value) {r r' : Nat → Value},(∀ t,r' t = unk ∨ r' t = r t) → ∀ t,putAll r' ps vs t = unk ∨ putAll r' ps vs t = putAll r ps vs t
 | [],vs,r,r',h,t => by cases vs <;> exact h t
 | p :: ps,[],r,r',h,t => h t
 | p :: ps,v :: vs,r,r',h,t => by
  refine putAll_less ps vs (fun x => ?_) t
  by_cases e : x = p
  ·have : (x == p) = true := by simpa using e
   simp [this]
  ·have : (x == p) = false := by simpa using e
   simpa [this] using h x
def SemL (J : JT) (N n0 : Nat) (fn : FuncId) (c : Code) (f : RG) (h : List AObj) (Q : QT) : Prop :=
 ∀ (b : FB) (a : Act) (k : List Item) (cs : List Frame) (L : Option Code → Act → World → Foot → Prop) (ρ : Env) (FC : Frm) (w : World) (ft : Foot),b.tag = fn → b.kind ≠ .early → LeaveOk J b cs L →
  ActRel h.length ρ N f a → HRel ρ h FC w ft → n0 ≤ h.length → Cont J N n0 b k cs L ρ FC Q → J (G (b.at a (.code c :: .inLoop c :: k)) cs) w ft
theorem SemL_step {h : List AObj} (hJ : Closed P main J) {c : Code} {f : RG} {Q : QT} (hx : Sem J N n0 fn c f h (thenK (fun f h => SemL J N n0 fn c f h Q) Q)) : SemL J N n0 fn c f h Q := by
 intro b a k cs L ρ FC w ft h1 h2 h3 h4 h5 h6 hc
 refine hx b a (.inLoop c :: k) cs L ρ FC w ft h1 h2 h3 h4 h5 h6 fun e f' h' ρ' w' ft' a' q g1 g2 g3 g4 => ?_
 cases e with
 | normal =>
  refine hJ.ctrl rfl rfl (g' := G (b.at a' (.code c :: .inLoop c :: k)) cs) (fun w => by simp [G,stepG,stepG.exec,FB.at]) ?_
  exact q b a' k cs L ρ' FC w' ft' h1 h2 h3 g1 g2 g4 fun e f3 h3' ρ3 w3 ft3 a3 q r1 r2 r3 r4 => hc e f3 h3' ρ3 w3 ft3 a3 q r1 r2 (Env.upto_trans g3 r3) r4
 | exit id => exact AfterJ.push (fun _ => rfl) (by simp) (hc _ _ _ _ _ _ _ q g1 g2 g3 g4)
 | ret => exact AfterJ.push (fun _ => rfl) (by simp) (hc _ _ _ _ _ _ _ q g1 g2 g3 g4)
 | goto l => exact hc _ _ _ _ _ _ _ q g1 g2 g3 g4
 | panic l => exact hc _ _ _ _ _ _ _ q g1 g2 g3 g4
 | outgrown => exact hc _ _ _ _ _ _ _ q g1 g2 g3 g4
theorem Sem_of_SemL {h : List AObj} (hJ : Closed P main J) {c : Code} {f : RG} {Q : QT} (hx : SemL J N n0 fn c f h Q) : Sem J N n0 fn (.loop c) f h Q := by
 intro b a k cs L ρ FC w ft h1 h2 h3 h4 h5 h6 hc
 refine hJ.ctrl rfl rfl (g' := G (b.at a (.code c :: .inLoop c :: k)) cs) (fun w => by simp [G,stepG,stepG.exec,FB.at]) ?_
 exact hx b a k cs L ρ FC w ft h1 h2 h3 h4 h5 h6 hc
def XS (P : Program) (n : Nat) : Prop := ∀ (main : Bool) (J : JT),Closed P main J → CSound P J (xcall P n) ∧ ∀ N n0 fn b l ds x Q,xloop P n N fn b l ds x Q = true → SemL J N n0 fn b (rgOf l ds) (hOf x) (QP Q)
theorem x_sound (hm : P.follows .mixedOrders = true) : ∀ n : Nat,XS P n
 | 0 => fun main J hJ => ⟨fun g args x K hx => (by unfold xcall at hx; cases hx),fun N n0 fn b l ds x Q hx => (by unfold xloop at hx; cases hx)⟩
 | n + 1 => by
  intro main J hJ
  obtain ⟨hC,hL⟩ := x_sound hm n main J hJ
  have hC0 := (x_sound hm n true JF (closedF P true)).1
  have hL' : ∀ N n0 fn,LSound J N n0 fn (xloop P n N fn) := fun N n0 fn b l ds x Q hx => Sem_of_SemL hJ (hL N n0 fn b l ds x Q hx)
  refine ⟨fun g args x K hx => ?_,fun N n0 fn b l ds x Q hx => ?_⟩
  ·unfold xcall at hx
   split at hx
   ·rename_i fn hf
    unfold xenter at hx
    split at hx
    ·rename_i c hb
     obtain ⟨a,hx⟩ := and_t hx
     obtain ⟨a1,a2⟩ := and_t a
     have a1 := ble_t a1
     obtain ⟨l,e,hx⟩ := xputs_t _ _ hx
     refine good_of_sem hJ hf hb (by simpa using a2) a1 fun ok => ?_
     have := xC_t hJ hm hC hC0 (hL' fn.ntmps (hOf x).length g) c l [] x _ hx
     have hr : rgOf l [] = ⟨regs args,[]⟩ := by
      unfold rgOf regs
      congr 1
      rw [e,List.range_eq_range']
      funext t
      rw [putAll_range]
      by_cases ht : t < args.length
      ·rw [if_pos (by omega)]
       simp
      ·rw [if_neg (by omega),List.getD_eq_getElem?_getD,List.getElem?_eq_none (by omega)]
       rfl
     rw [hr] at this
     exact this.mono fun e f h q => xret_t q
    ·cases hx
   ·obtain ⟨a,hx⟩ := and_t hx
    obtain ⟨o,ho,hx⟩ := hg_t hx
    unfold xinto at hx
    split at hx
    ·rename_i pend fn r size params assign body dfr
     obtain ⟨a1,hx⟩ := and_t hx
     obtain ⟨a1,a2⟩ := and_t a1
     obtain ⟨l0,hx,e0⟩ := regT_t _ hx
     obtain ⟨l',e1,hx⟩ := xputs_t params.toList args hx
     have a1 : params.size = args.length := by simpa using a1
     have hyid : g = yid P (g - P.funcs.size) := (Nat.add_sub_cancel' (ble_t a)).symm
     rw [hyid]
     refine good_round hJ ho a1 (fun t ht => blt_t (List.all_eq_true.1 a2 t ht)) fun ok => ?_
     refine Sem.less (f' := rgOf l' []) (fun t => ?_) rfl ((xC_t hJ hm hC hC0 (hL' size (hOf x).length (fn + 1000000)) assign l' [] x _ hx).mono fun e f h1 q => ?_)
     ·show gt l' t = unk ∨ gt l' t = putAll r params.toList args t
      rw [e1]
      refine putAll_less _ _ (fun x => ?_) t
      rw [e0]
      split
      ·exact .inr rfl
      ·exact .inl rfl
     ·obtain ⟨l2,ds2,x2,rfl,rfl,hq⟩ := q
      simp only at hq
      split at hq
      ·obtain ⟨o2,ho2,hq⟩ := hg_t hq
       split at hq
       ·rename_i pend' fn' r' size' params' assign' body' dfr'
        obtain ⟨y,ey,hq⟩ := hset_t hq
        refine ⟨rfl,pend',fn',r',size',params',assign',body',dfr',ho2,?_⟩
        rw [ey]
        exact (xC_t hJ hm hC hC0 (hL' size (hOf x).length (fn + 1000000)) body l2 [] y _ hq).mono fun e f h2 q => xround_t q
       ·cases hq
      ·cases hq
    ·cases hx
  ·unfold xloop at hx
   refine SemL_step hJ ((xC_t hJ hm hC hC0 (hL' N n0 fn) b l ds x _ hx).mono fun e f h q => ?_)
   obtain ⟨l',ds',x',rfl,rfl,hq⟩ := q
   cases e with
   | normal => exact hL N n0 fn b l' ds' x' Q hq
   | _ => exact ⟨l',ds',x',rfl,rfl,hq⟩
end
end Go.Proofs.YtlladcglhjlbpaaGreatDoor
namespace Go.Proofs.YtlladcglhjlbpaaGreatDoor
open Go.Conc
open Go.ConcN (sumTo upd sumTo_upd upd_ne upd_same)
def Ends (P : Program) (Post : Value → World → Prop) (m : Machine) (t : Trace) : Prop :=
 ∃ N last o w' t',runNT P (N + 1) m t = (.ended o w',t') ∧ runN P N m = .next last ∧ step P last = .ended o w' ∧ Go.Conc.Good P Post last o w' t'
structure Base (W0 w : World) : Prop where
 tape : w.tape = W0.tape
 os : w.os = W0.os
 output : w.output = W0.output
 size : W0.heap.size ≤ w.heap.size
def J1 (P : Program) (W0 : World) (Post : Value → World → Prop) (g : Goroutine) (w : World) (ft : Foot) : Prop :=
 ∀ (gs : Array Goroutine) (w₁ : World) (sl : Option (Nat × Nat)) (t : Trace) (q : Nat → Nat),(∀ b,ft.rd b → b < w₁.heap.size) → (∀ b,ft.wr b → ft.rd b) → RelyW ft w w₁ → Base W0 w₁ → gs[0]? = some g → Leavers P t gs q → Past (fun _ => False) w₁.heap.size t →
  Ends P Post (crowd gs w₁ sl) t
def TagFree (J : JT) : Prop := ∀ (g : Goroutine) (w : World) (ft : Foot) (x : Nat),J g w { ft with tag := x } → J g w ft
theorem J1.tagFree (P : Program) (W0 : World) (Post : Value → World → Prop) : TagFree (J1 P W0 Post) := fun _g _w _ft _x h gs w₁ sl t q h1 h2 h3 h4 h5 h6 h7 =>
 h gs w₁ sl t q h1 h2 ⟨h3.heap,h3.size,h3.tape,h3.os,h3.output⟩ h4 h5 h6 h7
section
variable {P : Program} {W0 : World} {Post : Value → World → Prop} {g : Goroutine} {w w₁ : World} {ft : Foot}
theorem Ends.next {m m' : Machine} {t : Trace} {ops : Array MemOp} (hs : stepT P m = (.next m',ops)) (h : Ends P Post m' (t ++ ops)) : Ends P Post m t := by
 obtain ⟨n,last,o,w,t',h1,h2,h3,h4⟩ := h
 exact ⟨n + 1,last,o,w,t',by rw [runNT_succ_next hs]; exact h1,by rw [runN_succ_next hs]; exact h2,h3,h4⟩
theorem evL_of {e : Event} {B : Nat} (he : EvOk ft e) (hb : ∀ b,ft.rd b → b < B) : EvL (fun _ => False) B e := by
 obtain ⟨loc,wr,sync⟩ := e
 unfold EvOk at he
 refine ⟨fun x _ hs => hs.elim,?_,?_,?_⟩
 ·intro hl
  simp only at hl
  subst hl
  exact he
 ·intro hl
  simp only at hl
  subst hl
  exact he
 ·cases loc with
  | cell a => exact hb _ he.2.1
  | obj r =>
   have hs : sync = false := he.1
   subst hs
   have := hb _ he.2.1
   cases wr <;> exact this
  | mark m =>
   cases m <;> first | exact he.elim | trivial
  | output => trivial
  | goroutines => trivial
theorem mem_g {i : Nat} {fn : FuncId} {pos : String} {es : Array Event} {op : MemOp} (h : op ∈ MemOp.ofEvents i fn pos es) : op.g = i := by
 rw [ofEvents_eq] at h
 obtain ⟨e,he,rfl⟩ := Array.mem_map.1 h
 rfl
theorem relyW_at (ft : Foot) (w : World) (d : Nat) : RelyW ft w (w.at d) := ⟨fun _ _ => rfl,Nat.le_refl _,rfl,rfl,rfl⟩
theorem J1.both (hrun : g.status = .running)
  (h : ∀ w₁,RelyW ft w w₁ → Base W0 w₁ → (∃ g' w' es,stepG P true g w₁ = .go g' w' es ∧ g'.status = .running ∧ GuarW ft w₁ w' es ∧ J1 P W0 Post g' w' (ft.ext w₁.heap.size w'.heap.size)) ∨
   ∃ v es,stepG P true g w₁ = .ended (.done v) w₁ es ∧ (∀ e ∈ es,EvOk ft e) ∧ Post v w₁) : J1 P W0 Post g w ft := by
 intro gs w₁ sl t q hbd hsub hrel hbase h0 hL hP
 generalize hM : sumTo gs.size q = M
 induction M using Nat.strongRecOn generalizing gs w₁ sl t q with
 | ind M ih =>
  have haw : ∀ g ∈ gs,awake g := by
   intro x hx
   obtain ⟨i,hi,rfl⟩ := Array.mem_iff_getElem.1 hx
   rcases Nat.eq_zero_or_pos i with rfl | hpos
   ·have : gs[0] = g := by simpa [Array.getElem?_eq_getElem hi] using h0
    rw [this]; exact awake_of (.inl hrun)
   ·exact awake_of ((hL.old i _ hpos (Array.getElem?_eq_getElem hi)).status.elim .inl fun x => .inr (.inr x))
  obtain ⟨i,x,d,sl',hi,hg,hst⟩ := crowd_pick (P := P) (w := w₁) (sl := sl) haw ⟨0,g,h0,hrun⟩
  rcases Nat.eq_zero_or_pos i with rfl | hpos
  ·obtain rfl : x = g := by rw [h0] at hi; exact (Option.some.inj hi).symm
   rcases h (w₁.at d) (hrel.trans (relyW_at ft w₁ d)) ⟨hbase.tape,hbase.os,hbase.output,hbase.size⟩ with ⟨g',w',es,hgo,hrun',hgu,hJ⟩ | ⟨v,es,hend,hes,hpost⟩
   ·have hrunT := runT_crowd_go (P := P) (sl := sl') (i := 0) hi (show stepG P (0 == 0) x (w₁.at d) = _ from hgo)
    have hsz : ((gs.map (woken P x g' w')).setIfInBounds 0 g').size = gs.size := by simp
    have hlt : 0 < gs.size := (Array.getElem?_eq_some_iff.1 h0).1
    have hw' : w₁.heap.size ≤ w'.heap.size := hgu.size
    refine Ends.next (hst.trans hrunT) ?_
    refine hJ _ w' sl' _ q (fun b hb => ?_) (fun b hb => ?_) (RelyW.refl _ _) ⟨hgu.tape.trans hbase.tape,hgu.os.trans hbase.os,hgu.output.trans hbase.output,Nat.le_trans hbase.size hgu.size⟩ (by simp [hlt]) ⟨fun j y hj hy => ?_,fun j hj => ?_⟩ ?_
    ·rcases hb with hb | hb
     ·exact Nat.lt_of_lt_of_le (hbd b hb) hw'
     ·exact hb.2
    ·rcases hb with hb | hb
     ·exact .inl (hsub b hb)
     ·exact .inr hb
    ·have hne : 0 ≠ j := by omega
     rw [Array.getElem?_setIfInBounds_ne hne,Array.getElem?_map] at hy
     obtain ⟨z,hz,rfl⟩ := Option.map_eq_some_iff.1 hy
     have hq := hL.old j z hj hz
     rw [woken_quitsD hq,Deaf_other t (by omega) _ (fun op hop => mem_g hop)]
     exact hq
    ·rw [Deaf_other t (g' := 0) (by simp at hj; omega) _ (fun op hop => mem_g hop)]
     exact hL.above j (by simpa using hj)
    ·exact (hP.mono hw').own fun e he => evL_of (hgu.evs e he) fun b hb => Nat.lt_of_lt_of_le (hbd b hb) hw'
   ·have hrunT := runT_many_ended (P := P) (sl := sl') (i := 0) hi (show stepG P (0 == 0) x (w₁.at d) = _ from hend)
    have hP' := hP.own (fn := x.frame.fn) (pos := x.frame.place) fun e he => evL_of (hes e he) hbd
    refine ⟨0,crowd gs w₁ sl,.done v,w₁.at d,_,by simp only [runNT,hst.trans hrunT],rfl,by simp [step,hst.trans hrunT],v,rfl,hpost,hP'.clean,hP'.over,⟨fun y hy => ?_,rfl⟩,fun j y hy hj => ?_⟩
    ·obtain ⟨j,hj⟩ := List.mem_iff_getElem?.1 hy
     rw [List.getElem?_drop] at hj
     exact ⟨_,(hL.old (1 + j) y (by omega) (by simpa [crowd] using hj)).leaves⟩
    ·have hq := hL.old j y (by omega) hy
     refine ⟨q j,?_⟩
     have e : (t ++ MemOp.ofEvents 0 x.frame.fn x.frame.place es).deaf j (t ++ MemOp.ofEvents 0 x.frame.fn x.frame.place es).size = Deaf t j :=
      Deaf_other t (g := j) (g' := 0) (by omega) _ (fun op hop => mem_g hop)
     rw [e]
     exact hq.hears _
  ·have hq := hL.old i x hpos hi
   have hi0 : (i == 0) = false := by simp; omega
   have hlt : i < gs.size := (Array.getElem?_eq_some_iff.1 hi).1
   cases hqi : q i with
   | zero => rw [hqi] at hq; rw [hq.1] at hg; cases hg
   | succ k =>
    rw [hqi] at hq
    rcases hq with ⟨hf,_⟩ | ⟨_,g',es,hm,hstp,hq'⟩
    ·rw [hf] at hg; cases hg
    have hrunT := runT_crowd_go (P := P) (sl := sl') (i := i) hi (by rw [hi0]; exact hstp (w₁.at d))
    have hsz : ((gs.map (woken P x g' (w₁.at d))).setIfInBounds i g').size = gs.size := by simp
    have hsum : sumTo gs.size (upd q i k) + (k + 1) = sumTo gs.size q + k := by
     have := sumTo_upd q k id hlt
     simpa [hqi] using this
    refine Ends.next (hst.trans hrunT) (ih (sumTo gs.size (upd q i k)) (by omega) _ (w₁.at d) sl' _ (upd q i k) hbd (hrel.trans (relyW_at ft w₁ d)) ⟨hbase.tape,hbase.os,hbase.output,hbase.size⟩ ?_ ⟨fun j y hj hy => ?_,fun j hj => ?_⟩ (hP.mute (by omega) hm) (by rw [hsz]))
    ·have hne : i ≠ 0 := by omega
     rw [Array.getElem?_setIfInBounds_ne hne,Array.getElem?_map,h0]
     simp [woken_run hrun]
    ·by_cases hji : i = j
     ·subst hji
      rw [Array.getElem?_setIfInBounds_self_of_lt (by simpa using hlt)] at hy
      obtain rfl := Option.some.inj hy
      rw [upd_same,Deaf_own]
      exact hq'
     ·rw [Array.getElem?_setIfInBounds_ne hji,Array.getElem?_map] at hy
      obtain ⟨z,hz,rfl⟩ := Option.map_eq_some_iff.1 hy
      have hqj := hL.old j z hj hz
      rw [woken_quitsD hqj,upd_ne q k (Ne.symm hji),Deaf_other t hji _ (fun op hop => mem_g hop)]
      exact hqj
    ·rw [Deaf_other t (g' := i) (by simp at hj; omega) _ (fun op hop => mem_g hop)]
     exact hL.above j (by simpa using hj)
theorem J1.closed (P : Program) (W0 : World) (Post : Value → World → Prop) : Closed P true (J1 P W0 Post) where
 rely := fun h hr gs w₂ sl t q hbd hsub hrel hbase h0 hL hP => h gs w₂ sl t q hbd hsub (hr.trans hrel) hbase h0 hL hP
 step := fun hrun h => J1.both hrun fun w₁ h₁ _ => by
  obtain ⟨g',w',es,a,b,c,d⟩ := h w₁ h₁
  exact .inl ⟨g',w',es,a,b,c,d⟩
end
end Go.Proofs.YtlladcglhjlbpaaGreatDoor
namespace Go.Proofs.YtlladcglhjlbpaaGreatDoor
open Go.Conc
section
variable {P : Program} {main : Bool} {J : JT} {g : FuncId} {args : List Value} {h : List AObj} {K K' : Value → List AObj → Prop}
theorem good_frame (hT : TagFree J) (hg : Good P J g args [] K) (hcl : callable P g = true) (hlt : g < P.funcs.size) (ha : ∀ v ∈ args,VOk 0 v) (hk : ∀ v h',K v h' → VOk 0 v ∧ K' v h) : Good P J g args h K' := by
 rcases hg with ⟨ho,hg⟩ | ⟨⟨_,hx⟩,_⟩
 rotate_left
 ·rw [hcl] at hx
  cases hx
 have hcall : callable P g = true := by
  rcases ho with ⟨_,e⟩ | ⟨e,_⟩
  ·exact e
  ·exact absurd hlt (Nat.not_lt.2 e)
 refine .inl ⟨.inl ⟨hlt,hcall⟩,fun ρ FC w ft cs c cargs fr H hargs hl hent hc => ?_⟩
 have hfr : fr = Frame.enter P g ⟨cargs⟩ .normal := by
  rcases hent with ⟨_,e⟩ | ⟨e,_⟩
  ·exact e
  ·exact absurd hlt (Nat.not_lt.2 e)
 have ob : ∃ ob : Nat → Option Obj,(∀ b,ft.rd b → ob b = w.heap[b]?) ∧ (∀ b,¬ ft.rd b → ob b = none) := by
  classical
  exact ⟨fun b => if ft.rd b then w.heap[b]? else none,fun b hb => if_pos hb,fun b hb => if_neg hb⟩
 obtain ⟨ob,ob1,ob2⟩ := ob
 have H0 : HRel ρ [] ⟨ob,ft.wr⟩ w ft := by
  refine ⟨fun b o hb => by simp at hb,fun b b' o o' hb => by simp at hb,fun b o hb => by simp at hb,fun b o hb => by simp at hb,H.lt,H.sub,fun b o hb => ?_,fun b hb => hb,fun b x hb => (by simp at hb)⟩
  by_cases hr : ft.rd b
  ·refine ⟨?_,hr,fun a oa ha => by simp at ha⟩
   rw [← ob1 b hr]
   exact hb
  ·have : ob b = some o := hb
   rw [ob2 b hr] at this
   cases this
 refine hg ρ ⟨ob,ft.wr⟩ w ft cs c cargs fr H0 (fun i => ?_) hl (.inl ⟨hlt,hfr⟩) fun v h' ρ' w' ft' cv hK H' hu hl' hv => ?_
 ·rcases hargs i with e | ⟨_,e⟩
  ·exact .inl e
  ·by_cases hi : i < args.length
   ·have : args.getD i unk ∈ args := by
     rw [List.getD_eq_getElem?_getD,List.getElem?_eq_getElem hi]
     exact List.getElem_mem hi
    exact .inr ⟨ha _ this,e⟩
   ·left
    rw [List.getD_eq_getElem?_getD,List.getElem?_eq_none (by omega)]
    rfl
 ·obtain ⟨hv0,hK'⟩ := hk v h' hK
  have kp : ∀ b,ft.rd b → w'.heap[b]? = w.heap[b]? ∧ ft'.rd b := by
   intro b hb
   have hlt' := H.lt b hb
   have : (⟨ob,ft.wr⟩ : Frm).ob b = some w.heap[b] := by
    show ob b = _
    rw [ob1 b hb,Array.getElem?_eq_getElem hlt']
   obtain ⟨a1,a2,_⟩ := H'.kept b _ this
   exact ⟨by rw [a1,Array.getElem?_eq_getElem hlt'],a2⟩
  refine hT _ _ ft' ft.tag (hc v h ρ w' { ft' with tag := ft.tag } cv hK' ⟨fun b o hb => ?_,H.inj,fun b o hb hl => (kp _ (H.rd b o hb hl)).2,fun b o hb hw => H'.keptW _ (H.wr b o hb hw),H'.lt,H'.sub,fun b o hb => ?_,fun b hb => H'.keptW _ (H.keptW b hb),H.tag⟩ (Env.upto_refl _ _) (Nat.le_refl _) ?_)
  ·cases hlv : o.live with
   | false => cases o <;> first | trivial | exact H.obj b _ hb | cases hlv
   | true =>
    rw [(kp _ (H.rd b o hb hlv)).1]
    exact H.obj b o hb
  ·obtain ⟨a1,a2,a3⟩ := H.kept b o hb
   exact ⟨by rw [(kp b a2).1]; exact a1,(kp b a2).2,a3⟩
  ·rcases hv with e | ⟨_,e⟩
   ·exact .inl e
   ·exact .inr ⟨VOk.mono (Nat.zero_le _) v hv0,by rw [e,ren0 v hv0,ren0 v hv0]⟩
end
end Go.Proofs.YtlladcglhjlbpaaGreatDoor
namespace Go.Proofs.YtlladcglhjlbpaaGreatDoor
open Go.Conc Go.Proofs.Tryz
set_option maxRecDepth 100000
def isT (v : Value) : Bool :=
 match v with
 | .bool true => true
 | _ => false
theorem run18 : xcall prog 200 6 [] ⟨0,.nil⟩ (fun v _ => isT v) = true := by kernel_rfl
end Go.Proofs.YtlladcglhjlbpaaGreatDoor
namespace Go.Proofs.YtlladcglhjlbpaaGreatDoor
open Go.Conc Go.Proofs.Tryz
section
variable {main : Bool} {J : JT} {h : List AObj} {K : Value → List AObj → Prop}
theorem good6 (hJ : Closed prog main J) (hK : K (.bool true) h) (hT : TagFree J := by first | assumption | exact J1.tagFree _ _ _) : Good prog J 6 [] h K := by
 have hg := (x_sound mixed 200 main J hJ).1 6 [] ⟨0,.nil⟩ _ run18
 refine good_frame hT (K := KP fun v _ => isT v) hg (by kernel_rfl) (blt_t (by kernel_rfl : Nat.blt 6 prog.funcs.size = true)) (by simp) fun v h' hk => ?_
 obtain ⟨x,rfl,hk⟩ := hk
 simp only at hk
 unfold isT at hk
 split at hk
 ·exact ⟨by simp [VOk],hK⟩
 ·cases hk
end
section
variable {main : Bool} {J : JT} {h : List AObj} {K : Value → List AObj → Prop}
def HF (h : List AObj) (nv : Value) (k : Nat) (s : Int) (rest : List AObj) : List AObj := h ++ (.cells [nv,vint k,.int .u64 s] true 0 :: rest)
theorem hf_len {h : List AObj} {nv : Value} {k : Nat} {s : Int} {rest : List AObj} : (HF h nv k s rest).length = h.length + 1 + rest.length := by
 simp [HF]; omega
theorem hf_app {h : List AObj} {nv : Value} {k : Nat} {s : Int} {rest g : List AObj} : HF h nv k s rest ++ g = HF h nv k s (rest ++ g) := by
 simp [HF]
theorem hf_hand {h : List AObj} {nv : Value} {ns : List Int} {k : Nat} {s : Int} {rest : List AObj} (sn : Sli h nv 1 ns.length (ns.map vint)) (hln : ns.length < 4611686018427387904) (hk : k < 1000000) (h0 : 0 ≤ s) (h1 : s < 18446744073709551616) :
  HandAt (HF h nv k s rest) h.length nv ns k s :=
 ⟨by simp [HF],sli_app sn,hln,by omega,h0,h1⟩
theorem hf_dealt {h h' : List AObj} {nv : Value} {k n : Nat} {s : Int} {rest : List AObj} (hd : Dealt (HF h nv k s rest) h.length nv k n h') : ∃ k' s',k' ≤ k + n ∧ 0 ≤ s' ∧ s' < 18446744073709551616 ∧ h' = HF h nv k' s' rest := by
 obtain ⟨k',s',a,b,c,rfl⟩ := hd
 refine ⟨k',s',a,b,c,?_⟩
 simp [HF]
theorem sli_one {h : List AObj} {v : Value} {s n : Nat} {cs : List Value} (hs : Sli h v s n cs) : v.cells = #[v] ∧ one v = true ∧ kn1 v = true := by
 obtain ⟨_,_,rfl,_⟩ := hs
 exact ⟨rfl,rfl,rfl⟩
end
end Go.Proofs.YtlladcglhjlbpaaGreatDoor
namespace Go.Proofs.YtlladcglhjlbpaaGreatDoor
open Go.Conc Go.Proofs.Tryz
set_option maxRecDepth 100000
section
variable {main : Bool} {J : JT} {h A g : List AObj} {K : Value → List AObj → Prop} {KV : Value → Prop} {HL : List AObj → Prop} {H : Value → List AObj → Prop}
theorem a_min {a b : Int} : aMin (vint a) [vint b] KV = KV (vint (min a b)) := by
 show KV (vint (if b < a then b else a)) = _
 congr 2
 split <;> omega
theorem a_max {a b : Int} : aMax (vint a) [vint b] KV = KV (vint (max a b)) := by
 show KV (vint (if b > a then b else a)) = _
 congr 2
 split <;> omega
theorem u_neg {a : Int} (h : -9223372036854775808 < a ∧ a < 9223372036854775808) : aUn .neg (vint a) KV = KV (vint (-a)) := by
 show KV (.int .i64 (IntKind.i64.wrap (-a))) = _
 rw [wrap64 (by omega) (by omega)]
theorem back_get {i : Nat} : (A ++ g)[A.length + i]? = g[i]? := by
 rw [List.getElem?_append_right (by omega)]
 congr 1
 omega
theorem back_set {i : Nat} {o : AObj} : (A ++ g).set (A.length + i) o = A ++ g.set i o := by
 rw [List.set_append_right _ _ (by omega)]
 congr 2
 omega
def OwnE (n : Nat) (g : List AObj) (s : Nat) (cs : List Value) (len : Nat) (v : Value) (o : Option Nat) : Prop :=
 cs.length = len * s ∧ kn cs = true ∧ ((len = 0 ∧ v = .slice none 0 0 ∧ o = none) ∨ ∃ i c sz,o = some i ∧ v = .slice (some ⟨n + i,0,none⟩) len c ∧ g[i]? = some (.cells cs true sz) ∧ ((c = fz ∧ sz = s) ∨ c = len))
theorem ownE_nil {n s : Nat} : OwnE n g s [] 0 (.slice none 0 0) none := ⟨by simp,rfl,.inl ⟨rfl,rfl,rfl⟩⟩
theorem ownE_keep {n s len : Nat} {cs : List Value} {v : Value} {o : Option Nat} {g' : List AObj} (ho : OwnE n g s cs len v o) (hk : ∀ i x,o = some i → g[i]? = some x → g'[i]? = some x) : OwnE n g' s cs len v o := by
 obtain ⟨h1,h2,h3 | ⟨i,c,sz,rfl,h4,h5,h6⟩⟩ := ho
 ·exact ⟨h1,h2,.inl h3⟩
 ·exact ⟨h1,h2,.inr ⟨i,c,sz,rfl,h4,hk i _ rfl h5,h6⟩⟩
theorem get_app {i : Nat} {x : AObj} {g' : List AObj} (hx : g[i]? = some x) : (g ++ g')[i]? = some x := by
 rw [List.getElem?_append_left (List.getElem?_eq_some_iff.1 hx).1]
 exact hx
theorem get_set {i j : Nat} {x y : AObj} (hx : g[i]? = some x) (hij : i ≠ j) : (g.set j y)[i]? = some x := by
 rw [List.getElem?_set,if_neg (fun e => hij e.symm)]
 exact hx
theorem ownE_app {n s len : Nat} {cs : List Value} {v : Value} {o : Option Nat} {g' : List AObj} (ho : OwnE n g s cs len v o) : OwnE n (g ++ g') s cs len v o :=
 ownE_keep ho fun _ _ _ hx => get_app hx
theorem ownE_set {n s len i : Nat} {cs : List Value} {v : Value} {o : Option Nat} {y : AObj} (ho : OwnE n g s cs len v o) (hi : o ≠ some i) : OwnE n (g.set i y) s cs len v o :=
 ownE_keep ho fun j _ hj hx => get_set hx fun e => hi (by rw [hj,e])
theorem ownE_at {n s len : Nat} {cs : List Value} {v : Value} {i : Nat} (ho : OwnE n g s cs len v (some i)) : ∃ sz,g[i]? = some (.cells cs true sz) := by
 obtain ⟨_,_,⟨_,_,h⟩ | ⟨j,c,sz,h,_,h5,_⟩⟩ := ho
 ·cases h
 ·cases h
  exact ⟨sz,h5⟩
theorem ownE_lt {n s len : Nat} {cs : List Value} {v : Value} {o : Option Nat} (ho : OwnE n g s cs len v o) {i : Nat} (hi : o = some i) : i < g.length := by
 subst hi
 obtain ⟨sz,h⟩ := ownE_at ho
 exact (List.getElem?_eq_some_iff.1 h).1
theorem ownE_sli {s len : Nat} {cs : List Value} {v : Value} {o : Option Nat} (ho : OwnE A.length g s cs len v o) : Sli (A ++ g) v s len cs := by
 obtain ⟨h1,h2,⟨rfl,rfl,_⟩ | ⟨i,c,sz,rfl,rfl,h5,_⟩⟩ := ho
 ·have : cs = [] := List.length_eq_zero_iff.1 (by omega)
  subst this
  exact sli_nil
 ·refine ⟨_,_,rfl,⟨h1,h2⟩,.inr ⟨_,_,rfl,.inr ⟨cs,true,sz,?_,by rw [List.drop_zero,List.take_of_length_le (by omega)]⟩⟩⟩
  rw [back_get]
  exact h5
theorem ownE_val {n s len : Nat} {cs : List Value} {v : Value} {o : Option Nat} (ho : OwnE n g s cs len v o) : v.cells = #[v] ∧ one v = true ∧ kn1 v = true := by
 obtain ⟨_,_,⟨_,rfl,_⟩ | ⟨_,_,_,_,rfl,_⟩⟩ := ho <;> exact ⟨rfl,rfl,rfl⟩
theorem ownE_more {s len : Nat} {cs e : List Value} {v y : Value} {o : Option Nat} (ho : OwnE A.length g s cs len v o) (hs : 0 < s) (hl : len < 1000) (hy : Sli (A ++ g) y s 1 e)
  (hk : ∀ v' g',OwnE A.length g' s (cs ++ e) (len + 1) v' (some g.length) → (∀ i x,o ≠ some i → g[i]? = some x → g'[i]? = some x) → H v' (A ++ g')) : aApp s v y (A ++ g) H := by
 have hr : room = 1073741824 := rfl
 have hel : e.length = s := by
  have := sli_vlen hy
  omega
 have hek : kn e = true := by
  obtain ⟨_,_,_,⟨_,h⟩,_⟩ := hy
  exact h
 have new : ∀ g1 : List AObj,g1.length = g.length → (∀ i x,o ≠ some i → g[i]? = some x → g1[i]? = some x) → cs.length = len * s → kn cs = true → H (.slice (some ⟨(A ++ g).length,0,none⟩) (len + 1) fz) (A ++ (g1 ++ [.cells (cs ++ e) true s])) := by
  intro g1 hg1 hkeep h1 h2
  refine hk _ _ ⟨?_,?_,.inr ⟨g.length,fz,s,rfl,by simp,by simp [← hg1],.inl ⟨rfl,rfl⟩⟩⟩ fun j x hj hx => get_app (hkeep j x hj hx)
  ·rw [List.length_append,hel,h1,Nat.succ_mul]
  ·unfold kn at *
   rw [List.all_append,h2,hek]
   rfl
 obtain ⟨h1,h2,⟨rfl,rfl,rfl⟩ | ⟨i,c,sz,rfl,rfl,h5,h6⟩⟩ := ho
 ·have hcs : cs = [] := List.length_eq_zero_iff.1 (by omega)
  subst hcs
  refine app_nil hs hy (by omega) (fun e => absurd e (by omega)) fun _ => ?_
  rw [List.append_assoc]
  exact new g rfl (fun _ _ _ hx => hx) h1 h2
 ·have hlt := (List.getElem?_eq_some_iff.1 h5).1
  have ht : cs.take (len * s) = cs := List.take_of_length_le (by omega)
  rcases h6 with ⟨rfl,rfl⟩ | rfl
  ·refine app_own (cs := cs) (by rw [back_get]; exact h5) (by omega) (by rw [ht]; exact h2) hs hy (by omega) ?_
   rw [back_set,List.append_assoc,ht]
   exact new _ (by simp) (fun j x hj hx => get_set hx fun e => hj (by rw [e])) h1 h2
  ·refine app_copy (cs := cs) (by rw [back_get]; exact h5) (by omega) (by rw [List.drop_zero,ht]; exact h2) (by omega) hs hy (by omega) ?_
   rw [List.append_assoc,List.drop_zero,ht]
   exact new g rfl (fun _ _ _ hx => hx) h1 h2
theorem hfa {nv : Value} {k : Nat} {s : Int} {rest : List AObj} (hs : 0 ≤ s ∧ s < 18446744073709551616) (hk : k < 1000000) {ns : List Int} (sn : Sli h nv 1 ns.length (ns.map vint)) (hln : ns.length < 4611686018427387904) : HandAt (HF h nv k s rest ++ g) h.length nv ns k s := by
 rw [hf_app]
 exact hf_hand sn hln hk hs.1 hs.2
theorem hfd {nv : Value} {k n : Nat} {s : Int} {rest h' : List AObj} (hd : Dealt (HF h nv k s rest ++ g) h.length nv k n h') : ∃ k' s',k' ≤ k + n ∧ (0 ≤ s' ∧ s' < 18446744073709551616) ∧ h' = HF h nv k' s' rest ++ g := by
 rw [hf_app] at hd
 obtain ⟨k',s',a,b,c,rfl⟩ := hf_dealt hd
 exact ⟨k',s',a,⟨b,c⟩,by rw [hf_app]⟩
structure Hnd (h : List AObj) (nv : Value) (ns : List Int) : Prop where
 list : Sli h nv 1 ns.length (ns.map vint)
 sane : ns.length < 4611686018427387904
variable {nv : Value} {ns : List Int} {rest : List AObj} {k : Nat} {s : Int}
theorem nl : (HF h nv k s rest ++ g).length = h.length + 1 + rest.length + g.length := by rw [List.length_append,hf_len]
theorem ng {i : Nat} : (HF h nv k s rest ++ g)[h.length + 1 + rest.length + i]? = g[i]? := by rw [← hf_len (h := h) (nv := nv) (k := k) (s := s),back_get]
theorem nset {i : Nat} {o : AObj} : (HF h nv k s rest ++ g).set (h.length + 1 + rest.length + i) o = HF h nv k s rest ++ g.set i o := by rw [← hf_len (h := h) (nv := nv) (k := k) (s := s),back_set]
theorem nsli {s' len : Nat} {cs : List Value} {v : Value} {o : Option Nat} (ho : OwnE (h.length + 1 + rest.length) g s' cs len v o) : Sli (HF h nv k s rest ++ g) v s' len cs := by
 rw [← hf_len (h := h) (nv := nv) (k := k) (s := s)] at ho
 exact ownE_sli ho
theorem nmore {s' len : Nat} {cs e : List Value} {v y : Value} {o : Option Nat} (ho : OwnE (h.length + 1 + rest.length) g s' cs len v o) (hs : 0 < s') (hl : len < 1000) (hy : Sli (HF h nv k s rest ++ g) y s' 1 e)
  (hk : ∀ v' g',OwnE (h.length + 1 + rest.length) g' s' (cs ++ e) (len + 1) v' (some g.length) → (∀ i x,o ≠ some i → g[i]? = some x → g'[i]? = some x) → H v' (HF h nv k s rest ++ g')) : aApp s' v y (HF h nv k s rest ++ g) H := by
 rw [← hf_len (h := h) (nv := nv) (k := k) (s := s)] at ho hk
 exact ownE_more ho hs hl hy hk
theorem nlast {s' c len : Nat} {cs : List Value} (h1 : cs.length = len * s') (h2 : kn cs = true) : Sli (HF h nv k s rest ++ (g ++ [.cells cs true 0])) (.slice (some ⟨h.length + 1 + rest.length + g.length,0,none⟩) len c) s' len cs := by
 refine ⟨_,_,rfl,⟨h1,h2⟩,.inr ⟨_,_,rfl,.inr ⟨cs,true,0,?_,by rw [List.drop_zero,List.take_of_length_le (by omega)]⟩⟩⟩
 rw [ng]
 simp
section
variable {KV : Value → Prop} {a b : Int} {t : TypeId} {h : List AObj}
theorem offI {b o d : Nat} (hk : KV (ptr b (o + d))) : aOff (ptr b o) d KV := hk
theorem fillI {c : List Value} {KL : List Value → Prop} (hk : KL c) : aFill c [] KL := hk
theorem nilI {b o : Nat} (hk : KV (ptr b o)) : aNil (ptr b o) KV := hk
theorem addI (h : -9223372036854775808 ≤ a + b ∧ a + b < 9223372036854775808) (hk : KV (vint (a + b))) : aBin prog .add t (vint a) (vint b) KV := by rw [b_add h]; exact hk
theorem subI (h : -9223372036854775808 ≤ a - b ∧ a - b < 9223372036854775808) (hk : KV (vint (a - b))) : aBin prog .sub t (vint a) (vint b) KV := by rw [b_sub h]; exact hk
theorem mulI (h : -9223372036854775808 ≤ a * b ∧ a * b < 9223372036854775808) (hk : KV (vint (a * b))) : aBin prog .mul t (vint a) (vint b) KV := by rw [b_mul h]; exact hk
theorem negI (h : -9223372036854775808 < a ∧ a < 9223372036854775808) (hk : KV (vint (-a))) : aUn .neg (vint a) KV := by rw [u_neg h]; exact hk
theorem minI (hk : KV (vint (min a b))) : aMin (vint a) [vint b] KV := by rw [a_min]; exact hk
theorem maxI (hk : KV (vint (max a b))) : aMax (vint a) [vint b] KV := by rw [a_max]; exact hk
theorem lssI (hk : KV (.bool (decide (a < b)))) : aBin prog .lss t (vint a) (vint b) KV := by rw [b_lss]; exact hk
theorem gtrI (hk : KV (.bool (decide (a > b)))) : aBin prog .gtr t (vint a) (vint b) KV := by rw [b_gtr]; exact hk
theorem geqI (hk : KV (.bool (decide (a ≥ b)))) : aBin prog .geq t (vint a) (vint b) KV := by rw [b_geq]; exact hk
theorem leqI (hk : KV (.bool (decide (a ≤ b)))) : aBin prog .leq t (vint a) (vint b) KV := by rw [b_leq]; exact hk
theorem eqlI (hk : KV (.bool (decide (a = b)))) : aBin prog .eql t (vint a) (vint b) KV := by rw [b_eql]; exact hk
theorem neqI (hk : KV (.bool (decide (a ≠ b)))) : aBin prog .neq t (vint a) (vint b) KV := by rw [b_neq]; exact hk
theorem notI {x : Bool} (hk : KV (.bool (!x))) : aUn .not (.bool x) KV := hk
theorem cndI {p : Prop} [Decidable p] {A B : Prop} (h1 : p → A) (h2 : ¬ p → B) : cnd (.bool (decide p)) A B := cnd_dec.2 ⟨h1,h2⟩
theorem cndN {p : Prop} [Decidable p] {A B : Prop} (h1 : ¬ p → A) (h2 : p → B) : cnd (.bool (!decide p)) A B := cnd_ndec.2 ⟨h1,h2⟩
theorem lenI {v : Value} {s n : Nat} {cells : List Value} (hs : Sli h v s n cells) (hk : KV (vint n)) : aLenS v KV := by rw [sli_len hs]; exact hk
theorem ldI {b o s : Nat} {c : List Value} {wr : Bool} {sz : Nat} {v : Value} (hb : h[b]? = some (.cells c wr sz)) (hv : c[o]? = some v) (hn : kn1 v = true) (hk : KV v) : aLoad false s (ptr b o) h KV := by rw [load_cell hb hv hn]; exact hk
theorem idxI {s b o n c : Nat} {j : Int} (h1 : 0 ≤ j ∧ j < n) (hk : KV (ptr b (o + j.toNat * s))) : aIdx s (.slice (some ⟨b,o,none⟩) n c) (vint j) KV := by rw [idx_ok]; exact ⟨h1,hk⟩
theorem ext0 {a b : Value} (hk : KV a) : aExt (.tuple ⟨[a,b]⟩) 0 KV := hk
theorem ext1 {a b : Value} (hk : KV b) : aExt (.tuple ⟨[a,b]⟩) 1 KV := hk
theorem ext30 {a b c : Value} (hk : KV a) : aExt (.tuple ⟨[a,b,c]⟩) 0 KV := hk
theorem ext31 {a b c : Value} (hk : KV b) : aExt (.tuple ⟨[a,b,c]⟩) 1 KV := hk
theorem ext32 {a b c : Value} (hk : KV c) : aExt (.tuple ⟨[a,b,c]⟩) 2 KV := hk
end
theorem nAl {l : List Value} (hk : K (ptr (h.length + 1 + rest.length + g.length) 0) (HF h nv k s rest ++ (g ++ [.cells l true 0]))) : aAlloc l (HF h nv k s rest ++ g) K := by
 unfold aAlloc
 rw [nl,List.append_assoc]
 exact hk
theorem nNew {n : Nat} {l : List Value} (hk : K (.slice (some ⟨h.length + 1 + rest.length + g.length,0,none⟩) n n) (HF h nv k s rest ++ (g ++ [.cells l true 0]))) : aNewS n l (HF h nv k s rest ++ g) K := by
 unfold aNewS
 rw [nl,List.append_assoc]
 exact hk
theorem nLd {i o : Nat} {c : List Value} {wr : Bool} {sz : Nat} {v : Value} (hb : g[i]? = some (.cells c wr sz)) (hv : c[o]? = some v) (hn : kn1 v = true) (hk : KV v) : aLoad false 1 (ptr (h.length + 1 + rest.length + i) o) (HF h nv k s rest ++ g) KV :=
 ldI (by rw [ng]; exact hb) hv hn hk
theorem nLdA {i o n : Nat} {cs c : List Value} {wr : Bool} {sz : Nat} (hb : g[i]? = some (.cells cs wr sz)) (hl : o + n ≤ cs.length) (hc : (cs.drop o).take n = c) (hn : kn c = true) (hk : KV (.agg ⟨c⟩)) : aLoad true n (ptr (h.length + 1 + rest.length + i) o) (HF h nv k s rest ++ g) KV :=
 load_part (by rw [ng]; exact hb) hl hc hn hk
theorem nSt {i o : Nat} {c : List Value} {sz : Nat} {v : Value} (hb : g[i]? = some (.cells c true sz)) (ho : o < c.length) (h1 : v.cells = #[v]) (h2 : one v = true) (hk : HL (HF h nv k s rest ++ g.set i (.cells (c.set o v) true sz))) : aStore 1 (ptr (h.length + 1 + rest.length + i) o) v (HF h nv k s rest ++ g) HL := by
 refine store_cell (by rw [ng]; exact hb) ho h1 h2 ?_
 rw [nset]
 exact hk
theorem nStA {i n : Nat} {cs c : List Value} {sz : Nat} (hb : g[i]? = some (.cells cs true sz)) (hl : c.length = n) (hs : cs.length = n) (h1 : c.all one = true) (hk : HL (HF h nv k s rest ++ g.set i (.cells c true sz))) : aStore n (ptr (h.length + 1 + rest.length + i) 0) (.agg ⟨c⟩) (HF h nv k s rest ++ g) HL := by
 refine store_agg (by rw [ng]; exact hb) hl hs h1 ?_
 rw [nset]
 exact hk
theorem nSame {g' : List AObj} {k' : Nat} {s' : Int} {is : List Nat} (hi : ∀ i ∈ is,g'[i]? = g[i]?) : SameB (some (is.map fun i => h.length + 1 + rest.length + i)) (HF h nv k s rest ++ g) (HF h nv k' s' rest ++ g') := by
 intro b hb
 obtain ⟨i,hm,rfl⟩ := List.mem_map.1 hb
 rw [ng,ng,hi i hm]
theorem nRd {i o : Nat} {is : List Nat} (hi : i ∈ is) : RdOk (some (is.map fun i => h.length + 1 + rest.length + i)) (ptrBlk (ptr (h.length + 1 + rest.length + i) o)) := List.mem_map.2 ⟨i,hi,rfl⟩
theorem last_get {x : AObj} : (g ++ [x])[g.length]? = some x := by simp
theorem last_set {x y : AObj} : (g ++ [x]).set g.length y = g ++ [y] := by simp
theorem up (hJ : Closed prog main J) (hn : Hnd h nv ns) (hs : 0 ≤ s ∧ s < 18446744073709551616) (hk : k < 1000000) {m : Int} (hm : m < 1000000)
  (hK : ∀ y k' s',0 ≤ y → (y ≤ m ∨ y = 0) → k' ≤ k + 1 → (0 ≤ s' ∧ s' < 18446744073709551616) → K (vint y) (HF h nv k' s' rest ++ g)) : Good prog J 48 [ptr h.length 0,vint m] (HF h nv k s rest ++ g) K := by
 refine good48 hJ (hfa hs hk hn.list hn.sane) (by omega) fun y h1 a b hd => ?_
 obtain ⟨k',s',c,d,rfl⟩ := hfd hd
 exact hK y k' s' a b c d
theorem amo (hJ : Closed prog main J) (hn : Hnd h nv ns) (hs : 0 ≤ s ∧ s < 18446744073709551616) (hk : k < 1000000) {lo hi : Int} (h1 : -1000000 ≤ lo ∧ lo ≤ 1000000) (h2 : -1000000 ≤ hi ∧ hi ≤ 1000000)
  (hK : ∀ y k' s',lo ≤ y → (y ≤ hi ∨ y = lo) → k' ≤ k + 1 → (0 ≤ s' ∧ s' < 18446744073709551616) → K (vint y) (HF h nv k' s' rest ++ g)) : Good prog J 25 [ptr h.length 0,vint lo,vint hi] (HF h nv k s rest ++ g) K := by
 refine good25 hJ (hfa hs hk hn.list hn.sane) (by omega) (by omega) fun y h1 a b hd => ?_
 obtain ⟨k',s',c,d,rfl⟩ := hfd hd
 exact hK y k' s' a b c d
theorem ofl (hJ : Closed prog main J) (hn : Hnd h nv ns) (hs : 0 ≤ s ∧ s < 18446744073709551616) (hk : k < 1000000) {a : Int} {others : List Int} {n c : Nat} (hl : others.length = n) (hn2 : n < 1000)
  (hK : ∀ y k' s',(y = a ∨ y ∈ others) → k' ≤ k + 1 → (0 ≤ s' ∧ s' < 18446744073709551616) → K (vint y) (HF h nv k' s' rest ++ (g ++ [.cells (others.map vint) true 0]))) :
  Good prog J 47 [ptr h.length 0,vint a,(.slice (some ⟨h.length + 1 + rest.length + g.length,0,none⟩) n c)] (HF h nv k s rest ++ (g ++ [.cells (others.map vint) true 0])) K := by
 subst hl
 refine good47 hJ (hfa hs hk hn.list hn.sane) (others := others) (fun h' hd => ?_) (by omega) fun y h1 a hd => ?_
 ·obtain ⟨k',s',c,d,rfl⟩ := hfd hd
  refine sli_new (wr := true) (sz := 0) ?_ (by simp) (kn_ints _)
  rw [ng]
  simp
 ·obtain ⟨k',s',c,d,rfl⟩ := hfd hd
  exact hK y k' s' a c d
end
structure Chain (t : Tal) (nums losses : List Int) : Prop where
 numl : nums.length = t.changes.length + 1
 losl : losses.length = t.changes.length
 first : 30 ≤ t.first.lo ∧ t.first.lo ≤ 60 ∧ t.first.lo ≤ t.first.hi ∧ t.first.hi ≤ t.first.lo + 6
 most : 0 ≤ t.most ∧ t.most ≤ 4
 ch : ∀ r ∈ t.changes,-3 ≤ r.lo ∧ r.lo ≤ 2 ∧ r.lo ≤ r.hi ∧ r.hi ≤ r.lo + 2
 zero : t.first.lo ≤ nums.getD 0 0 ∧ nums.getD 0 0 ≤ t.first.hi
 step : ∀ i (hi : i < t.changes.length),0 ≤ losses.getD i 0 ∧ losses.getD i 0 ≤ t.most ∧ t.changes[i].lo ≤ nums.getD (i + 1) 0 - nums.getD i 0 + losses.getD i 0 ∧ nums.getD (i + 1) 0 - nums.getD i 0 + losses.getD i 0 ≤ t.changes[i].hi
theorem Chain.bd {t : Tal} {nums losses : List Int} (c : Chain t nums losses) : ∀ i : Nat,i ≤ t.changes.length → 30 - 7 * (i : Int) ≤ nums.getD i 0 ∧ nums.getD i 0 ≤ 66 + 4 * (i : Int)
 | 0,_ => by
  have := c.first
  have := c.zero
  omega
 | i + 1,hi => by
  have ih := c.bd i (by omega)
  have s := c.step i (by omega)
  have r := c.ch t.changes[i] (List.getElem_mem _)
  have := c.most
  omega
theorem getD_app1 {l : List Int} {x : Int} {i : Nat} (hi : i < l.length) : (l ++ [x]).getD i 0 = l.getD i 0 := by
 simp only [List.getD_eq_getElem?_getD]
 rw [List.getElem?_append_left hi]
theorem getD_app2 {l : List Int} {x : Int} : (l ++ [x]).getD l.length 0 = x := by
 simp [List.getD_eq_getElem?_getD]
theorem Chain.more {t : Tal} {nums losses : List Int} (c : Chain t nums losses) {r : Rng} {now' l : Int} (hr : -3 ≤ r.lo ∧ r.lo ≤ 2 ∧ r.lo ≤ r.hi ∧ r.hi ≤ r.lo + 2) (hl : 0 ≤ l ∧ l ≤ t.most)
  (hn : r.lo ≤ now' - nums.getD t.changes.length 0 + l ∧ now' - nums.getD t.changes.length 0 + l ≤ r.hi) : Chain { t with changes := t.changes ++ [r] } (nums ++ [now']) (losses ++ [l]) where
 numl := by simp [c.numl]
 losl := by simp [c.losl]
 first := c.first
 most := c.most
 ch := fun x hx => by
  rcases List.mem_append.1 hx with hx | hx
  ·exact c.ch x hx
  ·simp at hx
   rw [hx]
   exact hr
 zero := by
  have := c.numl
  have := c.zero
  rw [getD_app1 (by omega)]
  exact this
 step := fun i hi => by
  have n1 := c.numl
  have n2 := c.losl
  dsimp only at hi ⊢
  simp at hi
  rcases Nat.lt_or_ge i t.changes.length with x | x
  ·rw [getD_app1 (by omega),getD_app1 (by omega),getD_app1 (by omega),List.getElem_append_left x]
   exact c.step i x
  ·have : i = t.changes.length := by omega
   subst this
   have e1 : (nums ++ [now']).getD (t.changes.length + 1) 0 = now' := by rw [← n1,getD_app2]
   have e2 : (losses ++ [l]).getD t.changes.length 0 = l := by rw [← n2,getD_app2]
   have e3 : (t.changes ++ [r])[t.changes.length] = r := by simp
   rw [getD_app1 (i := t.changes.length) (l := nums) (by omega),e1,e2,e3]
   exact ⟨hl.1,hl.2,hn.1,hn.2⟩
structure CoOk (gates : Int) (nums : List Int) (c : Cnt) : Prop where
 gate : 0 ≤ c.gate ∧ c.gate < gates
 man : 1 ≤ c.man ∧ c.man ≤ 4
 err : 0 ≤ c.err ∧ c.err ≤ 20
 num : -(c.err * nums.getD c.gate.toNat 0 / 100) ≤ c.num - nums.getD c.gate.toNat 0 ∧ c.num - nums.getD c.gate.toNat 0 ≤ c.err * nums.getD c.gate.toNat 0 / 100
structure TruthOk (G C : Int) (t : Tal) (nums losses : List Int) : Prop where
 gates : 1 ≤ t.gates ∧ t.gates ≤ G
 chl : (t.changes.length : Int) = t.gates - 1
 chain : Chain t nums losses
 few : (t.counts.length : Int) ≤ C
 co : ∀ c ∈ t.counts,CoOk t.gates nums c
section
variable {main : Bool} {J : JT} {h : List AObj} {K : Value → List AObj → Prop} {n0 : Nat}
theorem fill_agg {c l : List Value} {off s : Nat} {ps : List (Nat × Nat × Value)} {K : List Value → Prop} (h1 : l.length = s) (h2 : l.all one = true) (ho : off + s ≤ c.length) (hk : aFill (wrAt c off l) ps K) : aFill c ((off,s,.agg ⟨l⟩) :: ps) K := by
 refine ⟨by simpa [Value.cells] using h1,by simpa [Value.cells] using h2,ho,?_⟩
 simpa [Value.cells] using hk
theorem retQ_same {rs : List ResultVar} {f : RG} (ds : f.ds = []) (hr : resW prog rs f.r h fun vs => K (pack vs) h) : RetQ prog rs n0 K .ret f h := by
 unfold RetQ
 rw [ds]
 exact resW_imp rs hr fun vs hk => .inl hk
theorem good24 (hJ : Closed prog main J) {nv : Value} {ns : List Int} {rest g : List AObj} {k : Nat} {s : Int} (hn : Hnd h nv ns) (hs : 0 ≤ s ∧ s < 18446744073709551616) (hk : k < 1000000) {a b : Int} (hb : 0 < b ∧ b < 1000)
  (hK : ∀ y k' s',k' ≤ k + 1 → (0 ≤ s' ∧ s' < 18446744073709551616) → K (.bool y) (HF h nv k' s' rest ++ g)) : Good prog J 24 [ptr h.length 0,vint a,vint b] (HF h nv k s rest ++ g) K := by
 refine g24 hJ fun ok => ?_
 rw [e24,b_sub (by omega)]
 refine up hJ hn hs hk (by omega) fun y k' s' _ _ h3 h4 => ?_
 rw [b_lss]
 exact retL_same (by simp [unk]) (hK _ _ _ h3 h4)
theorem cs_val {t : Tal} {cv nv : Value} : (talCells t cv nv).length = 6 := rfl
structure BT (n : Nat) (g : List AObj) (L : List Rng) (Cs : List Cnt) (nums losses : List Int) (cv cov nuv lov : Value) (o1 o2 o3 o4 : Option Nat) : Prop where
 ch : OwnE n g 2 (L.flatMap Rng.cells) L.length cv o1
 co : OwnE n g 4 (Cs.flatMap Cnt.cells) Cs.length cov o2
 nu : OwnE n g 1 (nums.map vint) nums.length nuv o3
 lo : OwnE n g 1 (losses.map vint) losses.length lov o4
 len : 2 < g.length
 b1 : ∀ i,o1 = some i → 2 < i
 b2 : ∀ i,o2 = some i → 2 < i
 b3 : ∀ i,o3 = some i → 2 < i
 b4 : ∀ i,o4 = some i → 2 < i
 d12 : ∀ i,o1 = some i → o2 ≠ some i
 d13 : ∀ i,o1 = some i → o3 ≠ some i
 d14 : ∀ i,o1 = some i → o4 ≠ some i
 d23 : ∀ i,o2 = some i → o3 ≠ some i
 d24 : ∀ i,o2 = some i → o4 ≠ some i
 d34 : ∀ i,o3 = some i → o4 ≠ some i
section
variable {n : Nat} {g : List AObj} {L : List Rng} {Cs : List Cnt} {nums losses : List Int} {cv cov nuv lov : Value} {o1 o2 o3 o4 : Option Nat} {nv : Value} {k : Nat} {s : Int} {rest : List AObj}
theorem BT.app {g' : List AObj} (B : BT n g L Cs nums losses cv cov nuv lov o1 o2 o3 o4) : BT n (g ++ g') L Cs nums losses cv cov nuv lov o1 o2 o3 o4 :=
 ⟨ownE_app B.ch,ownE_app B.co,ownE_app B.nu,ownE_app B.lo,by have := B.len; simp; omega,B.b1,B.b2,B.b3,B.b4,B.d12,B.d13,B.d14,B.d23,B.d24,B.d34⟩
theorem BT.set {i : Nat} {y : AObj} (B : BT n g L Cs nums losses cv cov nuv lov o1 o2 o3 o4) (h1 : o1 ≠ some i) (h2 : o2 ≠ some i) (h3 : o3 ≠ some i) (h4 : o4 ≠ some i) : BT n (g.set i y) L Cs nums losses cv cov nuv lov o1 o2 o3 o4 :=
 ⟨ownE_set B.ch h1,ownE_set B.co h2,ownE_set B.nu h3,ownE_set B.lo h4,by have := B.len; simpa using this,B.b1,B.b2,B.b3,B.b4,B.d12,B.d13,B.d14,B.d23,B.d24,B.d34⟩
theorem BT.set2 {i : Nat} {y : AObj} (B : BT n g L Cs nums losses cv cov nuv lov o1 o2 o3 o4) (hi : i ≤ 2) : BT n (g.set i y) L Cs nums losses cv cov nuv lov o1 o2 o3 o4 :=
 B.set (fun e => by have := B.b1 _ e; omega) (fun e => by have := B.b2 _ e; omega) (fun e => by have := B.b3 _ e; omega) (fun e => by have := B.b4 _ e; omega)
theorem BT.small {i : Nat} (B : BT n g L Cs nums losses cv cov nuv lov o1 o2 o3 o4) (hi : i ≤ 2) : o1 ≠ some i ∧ o2 ≠ some i ∧ o3 ≠ some i ∧ o4 ≠ some i :=
 ⟨fun e => by have := B.b1 _ e; omega,fun e => by have := B.b2 _ e; omega,fun e => by have := B.b3 _ e; omega,fun e => by have := B.b4 _ e; omega⟩
theorem BT.ch_more {x : Rng} {y : Value} {H : Value → List AObj → Prop} (B : BT (h.length + 1 + rest.length) g L Cs nums losses cv cov nuv lov o1 o2 o3 o4) (hl : L.length < 1000) (hy : Sli (HF h nv k s rest ++ g) y 2 1 x.cells)
  (hk : ∀ v' g',BT (h.length + 1 + rest.length) g' (L ++ [x]) Cs nums losses v' cov nuv lov (some g.length) o2 o3 o4 → (∀ i x,i ≤ 2 → g[i]? = some x → g'[i]? = some x) → H v' (HF h nv k s rest ++ g')) : aApp 2 cv y (HF h nv k s rest ++ g) H :=
 nmore B.ch (by omega) hl hy fun v' g' ho hkeep => hk v' g' ⟨by simpa using ho,ownE_keep B.co fun i x hi hx => hkeep i x (fun e => B.d12 i e hi) hx,ownE_keep B.nu fun i x hi hx => hkeep i x (fun e => B.d13 i e hi) hx,ownE_keep B.lo fun i x hi hx => hkeep i x (fun e => B.d14 i e hi) hx,by have := ownE_lt ho rfl; have := B.len; omega,fun i e => by cases e; exact B.len,B.b2,B.b3,B.b4,fun i e e2 => by cases e; have := ownE_lt B.co e2; omega,fun i e e2 => by cases e; have := ownE_lt B.nu e2; omega,fun i e e2 => by cases e; have := ownE_lt B.lo e2; omega,B.d23,B.d24,B.d34⟩ fun i x hi hx => hkeep i x (B.small hi).1 hx
theorem BT.co_more {x : Cnt} {y : Value} {H : Value → List AObj → Prop} (B : BT (h.length + 1 + rest.length) g L Cs nums losses cv cov nuv lov o1 o2 o3 o4) (hl : Cs.length < 1000) (hy : Sli (HF h nv k s rest ++ g) y 4 1 x.cells)
  (hk : ∀ v' g',BT (h.length + 1 + rest.length) g' L (Cs ++ [x]) nums losses cv v' nuv lov o1 (some g.length) o3 o4 → (∀ i x,i ≤ 2 → g[i]? = some x → g'[i]? = some x) → H v' (HF h nv k s rest ++ g')) : aApp 4 cov y (HF h nv k s rest ++ g) H :=
 nmore B.co (by omega) hl hy fun v' g' ho hkeep => hk v' g' ⟨ownE_keep B.ch fun i x hi hx => hkeep i x (B.d12 i hi) hx,by simpa using ho,ownE_keep B.nu fun i x hi hx => hkeep i x (fun e => B.d23 i e hi) hx,ownE_keep B.lo fun i x hi hx => hkeep i x (fun e => B.d24 i e hi) hx,by have := ownE_lt ho rfl; have := B.len; omega,B.b1,fun i e => by cases e; exact B.len,B.b3,B.b4,fun i e e2 => by cases e2; have := ownE_lt B.ch e; omega,B.d13,B.d14,fun i e e2 => by cases e; have := ownE_lt B.nu e2; omega,fun i e e2 => by cases e; have := ownE_lt B.lo e2; omega,B.d34⟩ fun i x hi hx => hkeep i x (B.small hi).2.1 hx
theorem BT.nu_more {x : Int} {y : Value} {H : Value → List AObj → Prop} (B : BT (h.length + 1 + rest.length) g L Cs nums losses cv cov nuv lov o1 o2 o3 o4) (hl : nums.length < 1000) (hy : Sli (HF h nv k s rest ++ g) y 1 1 [vint x])
  (hk : ∀ v' g',BT (h.length + 1 + rest.length) g' L Cs (nums ++ [x]) losses cv cov v' lov o1 o2 (some g.length) o4 → (∀ i x,i ≤ 2 → g[i]? = some x → g'[i]? = some x) → H v' (HF h nv k s rest ++ g')) : aApp 1 nuv y (HF h nv k s rest ++ g) H :=
 nmore B.nu (by omega) hl hy fun v' g' ho hkeep => hk v' g' ⟨ownE_keep B.ch fun i x hi hx => hkeep i x (B.d13 i hi) hx,ownE_keep B.co fun i x hi hx => hkeep i x (B.d23 i hi) hx,by simpa using ho,ownE_keep B.lo fun i x hi hx => hkeep i x (fun e => B.d34 i e hi) hx,by have := ownE_lt ho rfl; have := B.len; omega,B.b1,B.b2,fun i e => by cases e; exact B.len,B.b4,B.d12,fun i e e2 => by cases e2; have := ownE_lt B.ch e; omega,B.d14,fun i e e2 => by cases e2; have := ownE_lt B.co e; omega,B.d24,fun i e e2 => by cases e; have := ownE_lt B.lo e2; omega⟩ fun i x hi hx => hkeep i x (B.small hi).2.2.1 hx
theorem BT.lo_more {x : Int} {y : Value} {H : Value → List AObj → Prop} (B : BT (h.length + 1 + rest.length) g L Cs nums losses cv cov nuv lov o1 o2 o3 o4) (hl : losses.length < 1000) (hy : Sli (HF h nv k s rest ++ g) y 1 1 [vint x])
  (hk : ∀ v' g',BT (h.length + 1 + rest.length) g' L Cs nums (losses ++ [x]) cv cov nuv v' o1 o2 o3 (some g.length) → (∀ i x,i ≤ 2 → g[i]? = some x → g'[i]? = some x) → H v' (HF h nv k s rest ++ g')) : aApp 1 lov y (HF h nv k s rest ++ g) H :=
 nmore B.lo (by omega) hl hy fun v' g' ho hkeep => hk v' g' ⟨ownE_keep B.ch fun i x hi hx => hkeep i x (B.d14 i hi) hx,ownE_keep B.co fun i x hi hx => hkeep i x (B.d24 i hi) hx,ownE_keep B.nu fun i x hi hx => hkeep i x (B.d34 i hi) hx,by simpa using ho,by have := ownE_lt ho rfl; have := B.len; omega,B.b1,B.b2,B.b3,fun i e => by cases e; exact B.len,B.d12,B.d13,fun i e e2 => by cases e2; have := ownE_lt B.ch e; omega,B.d23,fun i e e2 => by cases e2; have := ownE_lt B.co e; omega,fun i e e2 => by cases e2; have := ownE_lt B.nu e; omega⟩ fun i x hi hx => hkeep i x (B.small hi).2.2.2 hx
end
structure S1 (h : List AObj) (rest g : List AObj) (C gt lo w mo : Int) (L : List Rng) (nums losses : List Int) (cv nuv lov : Value) (o1 o3 o4 : Option Nat) (j : Nat) (f : RG) : Prop where
 bt : BT (h.length + 1 + rest.length) g L [] nums losses cv (.slice none 0 0) nuv lov o1 none o3 o4
 z0 : g[0]? = some (.cells [vint 0,vint 0,vint 0,.slice none 0 0,vint 0,.slice none 0 0] true 0)
 t2 : g[2]? = some (.cells (talCells ⟨gt,⟨lo,lo + w⟩,L,mo,[]⟩ cv (.slice none 0 0)) true 0)
 chn : Chain ⟨gt,⟨lo,lo + w⟩,L,mo,[]⟩ nums losses
 lj : L.length = j
 jg : (j : Int) + 1 ≤ gt
 g5 : gt ≤ 5
 ds : f.ds = []
 r0 : f.r 0 = ptr h.length 0
 r2 : f.r 2 = vint C
 r6 : f.r 6 = ptr (h.length + 1 + rest.length + 0) 0
 r9 : f.r 9 = ptr (h.length + 1 + rest.length + 2) 0
 r10 : f.r 10 = vint (nums.getD j 0)
 r11 : f.r 11 = nuv
 r12 : f.r 12 = lov
 r13 : f.r 13 = vint ((j : Int) + 1)
theorem rnd1 (hJ : Closed prog main J) {nv : Value} {ns : List Int} {rest g : List AObj} {k : Nat} {s : Int} (hn : Hnd h nv ns) (hs : 0 ≤ s ∧ s < 18446744073709551616) (hk : k < 200000) {C gt lo w mo : Int} {L : List Rng} {nums losses : List Int} {cv nuv lov : Value} {o1 o3 o4 : Option Nat} {j : Nat} {f : RG}
  (S : S1 h rest g C gt lo w mo L nums losses cv nuv lov o1 o3 o4 j f) {nx0 : RG → List AObj → Prop}
  (hx : (j : Int) + 1 < gt → ∀ k5 t5 g3 L' nums' losses' v1 v2 v3 o1' o3' o4' f',k5 ≤ k + 4 → (0 ≤ t5 ∧ t5 < 18446744073709551616) → S1 h rest g3 C gt lo w mo L' nums' losses' v1 v2 v3 o1' o3' o4' (j + 1) f' → nx0 f' (HF h nv k5 t5 rest ++ g3))
  (he : (j : Int) + 1 = gt → ∀ k5 t5 m f',k5 ≤ k + 1 → (0 ≤ t5 ∧ t5 < 18446744073709551616) → 0 ≤ m → (m ≤ C ∨ m = 0) → m ≤ 7 → f'.ds = [] → (∀ i,i < 15 → f'.r i = f.r i) → f'.r 16 = vint m → Sem J 152 n0 23 (subC yp16 (codeOf f23)) f' (HF h nv k5 t5 rest ++ g) (contQ prog J 152 n0 23 [1,1,1,1,1,1,1,1,0,1,0] (codeOf f23) [] (RetQ prog [.cell 6 27,.tmp 7,.tmp 8] n0 K))) (hC : 0 ≤ C ∧ C ≤ 7) :
  W prog J 152 n0 23 (subC yp33 (codeOf f23)) f (HF h nv k s rest ++ g) (thenK nx0 (contQ prog J 152 n0 23 [1,1,1,1,1,1,1,0,1,0] (codeOf f23) [] (RetQ prog [.cell 6 27,.tmp 7,.tmp 8] n0 K))) := by
 obtain ⟨B,z0,t2,chn,hj,hjg,g5,hds,r0,r2,r6,r9,r10,r11,r12,r13⟩ := S
 have numl := chn.numl
 have losl := chn.losl
 have bdj := chn.bd j (by dsimp only; omega)
 have hmo := chn.most
 dsimp only at numl losl hmo
 rw [s23_1]
 simp only [r0,r2,r9,r10,r11,r12,r13]
 refine offI (nLd t2 rfl rfl (lssI (cndI (fun hlt => ?_) fun hge => ?_)))
 ·replace hlt : (j : Int) + 1 < gt := hlt
  refine amo hJ hn hs (by omega) (by omega) (by omega) fun rl k2 t2' p1 p2 hk2 ht2 => ?_
  refine fill1 rfl rfl (by decide) (fillI (nAl (nStA last_get rfl rfl rfl ?_)))
  rw [last_set]
  refine ⟨[g.length].map fun i => h.length + 1 + rest.length + i,?_⟩
  refine offI (nLd last_get rfl rfl ⟨nRd (by simp),?_⟩)
  refine up hJ hn ht2 (by omega) (by omega) fun d k3 t3 p3 p4 hk3 ht3 => ?_
  refine ⟨nSame (by simp),addI (by omega) (offI (nSt last_get (by simp) rfl rfl ?_))⟩
  rw [last_set]
  refine offI (nLd (v := vint mo) (get_app t2) rfl rfl ?_)
  refine up hJ hn ht3 (by omega) (by omega) fun l k4 t4 p5 p6 hk4 ht4 => ?_
  refine offI (nLd (v := vint rl) last_get rfl rfl (offI (nLd (v := vint (rl + d)) last_get rfl rfl ?_)))
  refine amo hJ hn ht4 (by omega) (by omega) (by omega) fun c k5 t5 p7 p8 hk5 ht5 => ?_
  refine addI (by omega) (subI (by omega) (offI (nLd (get_app t2) rfl (ownE_val B.ch).2.2 ?_)))
  refine nLdA (c := [vint rl,vint (rl + d)]) last_get (by simp) rfl rfl ?_
  refine ⟨by decide,fill_agg rfl rfl (by simp [zrep]) (fillI (nNew ?_))⟩
  refine ⟨by decide,BT.ch_more (x := ⟨rl,rl + d⟩) B.app.app (by omega) (nlast rfl rfl) fun v1 g1 B1 kp1 => ?_⟩
  refine ⟨by decide,fill1 rfl rfl (by decide) (fillI (nNew ?_))⟩
  refine ⟨by decide,BT.nu_more (x := nums.getD j 0 + c - l) B1.app (by omega) (nlast rfl rfl) fun v2 g2 B2 kp2 => ?_⟩
  refine ⟨by decide,fill1 rfl rfl (by decide) (fillI (nNew ?_))⟩
  refine ⟨by decide,BT.lo_more (x := l) B2.app (by omega) (nlast rfl rfl) fun v3 g3 B3 kp3 => ?_⟩
  have kp : ∀ i x,i ≤ 2 → g[i]? = some x → g3[i]? = some x := fun i x hi hx => kp3 i _ hi (get_app (kp2 i _ hi (get_app (kp1 i _ hi (get_app (get_app hx))))))
  have hgl : 2 < g3.length := B3.len
  refine offI (nSt (kp 2 _ (by omega) t2) (by simp [talCells]) (ownE_val B3.ch).1 (ownE_val B3.ch).2.1 (addI (by omega) ?_))
  refine hx hlt _ _ _ (L ++ [⟨rl,rl + d⟩]) (nums ++ [nums.getD j 0 + c - l]) (losses ++ [l]) v1 v2 v3 _ _ _ _ (by omega) ht5 ⟨B3.set2 (by omega),get_set (kp 0 _ (by omega) z0) (by omega),?_,?_,by simp [hj],by omega,g5,hds,r0,r2,r6,r9,?_,rfl,rfl,?_⟩
  ·rw [List.getElem?_set_self hgl]
   rfl
  ·subst hj
   exact chn.more (r := ⟨rl,rl + d⟩) (by dsimp only; omega) (by dsimp only; omega) (by dsimp only; omega)
  ·show vint _ = vint _
   congr 1
   rw [← hj,← numl,getD_app2]
  ·show vint _ = vint _
   congr 1
 ·refine minI ?_
  refine up hJ hn hs (by omega) (by omega) fun m k2 s2 p1 p2 hk2 hs2 => ?_
  refine he (by replace hge : ¬ ((j : Int) + 1 < gt) := hge; omega) _ _ m _ hk2 hs2 p1 (by omega) (by omega) hds (fun i hi => ?_) rfl
  match i,hi with
  | 0,_ | 1,_ | 2,_ | 3,_ | 4,_ | 5,_ | 6,_ | 7,_ | 8,_ | 9,_ | 10,_ | 11,_ | 12,_ | 13,_ | 14,_ => rfl
theorem tal_kn {t : Tal} {cv nv : Value} (h1 : kn1 cv = true) (h2 : kn1 nv = true) : kn (talCells t cv nv) = true := by
 unfold kn talCells
 simp only [List.all_cons,List.all_nil,h1,h2]
 rfl
theorem tal_ones {t : Tal} {cv nv : Value} (h1 : one cv = true) (h2 : one nv = true) : (talCells t cv nv).all one = true := by
 unfold talCells
 simp only [List.all_cons,List.all_nil,h1,h2]
 rfl
structure S2 (h : List AObj) (rest g : List AObj) (C gt lo w mo : Int) (L : List Rng) (Cs : List Cnt) (nums losses : List Int) (cv cov lov : Value) (i3 c3 : Nat) (o1 o2 o4 : Option Nat) (i : Nat) (f : RG) : Prop where
 bt : BT (h.length + 1 + rest.length) g L Cs nums losses cv cov (.slice (some ⟨h.length + 1 + rest.length + i3,0,none⟩) nums.length c3) lov o1 o2 (some i3) o4
 z0 : g[0]? = some (.cells [vint 0,vint 0,vint 0,.slice none 0 0,vint 0,.slice none 0 0] true 0)
 t2 : g[2]? = some (.cells (talCells ⟨gt,⟨lo,lo + w⟩,L,mo,Cs⟩ cv cov) true 0)
 co : ∀ c ∈ Cs,CoOk gt nums c
 few : (Cs.length : Int) + i ≤ C
 ds : f.ds = []
 r0 : f.r 0 = ptr h.length 0
 r6 : f.r 6 = ptr (h.length + 1 + rest.length + 0) 0
 r9 : f.r 9 = ptr (h.length + 1 + rest.length + 2) 0
 r11 : f.r 11 = .slice (some ⟨h.length + 1 + rest.length + i3,0,none⟩) nums.length c3
 r12 : f.r 12 = lov
 r16 : f.r 16 = vint (i : Int)
theorem rnd2 (hJ : Closed prog main J) {nv : Value} {ns : List Int} {rest g : List AObj} {k : Nat} {s : Int} (hn : Hnd h nv ns) (hs : 0 ≤ s ∧ s < 18446744073709551616) (hk : k < 200000) {C gt lo w mo : Int} {L : List Rng} {Cs : List Cnt} {nums losses : List Int} {cv cov lov : Value} {i3 c3 : Nat} {o1 o2 o4 : Option Nat} {i : Nat} {f : RG}
  (S : S2 h rest g C gt lo w mo L Cs nums losses cv cov lov i3 c3 o1 o2 o4 i f) (hg : 1 ≤ gt ∧ gt ≤ 5) (hC : C ≤ 7) (hnl : (nums.length : Int) = gt) (hnb : ∀ j : Nat,(j : Int) < gt → 0 ≤ nums.getD j 0 ∧ nums.getD j 0 ≤ 100) {nx0 : RG → List AObj → Prop}
  (hx : 0 < i → ∀ k5 t5 g3 Cs' v1 o2' f',k5 ≤ k + 6 → (0 ≤ t5 ∧ t5 < 18446744073709551616) → S2 h rest g3 C gt lo w mo L Cs' nums losses cv v1 lov i3 c3 o1 o2' o4 (i - 1) f' → nx0 f' (HF h nv k5 t5 rest ++ g3))
  (he : i = 0 → ∀ g',BT (h.length + 1 + rest.length) g' L Cs nums losses cv cov (.slice (some ⟨h.length + 1 + rest.length + i3,0,none⟩) nums.length c3) lov o1 o2 (some i3) o4 → K (.tuple ⟨[.agg ⟨talCells ⟨gt,⟨lo,lo + w⟩,L,mo,Cs⟩ cv cov⟩,.slice (some ⟨h.length + 1 + rest.length + i3,0,none⟩) nums.length c3,lov]⟩) (HF h nv k s rest ++ g')) :
  W prog J 152 n0 23 (subC yp17 (codeOf f23)) f (HF h nv k s rest ++ g) (thenK nx0 (contQ prog J 152 n0 23 [1,1,1,1,1,1,1,1,0,1,0] (codeOf f23) [] (RetQ prog [.cell 6 27,.tmp 7,.tmp 8] n0 K))) := by
 obtain ⟨B,z0,t2,cok,few,hds,r0,r6,r9,r11,r12,r16⟩ := S
 rw [s23_2]
 simp only [r0,r6,r9,r11,r12,r16]
 refine gtrI (cndI (fun hlt => ?_) fun hge => ?_)
 ·refine offI (nLd (v := vint gt) t2 rfl rfl (subI (by omega) ?_))
  refine up hJ hn hs (by omega) (by omega) fun ga k1 s1 a1 b1 hk1 hs1 => ?_
  refine amo hJ hn hs1 (by omega) (by omega) (by omega) fun ma k2 s2 a2 b2 hk2 hs2 => ?_
  refine up hJ hn hs2 (by omega) (by omega) fun x k3 s3 a3 b3 hk3 hs3 => ?_
  refine up hJ hn hs3 (by omega) (by omega) fun y k4 s4 a4 b4 hk4 hs4 => ?_
  refine ⟨by decide,fill1 rfl rfl (by decide) (fill1 rfl rfl (by simp [zrep]) (fill1 rfl rfl (by simp [zrep]) (fill1 rfl rfl (by simp [zrep]) (fillI (nNew ?_)))))⟩
  refine ofl hJ hn hs4 (by omega) (others := [0,3,x,y]) (n := 4) rfl (by omega) fun e k5 s5 me hk5 hs5 => ?_
  have he20 : 0 ≤ e ∧ e ≤ 20 := by
   rcases me with rfl | me
   ·omega
   ·simp at me
    omega
  refine fill1 rfl rfl (by decide) (fill1 rfl rfl (by simp) (fill1 rfl rfl (by simp) (fillI (nAl ?_))))
  refine nStA (c := [vint ga,vint ma,vint 0,vint e]) last_get rfl rfl rfl ?_
  rw [last_set]
  obtain ⟨sz3,b3'⟩ := ownE_at B.nu
  have hga : 0 ≤ ga ∧ ga < gt := by omega
  have hnu : (nums.map vint)[0 + ga.toNat * 1]? = some (vint (nums.getD ga.toNat 0)) := by
   rw [Nat.mul_one,Nat.zero_add]
   exact map_get (by omega)
  have hnb' := hnb ga.toNat (by omega)
  have mb := mul_bd he20.1 he20.2 hnb'.1 hnb'.2
  have g3 : (g ++ [AObj.cells ([0,3,x,y].map vint) true 0] ++ [AObj.cells [vint ga,vint ma,vint 0,vint e] true 0])[i3]? = some (.cells (nums.map vint) true sz3) := get_app (get_app b3')
  refine offI (nLd (v := vint e) last_get rfl rfl (offI (nLd (v := vint ga) last_get rfl rfl (idxI ⟨by omega,by omega⟩ (nLd g3 hnu rfl ?_)))))
  generalize hE : nums.getD ga.toNat 0 = E at *
  have d0 : 0 ≤ e * E / 100 := Int.ediv_nonneg (by omega) (by omega)
  have d1 : e * E / 100 ≤ 20 := by
   have : e * E / 100 ≤ 2000 / 100 := Int.ediv_le_ediv (by omega) (by omega)
   omega
  refine mulI (by omega) (b_quo (by omega) (by omega) (by omega) ?_)
  refine ⟨[(g ++ [AObj.cells ([0,3,x,y].map vint) true 0]).length,i3].map fun i => h.length + 1 + rest.length + i,?_⟩
  refine offI (nLd (v := vint ga) last_get rfl rfl ⟨nRd (by simp),idxI ⟨by omega,by omega⟩ (nLd g3 hnu rfl ⟨nRd (by simp),negI (by omega) ?_⟩)⟩)
  refine amo hJ hn hs5 (by omega) (by omega) (by omega) fun z k6 s6 a6 b6 hk6 hs6 => ?_
  refine ⟨nSame (by simp),addI (by omega) (offI (nSt last_get (by simp) rfl rfl ?_))⟩
  rw [last_set]
  refine offI (nLd (get_app (get_app t2)) rfl (ownE_val B.co).2.2 ?_)
  refine nLdA (c := [vint ga,vint ma,vint (E + z),vint e]) last_get (by simp) rfl rfl ?_
  refine ⟨by decide,fill_agg rfl rfl (by simp [zrep]) (fillI (nNew ?_))⟩
  refine ⟨by decide,BT.co_more (x := ⟨ga,ma,E + z,e⟩) B.app.app.app (by omega) (nlast rfl rfl) fun v1 g1 B1 kp1 => ?_⟩
  have kp : ∀ i x,i ≤ 2 → g[i]? = some x → g1[i]? = some x := fun i x hi hx => kp1 i _ hi (get_app (get_app (get_app hx)))
  have hgl : 2 < g1.length := B1.len
  refine offI (nSt (kp 2 _ (by omega) t2) (by simp [talCells]) (ownE_val B1.co).1 (ownE_val B1.co).2.1 (subI (by omega) ?_))
  refine hx (by omega) _ _ _ (Cs ++ [⟨ga,ma,E + z,e⟩]) v1 _ _ (by omega) hs6 ⟨B1.set2 (by omega),get_set (kp 0 _ (by omega) z0) (by omega),?_,?_,by simp; omega,hds,r0,r6,r9,r11,r12,?_⟩
  ·rw [List.getElem?_set_self hgl]
   rfl
  ·intro c hc
   rcases List.mem_append.1 hc with hc | hc
   ·exact cok c hc
   ·simp at hc
    subst hc
    exact ⟨hga,by dsimp only; omega,he20,by dsimp only; rw [hE]; omega⟩
  ·show vint _ = vint _
   congr 1
   omega
 ·have hgl : 2 < g.length := B.len
  have hkn : kn (talCells ⟨gt,⟨lo,lo + w⟩,L,mo,Cs⟩ cv cov) = true := tal_kn (ownE_val B.ch).2.2 (ownE_val B.co).2.2
  refine nLdA (c := talCells ⟨gt,⟨lo,lo + w⟩,L,mo,Cs⟩ cv cov) t2 (by simp [talCells]) rfl hkn ?_
  refine nStA z0 rfl rfl (tal_ones (ownE_val B.ch).2.1 (ownE_val B.co).2.1) ?_
  refine retQ_same hds ?_
  refine resW_cell (gg := true) (s := 6) (by kernel_rfl) ?_
  show aLoad true 6 (f.r 6) _ _
  rw [r6]
  refine nLdA (c := talCells ⟨gt,⟨lo,lo + w⟩,L,mo,Cs⟩ cv cov) (List.getElem?_set_self (by omega)) (by simp [talCells]) rfl hkn ?_
  refine resW_tmp (by show Value.slice _ _ _ ≠ unk; simp [unk]) (resW_tmp ?_ (resW_nil ?_))
  ·show lov ≠ unk
   intro e
   have := (ownE_val B.lo).2.2
   rw [e] at this
   exact absurd this (by decide)
  ·exact he (by omega) _ (B.set2 (by omega))
theorem good23 (hJ : Closed prog main J) {nv : Value} {ns : List Int} {rest : List AObj} {k : Nat} {s : Int} (hn : Hnd h nv ns) (hs : 0 ≤ s ∧ s < 18446744073709551616) (hk : k < 100000) {G C : Int} (hG : 1 ≤ G ∧ G ≤ 5) (hC : 0 ≤ C ∧ C ≤ 7)
  (hK : ∀ (t : Tal) (nums losses : List Int) cv co nuv lov o1 o2 o3 o4 g k' s',TruthOk G C t nums losses → OwnE (h.length + 1 + rest.length) g 2 (t.changes.flatMap Rng.cells) t.changes.length cv o1 → OwnE (h.length + 1 + rest.length) g 4 (t.counts.flatMap Cnt.cells) t.counts.length co o2 →
   OwnE (h.length + 1 + rest.length) g 1 (nums.map vint) nums.length nuv o3 → OwnE (h.length + 1 + rest.length) g 1 (losses.map vint) losses.length lov o4 → (∀ i,o1 = some i → o2 ≠ some i) → k' ≤ k + 100 → (0 ≤ s' ∧ s' < 18446744073709551616) → K (.tuple ⟨[.agg ⟨talCells t cv co⟩,nuv,lov]⟩) (HF h nv k' s' rest ++ g)) :
  Good prog J 23 [ptr h.length 0,vint G,vint C] (HF h nv k s rest) K := by
 refine g23 hJ fun ok => ?_
 rw [e23]
 have h0 : HF h nv k s rest = HF h nv k s rest ++ [] := by simp
 rw [h0]
 refine nAl (minI ?_)
 rw [show min G 5 = G from by omega]
 refine amo hJ hn hs (by omega) (by omega) (by omega) fun gt k1 s1 g1 g2 hk1 hs1 => ?_
 refine up hJ hn hs1 (by omega) (by omega) fun x k2 s2 x1 x2 hk2 hs2 => ?_
 refine ⟨by decide,fill1 rfl rfl (by decide) (fill1 rfl rfl (by simp [zrep]) (fill1 rfl rfl (by simp [zrep]) (fillI (nNew ?_))))⟩
 refine ofl hJ hn hs2 (by omega) (others := [1,2,x]) (n := 3) rfl (by omega) fun mo k3 s3 m1 hk3 hs3 => ?_
 have mo4 : 0 ≤ mo ∧ mo ≤ 4 := by
  rcases m1 with rfl | m1
  ·omega
  ·simp at m1
   omega
 refine fill1 rfl rfl (by decide) (fill1 rfl rfl (by simp) (fillI (nAl ?_)))
 refine nStA last_get rfl rfl rfl ?_
 rw [last_set]
 refine amo hJ hn hs3 (by omega) (by omega) (by omega) fun lo k4 s4 l1 l2 hk4 hs4 => ?_
 refine offI (offI (nSt last_get (by simp) rfl rfl ?_))
 rw [last_set]
 refine ⟨[2].map fun i => h.length + 1 + rest.length + i,?_⟩
 refine offI (offI (nLd last_get rfl rfl ⟨nRd (by simp),?_⟩))
 refine up hJ hn hs4 (by omega) (by omega) fun a k5 s5 a1 a2 hk5 hs5 => ?_
 refine ⟨nSame (by simp),?_⟩
 refine up hJ hn hs5 (by omega) (by omega) fun b k6 s6 b1 b2 hk6 hs6 => ?_
 refine ⟨nSame (by simp),?_⟩
 refine ⟨by decide,fill1 rfl rfl (by decide) (fill1 rfl rfl (by simp [zrep]) (fillI (nNew ⟨nSame (by simp),?_⟩)))⟩
 refine ofl hJ hn hs6 (by omega) (others := [a,b]) (n := 2) rfl (by omega) fun w k7 s7 w1 hk7 hs7 => ?_
 have w6 : 0 ≤ w ∧ w ≤ 6 := by
  rcases w1 with rfl | w1
  ·omega
  ·simp at w1
   omega
 refine ⟨nSame (by simp),addI (by omega) (offI (offI (nSt (i := 2) rfl (by simp) rfl rfl ?_)))⟩
 refine offI (offI (nLd (i := 2) rfl rfl rfl (offI (offI (nLd (i := 2) rfl rfl rfl ?_)))))
 refine amo hJ hn hs7 (by omega) (by omega) (by omega) fun now k8 s8 n1 n2 hk8 hs8 => ?_
 refine ⟨by decide,fill1 rfl rfl (by decide) (fillI (nNew ?_))⟩
 -- the ranges
 have kk : k8 ≤ k + 8 := by omega
 clear hk1 hk2 hk3 hk4 hk5 hk6 hk7 hk8 hs1 hs2 hs3 hs4 hs5 hs6 hs7
 refine l23_1 hJ (fun j : Nat => 5 - j) (fun j f h' => ∃ k1 s1 g L nums losses cv nuv lov o1 o3 o4,h' = HF h nv k1 s1 rest ++ g ∧ (0 ≤ s1 ∧ s1 < 18446744073709551616) ∧ k1 ≤ k + 20 + 4 * j ∧ S1 h rest g C gt lo w mo L nums losses cv nuv lov o1 o3 o4 j f) ?_ (s := 0)
  (.inl ⟨k8,s8,_,[],[now],[],_,_,_,none,some 4,none,rfl,hs8,by omega,⟨ownE_nil,ownE_nil,⟨rfl,rfl,.inr ⟨4,1,0,rfl,rfl,rfl,.inr rfl⟩⟩,ownE_nil,by simp,by simp,by simp,by simp,by simp,by simp,by simp,by simp,by simp,by simp,by simp⟩,rfl,rfl,
   ⟨rfl,rfl,by dsimp only; omega,mo4,by simp,by simp only [List.getD_cons_zero]; omega,fun i hi => absurd hi (by simp)⟩,rfl,by omega,by omega,rfl,rfl,rfl,rfl,rfl,rfl,rfl,rfl,rfl⟩)
 rintro j f _ ⟨k1,t1,g,L,nums,losses,cv,nuv,lov,o1,o3,o4,rfl,ht1,hkj,S⟩ ok' hn'
 have hj4 : j ≤ 4 := by
  have := S.jg
  have := S.g5
  omega
 refine rnd1 hJ hn ht1 (by omega) S (fun hlt k5 t5 g3 L' nums' losses' v1 v2 v3 o1' o3' o4' f' q1 q2 q3 => ⟨j + 1,by dsimp only; omega,.inl ⟨_,_,_,_,_,_,_,_,_,_,_,_,rfl,q2,by omega,q3⟩⟩) ?_ hC
 intro hjg k2 t2 m f' hk2 ht2 m1 m2 m3 hds hr r16
 have hl := S.lj
 have chn := S.chn
 have numl := chn.numl
 dsimp only at numl
 obtain ⟨i3,c3,sz3,rfl,hnuv,b3,c3'⟩ : ∃ i3 c3 sz3,o3 = some i3 ∧ nuv = .slice (some ⟨h.length + 1 + rest.length + i3,0,none⟩) nums.length c3 ∧ g[i3]? = some (.cells (nums.map vint) true sz3) ∧ ((c3 = fz ∧ sz3 = 1) ∨ c3 = nums.length) := by
  rcases S.bt.nu.2.2 with ⟨x,_⟩ | x
  ·omega
  ·exact x
 subst hnuv
 refine l23_2 hJ (fun i : Nat => i) (fun i f h' => ∃ k1 s1 g Cs cov o2,h' = HF h nv k1 s1 rest ++ g ∧ (0 ≤ s1 ∧ s1 < 18446744073709551616) ∧ k1 + 7 * i ≤ k + 99 ∧ S2 h rest g C gt lo w mo L Cs nums losses cv cov lov i3 c3 o1 o2 o4 i f) ?_ (s := m.toNat)
  (.inl ⟨_,_,_,[],_,none,rfl,ht2,by omega,S.bt,S.z0,S.t2,by simp,by simp; omega,hds,by rw [hr 0 (by omega),S.r0],by rw [hr 6 (by omega),S.r6],by rw [hr 9 (by omega),S.r9],by rw [hr 11 (by omega),S.r11],by rw [hr 12 (by omega),S.r12],by rw [r16]; congr 1; omega⟩)
 clear b3 c3'
 rintro i f _ ⟨k3,t3,g,Cs,cov,o2,rfl,ht3,hk3,S'⟩ ok' hn'
 have hjg' := S.g5
 refine rnd2 hJ hn ht3 (by omega) S' (by omega) (by omega) (by omega) (fun q hq => ?_) (fun hlt k5 t5 g3 Cs' v1 o2' f' q1 q2 q3 => ⟨i - 1,by dsimp only; omega,.inl ⟨_,_,_,_,_,_,rfl,q2,by omega,q3⟩⟩) ?_
 ·have := chn.bd q (by dsimp only; omega)
  omega
 ·intro hi0 g' B'
  have few := S'.few
  refine hK ⟨gt,⟨lo,lo + w⟩,L,mo,Cs⟩ nums losses cv cov _ lov o1 o2 _ o4 g' _ _ ⟨by dsimp only; omega,by dsimp only; omega,?_,by dsimp only; omega,S'.co⟩ B'.ch B'.co B'.nu B'.lo B'.d12 (by omega) ht3
  exact ⟨chn.numl,chn.losl,chn.first,chn.most,chn.ch,chn.zero,chn.step⟩
end
structure TalOk (G C : Int) (t : Tal) : Prop where
 gates : 1 ≤ t.gates ∧ t.gates ≤ G
 chl : (t.changes.length : Int) = t.gates - 1
 first : 30 ≤ t.first.lo ∧ t.first.lo ≤ 60 ∧ t.first.lo ≤ t.first.hi ∧ t.first.hi ≤ t.first.lo + 6
 most : 0 ≤ t.most ∧ t.most ≤ 4
 ch : ∀ r ∈ t.changes,-3 ≤ r.lo ∧ r.lo ≤ 2 ∧ r.lo ≤ r.hi ∧ r.hi ≤ r.lo + 2
 few : (t.counts.length : Int) ≤ C
 co : ∀ c ∈ t.counts,(0 ≤ c.gate ∧ c.gate < t.gates) ∧ (1 ≤ c.man ∧ c.man ≤ 4) ∧ (0 ≤ c.err ∧ c.err ≤ 20) ∧ (0 ≤ c.num ∧ c.num ≤ 200)
theorem firstE_zero {l : List Int} (h : ∀ e ∈ l,e = 0) : firstE l = 0 := by
 induction l with
 | nil => rfl
 | cons a l ih =>
  unfold firstE
  rw [if_neg (by simpa using h a (by simp))]
  exact ih fun e he => h e (by simp [he])
theorem TalOk.err {G C : Int} {t : Tal} (h : TalOk G C t) (hG : G ≤ 5) (hC : C ≤ 7) : talErr t = 0 := by
 have h1 := h.gates
 have h2 := h.chl
 have h3 := h.first
 have h4 := h.most
 have h5 := h.few
 have hr : rngErr 0 300 t.first = 0 := by
  unfold rngErr
  rw [if_neg (by omega),if_neg (by omega)]
 have hc : firstE (t.changes.map (rngErr (-60) 60)) = 0 := firstE_zero fun e he => by
  obtain ⟨r,hr,rfl⟩ := List.mem_map.1 he
  have := h.ch r hr
  unfold rngErr
  rw [if_neg (by omega),if_neg (by omega)]
 unfold talErr
 rw [if_neg (by omega),if_neg (by omega),if_neg (by omega),if_neg (by omega),if_neg (by omega),if_neg (by omega),if_neg (by omega)]
 refine firstE_zero fun e he => ?_
 obtain ⟨c,hc,rfl⟩ := List.mem_map.1 he
 obtain ⟨a,b,c,d⟩ := h.co c hc
 unfold cntErr
 rw [if_neg (by omega),if_neg (by omega)]
theorem cnt_set (x : Int) : ∀ (Cs : List Cnt) (i : Nat) (hi : i < Cs.length),(Cs.flatMap Cnt.cells).set (i * 4 + 2) (vint x) = (Cs.set i { Cs[i] with num := x }).flatMap Cnt.cells
 | [],_,hi => absurd hi (by simp)
 | c :: Cs,0,_ => rfl
 | c :: Cs,i + 1,hi => by
  have ih := cnt_set x Cs i (by simpa using hi)
  simp only [List.flatMap_cons,List.set_cons_succ,List.getElem_cons_succ]
  rw [← ih,List.set_append_right _ _ (by rw [cnt_len]; omega),cnt_len]
  congr 2
  omega
theorem TruthOk.num {G C : Int} {t : Tal} {nums losses : List Int} (h : TruthOk G C t nums losses) (hG : G ≤ 5) (c : Cnt) (hc : c ∈ t.counts) : 0 ≤ c.num ∧ c.num ≤ 150 := by
 obtain ⟨a,b,d,e⟩ := h.co c hc
 have h1 := h.gates
 have h2 := h.chl
 have := h.chain.bd c.gate.toNat (by omega)
 have mb := mul_bd d.1 d.2 (b := nums.getD c.gate.toNat 0) (B := 100) (by omega) (by omega)
 generalize hE : nums.getD c.gate.toNat 0 = E at *
 have d0 : 0 ≤ c.err * E / 100 := Int.ediv_nonneg (by omega) (by omega)
 have d1 : c.err * E / 100 ≤ 20 := by
  have : c.err * E / 100 ≤ 2000 / 100 := Int.ediv_le_ediv (by omega) (by omega)
  omega
 have m2 := mul_bd (a := 20 - c.err) (A := 20) (by omega) (by omega) (b := E) (B := 100) (by omega) (by omega)
 have e2 : c.err * E / 100 ≤ E / 5 := by
  have h3 : c.err * E ≤ 20 * E := by
   have : (20 - c.err) * E = 20 * E - c.err * E := Int.sub_mul _ _ _
   omega
  have : c.err * E / 100 ≤ 20 * E / 100 := Int.ediv_le_ediv (by omega) h3
  omega
 omega
theorem TruthOk.tal {G C : Int} {t : Tal} {nums losses : List Int} (h : TruthOk G C t nums losses) (hG : G ≤ 5) : TalOk G C t where
 gates := h.gates
 chl := h.chl
 first := h.chain.first
 most := h.chain.most
 ch := h.chain.ch
 few := h.few
 co := fun c hc => by
  obtain ⟨a,b,d,e⟩ := h.co c hc
  have := h.num hG c hc
  exact ⟨a,b,d,by omega,by omega⟩
section
variable {main : Bool} {J : JT} {h : List AObj} {K : Value → List AObj → Prop} {n0 : Nat}
theorem ownE_shift {n : Nat} {g : List AObj} {z : AObj} {s : Nat} {cs : List Value} {len : Nat} {v : Value} {o : Option Nat} (ho : OwnE (n + 1) g s cs len v o) : OwnE n (z :: g) s cs len v (o.map (· + 1)) := by
 obtain ⟨h1,h2,⟨a,b,rfl⟩ | ⟨i,c,sz,rfl,rfl,h5,h6⟩⟩ := ho
 ·exact ⟨h1,h2,.inl ⟨a,b,rfl⟩⟩
 ·exact ⟨h1,h2,.inr ⟨i + 1,c,sz,rfl,by rw [Nat.add_assoc n 1 i,Nat.add_comm 1 i],h5,h6⟩⟩
structure TO (h : List AObj) (rest g : List AObj) (t : Tal) (cv co : Value) (o1 o2 : Option Nat) : Prop where
 ch : OwnE (h.length + 1 + rest.length) g 2 (t.changes.flatMap Rng.cells) t.changes.length cv o1
 co : OwnE (h.length + 1 + rest.length) g 4 (t.counts.flatMap Cnt.cells) t.counts.length co o2
theorem TO.at {nv : Value} {k : Nat} {s : Int} {rest g : List AObj} {t : Tal} {cv co : Value} {o1 o2 : Option Nat} (T : TO h rest g t cv co o1 o2) : TalAt (HF h nv k s rest ++ g) (.agg ⟨talCells t cv co⟩) t cv co :=
 ⟨rfl,nsli T.ch,nsli T.co⟩
theorem good7 (hJ : Closed prog main J) {nv : Value} {ns : List Int} {rest : List AObj} {k : Nat} {s : Int} (hn : Hnd h nv ns) (hs : 0 ≤ s ∧ s < 18446744073709551616) (hk : k < 50000) {G C : Int} (hG : 1 ≤ G ∧ G ≤ 5) (hC : 0 ≤ C ∧ C ≤ 7)
  (hK : ∀ (t : Tal) cv co o1 o2 g k' s',TalOk G C t → TO h rest g t cv co o1 o2 → k' ≤ k + 120 → (0 ≤ s' ∧ s' < 18446744073709551616) → K (.agg ⟨talCells t cv co⟩) (HF h nv k' s' rest ++ g)) :
  Good prog J 7 [ptr h.length 0,vint G,vint C] (HF h nv k s rest) K := by
 refine g7 hJ fun ok => ?_
 rw [e7]
 have h0 : HF h nv k s rest = HF h nv k s rest ++ [] := by simp
 rw [h0]
 refine nAl ?_
 rw [List.nil_append,hf_app]
 refine good23 hJ hn hs (by omega) hG hC fun t nums losses cv co nuv lov o1 o2 o3 o4 g k1 s1 T O1 O2 _ _ hd hk1 hs1 => ext30 (ext31 (ext32 ?_))
 have hT := T.tal hG.2
 have hre : HF h nv k1 s1 (rest ++ [.cells [vint 0,vint 0,vint 0,.slice none 0 0,vint 0,.slice none 0 0] true 0]) ++ g = HF h nv k1 s1 rest ++ (.cells [vint 0,vint 0,vint 0,.slice none 0 0,vint 0,.slice none 0 0] true 0 :: g) := by
  rw [← hf_app,List.append_assoc]
  rfl
 have hln : h.length + 1 + (rest ++ [AObj.cells [vint 0,vint 0,vint 0,Value.slice none 0 0,vint 0,Value.slice none 0 0] true 0]).length = h.length + 1 + rest.length + 1 := by rw [List.length_append]; rfl
 rw [hln] at O1 O2
 have O1' := ownE_shift (z := .cells [vint 0,vint 0,vint 0,.slice none 0 0,vint 0,.slice none 0 0] true 0) O1
 have O2' := ownE_shift (z := .cells [vint 0,vint 0,vint 0,.slice none 0 0,vint 0,.slice none 0 0] true 0) O2
 rw [hre]
 have hc1 : ∀ i,o1.map (· + 1) = some i → 0 < i := fun i e => by
  cases o1 <;> simp at e
  omega
 have hc2 : ∀ i,o2.map (· + 1) = some i → 0 < i := fun i e => by
  cases o2 <;> simp at e
  omega
 have hd' : ∀ i,o1.map (· + 1) = some i → o2.map (· + 1) ≠ some i := fun i e e2 => by
  cases o1 <;> cases o2 <;> simp at e e2
  exact hd _ rfl (by congr 1; omega)
 generalize hg1 : (AObj.cells [vint 0,vint 0,vint 0,Value.slice none 0 0,vint 0,Value.slice none 0 0] true 0 :: g) = g1 at *
 have z0 : g1[0]? = some (.cells [vint 0,vint 0,vint 0,.slice none 0 0,vint 0,.slice none 0 0] true 0) := by rw [← hg1]; rfl
 generalize o1.map (· + 1) = p1 at *
 generalize o2.map (· + 1) = p2 at *
 refine nAl (nStA last_get rfl rfl (tal_ones (ownE_val O1').2.1 (ownE_val O2').2.1) ?_)
 rw [last_set]
 have hl1 : 0 < g1.length := by
  rw [← hg1]
  simp
 have lt1 : ∀ i,p1 = some i → i < g1.length := fun i e => ownE_lt O1' e
 have lt2 : ∀ i,p2 = some i → i < g1.length := fun i e => ownE_lt O2' e
 refine l7_1 hJ (fun i : Nat => 7 - i) (fun i f h' => ∃ k2 s2 g Cs,h' = HF h nv k2 s2 rest ++ g ∧ (0 ≤ s2 ∧ s2 < 18446744073709551616) ∧ k2 ≤ k + 100 + 2 * i ∧ i ≤ t.counts.length ∧ Cs.length = t.counts.length ∧ TalOk G C { t with counts := Cs } ∧ (∀ j (hj : j < Cs.length),i ≤ j → Cs[j].num ≤ 150) ∧
   OwnE (h.length + 1 + rest.length) g 2 (t.changes.flatMap Rng.cells) t.changes.length cv p1 ∧ OwnE (h.length + 1 + rest.length) g 4 (Cs.flatMap Cnt.cells) Cs.length co p2 ∧
   g[0]? = some (.cells [vint 0,vint 0,vint 0,.slice none 0 0,vint 0,.slice none 0 0] true 0) ∧ g[g1.length]? = some (.cells (talCells t cv co) true 0) ∧
   f.ds = [] ∧ f.r 0 = ptr h.length 0 ∧ f.r 6 = ptr (h.length + 1 + rest.length + 0) 0 ∧ f.r 7 = ptr (h.length + 1 + rest.length + g1.length) 0 ∧ f.r 10 = vint (i : Nat)) ?_ (s := 0)
  (.inl ⟨_,_,_,t.counts,rfl,hs1,by omega,by omega,rfl,hT,(fun j hj _ => (T.num hG.2 _ (List.getElem_mem _)).2),ownE_app O1',ownE_app O2',get_app z0,last_get,rfl,rfl,rfl,rfl,rfl⟩)
 clear hT z0 O1 O2 O1' O2' hre hln T hg1
 rintro i f _ ⟨k2,s2,g,Cs,rfl,hs2,hk2,hi,hcl,hT,h150,O1,O2,z0,tb,hds,r0,r6,r7,r10⟩ ok' hn'
 have hfew := hT.few
 dsimp only at hfew
 rw [s7_1]
 simp only [r0,r6,r7,r10]
 have hnext : ∀ {k3 s3 g' Cs' f'},k3 ≤ k + 100 + 2 * (i + 1) → (0 ≤ s3 ∧ s3 < 18446744073709551616) → i < t.counts.length → Cs'.length = t.counts.length → TalOk G C { t with counts := Cs' } → (∀ j (hj : j < Cs'.length),i + 1 ≤ j → Cs'[j].num ≤ 150) → OwnE (h.length + 1 + rest.length) g' 2 (t.changes.flatMap Rng.cells) t.changes.length cv p1 →
   OwnE (h.length + 1 + rest.length) g' 4 (Cs'.flatMap Cnt.cells) Cs'.length co p2 → g'[0]? = some (.cells [vint 0,vint 0,vint 0,.slice none 0 0,vint 0,.slice none 0 0] true 0) → g'[g1.length]? = some (.cells (talCells t cv co) true 0) →
   f'.ds = [] → f'.r 0 = ptr h.length 0 → f'.r 6 = ptr (h.length + 1 + rest.length + 0) 0 → f'.r 7 = ptr (h.length + 1 + rest.length + g1.length) 0 → f'.r 10 = vint ((i : Int) + 1) → Nx (HF h nv k s rest ++ []).length (fun i : Nat => 7 - i) (fun i f h' => ∃ k2 s2 g Cs,h' = HF h nv k2 s2 rest ++ g ∧ (0 ≤ s2 ∧ s2 < 18446744073709551616) ∧ k2 ≤ k + 100 + 2 * i ∧ i ≤ t.counts.length ∧ Cs.length = t.counts.length ∧ TalOk G C { t with counts := Cs } ∧ (∀ j (hj : j < Cs.length),i ≤ j → Cs[j].num ≤ 150) ∧
   OwnE (h.length + 1 + rest.length) g 2 (t.changes.flatMap Rng.cells) t.changes.length cv p1 ∧ OwnE (h.length + 1 + rest.length) g 4 (Cs.flatMap Cnt.cells) Cs.length co p2 ∧
   g[0]? = some (.cells [vint 0,vint 0,vint 0,.slice none 0 0,vint 0,.slice none 0 0] true 0) ∧ g[g1.length]? = some (.cells (talCells t cv co) true 0) ∧
   f.ds = [] ∧ f.r 0 = ptr h.length 0 ∧ f.r 6 = ptr (h.length + 1 + rest.length + 0) 0 ∧ f.r 7 = ptr (h.length + 1 + rest.length + g1.length) 0 ∧ f.r 10 = vint (i : Nat)) i f' (HF h nv k3 s3 rest ++ g') :=
  fun q1 q2 q3 q4 q5 q15 q6 q7 q8 q9 q10 q11 q12 q13 q14 => ⟨i + 1,by dsimp only; omega,.inl ⟨_,_,_,_,rfl,q2,by omega,by omega,q4,q5,q15,q6,q7,q8,q9,q10,q11,q12,q13,q14⟩⟩
 refine offI (nLd (v := co) tb rfl (ownE_val O2).2.2 (lenI (nsli (h := h) (nv := nv) (k := k2) (s := s2) O2) (lssI (cndI (fun hlt => ?_) fun hge => ?_))))
 ·have hil : i < Cs.length := by omega
  obtain ⟨ic,c,sz,rfl,rfl,gc,gcc⟩ : ∃ ic c sz,p2 = some ic ∧ co = .slice (some ⟨h.length + 1 + rest.length + ic,0,none⟩) Cs.length c ∧ g[ic]? = some (.cells (Cs.flatMap Cnt.cells) true sz) ∧ ((c = fz ∧ sz = 4) ∨ c = Cs.length) := by
   rcases O2.2.2 with ⟨x,_⟩ | x
   ·omega
   ·exact x
  refine good24 hJ hn hs2 (by omega) (by omega) fun y k3 s3 hk3 hs3 => cnd_bool.2 ⟨fun _ => ?_,fun _ => addI (by omega) (hnext (by omega) hs3 (by omega) hcl hT (fun j hj x => h150 j hj (by omega)) O1 O2 z0 tb hds r0 r6 r7 rfl)⟩
  have hco := hT.co Cs[i] (List.getElem_mem _)
  dsimp only at hco
  have hcell : (Cs.flatMap Cnt.cells)[0 + i * 4 + 2]? = some (vint Cs[i].num) := by
   rw [Nat.zero_add]
   exact part_get (flat_take cnt_len Cs i hil) rfl
  have hin : (0 : Int) ≤ (i : Nat) ∧ ((i : Nat) : Int) < (Cs.length : Nat) := by omega
  have hic1 := hc2 ic rfl
  have hic2 := lt2 ic rfl
  refine ⟨[g1.length,ic].map fun i => h.length + 1 + rest.length + i,?_⟩
  refine offI (nLd tb rfl rfl ⟨nRd (by simp),offI (nLd tb rfl rfl ⟨nRd (by simp),?_⟩)⟩)
  refine idxI hin (offI (nLd gc hcell rfl ⟨nRd (by simp),?_⟩))
  refine amo hJ hn hs3 (by omega) (by omega) (by omega) fun x k4 s4 x1 x2 hk4 hs4 => ?_
  refine ⟨nSame (by simp),addI (by omega) (maxI (idxI hin (offI (nSt gc ?_ rfl rfl (addI (by omega) ?_)))))⟩
  ·have := ownE_sli (A := List.replicate (h.length + 1 + rest.length) AObj.dead) (by rw [List.length_replicate]; exact O2)
   have := sli_vlen this
   rw [this]
   omega
  have hcs : (Cs.flatMap Cnt.cells).set (0 + (Int.toNat (i : Int)) * 4 + 2) (vint (max 0 (Cs[i].num + x))) = (Cs.set i { Cs[i] with num := max 0 (Cs[i].num + x) }).flatMap Cnt.cells := by
   rw [Nat.zero_add,Int.toNat_natCast]
   exact cnt_set _ Cs i hil
  rw [hcs]
  refine hnext (Cs' := Cs.set i { Cs[i] with num := max 0 (Cs[i].num + x) }) (by omega) hs4 (by omega) (by simpa using hcl) ?_ (fun j hj x => ?_) (ownE_set O1 fun e => hd' ic e rfl) ?_ (get_set z0 (by omega)) (get_set tb (by omega)) hds r0 r6 r7 rfl
  ·refine ⟨hT.gates,hT.chl,hT.first,hT.most,hT.ch,by simpa using hT.few,fun c hc => ?_⟩
   rcases List.mem_or_eq_of_mem_set hc with hc | hc
   ·exact hT.co c hc
   ·subst hc
    have := h150 i hil (by omega)
    exact ⟨hco.1,hco.2.1,hco.2.2.1,by dsimp only; omega,by dsimp only; omega⟩
  ·rw [List.getElem_set_ne (by omega)]
   exact h150 j (by simpa using hj) (by omega)
  ·refine ⟨?_,?_,.inr ⟨ic,c,sz,rfl,by rw [List.length_set],?_,by rw [List.length_set]; assumption⟩⟩
   ·have := O2.1
    rw [← cnt_set _ Cs i hil]
    simpa using this
   ·rw [← cnt_set _ Cs i hil]
    have := O2.2.1
    unfold kn at *
    rw [List.all_eq_true] at this ⊢
    intro y hy
    rcases List.mem_or_eq_of_mem_set hy with hy | hy
    ·exact this y hy
    ·subst hy
     rfl
   ·rw [List.getElem?_set_self (List.getElem?_eq_some_iff.1 gc).1]
 ·have hgl : g1.length < g.length := (List.getElem?_eq_some_iff.1 tb).1
  have hkn : kn (talCells t cv co) = true := tal_kn (ownE_val O1).2.2 (ownE_val O2).2.2
  refine nLdA (c := talCells t cv co) tb (by simp [talCells]) rfl hkn ?_
  refine nStA z0 rfl rfl (tal_ones (ownE_val O1).2.1 (ownE_val O2).2.1) ?_
  refine retQ_same hds ?_
  refine resW_cell (gg := true) (s := 6) (by kernel_rfl) ?_
  show aLoad true 6 (f.r 6) _ _
  rw [r6]
  refine nLdA (c := talCells t cv co) (List.getElem?_set_self (by omega)) (by simp [talCells]) rfl hkn ?_
  refine resW_nil ?_
  have hi7 := hfew
  exact hK { t with counts := Cs } cv co p1 p2 _ _ _ hT ⟨ownE_set O1 fun e => by have := hc1 _ e; omega,ownE_set O2 fun e => by have := hc2 _ e; omega⟩ (by omega) hs2
end
def Rng.meet (a b : Rng) : Rng := ⟨max a.lo b.lo,min a.hi b.hi⟩
def Rng.plus (a b : Rng) : Rng := ⟨a.lo + b.lo,a.hi + b.hi⟩
def rd (c : Cnt) : Rng := ⟨rdLo c,rdHi c⟩
section
variable {main : Bool} {J : JT} {h A g : List AObj} {K : Value → List AObj → Prop} {KV : Value → Prop} {HL : List AObj → Prop} {n0 : Nat}
theorem bSt2 {i o : Nat} {c : List Value} {sz : Nat} {x y : Value} (hb : g[i]? = some (.cells c true sz)) (ho : o + 2 ≤ c.length) (h1 : one x = true) (h2 : one y = true) (hk : HL (A ++ g.set i (.cells ((c.set o x).set (o + 1) y) true sz))) : aStore 2 (ptr (A.length + i) o) (.agg ⟨[x,y]⟩) (A ++ g) HL := by
 unfold aStore ptr
 simp only
 rw [back_get,hb]
 simp only [Value.cells,List.toList_toArray]
 refine ⟨rfl,by simp [h1,h2],ho,?_⟩
 rw [back_set]
 exact hk
def stretchR (t : Tal) (g : Nat) : Rng := ((t.changes[g]?).getD ⟨0,0⟩).plus ⟨-t.most,0⟩
end
def SameX (X : List Nat) (h H : List AObj) : Prop := h.length ≤ H.length ∧ ∀ i,i < h.length → i ∉ X → H[i]? = h[i]?
theorem SameX.refl {X : List Nat} {h : List AObj} : SameX X h h := ⟨Nat.le_refl _,fun _ _ _ => rfl⟩
theorem SameX.trans {X : List Nat} {h H H' : List AObj} (a : SameX X h H) (b : SameX X H H') : SameX X h H' :=
 ⟨Nat.le_trans a.1 b.1,fun i hi hx => by rw [b.2 i (Nat.lt_of_lt_of_le hi a.1) hx,a.2 i hi hx]⟩
theorem SameX.app {X : List Nat} {h H g : List AObj} (a : SameX X h H) : SameX X h (H ++ g) :=
 ⟨by have := a.1; simp; omega,fun i hi hx => by rw [List.getElem?_append_left (Nat.lt_of_lt_of_le hi a.1),a.2 i hi hx]⟩
theorem SameX.set {X : List Nat} {h H : List AObj} {i : Nat} {o : AObj} (a : SameX X h H) (hi : i ∈ X ∨ h.length ≤ i) : SameX X h (H.set i o) :=
 ⟨by have := a.1; simp; omega,fun j hj hx => by
  rw [List.getElem?_set,if_neg,a.2 j hj hx]
  rintro rfl
  rcases hi with hi | hi
  ·exact hx hi
  ·omega⟩
theorem SameX.get {X : List Nat} {h H : List AObj} {i : Nat} {o : AObj} (a : SameX X h H) (hx : h[i]? = some o) (hi : i ∉ X) : H[i]? = some o := by
 rw [a.2 i (List.getElem?_eq_some_iff.1 hx).1 hi,hx]
theorem SameX.pre {X : List Nat} {h0 g H : List AObj} (a : SameX X (h0 ++ g) H) (hX : ∀ x ∈ X,h0.length ≤ x) : ∃ g',H = h0 ++ g' := by
 refine ⟨H.drop h0.length,?_⟩
 have : H.take h0.length = h0 := by
  apply List.ext_getElem?
  intro i
  rw [List.getElem?_take]
  split
  ·rename_i hi
   rw [a.2 i (by simp; omega) (fun hx => by have := hX i hx; omega),List.getElem?_append_left hi]
  ·rename_i hi
   rw [List.getElem?_eq_none (by omega)]
 conv => lhs; rw [← List.take_append_drop h0.length H,this]
structure TalFine (t : Tal) : Prop where
 gates : 1 ≤ t.gates ∧ t.gates ≤ 5
 chl : (t.changes.length : Int) = t.gates - 1
 first : 0 ≤ t.first.lo ∧ t.first.lo ≤ t.first.hi ∧ t.first.hi ≤ 300
 ch : ∀ r ∈ t.changes,-60 ≤ r.lo ∧ r.lo ≤ r.hi ∧ r.hi ≤ 60
 most : 0 ≤ t.most ∧ t.most ≤ 60
 few : t.counts.length ≤ 7
 co : ∀ c ∈ t.counts,(0 ≤ c.gate ∧ c.gate < t.gates) ∧ (1 ≤ c.man ∧ c.man ≤ 9) ∧ (0 ≤ c.num ∧ c.num ≤ 300) ∧ (0 ≤ c.err ∧ c.err ≤ 20)
theorem firstE_all {l : List Int} (h : firstE l = 0) : ∀ e ∈ l,e = 0 := by
 induction l with
 | nil => simp
 | cons a l ih =>
  unfold firstE at h
  split at h
  ·omega
  ·rename_i ha
   intro e he
   rcases List.mem_cons.1 he with rfl | he
   ·omega
   ·exact ih h e he
theorem rngErr_zero {lo hi : Int} {r : Rng} (h : rngErr lo hi r = 0) : lo ≤ r.lo ∧ r.lo ≤ r.hi ∧ r.hi ≤ hi := by
 unfold rngErr at h
 split at h
 ·omega
 ·split at h
  ·omega
  ·omega
theorem cntErr_zero {c : Cnt} {g : Int} (h : cntErr c g = 0) : (0 ≤ c.gate ∧ c.gate < g) ∧ (1 ≤ c.man ∧ c.man ≤ 9) ∧ (0 ≤ c.num ∧ c.num ≤ 300) ∧ (0 ≤ c.err ∧ c.err ≤ 20) := by
 unfold cntErr at h
 split at h
 ·omega
 ·split at h
  ·omega
  ·omega
theorem talErr_fine {t : Tal} (h : talErr t = 0) : TalFine t := by
 unfold talErr at h
 split at h
 ·omega
 split at h
 ·contradiction
 split at h
 ·omega
 split at h
 ·omega
 split at h
 ·contradiction
 split at h
 ·omega
 split at h
 ·omega
 rename_i h1 h2 h3 h4 h5 h6 h7
 have h2' := rngErr_zero (by omega : rngErr 0 300 t.first = 0)
 refine ⟨by omega,by omega,h2',fun r hr => rngErr_zero (firstE_all (by omega : firstE (t.changes.map (rngErr (-60) 60)) = 0) _ (List.mem_map.2 ⟨r,hr,rfl⟩)),by omega,by omega,fun c hc => ?_⟩
 exact cntErr_zero (firstE_all h _ (List.mem_map.2 ⟨c,hc,rfl⟩))
def fwd (t : Tal) (L : Nat → Rng) : Nat → Rng
 | 0 => t.first.meet (L 0)
 | g + 1 => ((fwd t L g).plus (stretchR t g)).meet (L (g + 1))
def TruthIs (t : Tal) (L : Nat → Rng) : Prop := ∀ g : Nat,(g : Int) < t.gates → (fwd t L g).lo ≤ (fwd t L g).hi
noncomputable instance (t : Tal) (L : Nat → Rng) : Decidable (TruthIs t L) := Classical.propDecidable _
def OwnX (H : List AObj) (s : Nat) (cs : List Value) (len : Nat) (v : Value) (o : Option Nat) : Prop :=
 cs.length = len * s ∧ kn cs = true ∧ ((len = 0 ∧ v = .slice none 0 0 ∧ o = none) ∨ ∃ i c sz,o = some i ∧ v = .slice (some ⟨i,0,none⟩) len c ∧ H[i]? = some (.cells cs true sz) ∧ ((c = fz ∧ sz = s) ∨ c = len))
section
variable {h H : List AObj} {K : Value → List AObj → Prop} {KV : Value → Prop} {HL : List AObj → Prop} {n0 : Nat}
theorem SameX.weak {X Y : List Nat} {h H : List AObj} (a : SameX X h H) (hxy : ∀ x ∈ X,x ∈ Y) : SameX Y h H := ⟨a.1,fun i hi hx => a.2 i hi fun hm => hx (hxy i hm)⟩
theorem SameX.weak0 {Y : List Nat} {h H : List AObj} (a : SameX [] h H) : SameX Y h H := a.weak (by simp)
theorem SameX.thru {X Y : List Nat} {h H H' : List AObj} (a : SameX X h H) (b : SameX Y H H') (hy : ∀ y ∈ Y,y ∈ X ∨ h.length ≤ y) : SameX X h H' :=
 ⟨Nat.le_trans a.1 b.1,fun i hi hx => by
  rw [b.2 i (Nat.lt_of_lt_of_le hi a.1) fun hm => ?_,a.2 i hi hx]
  rcases hy i hm with h1 | h1
  ·exact hx h1
  ·omega⟩
theorem SameX.app0 {X : List Nat} {h H : List AObj} (a : SameX X h H) (hX : ∀ x ∈ X,h.length ≤ x) : ∃ g,H = h ++ g := by
 have := SameX.pre (h0 := h) (g := []) (X := X) (H := H) (by simpa using a) hX
 exact this
theorem lt_of_get {i : Nat} {o : AObj} (hx : H[i]? = some o) : i < H.length := (List.getElem?_eq_some_iff.1 hx).1
theorem SameX.sli {X : List Nat} {v : Value} {s n : Nat} {cs : List Value} (a : SameX X h H) (hs : Sli h v s n cs) (hX : ∀ x ∈ X,h.length ≤ x) : Sli H v s n cs := by
 obtain ⟨g,rfl⟩ := a.app0 hX
 exact sli_app hs
theorem qAl {l : List Value} (hk : ∀ H' p,p = H.length → SameX [] H H' → H'[p]? = some (.cells l true 0) → H'.length = p + 1 → K (ptr p 0) H') : aAlloc l H K :=
 hk _ _ rfl SameX.refl.app (by simp) (by simp)
theorem qBox {l : List Value} (h1 : l.all one = true) (hk : ∀ H' p,p = H.length → SameX [] H H' → H'[p]? = some (.cells l true 0) → H'.length = p + 1 → K (ptr p 0) H') : aBox (.agg ⟨l⟩) H K :=
 box_agg h1 (hk _ _ rfl SameX.refl.app (by simp) (by simp))
theorem qNew {n : Nat} {l : List Value} (hk : ∀ H' p,p = H.length → SameX [] H H' → H'[p]? = some (.cells l true 0) → H'.length = p + 1 → K (.slice (some ⟨p,0,none⟩) n n) H') : aNewS n l H K :=
 hk _ _ rfl SameX.refl.app (by simp) (by simp)
theorem qMk {z : List Value} {n : Nat} (hn : n ≤ 100000) (hk : ∀ H' p,p = H.length → SameX [] H H' → H'[p]? = some (.cells (zrep z n) true 0) → H'.length = p + 1 → K (.slice (some ⟨p,0,none⟩) n n) H') : aMkS z (vint n) (vint n) H K := by
 have hr : room = 1073741824 := rfl
 simp only [aMkS,Int.toNat_natCast]
 exact ⟨by omega,by omega,by omega,hk _ _ rfl SameX.refl.app (by simp) (by simp)⟩
theorem qSt {b o : Nat} {c : List Value} {sz : Nat} {v : Value} (hb : H[b]? = some (.cells c true sz)) (ho : o < c.length) (h1 : v.cells = #[v]) (h2 : one v = true) (hk : ∀ H',SameX [b] H H' → H'[b]? = some (.cells (c.set o v) true sz) → H'.length = H.length → HL H') : aStore 1 (ptr b o) v H HL :=
 store_cell hb ho h1 h2 (hk _ (SameX.refl.set (.inl (by simp))) (List.getElem?_set_self (lt_of_get hb)) (by simp))
theorem qStA {b n : Nat} {cs c : List Value} {sz : Nat} (hb : H[b]? = some (.cells cs true sz)) (hl : c.length = n) (hs : cs.length = n) (h1 : c.all one = true) (hk : ∀ H',SameX [b] H H' → H'[b]? = some (.cells c true sz) → H'.length = H.length → HL H') : aStore n (ptr b 0) (.agg ⟨c⟩) H HL :=
 store_agg hb hl hs h1 (hk _ (SameX.refl.set (.inl (by simp))) (List.getElem?_set_self (lt_of_get hb)) (by simp))
theorem qSt2 {b o : Nat} {c : List Value} {sz : Nat} {x y : Value} (hb : H[b]? = some (.cells c true sz)) (ho : o + 2 ≤ c.length) (h1 : one x = true) (h2 : one y = true) (hk : ∀ H',SameX [b] H H' → H'[b]? = some (.cells ((c.set o x).set (o + 1) y) true sz) → H'.length = H.length → HL H') : aStore 2 (ptr b o) (.agg ⟨[x,y]⟩) H HL := by
 have := bSt2 (A := []) (g := H) (i := b) (o := o) (c := c) (sz := sz) (x := x) (y := y) (HL := HL) hb ho h1 h2 (hk _ (SameX.refl.set (.inl (by simp))) (List.getElem?_set_self (lt_of_get hb)) (by simp))
 simpa using this
theorem ownX_iff {s len : Nat} {cs : List Value} {v : Value} {o : Option Nat} : OwnX H s cs len v o ↔ OwnE 0 H s cs len v o := by
 simp [OwnX,OwnE]
theorem ownX_nil {s : Nat} : OwnX H s [] 0 (.slice none 0 0) none := ⟨by simp,rfl,.inl ⟨rfl,rfl,rfl⟩⟩
theorem ownX_keep {s len : Nat} {cs : List Value} {v : Value} {o : Option Nat} {H' : List AObj} {X : List Nat} (ho : OwnX H s cs len v o) (a : SameX X H H') (hX : ∀ i,o = some i → i ∉ X) : OwnX H' s cs len v o := by
 obtain ⟨h1,h2,h3 | ⟨i,c,sz,rfl,h4,h5,h6⟩⟩ := ho
 ·exact ⟨h1,h2,.inl h3⟩
 ·exact ⟨h1,h2,.inr ⟨i,c,sz,rfl,h4,a.get h5 (hX i rfl),h6⟩⟩
theorem ownX_sli {s len : Nat} {cs : List Value} {v : Value} {o : Option Nat} (ho : OwnX H s cs len v o) : Sli H v s len cs := by
 have := ownE_sli (A := []) (ownX_iff.1 ho)
 exact this
theorem ownX_val {s len : Nat} {cs : List Value} {v : Value} {o : Option Nat} (ho : OwnX H s cs len v o) : v.cells = #[v] ∧ one v = true ∧ kn1 v = true := ownE_val (ownX_iff.1 ho)
theorem ownX_lt {s len : Nat} {cs : List Value} {v : Value} {o : Option Nat} (ho : OwnX H s cs len v o) : ∀ i,o = some i → i < H.length := fun _ hi => ownE_lt (ownX_iff.1 ho) hi
theorem ownX_new {s n p : Nat} {l : List Value} (hp : H[p]? = some (.cells l true 0)) (hl : l.length = n * s) (hk : kn l = true) : OwnX H s l n (.slice (some ⟨p,0,none⟩) n n) (some p) :=
 ⟨hl,hk,.inr ⟨p,n,0,rfl,rfl,hp,.inr rfl⟩⟩
theorem ownX_more {s len : Nat} {cs e : List Value} {v y : Value} {o : Option Nat} (ho : OwnX H s cs len v o) (hs : 0 < s) (hl : len < 1000) (hy : Sli H y s 1 e)
  (hk : ∀ v' H' p,p = H.length → OwnX H' s (cs ++ e) (len + 1) v' (some p) → SameX o.toList H H' → K v' H') : aApp s v y H K := by
 have hlo := ownX_lt ho
 refine ownE_more (A := []) (g := H) (ownX_iff.1 ho) hs hl hy fun v' g' ho' hkeep => hk v' ([] ++ g') _ rfl (ownX_iff.2 ho') ⟨?_,fun i hi hx => ?_⟩
 ·have := ownE_lt ho' rfl
  simp only [List.nil_append]
  omega
 ·have hx' : o ≠ some i := fun e => hx (by rw [e]; simp)
  obtain ⟨x,hxx⟩ : ∃ x,H[i]? = some x := ⟨H[i],List.getElem?_eq_getElem hi⟩
  rw [hxx]
  exact hkeep i x hx' hxx
theorem retX {X : List Nat} {vs : List Value} (ok : heapOk h) (hn : n0 ≤ h.length) (S : SameX X h H) (hX : ∀ x ∈ X,h.length ≤ x) (hv : ∀ v ∈ vs,v ≠ unk) (hw : VOk h.length (pack vs)) (hk : K (pack vs) h) : retL n0 K [] vs H := by
 obtain ⟨g,rfl⟩ := S.app0 hX
 exact retL_drop ok hn hv hw hk
end
def HX (h H : List AObj) (ns : List Int) (k : Nat) : Prop := ∃ nv k' s rest,H = HF h nv k' s rest ∧ k' ≤ k ∧ (0 ≤ s ∧ s < 18446744073709551616) ∧ Hnd h nv ns
section
variable {main : Bool} {J : JT} {h H : List AObj} {K : Value → List AObj → Prop} {ns : List Int} {k : Nat}
theorem HX.mono {k' : Nat} (a : HX h H ns k) (hk : k ≤ k') : HX h H ns k' := by
 obtain ⟨nv,k1,s,rest,e,h1,h2,h3⟩ := a
 exact ⟨nv,k1,s,rest,e,by omega,h2,h3⟩
theorem HX.pre (a : HX h H ns k) : SameX [] h H := by
 obtain ⟨nv,k1,s,rest,rfl,_⟩ := a
 exact SameX.refl.app
theorem HX.lt (a : HX h H ns k) : h.length < H.length := by
 obtain ⟨nv,k1,s,rest,rfl,_⟩ := a
 rw [hf_len]
 omega
theorem HX.same {X : List Nat} {H' : List AObj} (a : HX h H ns k) (S : SameX X H H') (hX : ∀ x ∈ X,h.length < x) : HX h H' ns k := by
 obtain ⟨nv,k1,s,rest,rfl,h1,h2,h3⟩ := a
 have e : HF h nv k1 s rest = (h ++ [.cells [nv,vint k1,.int .u64 s] true 0]) ++ rest := by simp [HF]
 rw [e] at S
 obtain ⟨g,hg⟩ := S.pre (fun x hx => by have := hX x hx; simp; omega)
 exact ⟨nv,k1,s,g,by rw [hg]; simp [HF],h1,h2,h3⟩
theorem hf_same {nv : Value} {k1 k2 : Nat} {s1 s2 : Int} {rest g : List AObj} : SameX [h.length] (HF h nv k1 s1 rest) (HF h nv k2 s2 rest ++ g) := by
 refine ⟨by rw [hf_app,hf_len,hf_len]; simp,fun i hi hx => ?_⟩
 simp at hx
 rw [List.getElem?_append_left (by rw [hf_len] at hi ⊢; omega)]
 unfold HF
 rcases Nat.lt_or_ge i h.length with x | x
 ·rw [List.getElem?_append_left x,List.getElem?_append_left x]
 ·rw [List.getElem?_append_right x,List.getElem?_append_right x]
  obtain ⟨j,hj⟩ : ∃ j,i - h.length = j + 1 := ⟨i - h.length - 1,by omega⟩
  rw [hj]
  rfl
theorem newX (hJ : Closed prog main J) {nv : Value} (sn : Sli h nv 1 ns.length (ns.map vint)) (hln : ns.length < 4611686018427387904)
  (hK : ∀ H,HX h H ns 0 → K (ptr h.length 0) H) : Good prog J 8 [nv] h K := by
 obtain ⟨nb,nc,hnv,_⟩ := id sn
 subst hnv
 exact good8 hJ (hK _ ⟨_,0,88172645463325252,[],rfl,Nat.le_refl _,by omega,⟨sn,hln⟩⟩)
theorem talX (hJ : Closed prog main J) (a : HX h H ns k) (hk : k < 50000) {G C : Int} (hG : 1 ≤ G ∧ G ≤ 5) (hC : 0 ≤ C ∧ C ≤ 7)
  (hK : ∀ t cv co H',TalOk G C t → SameX [h.length] H H' → HX h H' ns (k + 120) → TalAt H' (.agg ⟨talCells t cv co⟩) t cv co → K (.agg ⟨talCells t cv co⟩) H') : Good prog J 7 [ptr h.length 0,vint G,vint C] H K := by
 obtain ⟨nv,k1,s,rest,rfl,b1,b2,b3⟩ := a
 refine good7 hJ b3 b2 (by omega) hG hC fun t cv co o1 o2 g k' s' T O hk' hs' => hK t cv co _ T hf_same ⟨nv,k',s',rest ++ g,by rw [hf_app],by omega,hs',b3⟩ O.at
end
section
variable {h H : List AObj} {KV : Value → Prop}
theorem talAt_same {X : List Nat} {H' : List AObj} {v cv nv : Value} {t : Tal} (ht : TalAt H v t cv nv) (S : SameX X H H') (hX : ∀ x ∈ X,H.length ≤ x) : TalAt H' v t cv nv := ⟨ht.val,S.sli ht.ch hX,S.sli ht.co hX⟩
theorem talAt_kc {v cv nv : Value} {t : Tal} (ht : TalAt H v t cv nv) : kn (talCells t cv nv) = true := tal_kn (sli_one ht.ch).2.2 (sli_one ht.co).2.2
end
instance : DecidableEq Rng := fun a b =>
  if h : a.lo = b.lo ∧ a.hi = b.hi then isTrue (by cases a; cases b; simp_all) else isFalse (fun e => h (by rw [e]; exact ⟨rfl,rfl⟩))
instance : DecidableEq Cnt := fun a b =>
  if h : a.gate = b.gate ∧ a.man = b.man ∧ a.num = b.num ∧ a.err = b.err then isTrue (by cases a; cases b; simp_all) else isFalse (fun e => h (by rw [e]; exact ⟨rfl,rfl,rfl,rfl⟩))
theorem teqR (a b c d : Int) : teq prog 10000 23 (.agg ⟨[vint a,vint b]⟩) (.agg ⟨[vint c,vint d]⟩) =
 (match some (a == c) with
 | some true => (match some (b == d) with
  | some true => some true
  | some false => some false
  | none => none)
 | some false => some false
 | none => none) := by kernel_rfl
theorem teqC (a b c d a' b' c' d' : Int) : teq prog 10000 59 (.agg ⟨[vint a,vint b,vint c,vint d]⟩) (.agg ⟨[vint a',vint b',vint c',vint d']⟩) =
 (match some (a == a') with
 | some true => (match some (b == b') with
  | some true => (match some (c == c') with
   | some true => (match some (d == d') with
    | some true => some true
    | some false => some false
    | none => none)
   | some false => some false
   | none => none)
  | some false => some false
  | none => none)
 | some false => some false
 | none => none) := by kernel_rfl
theorem teqR2 (r q : Rng) : teq prog 10000 23 r.val q.val = some (decide (r = q)) := by
 obtain ⟨a,b⟩ := r
 obtain ⟨c,d⟩ := q
 unfold Rng.val Rng.cells
 rw [teqR]
 by_cases e1 : a = c
 ·by_cases e2 : b = d
  ·simp [e1,e2]
  ·rw [beq_eq_false_iff_ne.2 e2,beq_iff_eq.2 e1]
   simp [e2]
 ·rw [beq_eq_false_iff_ne.2 e1]
  simp [e1]
theorem teqC2 (r q : Cnt) : teq prog 10000 59 r.val q.val = some (decide (r = q)) := by
 obtain ⟨a,b,c,d⟩ := r
 obtain ⟨a',b',c',d'⟩ := q
 unfold Cnt.val Cnt.cells
 rw [teqC]
 by_cases e1 : a = a'
 ·by_cases e2 : b = b'
  ·by_cases e3 : c = c'
   ·by_cases e4 : d = d'
    ·simp [e1,e2,e3,e4]
    ·rw [beq_eq_false_iff_ne.2 e4,beq_iff_eq.2 e1,beq_iff_eq.2 e2,beq_iff_eq.2 e3]
     simp [e4]
   ·rw [beq_eq_false_iff_ne.2 e3,beq_iff_eq.2 e1,beq_iff_eq.2 e2]
    simp [e3]
  ·rw [beq_eq_false_iff_ne.2 e2,beq_iff_eq.2 e1]
   simp [e2]
 ·rw [beq_eq_false_iff_ne.2 e1]
  simp [e1]
section
variable {main : Bool} {J : JT} {h H : List AObj} {K : Value → List AObj → Prop} {KV : Value → Prop} {n0 : Nat}
theorem neqR {r q : Rng} (hk : KV (.bool (decide (r ≠ q)))) : aBin prog .neq 23 r.val q.val KV := by
 have e2 : prog.eqGuardType prog.depth 23 = false := by kernel_rfl
 show aEq prog true 23 r.val q.val KV
 unfold aEq
 rw [teqR2]
 exact ⟨e2,by simpa using hk⟩
theorem neqC {r q : Cnt} (hk : KV (.bool (decide (r ≠ q)))) : aBin prog .neq 59 r.val q.val KV := by
 have e2 : prog.eqGuardType prog.depth 59 = false := by kernel_rfl
 show aEq prog true 59 r.val q.val KV
 unfold aEq
 rw [teqC2]
 exact ⟨e2,by simpa using hk⟩
theorem good21 (hJ : Closed prog main J) {a b : Value} {l : List Rng} (ha : SliE h a 2 Rng.cells l) (hb : SliE h b 2 Rng.cells l) (hl : l.length < 1000000) (hK : K (.bool true) h) : Good prog J 21 [a,b] h K := by
 refine g21 hJ fun ok => ?_
 rw [e21]
 refine lenI ha (lenI hb (neqI (cndI (fun hx => absurd rfl hx) fun _ => ?_)))
 refine l21_1 hJ (fun i : Nat => l.length - i) (fun i f H => H = h ∧ i ≤ l.length ∧ f.ds = [] ∧ f.r 0 = a ∧ f.r 1 = b ∧ f.r 5 = vint (i : Nat)) ?_ (s := 0) (.inl ⟨rfl,by omega,rfl,rfl,rfl,rfl⟩)
 rintro i f H ⟨rfl,hi,hds,r0,r1,r5⟩ ok' hn'
 rw [s21_1]
 simp only [r0,r1,r5,hds]
 refine lenI ha (lssI (cndI (fun hlt => ?_) fun hge => retL_same (by simp [unk]) hK))
 have hi' : i < l.length := by omega
 obtain ⟨b1,o1,cs1,w1,z1,hx1,hb1,hle1,hp1,hk1⟩ := sliE_elem rng_len (by omega) ha hi'
 obtain ⟨b2,o2,cs2,w2,z2,hx2,hb2,hle2,hp2,hk2⟩ := sliE_elem rng_len (by omega) hb hi'
 refine hx1 _ (load_part hb1 hle1 hp1 hk1 (hx2 _ (load_part hb2 hle2 hp2 hk2 (neqR (cndI (fun hx => absurd rfl hx) fun _ => addI (by omega) ?_)))))
 exact ⟨i + 1,by dsimp only; omega,.inl ⟨rfl,by omega,hds,r0,r1,rfl⟩⟩
theorem good14 (hJ : Closed prog main J) {a b cv1 nv1 cv2 nv2 : Value} {t : Tal} (ha : TalAt h a t cv1 nv1) (hb : TalAt h b t cv2 nv2) (hl : t.changes.length < 1000000 ∧ t.counts.length < 1000000) (hK : K (.bool true) h) : Good prog J 14 [a,b] h K := by
 refine g14 hJ fun ok => ?_
 rw [e14,ha.val,hb.val]
 refine qBox (tal_one ha) fun H1 p1 e1 S1 c1 l1 => qBox (tal_one hb) fun H2 p2 e2 S2 c2 l2 => ?_
 have c1' := S2.get c1 (by simp)
 have S := S1.trans S2
 have a2 := talAt_same ha S (by simp)
 have b2 := talAt_same hb S (by simp)
 have ka : kn1 cv1 = true ∧ kn1 nv1 = true := ⟨(sli_one ha.ch).2.2,(sli_one ha.co).2.2⟩
 have kb : kn1 cv2 = true ∧ kn1 nv2 = true := ⟨(sli_one hb.ch).2.2,(sli_one hb.co).2.2⟩
 refine offI (ldI (v := vint t.gates) c1' rfl rfl (offI (ldI (v := vint t.gates) c2 rfl rfl (neqI (cndI (fun hx => absurd rfl hx) fun _ => ?_)))))
 refine offI (load_part (c := t.first.cells) c1' (by simp [talCells]) rfl rfl (offI (load_part (c := t.first.cells) c2 (by simp [talCells]) rfl rfl (neqR (r := t.first) (q := t.first) (cndI (fun hx => absurd rfl hx) fun _ => ?_)))))
 refine offI (ldI (v := vint t.most) c1' rfl rfl (offI (ldI (v := vint t.most) c2 rfl rfl (neqI (cndI (fun hx => absurd rfl hx) fun _ => ?_)))))
 refine offI (ldI (v := cv1) c1' rfl ka.1 (offI (ldI (v := cv2) c2 rfl kb.1 (good21 hJ a2.ch b2.ch hl.1 (notI (cnd_false.2 ?_))))))
 refine offI (ldI (v := nv1) c1' rfl ka.2 (lenI a2.co (offI (ldI (v := nv2) c2 rfl kb.2 (lenI b2.co (neqI (cndI (fun hx => absurd rfl hx) fun _ => ?_)))))))
 refine l14_1 hJ (fun i : Nat => t.counts.length - i) (fun i f H => H = H2 ∧ i ≤ t.counts.length ∧ f.ds = [] ∧ f.r 2 = ptr p1 0 ∧ f.r 3 = ptr p2 0 ∧ f.r 5 = vint (i : Nat)) ?_ (s := 0) (.inl ⟨rfl,by omega,rfl,rfl,rfl,rfl⟩)
 rintro i f H ⟨rfl,hi,hds,r2,r3,r5⟩ ok' hn'
 rw [s14_1]
 simp only [r2,r3,r5,hds]
 refine offI (ldI (v := nv1) c1' rfl ka.2 (lenI a2.co (lssI (cndI (fun hlt => ?_) fun hge => ?_))))
 ·have hi' : i < t.counts.length := by omega
  obtain ⟨b1,o1,cs1,w1,z1,hx1,hb1,hle1,hp1,hk1⟩ := sliE_elem cnt_len (by omega) a2.co hi'
  obtain ⟨b2,o2,cs2,w2,z2,hx2,hb2,hle2,hp2,hk2⟩ := sliE_elem cnt_len (by omega) b2.co hi'
  refine offI (ldI (v := nv1) c1' rfl ka.2 (hx1 _ (load_part hb1 hle1 hp1 hk1 (offI (ldI (v := nv2) c2 rfl kb.2 (hx2 _ (load_part hb2 hle2 hp2 hk2 (neqC (r := t.counts[i]) (q := t.counts[i]) (cndI (fun hx => absurd rfl hx) fun _ => addI (by omega) ?_)))))))))
  exact ⟨i + 1,by dsimp only; omega,.inl ⟨rfl,by omega,hds,r2,r3,rfl⟩⟩
 ·exact retX ok (Nat.le_refl _) S (by simp) (by simp [unk]) (by simp [pack,VOk]) hK
end
def Rng.sub (a b : Rng) : Prop := b.lo ≤ a.lo ∧ a.hi ≤ b.hi
def Rng.has (r : Rng) (n : Int) : Prop := r.lo ≤ n ∧ n ≤ r.hi
instance (r : Rng) (n : Int) : Decidable (r.has n) := inferInstanceAs (Decidable (_ ∧ _))
def AllP (t : Tal) (g : Int) (n : Int) : Prop := ∀ c ∈ t.counts,c.gate = g → (rd c).has n
def befLo (t : Tal) (g : Nat) (n : Int) : Int := max 0 (n - ((t.changes[g]?).getD ⟨0,0⟩).hi)
def befHi (t : Tal) (g : Nat) (n : Int) : Int := min 540 (n - ((t.changes[g]?).getD ⟨0,0⟩).lo + t.most)
def Ch (t : Tal) : Nat → Int → Prop
 | 0,n => t.first.has n ∧ AllP t (0 : Nat) n
 | g + 1,n => (0 ≤ n ∧ n ≤ 540) ∧ (∃ m,befLo t g n ≤ m ∧ m ≤ befHi t g n ∧ Ch t g m) ∧ AllP t (g + 1 : Nat) n
section
variable {main : Bool} {J : JT} {h h0 H : List AObj} {K : Value → List AObj → Prop} {KV : Value → Prop} {n0 : Nat}
noncomputable instance (t : Tal) (g n : Int) : Decidable (AllP t g n) := Classical.propDecidable _
noncomputable instance (t : Tal) (g : Nat) (n : Int) : Decidable (Ch t g n) := Classical.propDecidable _
end
section
variable {main : Bool} {J : JT} {h h0 H : List AObj} {K : Value → List AObj → Prop} {KV : Value → Prop} {HL : List AObj → Prop} {n0 : Nat}
theorem good30 (hJ : Closed prog main J) {v cv nv : Value} {t : Tal} (ht : TalAt h v t cv nv) (hK : K (vint (talErr t)) h) : Good prog J 30 [v] h K := by
 refine g30 hJ fun ok => ?_
 rw [e30,ht.val]
 have kc : kn1 cv = true ∧ kn1 nv = true := ⟨(sli_one ht.ch).2.2,(sli_one ht.co).2.2⟩
 refine qBox (tal_one ht) fun H p1 e1 S c1 l1 => ?_
 have S3 := S.sli ht.ch (by simp)
 have S5 := S.sli ht.co (by simp)
 have fin : ∀ (e : Int),talErr t = e → retL h.length K [] [vint e] H := fun e he => by
  subst he
  exact retX ok (Nat.le_refl _) S (by simp) (by simp [unk]) (by simp [pack,VOk]) hK
 refine offI (ldI (v := vint t.gates) c1 rfl rfl (good52 hJ (notI (cndN (fun h1 => fin 1 (by unfold talErr; rw [if_pos h1])) fun h1 => ?_))))
 refine offI (load_part (c := t.first.cells) c1 (by simp [talCells]) rfl rfl (good53 hJ (neqI (cndI (fun h2 => fin _ (by unfold talErr; rw [if_neg (by simpa using h1),if_pos (by simpa using h2)])) fun h2 => ?_))))
 have h2' : rngErr 0 300 t.first = 0 := by simpa using h2
 refine offI (ldI (v := cv) c1 rfl kc.1 (lenI S3 (offI (ldI (v := vint t.gates) c1 rfl rfl (subI (by omega) (lssI (cndI (fun h3 => fin 7 (by unfold talErr; rw [if_neg (by simpa using h1),if_neg (by omega),if_pos h3])) fun h3 => ?_)))))))
 refine offI (ldI (v := cv) c1 rfl kc.1 (lenI S3 (offI (ldI (v := vint t.gates) c1 rfl rfl (subI (by omega) (gtrI (cndI (fun h4 => fin 6 (by unfold talErr; rw [if_neg (by simpa using h1),if_neg (by omega),if_neg h3,if_pos h4])) fun h4 => ?_)))))))
 refine l30_1 hJ (fun i : Nat => t.changes.length - i) (fun i f H' => H' = H ∧ f.ds = [] ∧ f.r 1 = ptr p1 0 ∧ f.r 4 = vint (i : Nat) ∧ i ≤ t.changes.length ∧ firstE ((t.changes.take i).map (rngErr (-60) 60)) = 0) ?_ (s := 0)
  (.inl ⟨rfl,rfl,rfl,rfl,by omega,rfl⟩)
 rintro i f H ⟨rfl,hds,r1,r4,hi,hz⟩ ok' hn
 rw [s30_1]
 simp only [r1,r4,hds]
 refine offI (ldI (v := cv) c1 rfl kc.1 (lenI S3 (lssI (cndI (fun hlt => ?_) fun hge => ?_))))
 ·have hil : i < t.changes.length := by omega
  obtain ⟨b,o,cs,wr,sz,hidx,hb,hle,hpart,hkn⟩ := sliE_elem rng_len (by omega) S3 hil
  obtain ⟨s1,s2⟩ := firstE_step (f := rngErr (-60) 60) hil hz
  refine offI (ldI (v := cv) c1 rfl kc.1 (hidx _ (load_part hb hle hpart hkn (good53 hJ (r := t.changes[i]) (neqI (cndI (fun hne => fin _ ?_) fun h0 => addI (by omega) ?_))))))
  ·unfold talErr
   rw [if_neg (by simpa using h1),if_neg (by omega),if_neg h3,if_neg h4,if_pos (by rw [s1 hne]; exact hne),s1 hne]
  ·exact ⟨i + 1,by dsimp only; omega,.inl ⟨rfl,hds,r1,rfl,by omega,s2 (by omega)⟩⟩
 ·have hil : i = t.changes.length := by omega
  subst hil
  rw [List.take_length] at hz
  have pre : ∀ e : Int,(if ¬ (0 ≤ t.most ∧ t.most ≤ 60) then (1 : Int) else if t.counts.length > 7 then 6 else firstE (t.counts.map fun c => cntErr c t.gates)) = e → talErr t = e := fun e he => by
   unfold talErr
   rw [if_neg (by simpa using h1),if_neg (by omega),if_neg h3,if_neg h4,if_neg (by omega)]
   exact he
  refine offI (ldI (v := vint t.most) c1 rfl rfl (good52 hJ (notI (cndN (fun h5 => fin 1 (pre _ (by rw [if_pos h5]))) fun h5 => ?_))))
  refine offI (ldI (v := nv) c1 rfl kc.2 (lenI S5 (gtrI (cndI (fun h6 => fin 6 (pre _ (by rw [if_neg (by simpa using h5),if_pos (by omega)]))) fun h6 => ?_))))
  refine l30_2 hJ (fun i : Nat => t.counts.length - i) (fun i f H' => H' = H ∧ f.ds = [] ∧ f.r 1 = ptr p1 0 ∧ f.r 6 = vint (i : Nat) ∧ i ≤ t.counts.length ∧ firstE ((t.counts.take i).map fun c => cntErr c t.gates) = 0) ?_ (s := 0)
   (.inl ⟨rfl,hds,r1,rfl,by omega,rfl⟩)
  rintro i f H ⟨rfl,hds,r1,r6,hi,hz2⟩ ok' hn
  rw [s30_2]
  simp only [r1,r6,hds]
  refine offI (ldI (v := nv) c1 rfl kc.2 (lenI S5 (lssI (cndI (fun hlt => ?_) fun hge => ?_))))
  ·have hil : i < t.counts.length := by omega
   obtain ⟨b,o,cs,wr,sz,hidx,hb,hle,hpart,hkn⟩ := sliE_elem cnt_len (by omega) S5 hil
   obtain ⟨s1,s2⟩ := firstE_step (f := fun c => cntErr c t.gates) hil hz2
   refine ⟨[p1,b],offI (ldI (v := nv) c1 rfl kc.2 ⟨by simp [RdOk,ptrBlk,ptr],hidx _ (load_part hb hle hpart hkn ⟨by simp [RdOk,ptrBlk,ptr],offI (ldI (v := vint t.gates) c1 rfl rfl ⟨by simp [RdOk,ptrBlk,ptr],?_⟩)⟩)⟩)⟩
   refine good54 hJ (c := t.counts[i]) (by omega) ⟨fun _ _ => rfl,neqI (cndI (fun hne => fin _ (pre _ ?_)) fun h0 => addI (by omega) ?_)⟩
   ·rw [if_neg (by simpa using h5),if_neg (by omega),s1 hne]
   ·exact ⟨i + 1,by dsimp only; omega,.inl ⟨rfl,hds,r1,rfl,by omega,s2 (by omega)⟩⟩
  ·have hil : i = t.counts.length := by omega
   subst hil
   rw [List.take_length] at hz2
   exact fin 0 (pre _ (by rw [if_neg (by simpa using h5),if_neg (by omega),hz2]))
end
end Go.Proofs.YtlladcglhjlbpaaGreatDoor
namespace Go.Proofs.YtlladcglhjlbpaaGreatDoor
open Go.Conc Go.Proofs.Tryz
set_option maxRecDepth 100000
set_option maxHeartbeats 4000000
set_option linter.unusedVariables false
section
variable {main : Bool} {J : JT} {n0 : Nat} {h : List AObj} {K : Value → List AObj → Prop}
theorem at5 : prog.funcs[5]? = some f5 := by kernel_rfl
theorem body5 : f5.body = some (codeOf f5) := by kernel_rfl
def pl5 : Plans := []
def ct5 : Cuts := .go
theorem pok5 : plansOk prog pl5 (codeOf f5) = true := by kernel_rfl
theorem e5 {a0 : Value} : W prog J 13 h.length 5 (codeOf f5) (RG.mk (regs [a0]) []) h (RetQ prog [.tmp 2] h.length K) =
(aBox a0 h fun v1 h2 =>
aOff v1 3 fun v3 =>
aLoad false 1 v3 h2 fun v4 =>
aLenS v4 fun v5 =>
aBin prog .gtr 3 v5 (vint 20) fun v6 =>
cnd v6
(retL h.length K [] [(Value.bool true)] h2)
(aOff v1 5 fun v7 =>
aLoad false 1 v7 h2 fun v8 =>
aLenS v8 fun v9 =>
aBin prog .gtr 3 v9 (vint 20) fun v10 =>
retL h.length K [] [v10] h2)) := top_eq pok5 ct5 (by kernel_rfl)
theorem g5 (hJ : Closed prog main J) {a0 : Value} (hs : heapOk h → W prog J 13 h.length 5 (codeOf f5) (RG.mk (regs [a0]) []) h (RetQ prog [.tmp 2] h.length K)) : Good prog J 5 [a0] h K :=
 good_of_W hJ mixed at5 body5 (by kernel_rfl) (Nat.le_of_ble_eq_true rfl) hs
end
end Go.Proofs.YtlladcglhjlbpaaGreatDoor
namespace Go.Proofs.YtlladcglhjlbpaaGreatDoor
open Go.Conc Go.Proofs.Tryz
set_option maxRecDepth 100000
section
variable {main : Bool} {J : JT} {h H : List AObj} {K : Value → List AObj → Prop} {n0 : Nat} {v cv nv : Value} {t : Tal} {gate number : Int}
theorem good5 (hJ : Closed prog main J) (ht : TalAt h v t cv nv) (hK : K (.bool (decide (t.changes.length > 20 ∨ t.counts.length > 20))) h) : Good prog J 5 [v] h K := by
 refine g5 hJ fun ok => ?_
 rw [e5,ht.val]
 have kc : kn1 cv = true ∧ kn1 nv = true := ⟨(sli_one ht.ch).2.2,(sli_one ht.co).2.2⟩
 refine qBox (tal_one ht) fun H1 p1 e1 S1 c1 l1 => ?_
 have t1 : TalAt H1 (.agg ⟨talCells t cv nv⟩) t cv nv := ⟨rfl,S1.sli ht.ch (by simp),S1.sli ht.co (by simp)⟩
 have fin : ∀ b : Bool,b = decide (t.changes.length > 20 ∨ t.counts.length > 20) → retL h.length K [] [.bool b] H1 := fun b hb => by
  subst hb
  exact retX ok (Nat.le_refl _) S1 (by simp) (by simp [unk]) (by simp [pack,VOk]) hK
 refine offI (ldI (v := cv) c1 rfl kc.1 (lenI t1.ch (gtrI (cndI (fun hgt => fin true ?_) fun hle => offI (ldI (v := nv) c1 rfl kc.2 (lenI t1.co (gtrI (fin _ ?_))))))))
 ·rw [eq_comm,decide_eq_true_eq]
  exact .inl (by omega)
 ·rw [decide_eq_decide]
  omega
end
end Go.Proofs.YtlladcglhjlbpaaGreatDoor
