/- Parts of the proof, 4. No conditions. -/
import Derived.Test.YtaceckiodofdkaaDoorK3
import Derived.Conc.Holds
import Derived.Conc.Beside
import Derived.Test.YtaceckiodofdkaaDoorK2
namespace Go.Proofs.YtaceckiodofdkaaDoor
open Go.Conc
abbrev CB := FuncId → List Value → XH → KB → Bool
abbrev LB := T Value → XH → Bool
noncomputable def xcallV (P : Program) (C : CB) (v : Value) (args : List Value) (h : XH) (K : KB) : Bool :=
 match v with
 | .func (.func g) ⟨first⟩ ⟨cap⟩ => Nat.blt g P.funcs.size && C g (first ++ args ++ cap) h K
 | .func (.yield l) ⟨[]⟩ ⟨[]⟩ => C (yid P l) args h K
 | _ => false
noncomputable def xopW (P : Program) (C : CB) (o : Op) (r : Nat → Value) (h : XH) (K : KB) : Bool :=
 match o with
 | .call { callee := .value x,args,.. } => fL (args.toList.map (ev r)) fun vs => xcallV P C (ev r x) vs h K
 | op => xaop P op r h K
noncomputable def xput (d : Option Nat) (v : Value) (l : T Value) (k : T Value → Bool) : Bool :=
 match d with
 | some d => fV v fun v => tset unk 9 l d v k
 | none => k l
def xgd (ops : Array Oper) (sk : List Nat) (o : Oper) (r : Nat → Value) : Option Bool :=
 match o.guard with
 | none => some true
 | some (j,want) => match dstOf ops j with
  | some t => match r t with
   | .bool b => some (b == want)
   | .tuple ⟨[]⟩ => bif sk.any fun i => Nat.beq i j then some false else none
   | _ => none
  | none => none
def skDrop (ops : Array Oper) (d : Option Nat) (sk : List Nat) : List Nat :=
 match sk,d with
 | [],_ => []
 | sk,none => sk
 | sk,some d => sk.filter fun j => match dstOf ops j with
  | some t => !(Nat.beq t d)
  | none => true
def skAdd (ops : Array Oper) (i : Nat) (d : Option Nat) (sk : List Nat) : List Nat :=
 match d with
 | none => sk
 | some d => i :: skDrop ops (some d) sk
noncomputable def xops (P : Program) (C : CB) (N : Nat) (ops : Array Oper) (os : List Nat) : T Value → XH → List Nat → LB → Bool :=
 List.rec (motive := fun _ => T Value → XH → List Nat → LB → Bool) (fun l h _ K => K l h) (fun i _ ih l h sk K => match ops[i]? with
  | some o => dstOk N o && match xgd ops sk o (gt l) with
   | some true => xopW P C o.op (gt l) h fun v h => xput o.dst v l fun l => ih l h (skDrop ops o.dst sk) K
   | some false => xput o.dst undef l fun l => ih l h (skAdd ops i o.dst sk) K
   | none => false
  | none => false) os
def simA (σ : Nat → Nat) (a b : Value) : Bool :=
 match a,b with
 | .int k a,.int k' b => k == k' && a == b
 | .bool a,.bool b => a == b
 | .pointer none,.pointer none => true
 | .pointer (some ⟨a,o,none⟩),.pointer (some ⟨b,p,none⟩) => Nat.beq (σ a) b && Nat.beq o p
 | .slice none n c,.slice none m d => Nat.beq n m && Nat.beq c d
 | .slice (some ⟨a,o,none⟩) n c,.slice (some ⟨b,p,none⟩) m d => Nat.beq (σ a) b && Nat.beq o p && Nat.beq n m && Nat.beq c d
 | .map (some a),.map (some b) => Nat.beq (σ a) b
 | .map none,.map none => true
 | .nilFunc,.nilFunc => true
 | .tuple ⟨[]⟩,.tuple ⟨[]⟩ => true
 | _,_ => false
def simL (p : Value → Value → Bool) : List Value → List Value → Bool
 | [],[] => true
 | a :: l,b :: m => p a b && simL p l m
 | _,_ => false
def simS (σ : Nat → Nat) (a b : Value) : Bool :=
 match a,b with
 | .func (.func g) ⟨f⟩ ⟨c⟩,.func (.func g') ⟨f'⟩ ⟨c'⟩ => Nat.beq g g' && simL (simA σ) f f' && simL (simA σ) c c'
 | a,b => simA σ a b
def simV (σ : Nat → Nat) (a b : Value) : Bool :=
 match a,b with
 | .agg ⟨l⟩,.agg ⟨m⟩ => simL (simS σ) l m
 | .tuple ⟨l⟩,.tuple ⟨m⟩ => simL (simS σ) l m
 | a,b => simS σ a b
def eqP (a b : Value) : Bool :=
 match a,b with
 | .int k a,.int k' b => k == k' && a == b
 | .bool a,.bool b => a == b
 | _,_ => false
def eqK (a b : Value) : Bool :=
 match a,b with
 | .agg ⟨l⟩,.agg ⟨m⟩ => simL eqP l m
 | a,b => eqP a b
def simE (σ : Nat → Nat) : List (Value × Value) → List (Value × Value) → Bool
 | [],[] => true
 | (a,x) :: l,(b,y) :: m => eqK a b && simS σ x y && simE σ l m
 | _,_ => false
def simO (σ : Nat → Nat) (a b : AObj) : Bool :=
 match a,b with
 | .cells c w s,.cells d x t => simL (simS σ) c d && w == x && s == t
 | .map c w,.map d x => simE σ c d && w == x
 | .deferred,.deferred => true
 | _,_ => false
noncomputable def xsame (B : Option (List Nat)) (h0 h1 : XH) : Bool :=
 match B with
 | none => false
 | some B => B.all fun b => hg h1 b fun o1 => hg h0 b fun o0 => simO (fun i => i) o0 o1
def xrd (B : Option (List Nat)) (x : Option Nat) : Bool :=
 match B,x with
 | some B,some b => B.any fun y => Nat.beq b y
 | _,_ => true
def xall : List Nat → (Nat → Bool) → Bool
 | [],_ => true
 | [i],A => A i
 | i :: l,A => A i && xall l A
noncomputable def xany (P : Program) (C : CB) (N : Nat) (ops : Array Oper) (B : Option (List Nat)) (h0 : XH) : Nat → Array Bool → Bool → T Value → XH → List Nat → LB → Bool
 | 0,L,_,l,h,_,K => (Region.ready .any ops L).isEmpty && K l h
 | n + 1,L,sok,l,h,sk,K => match pickN P ops L with
  | some i => match ops[i]? with
   | some o => (dstOk N o && (!isRead o.op || sok)) && match xgd ops sk o (gt l) with
    | some true => xopW P C o.op (gt l) h fun v _ => (!(isRead o.op && B.isSome) || xrd B (readOf o.op (gt l))) && xput o.dst v l fun l => xany P C N ops B h0 n (L.setIfInBounds i true) sok l h (skDrop ops o.dst sk) K
    | some false => xput o.dst undef l fun l => xany P C N ops B h0 n (L.setIfInBounds i true) sok l h (skAdd ops i o.dst sk) K
    | none => false
   | none => false
  | none => bif (Region.ready .any ops L).isEmpty then K l h else xall (Region.ready .any ops L) fun i => match ops[i]? with
   | some o => dstOk N o && match xgd ops sk o (gt l) with
    | some true => xopW P C o.op (gt l) h fun v h' => bif sNeed P ops i o then xsame B h0 h' && xput o.dst v l fun l => xany P C N ops B h0 n (L.setIfInBounds i true) true l h' (skDrop ops o.dst sk) K
     else xput o.dst v l fun l => xany P C N ops B h0 n (L.setIfInBounds i true) false l h' (skDrop ops o.dst sk) K
    | some false => (!(sNeed P ops i o && !sok)) && xput o.dst undef l fun l => xany P C N ops B h0 n (L.setIfInBounds i true) sok l h (skAdd ops i o.dst sk) K
    | none => false
   | none => false
noncomputable def xpre (P : Program) (C : CB) (N : Nat) (ops : Array Oper) : Nat → Array Bool → List Nat → T Value → XH → List Nat → LB → Bool
 | 0,L,R,l,h,sk,K => xany P C N ops (some R) h 0 L true l h sk K
 | n + 1,L,R,l,h,sk,K => match pickN P ops L with
  | some i => match ops[i]? with
   | some o => dstOk N o && match xgd ops sk o (gt l) with
    | some true => xopW P C o.op (gt l) h fun v _ => xput o.dst v l fun l' => xpre P C N ops n (L.setIfInBounds i true) ((readOf o.op (gt l)).toList ++ R) l' h (skDrop ops o.dst sk) K
    | some false => xput o.dst undef l fun l => xpre P C N ops n (L.setIfInBounds i true) R l h (skAdd ops i o.dst sk) K
    | none => false
   | none => false
  | none => xany P C N ops (some R) h (n + 1) L true l h sk K
noncomputable def xdraw (P : Program) (C : CB) (N : Nat) (ops : Array Oper) (l : T Value) (h : XH) (K : LB) : Bool :=
 bif still P ops then xany P C N ops none h ops.size (Array.replicate ops.size false) true l h [] K else xpre P C N ops ops.size (Array.replicate ops.size false) [] l h [] K
mutual
theorem sub_idV : ∀ v : Value,sub (fun i => i) v = v
 | .pointer (some a) => by simp [sub]
 | .slice (some a) _ _ => by simp [sub]
 | .map (some r) => by simp [sub]
 | .chan (some r) => by simp [sub]
 | .func fn first cap => by
  have hf : subFn (fun i => i) fn = fn := by cases fn <;> simp [subFn]
  simp only [sub,hf,sub_idA first,sub_idA cap]
 | .iface _ v => by simp only [sub,sub_idV v]
 | .agg cs => by simp only [sub,sub_idA cs]
 | .tuple vs => by simp only [sub,sub_idA vs]
 | .bool _ | .int _ _ | .float _ _ | .complex _ _ _ | .string _ | .pointer none | .slice none _ _ | .map none | .chan none | .nilFunc | .nilIface => by simp only [sub]
theorem sub_idA : ∀ a : Array Value,subA (fun i => i) a = a
 | ⟨l⟩ => by simp only [subA,sub_idL l]
theorem sub_idL : ∀ l : List Value,subL (fun i => i) l = l
 | [] => by simp only [subL]
 | v :: l => by simp only [subL,sub_idV v,sub_idL l]
end
section
variable {P : Program} {J : JT} {C : CB} {N : Nat} {ops : Array Oper} {ds : List Nat} {σ : Nat → Nat}
theorem simA_t {a b : Value} (hx : simA σ a b = true) : b = sub σ a := by
 unfold simA at hx
 split at hx <;> first
  | rfl
  | cases hx; done
  | (simp only [Bool.and_eq_true,beq_iff_eq,Nat.beq_eq] at hx; obtain ⟨⟨⟨rfl,rfl⟩,rfl⟩,rfl⟩ := hx; rfl)
  | (simp only [Bool.and_eq_true,beq_iff_eq,Nat.beq_eq] at hx; obtain ⟨rfl,rfl⟩ := hx; rfl)
  | (simp only [beq_iff_eq,Nat.beq_eq] at hx; subst hx; rfl)
theorem simL_t {p : Value → Value → Bool} {g : Value → Value} (hp : ∀ a b,p a b = true → b = g a) : ∀ {a b : List Value},simL p a b = true → b = a.map g
 | [],[],_ => rfl
 | a :: l,b :: m,hx => by
  unfold simL at hx
  obtain ⟨x,y⟩ := and_t hx
  rw [hp _ _ x,simL_t hp y]
  rfl
 | [],b :: m,hx => by cases hx
 | a :: l,[],hx => by cases hx
theorem simS_t {a b : Value} (hx : simS σ a b = true) : b = sub σ a := by
 unfold simS at hx
 split at hx
 ·obtain ⟨x,y⟩ := and_t hx
  obtain ⟨x,z⟩ := and_t x
  have x : _ = _ := Nat.eq_of_beq_eq_true x
  rw [simL_t (g := sub σ) (fun _ _ => simA_t) z,simL_t (g := sub σ) (fun _ _ => simA_t) y,← x]
  simp only [sub,subFn,subA,subL_eq]
 ·exact simA_t hx
theorem simV_t {a b : Value} (hx : simV σ a b = true) : b = sub σ a := by
 unfold simV at hx
 split at hx
 ·rw [simL_t (g := sub σ) (fun _ _ => simS_t) hx]
  simp only [sub,subA,subL_eq]
 ·rw [simL_t (g := sub σ) (fun _ _ => simS_t) hx]
  simp only [sub,subA,subL_eq]
 ·exact simS_t hx
theorem eqP_t {a b : Value} (hx : eqP a b = true) : b = a := by
 unfold eqP at hx
 split at hx
 ·simp only [Bool.and_eq_true,beq_iff_eq] at hx
  obtain ⟨rfl,rfl⟩ := hx
  rfl
 ·simp only [beq_iff_eq] at hx
  subst hx
  rfl
 ·cases hx
theorem eqK_t {a b : Value} (hx : eqK a b = true) : b = a := by
 unfold eqK at hx
 split at hx
 ·rw [simL_t (g := id) (fun _ _ => eqP_t) hx]
  simp
 ·exact eqP_t hx
theorem simE_t : ∀ {a b : List (Value × Value)},simE σ a b = true → b = a.map fun e => (e.1,sub σ e.2)
 | [],[],_ => rfl
 | (a,x) :: l,(b,y) :: m,hx => by
  unfold simE at hx
  obtain ⟨p,q⟩ := and_t hx
  obtain ⟨p1,p2⟩ := and_t p
  rw [eqK_t p1,simS_t p2,simE_t q]
  rfl
 | [],b :: m,hx => by cases hx
 | a :: l,[],hx => by cases hx
theorem simO_t {a b : AObj} (hx : simO σ a b = true) : b = subO σ a ∧ a.live = true := by
 unfold simO at hx
 split at hx
 ·obtain ⟨x,y⟩ := and_t hx
  obtain ⟨x,z⟩ := and_t x
  rw [simL_t (g := sub σ) (fun _ _ => simS_t) x,beq_iff_eq.1 z,beq_iff_eq.1 y]
  exact ⟨rfl,rfl⟩
 ·obtain ⟨x,y⟩ := and_t hx
  rw [simE_t x,beq_iff_eq.1 y]
  exact ⟨rfl,rfl⟩
 ·exact ⟨rfl,rfl⟩
 ·cases hx
theorem subO_idV {o : AObj} (h : ∀ st pend fn r size params assign body dfr,o ≠ .loop st pend fn r size params assign body dfr) : subO (fun i => i) o = o := by
 cases o with
 | cells c wr sz =>
  simp only [subO]
  congr 1
  exact (List.map_congr_left fun v _ => sub_idV v).trans (List.map_id _)
 | map es wr =>
  simp only [subO]
  congr 1
  refine (List.map_congr_left fun e _ => ?_).trans (List.map_id _)
  rw [sub_idV]
  rfl
 | typed own t c row =>
  simp only [subO]
  congr 1
  exact (List.map_congr_left fun v _ => sub_idV v).trans (List.map_id _)
 | loop => exact absurd rfl (h _ _ _ _ _ _ _ _ _)
 | _ => rfl
theorem xsame_t {B : Option (List Nat)} {x0 x1 : XH} (hx : xsame B x0 x1 = true) : SameB B (hOf x0) (hOf x1) := by
 unfold xsame at hx
 split at hx
 ·cases hx
 ·intro b hb
  obtain ⟨o1,h1,hx⟩ := hg_t (List.all_eq_true.1 hx b hb)
  obtain ⟨o0,h0,hx⟩ := hg_t hx
  obtain ⟨e,l⟩ := simO_t hx
  rw [h1,h0,e,subO_idV]
  rintro st pend fn r size params assign body dfr rfl
  cases o1 <;> cases hx
theorem xrd_t {B : Option (List Nat)} {x : Option Nat} (hx : xrd B x = true) : RdOk B x := by
 unfold xrd at hx
 unfold RdOk
 split at hx
 ·obtain ⟨y,hy,e⟩ := List.any_eq_true.1 hx
  rw [Nat.beq_eq] at e
  rw [e]
  exact hy
 ·rename_i n
  split
  ·exact absurd rfl (n _ _ rfl)
  ·trivial
theorem allOf_t {A : Nat → Bool} {A' : Nat → Prop} : ∀ (l : List Nat),xall l A = true → (∀ i,A i = true → A' i) → allOf l A'
 | [],_,_ => trivial
 | [i],hx,hk => hk i hx
 | i :: j :: l,hx,hk => by
  unfold xall at hx
  obtain ⟨a,b⟩ := and_t hx
  exact ⟨hk i a,allOf_t (j :: l) b hk⟩
noncomputable def rgOf (l : T Value) (ds : List Nat) : RG := ⟨gt l,ds⟩
theorem gt_set {l l' : T Value} {d : Nat} {v : Value} (h : ∀ j,tget unk l' j = if j = d then v else tget unk l j) : (fun t => bif t == d then v else gt l t) = gt l' := by
 funext t
 unfold gt
 rw [h]
 by_cases e : t = d
 ·subst e; simp
 ·have e1 : (t == d) = false := by simpa using e
  simp [e1,e]
theorem xput_t {d : Option Nat} {v : Value} {l : T Value} {k : T Value → Bool} (hx : xput d v l k = true) : ∃ l',(rgOf l ds).putO d v = rgOf l' ds ∧ k l' = true := by
 cases d with
 | none => exact ⟨l,rfl,hx⟩
 | some d =>
  simp only [xput,fV_eq] at hx
  obtain ⟨l',h1,h2⟩ := tset_t _ hx
  exact ⟨l',by simp only [RG.putO,RG.p,rgOf]; rw [gt_set h2],h1⟩
def CSound (P : Program) (J : JT) (C : CB) : Prop := ∀ g args x K,C g args x K = true → Good P J g args (hOf x) (KP K)
theorem xopW_t (hC : CSound P J C) {o : Oper} {r : Nat → Value} {x : XH} {K : KB} (hx : xopW P C o.op r x K = true) : opW P (Good P J) o r (hOf x) (KP K) := by
 unfold xopW at hx
 unfold opW
 split at hx
 ·rename_i e
  simp only [e]
  rw [fL_eq] at hx
  unfold xcallV at hx
  unfold callV
  split at hx
  ·rename_i e2
   simp only [e2]
   obtain ⟨a,b⟩ := and_t hx
   rw [a,cond_true]
   exact hC _ _ _ _ b
  ·rename_i e2
   simp only [e2]
   exact hC _ _ _ _ hx
  ·cases hx
 ·rename_i n
  split
  ·rename_i x args ats e
   exact absurd e (n _ _ _)
  ·exact xaop_t hx
theorem aUpd_mono {h : List AObj} {mt : TypeId} {m k v : Value} {K K' : List AObj → Prop} (hK : aUpd P mt m k v h K) (hk : ∀ h,K h → K' h) : aUpd P mt m k v h K' := by
 unfold aUpd at hK ⊢
 split at hK
 ·rename_i e0
  try simp only [e0]
  split at hK
  ·rename_i e1
   try simp only [e1]
   exact ⟨hK.1,hK.2.1,hK.2.2.1,hk _ hK.2.2.2⟩
  ·exact hK.elim
 ·exact hK.elim
theorem aUpdX_mono {h : List AObj} {mt : TypeId} {m k v : Value} {K K' : List AObj → Prop} (hK : aUpdX P mt m k v h K) (hk : ∀ h,K h → K' h) : aUpdX P mt m k v h K' := by
 unfold aUpdX at hK ⊢
 split at hK
 ·rename_i e0
  try simp only [e0]
  split at hK
  ·rename_i e1
   try simp only [e1]
   exact ⟨hK.1,hK.2.1,hK.2.2.1,hK.2.2.2.1,hk _ hK.2.2.2.2⟩
  ·exact hK.elim
 ·exact hK.elim
theorem aEnt_mono {h : List AObj} {mt : TypeId} {m k : Value} {K K' : Value → List AObj → Prop} (hK : aEnt P mt m k h K) (hk : ∀ v h,K v h → K' v h) : aEnt P mt m k h K' := by
 unfold aEnt at hK ⊢
 split at hK
 ·rename_i hu
  try simp only [hu]
  split at hK
  ·rename_i hb hz
   try simp only [hb,hz]
   obtain ⟨h1,h2,h3,h4,h5,h6⟩ := hK
   exact ⟨h1,h2,h3,h4,fun j u hj => hk _ _ (h5 j u hj),fun hn => hk _ _ (h6 hn)⟩
  ·exact hK.elim
 ·exact hK.elim
theorem aEnS_mono {h : List AObj} {m s v : Value} {K K' : List AObj → Prop} (hK : aEnS m s v h K) (hk : ∀ h,K h → K' h) : aEnS m s v h K' := by
 unfold aEnS at hK ⊢
 split at hK
 ·split at hK
  ·rename_i hb
   try simp only [hb]
   obtain ⟨j,k,v0,h1,h2,h3⟩ := hK
   exact ⟨j,k,v0,h1,h2,hk _ h3⟩
  ·exact hK.elim
 ·exact hK.elim
theorem aRange_mono {h : List AObj} {t : TypeId} {x : Value} {K K' : Value → List AObj → Prop} (hK : aRange P t x h K) (hk : ∀ v h,K v h → K' v h) : aRange P t x h K' := by
 unfold aRange at hK ⊢
 split at hK
 ·rename_i e0
  try simp only [e0]
  split at hK
  ·rename_i e1
   try simp only [e1]
   exact hk _ _ hK
  ·exact hK.elim
 ·exact hK.elim
theorem aNext_mono {h : List AObj} {x : Value} {K K' : Value → List AObj → Prop} (hK : aNext x h K) (hk : ∀ v h,K v h → K' v h) : aNext x h K' := by
 unfold aNext at hK ⊢
 split at hK
 ·split at hK
  ·rename_i e1
   try simp only [e1]
   split at hK
   ·rename_i e2
    try simp only [e2]
    exact ⟨hK.1,fun i a u h1 h2 => hk _ _ (hK.2.1 i a u h1 h2),fun h => hk _ _ (hK.2.2 h)⟩
   ·exact hK.elim
  ·exact hK.elim
 ·exact hK.elim
theorem aEntry_mono {h : List AObj} {x : Value} {K K' : Value → Prop} (hK : aEntry x h K) (hk : ∀ v,K v → K' v) : aEntry x h K' := by
 unfold aEntry at hK ⊢
 split at hK
 ·split at hK
  ·rename_i e1
   try simp only [e1]
   split at hK
   ·rename_i e2 e3
    try simp only [e2,e3]
    split at hK
    ·rename_i e4
     try simp only [e4]
     exact ⟨hK.1,hk _ hK.2⟩
    ·exact hK.elim
   ·exact hK.elim
  ·exact hK.elim
 ·exact hK.elim
theorem aop_mono {h : List AObj} {o : Op} {r : Nat → Value} {K K' : Value → List AObj → Prop} (hK : aop P o r h K) (hk : ∀ v h,K v h → K' v h) : aop P o r h K' := by
 by_cases hf : freeOp P o = true
 ·obtain ⟨v,a,b⟩ := aop_free hf hK
  exact b h K' (fun _ _ => rfl) (hk _ _ a)
 unfold aop at hK ⊢
 split at hK
 ·exact hk _ _ hK
 ·exact hk _ _ hK
 ·exact absurd rfl hf
 ·rename_i t
  split at hK
  ·cases hs : selfP P t with
   | true => rw [hs] at hK; exact hk _ _ hK
   | false => rw [hs] at hK; exact (hk _ _ hK : aAlloc _ h K')
  ·exact hK.elim
 ·exact ⟨hK.1,hk _ _ hK.2⟩
 ·exact absurd rfl hf
 ·split at hK
  ·rename_i e0
   try simp only [e0]
   split at hK
   ·rename_i e1 e2 e3
    try simp only [e1,e2,e3]
    obtain ⟨c,k1,k2⟩ := pin_aFill _ _ _ hK.2
    exact ⟨hK.1,k2 _ (hk _ _ k1)⟩
   ·exact hK.elim
  ·exact hK.elim
 ·exact absurd rfl hf
 ·split at hK
  ·rename_i e
   try simp only [e]
   unfold aStore at hK ⊢
   split at hK
   ·split at hK
    ·rename_i e2
     try simp only [e2]
     exact ⟨hK.1,hK.2.1,hK.2.2.1,hk _ _ hK.2.2.2⟩
    ·rename_i e2
     try simp only [e2]
     exact ⟨hK.1,hK.2.1,hK.2.2.1,hk _ _ hK.2.2.2⟩
    ·exact hK.elim
   ·exact hK.elim
  ·exact hK.elim
 ·exact absurd rfl hf
 ·exact absurd rfl hf
 ·exact absurd rfl hf
 ·split at hK
  ·rename_i e0
   exact absurd (by simp only [freeOp,e0]) hf
  ·rename_i e0
   try simp only [e0]
   split at hK
   ·rename_i e1 e2
    try simp only [e1,e2]
    obtain ⟨v,a,b⟩ := pin_aB2S _ hK
    exact b (fun v => K' v h) (hk _ _ a)
   ·exact hK.elim
  ·rename_i e0
   try simp only [e0]
   split at hK
   ·rename_i e1
    try simp only [e1]
    obtain ⟨v,a,b⟩ := pin_aP2U _ hK
    exact b (fun v => K' v h) (hk _ _ a)
   ·exact hK.elim
  ·rename_i e0
   try simp only [e0]
   split at hK
   ·rename_i e1
    try simp only [e1]
    obtain ⟨v,a,b⟩ := pin_aU2P _ hK
    exact b (fun v => K' v h) (hk _ _ a)
   ·exact hK.elim
  ·exact hK.elim
 ·exact absurd rfl hf
 ·exact hk _ _ hK
 ·split at hK
  ·rename_i e0
   try simp only [e0]
   split at hK
   ·rename_i e1
    try simp only [e1]
    refine ⟨hK.1,?_⟩
    have hK := hK.2
    unfold aMkC at hK ⊢
    split at hK
    ·exact ⟨hK.1,hk _ _ hK.2⟩
    ·exact hK.elim
   ·exact hK.elim
  ·exact hK.elim
 ·split at hK
  ·rename_i e0
   try simp only [e0]
   split at hK
   ·rename_i e1 e2 e3
    try simp only [e1,e2,e3]
    refine ⟨hK.1,?_⟩
    have hK := hK.2
    unfold aMkS at hK ⊢
    split at hK
    ·exact ⟨hK.1,hK.2.1,hK.2.2.1,hk _ _ hK.2.2.2⟩
    ·exact hK.elim
   ·exact hK.elim
  ·exact hK.elim
 ·split at hK
  ·rename_i e0
   try simp only [e0]
   split at hK
   ·rename_i e1
    try simp only [e1]
    unfold aSl3 at hK ⊢
    split at hK
    ·exact ⟨hK.1,hK.2.1,hK.2.2.1,hk _ _ hK.2.2.2⟩
    ·exact hK.elim
   ·exact hK.elim
  ·exact hK.elim
 ·split at hK
  ·rename_i e0
   try simp only [e0]
   obtain ⟨v,a,b⟩ := pin_aSlStr _ hK
   exact b (fun v => K' v h) (hk _ _ a)
  ·rename_i e0
   try simp only [e0]
   split at hK
   ·rename_i e1
    try simp only [e1]
    obtain ⟨v,a,b⟩ := pin_aSl2 _ hK
    exact b (fun v => K' v h) (hk _ _ a)
   ·exact hK.elim
  ·rename_i e0
   try simp only [e0]
   split at hK
   ·rename_i e1
    try simp only [e1]
    obtain ⟨v,a,b⟩ := pin_aSlA _ hK
    exact b (fun v => K' v h) (hk _ _ a)
   ·exact hK.elim
  ·exact hK.elim
 ·exact absurd rfl hf
 ·exact absurd rfl hf
 ·exact absurd rfl hf
 ·split at hK
  ·rename_i e0
   try simp only [e0]
   split at hK
   ·rename_i e1
    try simp only [e1]
    obtain ⟨v,a,b⟩ := pin_aIdx _ hK
    exact b (fun v => K' v h) (hk _ _ a)
   ·exact hK.elim
  ·rename_i e0
   try simp only [e0]
   split at hK
   ·rename_i e1
    try simp only [e1]
    obtain ⟨v,a,b⟩ := pin_aIdxA _ hK
    exact b (fun v => K' v h) (hk _ _ a)
   ·exact hK.elim
  ·exact hK.elim
 ·exact absurd rfl hf
 ·refine ⟨hK.1,?_⟩
  have hK := hK.2
  rename_i mt _ _ _ _
  cases hs : skey P mt with
  | true =>
   rw [hs,cond_true] at hK
   exact aUpdX_mono hK fun h => hk _ _
  | false =>
   rw [hs,cond_false] at hK
   exact aUpd_mono hK fun h => hk _ _
 ·exact ⟨hK.1,aUpdX_mono hK.2 fun h => hk _ _⟩
 ·exact aEnt_mono hK hk
 ·exact ⟨hK.1,aEnS_mono hK.2 fun h => hk _ _⟩
 ·exact aRange_mono hK hk
 ·exact aNext_mono hK hk
 ·exact aEntry_mono hK fun v => hk _ _
 ·exact absurd rfl hf
 ·split at hK
  ·exact absurd rfl hf
  ·exact absurd rfl hf
  ·exact absurd rfl hf
  ·exact absurd rfl hf
  ·split at hK
   ·rename_i e1 e2 _ _ _ _ e3 e4
    try simp only [e1,e2,e3,e4]
    split at hK
    ·rename_i e5 e6 e7
     try simp only [e5,e6,e7]
     refine ⟨hK.1,?_⟩
     have hK := hK.2
     unfold aApp at hK ⊢
     split at hK
     ·refine ⟨hK.1,srcCells_mono hK.2 fun ys hy => ?_⟩
      split at hy
      ·exact ⟨hy.1,fun e => hk _ _ (hy.2.1 e),fun e => hk _ _ (hy.2.2 e)⟩
      ·split at hy
       ·rename_i e8
        try simp only [e8]
        refine ⟨hy.1,fun e => ⟨fun e2 => ?_,fun e2 => hk _ _ ((hy.2.1 e).2 e2)⟩,fun e => ?_⟩
        ·have := (hy.2.1 e).1 e2
         exact ⟨this.1,this.2.1,hk _ _ this.2.2⟩
        ·have := hy.2.2 e
         exact ⟨this.1,this.2.1,this.2.2.1,this.2.2.2.1,hk _ _ this.2.2.2.2⟩
       ·exact hy.elim
      ·exact hy.elim
     ·exact hK.elim
    ·exact hK.elim
   ·rename_i e1 e2 _ _ _ _ _ e3 e4
    try simp only [e1,e2,e3,e4]
    split at hK
    ·rename_i e5 e6 e7
     try simp only [e5,e6,e7]
     refine ⟨hK.1,?_⟩
     have hK := hK.2
     unfold aAppZ at hK ⊢
     split at hK
     ·exact ⟨hK.1,fun e => hk _ _ (hK.2.1 e),fun e => hk _ _ (hK.2.2 e)⟩
     ·exact hK.elim
    ·exact hK.elim
   ·rename_i e1 e2 _ _ _ _ e3 e4
    try simp only [e1,e2,e3,e4]
    split at hK
    ·rename_i e5 e6 e7
     try simp only [e5,e6,e7]
     refine ⟨hK.1,?_⟩
     have hK := hK.2
     unfold aAppS at hK ⊢
     split at hK
     ·split at hK
      ·rename_i e8
       try simp only [e8]
       exact ⟨hK.1,hk _ _ hK.2⟩
      ·exact hK.elim
     ·exact hK.elim
    ·exact hK.elim
   ·exact hK.elim
  ·split at hK
   ·rename_i e1 e2 _ _ _ _ e3 e4
    try simp only [e1,e2,e3,e4]
    split at hK
    ·rename_i e5
     try simp only [e5]
     refine ⟨hK.1,?_⟩
     have hK := hK.2
     unfold aCopy at hK ⊢
     split at hK
     ·refine srcCells_mono hK fun ys hy => ?_
      split at hy
      ·exact hk _ _ hy
      ·split at hy
       ·rename_i e8
        try simp only [e8]
        exact ⟨hy.1,hk _ _ hy.2⟩
       ·rename_i e8
        try simp only [e8]
        exact ⟨hy.1,hk _ _ hy.2⟩
       ·exact hy.elim
      ·exact hy.elim
     ·exact hK.elim
    ·exact hK.elim
   ·exact hK.elim
  ·obtain ⟨v,a,b⟩ := pin_aSlD _ hK
   exact b (fun v => K' v h) (hk _ _ a)
  ·split at hK
   ·rename_i e0
    try simp only [e0]
    unfold aUStr at hK ⊢
    split at hK
    ·split at hK
     ·rename_i e8
      try simp only [e8]
      refine ⟨hK.1,?_⟩
      have hK := hK.2
      split at hK
      ·rename_i e9
       try simp only [e9]
       exact hk _ _ hK
      ·exact hK.elim
     ·exact hK.elim
    ·exact hK.elim
   ·exact hK.elim
  ·exact hK.elim
 ·exact hK.elim
theorem opW_mono {h : List AObj} {o : Oper} {r : Nat → Value} {K K' : Value → List AObj → Prop} (hK : opW P (Good P J) o r h K) (hk : ∀ v h,K v h → K' v h) : opW P (Good P J) o r h K' := by
 unfold opW at hK ⊢
 split at hK
 ·rename_i e
  try simp only [e]
  unfold callV at hK ⊢
  split at hK
  ·rename_i g first cap e2
   try simp only [e2]
   cases hb : Nat.blt g P.funcs.size with
   | true => rw [hb] at hK; exact Good.mono hK hk
   | false => rw [hb] at hK; exact hK.elim
  ·rename_i e2
   try simp only [e2]
   exact Good.mono hK hk
  ·exact hK.elim
 ·exact aop_mono hK hk
def skOk (sk : List Nat) (dec : Dec) : Prop := ∀ j ∈ sk,dfind j dec = some none
theorem xgd_gd {sk : List Nat} {o : Oper} {r : Nat → Value} {w : Bool} (hg : xgd ops sk o r = some w) : gd ops o r = some w := by
 unfold xgd at hg
 unfold gd
 split at hg
 ·rename_i e; rw [e]; exact hg
 ·rename_i j want e
  rw [e]
  simp only [bind_dst]
  split at hg
  ·rename_i t ht
   rw [ht]
   simp only
   split at hg
   ·rename_i e2; rw [e2]; exact hg
   ·rename_i e2
    rw [e2]
    cases hs : sk.any fun i => Nat.beq i j with
    | true => rw [hs] at hg; exact hg
    | false => rw [hs] at hg; cases hg
   ·cases hg
  ·cases hg
theorem goG_ex {sk : List Nat} {dec : Dec} {o : Oper} {f : RG} {w : Bool} (hg : xgd ops sk o f.r = some w) (hd : decOk ops dec f) (hs : skOk sk dec) : ∃ dec',decOk ops dec' f ∧ skOk sk dec' ∧ ∀ A : Bool → Dec → RG → Prop,A w dec' f → goG ops dec o f A := by
 unfold xgd at hg
 unfold goG
 cases hgu : o.guard with
 | none =>
  rw [hgu] at hg
  cases hg
  exact ⟨dec,hd,hs,fun A h => h⟩
 | some jw =>
  obtain ⟨j,want⟩ := jw
  rw [hgu] at hg
  simp only at hg ⊢
  cases hdst : dstOf ops j with
  | none => rw [hdst] at hg; cases hg
  | some t =>
   rw [hdst] at hg
   simp only at hg
   split at hg
   ·rename_i b hb
    cases hg
    cases hf : dfind j dec with
    | some b' =>
     obtain ⟨t',h1,h2⟩ := hd j b' hf
     rw [hdst] at h1
     cases h1
     rw [hb] at h2
     cases b' with
     | none => cases h2
     | some b' =>
      cases h2
      exact ⟨dec,hd,hs,fun A h => h⟩
    | none =>
     refine ⟨(j,some b) :: dec,fun i x hi => ?_,fun i hi => ?_,fun A h => ?_⟩
     ·unfold dfind at hi
      by_cases e : j = i
      ·subst e
       simp at hi
       subst hi
       exact ⟨t,hdst,hb⟩
      ·have : (j == i) = false := by simpa using e
       rw [this,cond_false] at hi
       exact hd i x hi
     ·have hi' := hs i hi
      unfold dfind
      have : (j == i) = false := by
       have : j ≠ i := fun e => by rw [e] at hf; rw [hf] at hi'; cases hi'
       simpa using this
      rw [this,cond_false]
      exact hi'
     ·simp only
      rw [hb]
      cases b with
      | true =>
       show A _ _ (f.p t (.bool true))
       rw [put_self hb]
       exact h
      | false =>
       show A _ _ (f.p t (.bool false))
       rw [put_self hb]
       exact h
   ·rename_i hb
    cases hk : sk.any fun i => Nat.beq i j with
    | false => rw [hk] at hg; cases hg
    | true =>
     rw [hk,cond_true] at hg
     cases hg
     obtain ⟨i,hi,e⟩ := List.any_eq_true.1 hk
     have e : i = j := Nat.eq_of_beq_eq_true e
     subst e
     rw [hs i hi]
     exact ⟨dec,hd,hs,fun A h => h⟩
   ·cases hg
theorem dfind_drop {d j : Nat} (hj : dstOf ops j ≠ some d) : ∀ {dec : Dec},dfind j (forget ops (some d) dec) = dfind j dec
 | [] => rfl
 | (i,c) :: l => by
  have ih := dfind_drop hj (dec := l)
  unfold forget at ih ⊢
  simp only [List.filter_cons]
  by_cases e : i = j
  ·subst e
   have hne : (dstOf ops i == some d) = false := by simpa using hj
   simp [hne,dfind]
  ·have hij : (i == j) = false := by simpa using e
   have e2 : ∀ l' : Dec,dfind j ((i,c) :: l') = dfind j l' := fun l' => by
    show (bif i == j then some c else dfind j l') = _
    rw [hij,cond_false]
   split
   ·rw [e2,e2]
    exact ih
   ·rw [e2]
    exact ih
theorem skDrop_ok {sk : List Nat} {dec : Dec} {d : Option Nat} (hs : skOk sk dec) : skOk (skDrop ops d sk) (forget ops d dec) := by
 unfold skDrop
 split
 ·intro j hj; cases hj
 ·exact hs
 ·rename_i d _
  intro j hj
  obtain ⟨h1,h2⟩ := List.mem_filter.1 hj
  rw [dfind_drop]
  ·exact hs j h1
  ·intro e
   rw [e] at h2
   simp at h2
theorem skAdd_ok {sk : List Nat} {dec : Dec} {i : Nat} {d : Option Nat} (hs : skOk sk dec) : skOk (skAdd ops i d sk) (skipD ops i d dec) := by
 cases d with
 | none => exact hs
 | some d =>
  intro j hj
  unfold skipD dfind
  by_cases e : i = j
  ·subst e; simp
  ·have hij : (i == j) = false := by simpa using e
   rw [hij,cond_false]
   rcases List.mem_cons.1 hj with rfl | hj
   ·exact absurd rfl e
   ·exact skDrop_ok (d := some d) hs j hj
def LP (ds : List Nat) (K : LB) : RG → List AObj → Prop := fun f h => ∃ l x,f = rgOf l ds ∧ h = hOf x ∧ K l x = true
theorem xops_t (hC : CSound P J C) : ∀ (os : List Nat) {sk : List Nat} {dec : Dec} {l : T Value} {x : XH} {K : LB},decOk ops dec (rgOf l ds) → skOk sk dec → xops P C N ops os l x sk K = true → opsW P (Good P J) N ops os dec (rgOf l ds) (hOf x) (LP ds K)
 | [],sk,dec,l,x,K,hd,hs,hx => ⟨l,x,rfl,rfl,hx⟩
 | i :: os,sk,dec,l,x,K,hd,hs,hx => by
  change (match ops[i]? with
   | some o => dstOk N o && match xgd ops sk o (gt l) with
    | some true => xopW P C o.op (gt l) x fun v h => xput o.dst v l fun l => xops P C N ops os l h (skDrop ops o.dst sk) K
    | some false => xput o.dst undef l fun l => xops P C N ops os l x (skAdd ops i o.dst sk) K
    | none => false
   | none => false) = true at hx
  unfold opsW
  split at hx
  ·rename_i o ho
   rw [ho]
   simp only
   obtain ⟨a,hx⟩ := and_t hx
   rw [a,cond_true]
   split at hx
   ·rename_i hg
    obtain ⟨dec',hd',hs',hgo⟩ := goG_ex (f := rgOf l ds) hg hd hs
    refine hgo _ ?_
    rw [cond_true]
    refine opW_mono (xopW_t hC hx) fun v h' hk => ?_
    obtain ⟨x',rfl,hk⟩ := hk
    obtain ⟨l',e,hk⟩ := xput_t (ds := ds) hk
    have hd2 := decOk_put (v := v) (d := o.dst) hd'
    rw [e] at hd2 ⊢
    exact xops_t hC os hd2 (skDrop_ok hs') hk
   ·rename_i hg
    obtain ⟨dec',hd',hs',hgo⟩ := goG_ex (f := rgOf l ds) hg hd hs
    refine hgo _ ?_
    rw [cond_false]
    obtain ⟨l',e,hk⟩ := xput_t (ds := ds) hx
    have hd2 := decOk_skip ho hd'
    rw [e] at hd2 ⊢
    exact xops_t hC os hd2 (skAdd_ok hs') hk
   ·cases hx
  ·cases hx
theorem xany_t (hC : CSound P J C) {B : Option (List Nat)} {x0 : XH} : ∀ (n : Nat) (L : Array Bool) (sok : Bool) (dec : Dec) {sk : List Nat} {l : T Value} {x : XH} {K : LB},decOk ops dec (rgOf l ds) → skOk sk dec → xany P C N ops B x0 n L sok l x sk K = true → anyW P (Good P J) N ops B (hOf x0) n L sok dec (rgOf l ds) (hOf x) (LP ds K) := by
 intro n
 induction n with
 | zero =>
  intro L sok dec sk l x K hd hs hx
  unfold xany at hx
  unfold anyW
  obtain ⟨a,b⟩ := and_t hx
  rw [a,cond_true]
  exact ⟨l,x,rfl,rfl,b⟩
 | succ n ih =>
  intro L sok dec sk l x K hd hs hx
  unfold xany at hx
  unfold anyW
  split at hx
  ·rename_i i hp
   rw [hp]
   simp only
   split at hx
   ·rename_i o ho
    rw [ho]
    simp only
    obtain ⟨a,hx⟩ := and_t hx
    rw [a,cond_true]
    obtain ⟨a,a2⟩ := and_t a
    split at hx
    ·rename_i hg
     obtain ⟨dec',hd',hs',hgo⟩ := goG_ex (f := rgOf l ds) hg hd hs
     refine hgo _ ?_
     rw [cond_true]
     refine opW_mono (xopW_t hC hx) fun v h' hk => ?_
     obtain ⟨x',_,hk⟩ := hk
     obtain ⟨k1,k2⟩ := and_t hk
     obtain ⟨l',e,hk⟩ := xput_t (ds := ds) k2
     have hd2 := decOk_put (v := v) (d := o.dst) hd'
     rw [e] at hd2 ⊢
     cases hb : isRead o.op && B.isSome with
     | true =>
      rw [cond_true]
      refine ⟨?_,ih _ _ _ hd2 (skDrop_ok hs') hk⟩
      rw [hb] at k1
      exact xrd_t k1
     | false =>
      rw [cond_false]
      exact ih _ _ _ hd2 (skDrop_ok hs') hk
    ·rename_i hg
     obtain ⟨dec',hd',hs',hgo⟩ := goG_ex (f := rgOf l ds) hg hd hs
     refine hgo _ ?_
     rw [cond_false]
     obtain ⟨l',e,hk⟩ := xput_t (ds := ds) hx
     have hd2 := decOk_skip ho hd'
     rw [e] at hd2 ⊢
     exact ih _ _ _ hd2 (skAdd_ok hs') hk
    ·cases hx
   ·cases hx
  ·rename_i hp
   rw [hp]
   simp only
   cases he : (Region.ready .any ops L).isEmpty with
   | true =>
    rw [he,cond_true] at hx
    rw [cond_true]
    exact ⟨l,x,rfl,rfl,hx⟩
   | false =>
    rw [he,cond_false] at hx
    rw [cond_false]
    refine allOf_t _ hx fun i hx => ?_
    split at hx
    ·rename_i o ho
     rw [ho]
     simp only
     obtain ⟨a,hx⟩ := and_t hx
     rw [a,cond_true]
     split at hx
     ·rename_i hg
      obtain ⟨dec',hd',hs',hgo⟩ := goG_ex (f := rgOf l ds) hg hd hs
      refine hgo _ ?_
      rw [cond_true]
      refine opW_mono (xopW_t hC hx) fun v h' hk => ?_
      obtain ⟨x',rfl,hk⟩ := hk
      have hd2 := decOk_put (v := v) (d := o.dst) hd'
      cases hn : sNeed P ops i o with
      | true =>
       simp only [hn,cond_true] at hk
       rw [cond_true]
       obtain ⟨k1,k2⟩ := and_t hk
       obtain ⟨l',e,hk⟩ := xput_t (ds := ds) k2
       rw [e] at hd2 ⊢
       exact ⟨xsame_t k1,ih _ _ _ hd2 (skDrop_ok hs') hk⟩
      | false =>
       simp only [hn,cond_false] at hk
       rw [cond_false]
       obtain ⟨l',e,hk⟩ := xput_t (ds := ds) hk
       rw [e] at hd2 ⊢
       exact ih _ _ _ hd2 (skDrop_ok hs') hk
     ·rename_i hg
      obtain ⟨dec',hd',hs',hgo⟩ := goG_ex (f := rgOf l ds) hg hd hs
      refine hgo _ ?_
      rw [cond_false]
      obtain ⟨k1,k2⟩ := and_t hx
      have k1 : (sNeed P ops i o && !sok) = false := by
       cases hs : sNeed P ops i o && !sok with
       | false => rfl
       | true => rw [hs] at k1; cases k1
      rw [k1,cond_false]
      obtain ⟨l',e,hk⟩ := xput_t (ds := ds) k2
      have hd2 := decOk_skip ho hd'
      rw [e] at hd2 ⊢
      exact ih _ _ _ hd2 (skAdd_ok hs') hk
     ·cases hx
    ·cases hx
theorem anyW_rd {o : Oper} {R : List Nat} {r : Nat → Value} {A : List Nat → Prop} (h : ∃ B,(∀ b ∈ (readOf o.op r).toList ++ R,b ∈ B) ∧ A B) : ∃ B,(∀ b ∈ R,b ∈ B) ∧ RdOk (some B) (readOf o.op r) ∧ A B := by
 obtain ⟨B,h1,h2⟩ := h
 refine ⟨B,fun b hb => h1 b (by simp [hb]),?_,h2⟩
 unfold RdOk
 cases hr : readOf o.op r with
 | none => trivial
 | some b => exact h1 b (by simp [hr])
theorem xpre_t (hC : CSound P J C) : ∀ (n : Nat) (L : Array Bool) (R : List Nat) (dec : Dec) {sk : List Nat} {l : T Value} {x : XH} {K : LB},decOk ops dec (rgOf l ds) → skOk sk dec → xpre P C N ops n L R l x sk K = true →
  ∃ B,(∀ b ∈ R,b ∈ B) ∧ anyW P (Good P J) N ops (some B) (hOf x) n L true dec (rgOf l ds) (hOf x) (LP ds K) := by
 intro n
 induction n with
 | zero =>
  intro L R dec sk l x K hd hs hx
  exact ⟨R,fun b hb => hb,xany_t hC 0 L true dec hd hs hx⟩
 | succ n ih =>
  intro L R dec sk l x K hd hs hx
  unfold xpre at hx
  split at hx
  ·rename_i i hp
   split at hx
   ·rename_i o ho
    obtain ⟨a,hx⟩ := and_t hx
    have hfr : isFree P o = true := by
     have := List.find?_some hp
     rw [ho] at this
     simp only [Bool.and_eq_true] at this
     exact this.1.1
    split at hx
    ·rename_i hg
     have hgd := xgd_gd hg
     obtain ⟨v,hv,hrep⟩ := opG_free (C := Good P J) (ops := ops) (r := gt l) hfr (by unfold opG; rw [hgd]; exact xopW_t hC hx)
     obtain ⟨x',hxx,hv⟩ := hv
     obtain ⟨l',e,hk⟩ := xput_t (ds := ds) hv
     obtain ⟨dec',hd',hs',hgo⟩ := goG_ex (f := rgOf l ds) hg hd hs
     have hd2 := decOk_put (v := v) (d := o.dst) hd'
     rw [e] at hd2
     obtain ⟨B,b1,b2⟩ := ih (L.setIfInBounds i true) ((readOf o.op (gt l)).toList ++ R) _ hd2 (skDrop_ok hs') hk
     obtain ⟨B,c1,c2,c3⟩ := anyW_rd (A := fun B => anyW P (Good P J) N ops (some B) (hOf x) n (L.setIfInBounds i true) true (forget ops o.dst dec') (rgOf l' ds) (hOf x) (LP ds K)) ⟨B,b1,b2⟩
     refine ⟨B,c1,?_⟩
     unfold anyW
     rw [hp]
     simp only [ho]
     rw [a]
     simp only [Bool.or_true,Bool.and_true,cond_true]
     refine hgo _ ?_
     simp only [cond_true]
     have := hrep (hOf x) (fun v _ => bif isRead o.op && (some B).isSome then RdOk (some B) (readOf o.op (gt l)) ∧ anyW P (Good P J) N ops (some B) (hOf x) n (L.setIfInBounds i true) true (forget ops o.dst dec') ((rgOf l ds).putO o.dst v) (hOf x) (LP ds K) else anyW P (Good P J) N ops (some B) (hOf x) n (L.setIfInBounds i true) true (forget ops o.dst dec') ((rgOf l ds).putO o.dst v) (hOf x) (LP ds K)) (fun _ _ => rfl) (by
      rw [e]
      cases isRead o.op with
      | true => exact ⟨c2,c3⟩
      | false => exact c3)
     unfold opG at this
     rw [hgd] at this
     exact this
    ·rename_i hg
     obtain ⟨l',e,hk⟩ := xput_t (ds := ds) hx
     obtain ⟨dec',hd',hs',hgo⟩ := goG_ex (f := rgOf l ds) hg hd hs
     have hd2 := decOk_skip ho hd'
     rw [e] at hd2
     obtain ⟨B,b1,b2⟩ := ih (L.setIfInBounds i true) R _ hd2 (skAdd_ok hs') hk
     refine ⟨B,b1,?_⟩
     unfold anyW
     rw [hp]
     simp only [ho]
     rw [a]
     simp only [Bool.or_true,Bool.and_true,cond_true]
     refine hgo _ ?_
     simp only [cond_false]
     rw [e]
     exact b2
    ·cases hx
   ·cases hx
  ·exact ⟨R,fun b hb => hb,xany_t hC (n + 1) L true dec hd hs hx⟩
theorem xdraw_t (hC : CSound P J C) {l : T Value} {x : XH} {K : LB} (hx : xdraw P C N ops l x K = true) : drawW P (Good P J) N ops (rgOf l ds) (hOf x) (LP ds K) := by
 unfold xdraw at hx
 unfold drawW
 have h0 : skOk [] [] := fun j hj => by cases hj
 cases hs : still P ops with
 | true =>
  rw [hs,cond_true] at hx
  rw [cond_true]
  exact xany_t hC _ _ _ _ (fun j b e => by cases e) h0 hx
 | false =>
  rw [hs,cond_false] at hx
  rw [cond_false]
  obtain ⟨B,_,hB⟩ := xpre_t (ds := ds) hC _ _ _ [] (fun j b e => by cases e) h0 hx
  exact ⟨B,hB⟩
end
abbrev QB := Exit → T Value → List Nat → XH → Bool
noncomputable def xjump (pend : Option Code) (Q : QB) (l : T Value) (ds : List Nat) (h : XH) : Bool :=
 match pend with
 | none => Q .normal l ds h
 | some .ret => Q .ret l ds h
 | some (.exit id) => Q (.exit id) l ds h
 | _ => false
noncomputable def seqQ (Q : QB) (k : T Value → List Nat → XH → Bool) : QB := fun e l ds h =>
 match e with
 | .normal => k l ds h
 | e => Q e l ds h
noncomputable def blkQ (id : Nat) (Q : QB) : QB := fun e l ds h =>
 match e with
 | .exit i => bif i == id then Q .normal l ds h else Q (.exit i) l ds h
 | e => Q e l ds h
noncomputable def xcnd (v : Value) (a b : Bool) : Bool :=
 match v with
 | .bool true => a
 | .bool false => b
 | _ => false
noncomputable def xrange (P : Program) (C : CB) (N fn : Nat) (v : Value) (params : Array Tmp) (assign body : Code) (l : T Value) (ds : List Nat) (x : XH) (Q : QB) : Bool :=
 match v with
 | .func (.func g) ⟨first⟩ ⟨cap⟩ => (Nat.blt fn 1000000 && (Nat.blt g P.funcs.size && callable P g)) && hpush x .deferred fun h => hpush h (.loop .ready none fn (gt l) N params assign body x.n) fun y =>
  C g (first ++ [.func (.yield (x.n + 1)) ⟨[]⟩ ⟨[]⟩] ++ cap) y fun _ h' => hg h' (x.n + 1) fun o =>
   match o with
   | .loop st pend _ _ _ _ _ _ _ => !(st == .busy) && hset h' (x.n + 1) .dead fun h' => xjump pend Q l (x.n :: ds) h'
   | _ => false
 | _ => false
def ordF (P : Program) (ops : Array Oper) : Nat → Array Bool → List Nat
 | 0,_ => []
 | n + 1,L => match pickN P ops L with
  | some i => i :: ordF P ops n (L.setIfInBounds i true)
  | none => match Region.ready .any ops L with
   | [] => []
   | i :: _ => i :: ordF P ops n (L.setIfInBounds i true)
def multi (P : Program) (ops : Array Oper) : Nat → Array Bool → Bool
 | 0,_ => false
 | n + 1,L => match pickN P ops L with
  | some i => multi P ops n (L.setIfInBounds i true)
  | none => match Region.ready .any ops L with
   | [] => false
   | [i] => multi P ops n (L.setIfInBounds i true)
   | _ => true
def blkV : Value → Option Nat
 | .pointer (some a) => some a.block
 | .slice (some a) _ _ => some a.block
 | .map (some b) => some b
 | _ => none
def sg : List (Nat × Nat) → Nat → Nat
 | [],b => b
 | (a,c) :: l,b => bif Nat.beq a b then c else sg l b
def swp (l : List (Nat × Nat)) : List (Nat × Nat) := l.map fun p => (p.2,p.1)
def addP (n0 : Nat) (a b : Value) (acc : List (Nat × Nat)) (k : List (Nat × Nat) → Bool) : Bool :=
 match blkV a,blkV b with
 | some x,some y => bif Nat.ble n0 x && !(acc.any fun p => Nat.beq p.1 x) then fN x fun x => fN y fun y => k ((x,y) :: acc) else k acc
 | _,_ => k acc
noncomputable def prs (n0 : Nat) : T Value → T Value → List (Nat × Nat) → (List (Nat × Nat) → Bool) → Bool
 | .node a l r,.node b l' r',acc,k => addP n0 a b acc fun acc => prs n0 l l' acc fun acc => prs n0 r r' acc k
 | _,_,acc,k => k acc
noncomputable def simT (σ : Nat → Nat) : T Value → T Value → Bool
 | .nil,.nil => true
 | .node a l r,.node b l' r' => simV σ a b && simT σ l l' && simT σ r r'
 | _,_ => false
def isDead : AObj → Bool
 | .dead => true
 | _ => false
noncomputable def xsim (n0 : Nat) (l1 : T Value) (x1 : XH) (l2 : T Value) (x2 : XH) : Bool :=
 prs n0 l1 l2 [] fun s => (s.all fun p => Nat.ble n0 p.1) && simT (sg s) l1 l2 &&
  (List.range x1.n).all fun i => (Nat.beq (sg (swp s) (sg s i)) i) && ((isDead (tget .dead x1.t i)) || hg x2 (sg s i) fun o => simO (sg s) (tget .dead x1.t i) o)
noncomputable def xjoin (P : Program) (C : CB) (N : Nat) (ops : Array Oper) (l : T Value) (x : XH) (k : T Value → XH → Bool) : Bool :=
 xops P C N ops (ordF P ops ops.size (Array.replicate ops.size false)) l x [] fun l1 x1 => xdraw P C N ops l x (fun l2 x2 => xsim x.n l1 x1 l2 x2) && k l1 x1
def joinOf (P : Program) : Code → Option (Array Oper)
 | .region _ ops true => bif multi P ops ops.size (Array.replicate ops.size false) then some ops else none
 | _ => none
noncomputable def xseq (P : Program) (C : CB) (N : Nat) (a : Code) (ra rb : T Value → List Nat → XH → QB → Bool) (l : T Value) (ds : List Nat) (h : XH) (Q : QB) : Bool :=
 match joinOf P a with
 | some ops => xjoin P C N ops l h fun l h => rb l ds h Q
 | none => ra l ds h (seqQ Q fun l ds h => rb l ds h Q)
noncomputable def xC (P : Program) (C : CB) (N fn : Nat) (lp : Code → T Value → List Nat → XH → QB → Bool) (c : Code) : T Value → List Nat → XH → QB → Bool :=
 Code.rec (motive := fun _ => T Value → List Nat → XH → QB → Bool)
  (fun l ds h Q => Q .normal l ds h)
  (fun _ ops draw l ds h Q => bif draw then xdraw P C N ops l h fun l h => Q .normal l ds h else xops P C N ops (List.range ops.size) l h [] fun l h => Q .normal l ds h)
  (fun a _ iha ihb l ds h Q => xseq P C N a iha ihb l ds h Q)
  (fun c _ _ iha ihb l ds h Q => xcnd (ev (gt l) c) (iha l ds h Q) (ihb l ds h Q))
  (fun id _ ih l ds h Q => ih l ds h (blkQ id Q))
  (fun b _ l ds h Q => lp b l ds h Q)
  (fun fop params assign body _ _ l ds h Q => xrange P C N fn (ev (gt l) fop) params assign body l ds h Q)
  (fun id l ds h Q => Q (.exit id) l ds h)
  (fun _ ih l ds h Q => ih l ds h Q)
  (fun _ l ds h Q => Q .normal l ds h)
  (fun _ _ _ _ _ => false)
  (fun l ds h Q => Q .ret l ds h)
  (fun _ _ _ _ _ => false) c
noncomputable def xtake : List Nat → XH → (XH → Bool) → Bool
 | [],h,K => K h
 | d :: ds,h,K => hg h d fun o => match o with
  | .deferred => hset h d .dead fun h => xtake ds h K
  | _ => false
def isU : Value → Bool
 | .tuple ⟨[.tuple ⟨[]⟩]⟩ => true
 | _ => false
noncomputable def xres (P : Program) : List ResultVar → (Nat → Value) → XH → (List Value → Bool) → Bool
 | [],_,_,K => K []
 | .tmp t :: rs,r,h,K => fV (r t) fun v => !isU v && xres P rs r h fun vs => K (v :: vs)
 | .cell a t :: rs,r,h,K => match tk P t with
  | some (g,s) => xLoad g s (r a) h fun v => xres P rs r h fun vs => K (v :: vs)
  | none => false
noncomputable def xputs : T Value → List Nat → List Value → (T Value → Bool) → Bool
 | l,t :: ts,v :: vs,K => tset unk 9 l t v fun l => xputs l ts vs K
 | l,_,_,K => K l
noncomputable def xroundC (l : Nat) (K : KB) (e : Exit) (h : XH) (o : AObj) : Bool :=
 match o with
 | .loop _ _ fn r size params assign body dfr =>
  match e with
  | .normal => hset h l (.loop .ready none fn r size params assign body dfr) fun h => K (.bool true) h
  | .exit id => hset h l (.loop .done (some (.exit id)) fn r size params assign body dfr) fun h => K (.bool false) h
  | .ret => hset h l (.loop .done (some .ret) fn r size params assign body dfr) fun h => K (.bool false) h
  | _ => false
 | _ => false
noncomputable def xround (l : Nat) (K : KB) : QB := fun e _ _ h => hg h l (xroundC l K e h)
noncomputable def xret (P : Program) (rs : List ResultVar) (K : KB) : QB := fun e l ds h =>
 match e with
 | .normal | .ret => xtake ds h fun h => xres P rs (gt l) h fun vs => K (pack vs) h
 | _ => false
noncomputable def regT (r : Nat → Value) : Nat → (T Value → Bool) → Bool
 | 0,k => k .nil
 | n + 1,k => regT r n fun l => fV (r n) fun v => tset unk 9 l n v k
noncomputable def xenter (P : Program) (C : CB) (lp : Nat → Nat → Code → T Value → List Nat → XH → QB → Bool) (g : FuncId) (args : List Value) (h : XH) (K : KB) (fn : Func) : Bool :=
 match fn.body with
 | some c => (Nat.ble args.length fn.ntmps && !(fn.name == "runtime.NumGoroutine")) && xputs .nil (List.range args.length) args fun l =>
  xC P C fn.ntmps g (lp fn.ntmps g) c l [] h (xret P fn.results.toList K)
 | none => false
noncomputable def xinto (P : Program) (C : CB) (lp : Nat → Nat → Code → T Value → List Nat → XH → QB → Bool) (l : Nat) (args : List Value) (h : XH) (K : KB) (o : AObj) : Bool :=
 match o with
 | .loop .ready _ fn r size params assign body _ => (params.size == args.length && params.toList.all fun t => Nat.blt t size) && regT r size fun t => xputs t params.toList args fun t =>
  xC P C size (fn + 1000000) (lp size (fn + 1000000)) assign t [] h fun e t ds h =>
   match e,ds with
   | .normal,[] => hg h l fun o => match o with
    | .loop .ready pend fn' r' size' params' assign' body' dfr' => hset h l (.loop .busy pend fn' r' size' params' assign' body' dfr') fun h =>
     xC P C size (fn + 1000000) (lp size (fn + 1000000)) body t [] h (xround l K)
    | _ => false
   | _,_ => false
 | _ => false
mutual
/-- A call. -/
noncomputable def xcall (P : Program) : Nat → CB
 | 0,_,_,_,_ => false
 | n + 1,g,args,h,K =>
  match P.funcs[g]? with
  | some fn => xenter P (xcall P n) (xloop P n) g args h K fn
  | none => Nat.ble P.funcs.size g && hg h (g - P.funcs.size) (xinto P (xcall P n) (xloop P n) (g - P.funcs.size) args h K)
/-- A loop. -/
noncomputable def xloop (P : Program) : Nat → Nat → Nat → Code → T Value → List Nat → XH → QB → Bool
 | 0,_,_,_,_,_,_,_ => false
 | n + 1,N,fn,b,l,ds,h,Q => xC P (xcall P n) N fn (xloop P n N fn) b l ds h (seqQ Q fun l ds h => xloop P n N fn b l ds h Q)
end
def JF : JT := fun _ _ _ => False
theorem closedF (P : Program) (main : Bool) : Closed P main JF where
 rely := fun h _ => h
 step := fun _ h => by
  obtain ⟨_,_,_,_,_,_,h⟩ := h _ (RelyW.refl _ _)
  exact h
section
variable {P : Program} {main : Bool} {J : JT} {C : CB} {N n0 : Nat} {ds : List Nat} {fn : FuncId} {ops : Array Oper}
def QP (Q : QB) : QT := fun e f h => ∃ l ds x,f = rgOf l ds ∧ h = hOf x ∧ Q e l ds x = true
theorem xjump_t {pend : Option Code} {Q : QB} {l : T Value} {ds : List Nat} {x : XH} (hx : xjump pend Q l ds x = true) : jumpQ pend (QP Q) ⟨gt l,ds⟩ (hOf x) := by
 unfold xjump at hx
 unfold jumpQ
 split at hx
 ·exact ⟨l,ds,x,rfl,rfl,hx⟩
 ·exact ⟨l,ds,x,rfl,rfl,hx⟩
 ·exact ⟨l,ds,x,rfl,rfl,hx⟩
 ·cases hx
def LSound (J : JT) (N n0 : Nat) (fn : FuncId) (lp : Code → T Value → List Nat → XH → QB → Bool) : Prop := ∀ b l ds x Q,lp b l ds x Q = true → Sem J N n0 fn (.loop b) (rgOf l ds) (hOf x) (QP Q)
theorem first_run (hC : CSound P JF C) {todo : List Nat} {l : T Value} {x : XH} {K : LB} (hx : xops P C N ops todo l x [] K = true) {ρ : Env} {FC : Frm} {w : World} {ft : Foot} {a : Act}
  (A : ActRel (hOf x).length ρ N (rgOf l ds) a) (H : HRel ρ (hOf x) FC w ft) : ∃ l1 x1,K l1 x1 = true ∧ heapOk (hOf x1) ∧ (∀ t,gt l1 t = unk ∨ VOk (hOf x1).length (gt l1 t)) ∧ (hOf x).length ≤ (hOf x1).length := by
 have hs := SemOps_of (J := JF) (N := N) (n0 := (hOf x).length) (fn := 0) (Q := fun e f h => e = .normal ∧ LP ds K f h) (closedF P true) todo (dec := []) (fun j b e => by cases e) (by simpa using xops_t (ds := ds) hC todo (fun j b e => by cases e) (fun j hj => by cases hj) hx)
 refine Classical.byContradiction fun hn => ?_
 refine hs ⟨0,.normal,none,[]⟩ a [] [] (fun _ _ _ _ => False) ρ FC w ft rfl (by simp) (fun _ _ _ _ _ z _ => z.elim) A H (Nat.le_refl _) ?_
 intro e f' h' ρ' w' ft' a' q A' H' hu hl
 obtain ⟨rfl,l1,x1,rfl,rfl,hk⟩ := q
 exact hn ⟨l1,x1,hk,H'.ok,fun t => (A'.regs t).imp id fun z => z.1,hl⟩
theorem simT_t {σ : Nat → Nat} : ∀ {l1 l2 : T Value},simT σ l1 l2 = true → ∀ t,gt l2 t = sub σ (gt l1 t)
 | .nil,.nil,_,t => by simp [gt,tget_nil,sub_undef]
 | .node a l r,.node b l' r',hx,t => by
  unfold simT at hx
  obtain ⟨x,y⟩ := and_t hx
  obtain ⟨x,z⟩ := and_t x
  cases t with
  | zero => exact simV_t x
  | succ t =>
   unfold gt
   rw [tget_node,tget_node]
   split
   ·exact simT_t z _
   ·exact simT_t y _
 | .nil,.node b l' r',hx,t => by cases hx
 | .node a l r,.nil,hx,t => by cases hx
theorem addP_ex {n0 : Nat} {a b : Value} {acc : List (Nat × Nat)} {k : List (Nat × Nat) → Bool} (hx : addP n0 a b acc k = true) : ∃ s,k s = true := by
 unfold addP at hx
 split at hx
 ·rename_i x y _ _
  cases hc : (Nat.ble n0 x && !(acc.any fun p => Nat.beq p.1 x)) with
  | true =>
   rw [hc,cond_true,fN_eq,fN_eq] at hx
   exact ⟨_,hx⟩
  | false =>
   rw [hc,cond_false] at hx
   exact ⟨_,hx⟩
 ·exact ⟨_,hx⟩
theorem prs_ex {n0 : Nat} : ∀ (l1 l2 : T Value) {acc : List (Nat × Nat)} {k : List (Nat × Nat) → Bool},prs n0 l1 l2 acc k = true → ∃ s,k s = true
 | .node a l r,.node b l' r',acc,k,hx => by
  unfold prs at hx
  obtain ⟨s1,hx⟩ := addP_ex hx
  obtain ⟨s2,hx⟩ := prs_ex l l' hx
  exact prs_ex r r' hx
 | .nil,l2,acc,k,hx => by
  unfold prs at hx
  exact ⟨_,hx⟩
 | .node a l r,.nil,acc,k,hx => by
  unfold prs at hx
  exact ⟨_,hx⟩
theorem sg_same {n : Nat} : ∀ {s : List (Nat × Nat)},(s.all fun p => Nat.ble n p.1) = true → Same n (sg s)
 | [],_,b,_ => rfl
 | (a,c) :: l,hx,b,hb => by
  simp only [List.all_cons,Bool.and_eq_true] at hx
  have := ble_t hx.1
  unfold sg
  have hne : Nat.beq a b = false := by
   cases h : Nat.beq a b with
   | false => rfl
   | true => have := Nat.eq_of_beq_eq_true h; omega
  rw [hne,cond_false]
  exact sg_same hx.2 b hb
theorem xsim_t {n0 n1 : Nat} {l1 l2 : T Value} {x1 x2 : XH} (hx : xsim n1 l1 x1 l2 x2 = true) (ok : heapOk (hOf x1)) (hr : ∀ t,gt l1 t = unk ∨ VOk (hOf x1).length (gt l1 t)) (hn : n0 ≤ n1) (hl : n1 ≤ (hOf x1).length) (hd : ∀ d ∈ ds,d < n1) :
  ∃ σ,GCR n0 σ (rgOf l2 ds) (hOf x2) (rgOf l1 ds) (hOf x1) := by
 unfold xsim at hx
 obtain ⟨s,hx⟩ := prs_ex l1 l2 hx
 obtain ⟨a,b⟩ := and_t hx
 obtain ⟨a1,a2⟩ := and_t a
 have hs := sg_same a1
 have hb : ∀ i,i < x1.n → sg (swp s) (sg s i) = i ∧ (isDead (tget .dead x1.t i) = true ∨ hg x2 (sg s i) (fun o => simO (sg s) (tget .dead x1.t i) o) = true) := by
  intro i hi
  have := List.all_eq_true.1 b i (List.mem_range.2 hi)
  obtain ⟨p,q⟩ := and_t this
  exact ⟨Nat.eq_of_beq_eq_true p,by simpa using q⟩
 have hat : ∀ {i : Nat} {o : AObj},(hOf x1)[i]? = some o → i < x1.n ∧ o = tget .dead x1.t i := by
  intro i o hi
  have hlt := (List.getElem?_eq_some_iff.1 hi).1
  rw [hOf_len] at hlt
  refine ⟨hlt,?_⟩
  unfold hOf at hi
  rw [List.getElem?_map,List.getElem?_range hlt] at hi
  simpa using hi.symm
 refine ⟨sg s,⟨Nat.le_trans hn hl,fun b hb => hs b (Nat.lt_of_lt_of_le hb hn),fun i o hi => ?_,fun i j o o' hi hj _ _ e => ?_,ok⟩,fun t => ?_,?_,fun b hb => Nat.lt_of_lt_of_le (hd b hb) hl⟩
 ·obtain ⟨hlt,rfl⟩ := hat hi
  rcases (hb i hlt).2 with h | h
  ·left
   unfold isDead at h
   split at h
   ·assumption
   ·cases h
  ·obtain ⟨o,ho,h⟩ := hg_t h
   right
   rw [ho,(simO_t h).1]
 ·have h1 := (hb i (hat hi).1).1
  have h2 := (hb j (hat hj).1).1
  rw [← h1,← h2,e]
 ·rcases hr t with h | h
  ·exact .inl h
  ·exact .inr ⟨simT_t a2 t,h⟩
 ·show ds = ds.map (sg s)
  exact ((List.map_congr_left fun d hd' => hs d (hd d hd')).trans (List.map_id _)).symm
theorem joinOf_t {a : Code} {ops : Array Oper} (h : joinOf P a = some ops) : ∃ id,a = .region id ops true := by
 unfold joinOf at h
 split at h
 ·rename_i id ops'
  cases hm : multi P ops' ops'.size (Array.replicate ops'.size false) with
  | true => rw [hm] at h; cases h; exact ⟨id,rfl⟩
  | false => rw [hm] at h; cases h
 ·cases h
theorem xjoin_t (hJ : Closed P main J) (hm : P.follows .mixedOrders = true) (hC : CSound P J C) (hC0 : CSound P JF C) {id : Nat} {b : Code} {l : T Value} {x : XH} {k : T Value → XH → Bool} {Q : QT} (hx : xjoin P C N ops l x k = true)
  (hb : ∀ l x,k l x = true → Sem J N n0 fn b (rgOf l ds) (hOf x) Q) : Sem J N n0 fn (.seq (.region id ops true) b) (rgOf l ds) (hOf x) Q := by
 intro b' a' k' cs' L' ρ FC w ft g1 g2 g3 g4 g5 g6 gc
 unfold xjoin at hx
 obtain ⟨l1,x1,hk,ok,hr,hl⟩ := first_run (ds := ds) hC0 hx g4 g5
 obtain ⟨k1,k2⟩ := and_t hk
 have hs : Sem J N n0 fn (.seq (.region id ops true) b) (rgOf l ds) (hOf x) Q := by
  refine Sem_seq hJ ((Sem_region_draw hJ hm (Q := fun e f h => e = .normal ∧ LP ds (fun l2 x2 => xsim x.n l1 x1 l2 x2) f h) (by simpa using xdraw_t (ds := ds) hC k1)).mono ?_)
  rintro e f h ⟨rfl,l2,x2,rfl,rfl,hsim⟩
  rw [hOf_len] at hl g6
  obtain ⟨σ,hg⟩ := xsim_t (ds := ds) hsim ok hr g6 hl (fun d hd => by
   have := g4.ok d hd
   rw [hOf_len] at this
   exact this)
  exact Sem.gc hg (hb l1 x1 k2)
 exact hs b' a' k' cs' L' ρ FC w ft g1 g2 g3 g4 g5 g6 gc
theorem xseq_t (hJ : Closed P main J) (hm : P.follows .mixedOrders = true) (hC : CSound P J C) (hC0 : CSound P JF C) {a b : Code} {ra rb : T Value → List Nat → XH → QB → Bool}
  (ha : ∀ l ds x Q,ra l ds x Q = true → Sem J N n0 fn a (rgOf l ds) (hOf x) (QP Q)) (hb : ∀ l ds x Q,rb l ds x Q = true → Sem J N n0 fn b (rgOf l ds) (hOf x) (QP Q)) {l : T Value} {ds : List Nat} {x : XH} {Q : QB} (hx : xseq P C N a ra rb l ds x Q = true) :
  Sem J N n0 fn (.seq a b) (rgOf l ds) (hOf x) (QP Q) := by
 unfold xseq at hx
 split at hx
 ·rename_i ops hj
  obtain ⟨id,rfl⟩ := joinOf_t hj
  exact xjoin_t hJ hm hC hC0 hx fun l x hk => hb l ds x Q hk
 ·refine Sem_seq hJ ((ha l ds x _ hx).mono fun e f h q => ?_)
  obtain ⟨l',ds',x',rfl,rfl,hq⟩ := q
  cases e with
  | normal => exact hb _ _ _ _ hq
  | _ => exact ⟨l',ds',x',rfl,rfl,hq⟩
theorem xC_t (hJ : Closed P main J) (hm : P.follows .mixedOrders = true) (hC : CSound P J C) (hC0 : CSound P JF C) {lp : Code → T Value → List Nat → XH → QB → Bool} (hL : LSound J N n0 fn lp) : ∀ (c : Code) (l : T Value) (ds : List Nat) (x : XH) (Q : QB),xC P C N fn lp c l ds x Q = true → Sem J N n0 fn c (rgOf l ds) (hOf x) (QP Q)
 | .skip,l,ds,x,Q,hx => Sem_skip hJ ⟨l,ds,x,rfl,rfl,hx⟩
 | .label _,l,ds,x,Q,hx => Sem_label hJ ⟨l,ds,x,rfl,rfl,hx⟩
 | .ret,l,ds,x,Q,hx => Sem_ret ⟨l,ds,x,rfl,rfl,hx⟩
 | .exit id,l,ds,x,Q,hx => Sem_exit hJ ⟨l,ds,x,rfl,rfl,hx⟩
 | .seq a b,l,ds,x,Q,hx => xseq_t hJ hm hC hC0 (ra := xC P C N fn lp a) (rb := xC P C N fn lp b) (fun l ds x Q h => xC_t hJ hm hC hC0 hL a l ds x Q h) (fun l ds x Q h => xC_t hJ hm hC hC0 hL b l ds x Q h) hx
 | .cond c a b,l,ds,x,Q,hx => by
  change xcnd (ev (gt l) c) (xC P C N fn lp a l ds x Q) (xC P C N fn lp b l ds x Q) = true at hx
  unfold xcnd at hx
  split at hx
  ·rename_i e
   exact Sem_cond hJ (t := true) e (by simpa using xC_t hJ hm hC hC0 hL a l ds x Q hx)
  ·rename_i e
   exact Sem_cond hJ (t := false) e (by simpa using xC_t hJ hm hC hC0 hL b l ds x Q hx)
  ·cases hx
 | .block id a,l,ds,x,Q,hx => by
  refine Sem_block hJ ((xC_t hJ hm hC hC0 hL a l ds x (blkQ id Q) hx).mono fun e f h q => ?_)
  obtain ⟨l',ds',x',rfl,rfl,hq⟩ := q
  cases e with
  | exit i =>
   unfold blkQ at hq
   simp only at hq
   unfold blockK
   simp only
   cases hi : i == id with
   | true => rw [hi,cond_true] at hq; exact ⟨l',ds',x',rfl,rfl,hq⟩
   | false => rw [hi,cond_false] at hq; exact ⟨l',ds',x',rfl,rfl,hq⟩
  | _ => exact ⟨l',ds',x',rfl,rfl,hq⟩
 | .scope a,l,ds,x,Q,hx => Sem_scope hJ (xC_t hJ hm hC hC0 hL a l ds x Q hx)
 | .region id ops draw,l,ds,x,Q,hx => by
  change (bif draw then xdraw P C N ops l x fun l x => Q .normal l ds x else xops P C N ops (List.range ops.size) l x [] fun l x => Q .normal l ds x) = true at hx
  cases draw with
  | true =>
   rw [cond_true] at hx
   refine (Sem_region_draw hJ hm (Q := fun e f h => e = .normal ∧ LP ds (fun l x => Q .normal l ds x) f h) ?_).mono ?_
   ·simpa using xdraw_t (ds := ds) hC hx
   ·rintro e f h ⟨rfl,l',x',rfl,rfl,hq⟩
    exact ⟨l',ds,x',rfl,rfl,hq⟩
  | false =>
   rw [cond_false] at hx
   refine (Sem_region_text hJ (Q := fun e f h => e = .normal ∧ LP ds (fun l x => Q .normal l ds x) f h) ?_).mono ?_
   ·simpa using xops_t (ds := ds) hC (List.range ops.size) (dec := []) (fun j b e => by cases e) (fun j hj => by cases hj) hx
   ·rintro e f h ⟨rfl,l',x',rfl,rfl,hq⟩
    exact ⟨l',ds,x',rfl,rfl,hq⟩
 | .loop b,l,ds,x,Q,hx => hL b l ds x Q hx
 | .rangeFunc fop params assign body,l,ds,x,Q,hx => by
  change xrange P C N fn (ev (gt l) fop) params assign body l ds x Q = true at hx
  unfold xrange at hx
  split at hx
  ·rename_i g first cap e
   obtain ⟨a,hx⟩ := and_t hx
   obtain ⟨a1,a2⟩ := and_t a
   obtain ⟨a2,a3⟩ := and_t a2
   obtain ⟨y1,e1,hx⟩ := hpush_t hx
   obtain ⟨y2,e2,hx⟩ := hpush_t hx
   have hg := hC _ _ _ _ hx
   rw [← e2,← e1,← hOf_len x] at hg
   refine Sem_range hJ (blt_t a1) (f := rgOf l ds) e (blt_t a2) (hg.mono fun v h' hk => ?_) a3
   obtain ⟨x',rfl,hk⟩ := hk
   obtain ⟨o,ho,hk⟩ := hg_t hk
   split at hk
   ·rename_i st pend fn' r size params' assign' body' dfr
    obtain ⟨k1,k2⟩ := and_t hk
    obtain ⟨y,ey,k2⟩ := hset_t k2
    refine ⟨st,pend,fn',r,size,params',assign',body',dfr,ho,fun e => ?_,?_⟩
    ·subst e
     cases k1
    ·rw [ey]
     exact xjump_t k2
   ·cases hk
  ·cases hx
 | .goto _,l,ds,x,Q,hx => by cases hx
 | .refuse _,l,ds,x,Q,hx => by cases hx
theorem xtake_t : ∀ (ds : List Nat) {x : XH} {K : XH → Bool},xtake ds x K = true → takeW ds (hOf x) (HP K)
 | [],x,K,hx => ⟨x,rfl,hx⟩
 | d :: ds,x,K,hx => by
  unfold xtake at hx
  obtain ⟨o,ho,hx⟩ := hg_t hx
  split at hx
  ·obtain ⟨y,e,hx⟩ := hset_t hx
   refine ⟨ho,?_⟩
   rw [e]
   exact xtake_t ds hx
  ·cases hx
theorem takeW_mono : ∀ (ds : List Nat) {h : List AObj} {K K' : List AObj → Prop},takeW ds h K → (∀ h,K h → K' h) → takeW ds h K'
 | [],h,K,K',hx,hk => hk _ hx
 | d :: ds,h,K,K',hx,hk => ⟨hx.1,takeW_mono ds hx.2 hk⟩
theorem resW_mono : ∀ (rs : List ResultVar) {r : Nat → Value} {h : List AObj} {K K' : List Value → Prop},resW P rs r h K → (∀ vs,K vs → K' vs) → resW P rs r h K'
 | [],r,h,K,K',hx,hk => hk _ hx
 | .tmp t :: rs,r,h,K,K',hx,hk => ⟨hx.1,resW_mono rs hx.2 fun vs => hk _⟩
 | .cell a t :: rs,r,h,K,K',hx,hk => by
  unfold resW at hx ⊢
  split at hx
  ·obtain ⟨v,k1,k2⟩ := pin_aLoad _ hx
   exact k2 (fun v => resW P rs r h fun vs => K' (v :: vs)) (resW_mono rs k1 fun vs => hk _)
  ·exact hx.elim
theorem xres_t : ∀ (rs : List ResultVar) {r : Nat → Value} {x : XH} {K : List Value → Bool},xres P rs r x K = true → resW P rs r (hOf x) fun vs => K vs = true
 | [],r,x,K,hx => hx
 | .tmp t :: rs,r,x,K,hx => by
  unfold xres at hx
  rw [fV_eq] at hx
  obtain ⟨a,b⟩ := and_t hx
  refine ⟨fun e => ?_,xres_t rs b⟩
  rw [e] at a
  cases a
 | .cell a t :: rs,r,x,K,hx => by
  unfold xres at hx
  unfold resW
  split at hx
  ·rename_i e
   simp only [e]
   obtain ⟨v,k1,k2⟩ := pin_aLoad _ (xLoad_t hx)
   exact k2 (fun v => resW P rs r (hOf x) fun vs => K (v :: vs) = true) (xres_t rs k1)
  ·cases hx
theorem xret_t {rs : List ResultVar} {K : KB} {e : Exit} {f : RG} {h : List AObj} (hq : QP (xret P rs K) e f h) : RetQ P rs n0 (KP K) e f h := by
 obtain ⟨l,ds,x,rfl,rfl,hq⟩ := hq
 have main : xtake ds x (fun h => xres P rs (gt l) h fun vs => K (pack vs) h) = true → takeW (rgOf l ds).ds (hOf x) fun h => resW P rs (rgOf l ds).r h fun vs => KP K (pack vs) h ∨ ∃ σ h' v,GC n0 σ h h' ∧ pack vs = sub σ v ∧ VOk h'.length v ∧ KP K v h' := by
  intro hq
  refine takeW_mono ds (xtake_t ds hq) fun h hk => ?_
  obtain ⟨y,rfl,hk⟩ := hk
  exact resW_mono rs (xres_t rs hk) fun vs hv => .inl ⟨y,rfl,hv⟩
 unfold xret at hq
 unfold RetQ
 split at hq
 ·exact main hq
 ·exact main hq
 ·cases hq
theorem xputs_t : ∀ (ts : List Nat) (vs : List Value) {l : T Value} {K : T Value → Bool},xputs l ts vs K = true → ∃ l',gt l' = putAll (gt l) ts vs ∧ K l' = true
 | [],vs,l,K,hx => by
  cases vs <;> exact ⟨l,rfl,hx⟩
 | t :: ts,[],l,K,hx => ⟨l,rfl,hx⟩
 | t :: ts,v :: vs,l,K,hx => by
  unfold xputs at hx
  obtain ⟨l1,h1,h2⟩ := tset_t _ hx
  obtain ⟨l',e1,e2⟩ := xputs_t ts vs h1
  refine ⟨l',?_,e2⟩
  show gt l' = putAll (fun i => bif i == t then v else gt l i) ts vs
  rw [gt_set h2]
  exact e1
theorem xround_t {l n0 : Nat} {K : KB} {e : Exit} {f : RG} {h : List AObj} (hq : QP (xround l K) e f h) : roundQ l n0 (KP K) e f h := by
 obtain ⟨l',ds,x,rfl,rfl,hq⟩ := hq
 obtain ⟨o,ho,hq⟩ := hg_t hq
 unfold xroundC at hq
 split at hq
 ·rename_i st pend fn r size params assign body dfr
  refine ⟨st,pend,fn,r,size,params,assign,body,dfr,ho,?_⟩
  split at hq
  ·exact .inl (hset_t hq)
  ·exact .inl (hset_t hq)
  ·exact .inl (hset_t hq)
  ·cases hq
 ·cases hq
theorem putAll_range : ∀ (args : List Value) (k : Nat) (r : Nat → Value) (t : Nat),putAll r (List.range' k args.length) args t = if k ≤ t ∧ t < k + args.length then args.getD (t - k) unk else r t
 | [],k,r,t => by
  rw [if_neg (by simp)]
  rfl
 | v :: args,k,r,t => by
  show putAll (fun i => bif i == k then v else r i) (List.range' (k + 1) args.length) args t = _
  rw [putAll_range args (k + 1)]
  simp only [List.length_cons]
  by_cases h1 : k + 1 ≤ t ∧ t < k + 1 + args.length
  ·rw [if_pos h1,if_pos (by omega)]
   have : t - k = (t - (k + 1)) + 1 := by omega
   rw [this,List.getD_cons_succ]
  ·rw [if_neg h1]
   by_cases e : t = k
   ·subst e
    rw [if_pos (by omega)]
    simp
   ·have : (t == k) = false := by simpa using e
    rw [this,if_neg (by omega)]
    rfl
theorem regT_t {r : Nat → Value} : ∀ (n : Nat) {k : T Value → Bool},regT r n k = true → ∃ l,k l = true ∧ ∀ t,gt l t = if t < n then r t else unk
 | 0,k,hx => ⟨.nil,hx,fun t => by simp [gt,tget_nil]⟩
 | n + 1,k,hx => by
  unfold regT at hx
  obtain ⟨l,h1,h2⟩ := regT_t n hx
  rw [fV_eq] at h1
  obtain ⟨l',h3,h4⟩ := tset_t _ h1
  refine ⟨l',h3,fun t => ?_⟩
  show tget unk l' t = _
  rw [h4]
  by_cases e : t = n
  ·subst e; simp
  ·rw [if_neg e]
   show gt l t = _
   rw [h2]
   by_cases e2 : t < n
   ·rw [if_pos e2,if_pos (by omega)]
   ·rw [if_neg e2,if_neg (by omega)]
theorem Sem.less {h : List AObj} {c : Code} {f f' : RG} {Q : QT} (hr : ∀ t,f'.r t = unk ∨ f'.r t = f.r t) (hd : f'.ds = f.ds) (hs : Sem J N n0 fn c f' h Q) : Sem J N n0 fn c f h Q := by
 intro b a k cs L ρ FC w ft h1 h2 h3 h4 h5 h6 hc
 refine hs b a k cs L ρ FC w ft h1 h2 h3 ⟨fun t => ?_,h4.size,by rw [hd]; exact h4.defers,by rw [hd]; exact h4.ok⟩ h5 h6 hc
 rcases hr t with e | e
 ·exact .inl e
 ·rw [e]
  exact h4.regs t
theorem putAll_less : ∀ (ps : List Nat) (vs : List Value) {r r' : Nat → Value},(∀ t,r' t = unk ∨ r' t = r t) → ∀ t,putAll r' ps vs t = unk ∨ putAll r' ps vs t = putAll r ps vs t
 | [],vs,r,r',h,t => by cases vs <;> exact h t
 | p :: ps,[],r,r',h,t => h t
 | p :: ps,v :: vs,r,r',h,t => by
  refine putAll_less ps vs (fun x => ?_) t
  by_cases e : x = p
  ·have : (x == p) = true := by simpa using e
   simp [this]
  ·have : (x == p) = false := by simpa using e
   simpa [this] using h x
def SemL (J : JT) (N n0 : Nat) (fn : FuncId) (c : Code) (f : RG) (h : List AObj) (Q : QT) : Prop :=
 ∀ (b : FB) (a : Act) (k : List Item) (cs : List Frame) (L : Option Code → Act → World → Foot → Prop) (ρ : Env) (FC : Frm) (w : World) (ft : Foot),b.tag = fn → b.kind ≠ .early → LeaveOk J b cs L →
  ActRel h.length ρ N f a → HRel ρ h FC w ft → n0 ≤ h.length → Cont J N n0 b k cs L ρ FC Q → J (G (b.at a (.code c :: .inLoop c :: k)) cs) w ft
theorem SemL_step {h : List AObj} (hJ : Closed P main J) {c : Code} {f : RG} {Q : QT} (hx : Sem J N n0 fn c f h (thenK (fun f h => SemL J N n0 fn c f h Q) Q)) : SemL J N n0 fn c f h Q := by
 intro b a k cs L ρ FC w ft h1 h2 h3 h4 h5 h6 hc
 refine hx b a (.inLoop c :: k) cs L ρ FC w ft h1 h2 h3 h4 h5 h6 fun e f' h' ρ' w' ft' a' q g1 g2 g3 g4 => ?_
 cases e with
 | normal =>
  refine hJ.ctrl rfl rfl (g' := G (b.at a' (.code c :: .inLoop c :: k)) cs) (fun w => by simp [G,stepG,stepG.exec,FB.at]) ?_
  exact q b a' k cs L ρ' FC w' ft' h1 h2 h3 g1 g2 g4 fun e f3 h3' ρ3 w3 ft3 a3 q r1 r2 r3 r4 => hc e f3 h3' ρ3 w3 ft3 a3 q r1 r2 (Env.upto_trans g3 r3) r4
 | exit id => exact AfterJ.push (fun _ => rfl) (by simp) (hc _ _ _ _ _ _ _ q g1 g2 g3 g4)
 | ret => exact AfterJ.push (fun _ => rfl) (by simp) (hc _ _ _ _ _ _ _ q g1 g2 g3 g4)
 | goto l => exact hc _ _ _ _ _ _ _ q g1 g2 g3 g4
 | panic l => exact hc _ _ _ _ _ _ _ q g1 g2 g3 g4
 | outgrown => exact hc _ _ _ _ _ _ _ q g1 g2 g3 g4
theorem Sem_of_SemL {h : List AObj} (hJ : Closed P main J) {c : Code} {f : RG} {Q : QT} (hx : SemL J N n0 fn c f h Q) : Sem J N n0 fn (.loop c) f h Q := by
 intro b a k cs L ρ FC w ft h1 h2 h3 h4 h5 h6 hc
 refine hJ.ctrl rfl rfl (g' := G (b.at a (.code c :: .inLoop c :: k)) cs) (fun w => by simp [G,stepG,stepG.exec,FB.at]) ?_
 exact hx b a k cs L ρ FC w ft h1 h2 h3 h4 h5 h6 hc
def XS (P : Program) (n : Nat) : Prop := ∀ (main : Bool) (J : JT),Closed P main J → CSound P J (xcall P n) ∧ ∀ N n0 fn b l ds x Q,xloop P n N fn b l ds x Q = true → SemL J N n0 fn b (rgOf l ds) (hOf x) (QP Q)
theorem x_sound (hm : P.follows .mixedOrders = true) : ∀ n : Nat,XS P n
 | 0 => fun main J hJ => ⟨fun g args x K hx => (by unfold xcall at hx; cases hx),fun N n0 fn b l ds x Q hx => (by unfold xloop at hx; cases hx)⟩
 | n + 1 => by
  intro main J hJ
  obtain ⟨hC,hL⟩ := x_sound hm n main J hJ
  have hC0 := (x_sound hm n true JF (closedF P true)).1
  have hL' : ∀ N n0 fn,LSound J N n0 fn (xloop P n N fn) := fun N n0 fn b l ds x Q hx => Sem_of_SemL hJ (hL N n0 fn b l ds x Q hx)
  refine ⟨fun g args x K hx => ?_,fun N n0 fn b l ds x Q hx => ?_⟩
  ·unfold xcall at hx
   split at hx
   ·rename_i fn hf
    unfold xenter at hx
    split at hx
    ·rename_i c hb
     obtain ⟨a,hx⟩ := and_t hx
     obtain ⟨a1,a2⟩ := and_t a
     have a1 := ble_t a1
     obtain ⟨l,e,hx⟩ := xputs_t _ _ hx
     refine good_of_sem hJ hf hb (by simpa using a2) a1 fun ok => ?_
     have := xC_t hJ hm hC hC0 (hL' fn.ntmps (hOf x).length g) c l [] x _ hx
     have hr : rgOf l [] = ⟨regs args,[]⟩ := by
      unfold rgOf regs
      congr 1
      rw [e,List.range_eq_range']
      funext t
      rw [putAll_range]
      by_cases ht : t < args.length
      ·rw [if_pos (by omega)]
       simp
      ·rw [if_neg (by omega),List.getD_eq_getElem?_getD,List.getElem?_eq_none (by omega)]
       rfl
     rw [hr] at this
     exact this.mono fun e f h q => xret_t q
    ·cases hx
   ·obtain ⟨a,hx⟩ := and_t hx
    obtain ⟨o,ho,hx⟩ := hg_t hx
    unfold xinto at hx
    split at hx
    ·rename_i pend fn r size params assign body dfr
     obtain ⟨a1,hx⟩ := and_t hx
     obtain ⟨a1,a2⟩ := and_t a1
     obtain ⟨l0,hx,e0⟩ := regT_t _ hx
     obtain ⟨l',e1,hx⟩ := xputs_t params.toList args hx
     have a1 : params.size = args.length := by simpa using a1
     have hyid : g = yid P (g - P.funcs.size) := (Nat.add_sub_cancel' (ble_t a)).symm
     rw [hyid]
     refine good_round hJ ho a1 (fun t ht => blt_t (List.all_eq_true.1 a2 t ht)) fun ok => ?_
     refine Sem.less (f' := rgOf l' []) (fun t => ?_) rfl ((xC_t hJ hm hC hC0 (hL' size (hOf x).length (fn + 1000000)) assign l' [] x _ hx).mono fun e f h1 q => ?_)
     ·show gt l' t = unk ∨ gt l' t = putAll r params.toList args t
      rw [e1]
      refine putAll_less _ _ (fun x => ?_) t
      rw [e0]
      split
      ·exact .inr rfl
      ·exact .inl rfl
     ·obtain ⟨l2,ds2,x2,rfl,rfl,hq⟩ := q
      simp only at hq
      split at hq
      ·obtain ⟨o2,ho2,hq⟩ := hg_t hq
       split at hq
       ·rename_i pend' fn' r' size' params' assign' body' dfr'
        obtain ⟨y,ey,hq⟩ := hset_t hq
        refine ⟨rfl,pend',fn',r',size',params',assign',body',dfr',ho2,?_⟩
        rw [ey]
        exact (xC_t hJ hm hC hC0 (hL' size (hOf x).length (fn + 1000000)) body l2 [] y _ hq).mono fun e f h2 q => xround_t q
       ·cases hq
      ·cases hq
    ·cases hx
  ·unfold xloop at hx
   refine SemL_step hJ ((xC_t hJ hm hC hC0 (hL' N n0 fn) b l ds x _ hx).mono fun e f h q => ?_)
   obtain ⟨l',ds',x',rfl,rfl,hq⟩ := q
   cases e with
   | normal => exact hL N n0 fn b l' ds' x' Q hq
   | _ => exact ⟨l',ds',x',rfl,rfl,hq⟩
end
end Go.Proofs.YtaceckiodofdkaaDoor
namespace Go.Proofs.YtaceckiodofdkaaDoor
open Go.Conc
open Go.ConcN (sumTo upd sumTo_upd upd_ne upd_same)
def Ends (P : Program) (Post : Value → World → Prop) (m : Machine) (t : Trace) : Prop :=
 ∃ N last o w' t',runNT P (N + 1) m t = (.ended o w',t') ∧ runN P N m = .next last ∧ step P last = .ended o w' ∧ Go.Conc.Good P Post last o w' t'
structure Base (W0 w : World) : Prop where
 tape : w.tape = W0.tape
 os : w.os = W0.os
 output : w.output = W0.output
 size : W0.heap.size ≤ w.heap.size
def J1 (P : Program) (W0 : World) (Post : Value → World → Prop) (g : Goroutine) (w : World) (ft : Foot) : Prop :=
 ∀ (gs : Array Goroutine) (w₁ : World) (sl : Option (Nat × Nat)) (t : Trace) (q : Nat → Nat),(∀ b,ft.rd b → b < w₁.heap.size) → (∀ b,ft.wr b → ft.rd b) → RelyW ft w w₁ → Base W0 w₁ → gs[0]? = some g → Leavers P t gs q → Past (fun _ => False) w₁.heap.size t →
  Ends P Post (crowd gs w₁ sl) t
def TagFree (J : JT) : Prop := ∀ (g : Goroutine) (w : World) (ft : Foot) (x : Nat),J g w { ft with tag := x } → J g w ft
theorem J1.tagFree (P : Program) (W0 : World) (Post : Value → World → Prop) : TagFree (J1 P W0 Post) := fun _g _w _ft _x h gs w₁ sl t q h1 h2 h3 h4 h5 h6 h7 =>
 h gs w₁ sl t q h1 h2 ⟨h3.heap,h3.size,h3.tape,h3.os,h3.output⟩ h4 h5 h6 h7
section
variable {P : Program} {W0 : World} {Post : Value → World → Prop} {g : Goroutine} {w w₁ : World} {ft : Foot}
theorem Ends.next {m m' : Machine} {t : Trace} {ops : Array MemOp} (hs : stepT P m = (.next m',ops)) (h : Ends P Post m' (t ++ ops)) : Ends P Post m t := by
 obtain ⟨n,last,o,w,t',h1,h2,h3,h4⟩ := h
 exact ⟨n + 1,last,o,w,t',by rw [runNT_succ_next hs]; exact h1,by rw [runN_succ_next hs]; exact h2,h3,h4⟩
theorem evL_of {e : Event} {B : Nat} (he : EvOk ft e) (hb : ∀ b,ft.rd b → b < B) : EvL (fun _ => False) B e := by
 obtain ⟨loc,wr,sync⟩ := e
 unfold EvOk at he
 refine ⟨fun x _ hs => hs.elim,?_,?_,?_⟩
 ·intro hl
  simp only at hl
  subst hl
  exact he
 ·intro hl
  simp only at hl
  subst hl
  exact he
 ·cases loc with
  | cell a => exact hb _ he.2.1
  | obj r =>
   have hs : sync = false := he.1
   subst hs
   have := hb _ he.2.1
   cases wr <;> exact this
  | mark m =>
   cases m <;> first | exact he.elim | trivial
  | output => trivial
  | goroutines => trivial
theorem mem_g {i : Nat} {fn : FuncId} {pos : String} {es : Array Event} {op : MemOp} (h : op ∈ MemOp.ofEvents i fn pos es) : op.g = i := by
 rw [ofEvents_eq] at h
 obtain ⟨e,he,rfl⟩ := Array.mem_map.1 h
 rfl
theorem relyW_at (ft : Foot) (w : World) (d : Nat) : RelyW ft w (w.at d) := ⟨fun _ _ => rfl,Nat.le_refl _,rfl,rfl,rfl⟩
theorem J1.both (hrun : g.status = .running)
  (h : ∀ w₁,RelyW ft w w₁ → Base W0 w₁ → (∃ g' w' es,stepG P true g w₁ = .go g' w' es ∧ g'.status = .running ∧ GuarW ft w₁ w' es ∧ J1 P W0 Post g' w' (ft.ext w₁.heap.size w'.heap.size)) ∨
   ∃ v es,stepG P true g w₁ = .ended (.done v) w₁ es ∧ (∀ e ∈ es,EvOk ft e) ∧ Post v w₁) : J1 P W0 Post g w ft := by
 intro gs w₁ sl t q hbd hsub hrel hbase h0 hL hP
 generalize hM : sumTo gs.size q = M
 induction M using Nat.strongRecOn generalizing gs w₁ sl t q with
 | ind M ih =>
  have haw : ∀ g ∈ gs,awake g := by
   intro x hx
   obtain ⟨i,hi,rfl⟩ := Array.mem_iff_getElem.1 hx
   rcases Nat.eq_zero_or_pos i with rfl | hpos
   ·have : gs[0] = g := by simpa [Array.getElem?_eq_getElem hi] using h0
    rw [this]; exact awake_of (.inl hrun)
   ·exact awake_of ((hL.old i _ hpos (Array.getElem?_eq_getElem hi)).status.elim .inl fun x => .inr (.inr x))
  obtain ⟨i,x,d,sl',hi,hg,hst⟩ := crowd_pick (P := P) (w := w₁) (sl := sl) haw ⟨0,g,h0,hrun⟩
  rcases Nat.eq_zero_or_pos i with rfl | hpos
  ·obtain rfl : x = g := by rw [h0] at hi; exact (Option.some.inj hi).symm
   rcases h (w₁.at d) (hrel.trans (relyW_at ft w₁ d)) ⟨hbase.tape,hbase.os,hbase.output,hbase.size⟩ with ⟨g',w',es,hgo,hrun',hgu,hJ⟩ | ⟨v,es,hend,hes,hpost⟩
   ·have hrunT := runT_crowd_go (P := P) (sl := sl') (i := 0) hi (show stepG P (0 == 0) x (w₁.at d) = _ from hgo)
    have hsz : ((gs.map (woken P x g' w')).setIfInBounds 0 g').size = gs.size := by simp
    have hlt : 0 < gs.size := (Array.getElem?_eq_some_iff.1 h0).1
    have hw' : w₁.heap.size ≤ w'.heap.size := hgu.size
    refine Ends.next (hst.trans hrunT) ?_
    refine hJ _ w' sl' _ q (fun b hb => ?_) (fun b hb => ?_) (RelyW.refl _ _) ⟨hgu.tape.trans hbase.tape,hgu.os.trans hbase.os,hgu.output.trans hbase.output,Nat.le_trans hbase.size hgu.size⟩ (by simp [hlt]) ⟨fun j y hj hy => ?_,fun j hj => ?_⟩ ?_
    ·rcases hb with hb | hb
     ·exact Nat.lt_of_lt_of_le (hbd b hb) hw'
     ·exact hb.2
    ·rcases hb with hb | hb
     ·exact .inl (hsub b hb)
     ·exact .inr hb
    ·have hne : 0 ≠ j := by omega
     rw [Array.getElem?_setIfInBounds_ne hne,Array.getElem?_map] at hy
     obtain ⟨z,hz,rfl⟩ := Option.map_eq_some_iff.1 hy
     have hq := hL.old j z hj hz
     rw [woken_quitsD hq,Deaf_other t (by omega) _ (fun op hop => mem_g hop)]
     exact hq
    ·rw [Deaf_other t (g' := 0) (by simp at hj; omega) _ (fun op hop => mem_g hop)]
     exact hL.above j (by simpa using hj)
    ·exact (hP.mono hw').own fun e he => evL_of (hgu.evs e he) fun b hb => Nat.lt_of_lt_of_le (hbd b hb) hw'
   ·have hrunT := runT_many_ended (P := P) (sl := sl') (i := 0) hi (show stepG P (0 == 0) x (w₁.at d) = _ from hend)
    have hP' := hP.own (fn := x.frame.fn) (pos := x.frame.place) fun e he => evL_of (hes e he) hbd
    refine ⟨0,crowd gs w₁ sl,.done v,w₁.at d,_,by simp only [runNT,hst.trans hrunT],rfl,by simp [step,hst.trans hrunT],v,rfl,hpost,hP'.clean,hP'.over,⟨fun y hy => ?_,rfl⟩,fun j y hy hj => ?_⟩
    ·obtain ⟨j,hj⟩ := List.mem_iff_getElem?.1 hy
     rw [List.getElem?_drop] at hj
     exact ⟨_,(hL.old (1 + j) y (by omega) (by simpa [crowd] using hj)).leaves⟩
    ·have hq := hL.old j y (by omega) hy
     refine ⟨q j,?_⟩
     have e : (t ++ MemOp.ofEvents 0 x.frame.fn x.frame.place es).deaf j (t ++ MemOp.ofEvents 0 x.frame.fn x.frame.place es).size = Deaf t j :=
      Deaf_other t (g := j) (g' := 0) (by omega) _ (fun op hop => mem_g hop)
     rw [e]
     exact hq.hears _
  ·have hq := hL.old i x hpos hi
   have hi0 : (i == 0) = false := by simp; omega
   have hlt : i < gs.size := (Array.getElem?_eq_some_iff.1 hi).1
   cases hqi : q i with
   | zero => rw [hqi] at hq; rw [hq.1] at hg; cases hg
   | succ k =>
    rw [hqi] at hq
    rcases hq with ⟨hf,_⟩ | ⟨_,g',es,hm,hstp,hq'⟩
    ·rw [hf] at hg; cases hg
    have hrunT := runT_crowd_go (P := P) (sl := sl') (i := i) hi (by rw [hi0]; exact hstp (w₁.at d))
    have hsz : ((gs.map (woken P x g' (w₁.at d))).setIfInBounds i g').size = gs.size := by simp
    have hsum : sumTo gs.size (upd q i k) + (k + 1) = sumTo gs.size q + k := by
     have := sumTo_upd q k id hlt
     simpa [hqi] using this
    refine Ends.next (hst.trans hrunT) (ih (sumTo gs.size (upd q i k)) (by omega) _ (w₁.at d) sl' _ (upd q i k) hbd (hrel.trans (relyW_at ft w₁ d)) ⟨hbase.tape,hbase.os,hbase.output,hbase.size⟩ ?_ ⟨fun j y hj hy => ?_,fun j hj => ?_⟩ (hP.mute (by omega) hm) (by rw [hsz]))
    ·have hne : i ≠ 0 := by omega
     rw [Array.getElem?_setIfInBounds_ne hne,Array.getElem?_map,h0]
     simp [woken_run hrun]
    ·by_cases hji : i = j
     ·subst hji
      rw [Array.getElem?_setIfInBounds_self_of_lt (by simpa using hlt)] at hy
      obtain rfl := Option.some.inj hy
      rw [upd_same,Deaf_own]
      exact hq'
     ·rw [Array.getElem?_setIfInBounds_ne hji,Array.getElem?_map] at hy
      obtain ⟨z,hz,rfl⟩ := Option.map_eq_some_iff.1 hy
      have hqj := hL.old j z hj hz
      rw [woken_quitsD hqj,upd_ne q k (Ne.symm hji),Deaf_other t hji _ (fun op hop => mem_g hop)]
      exact hqj
    ·rw [Deaf_other t (g' := i) (by simp at hj; omega) _ (fun op hop => mem_g hop)]
     exact hL.above j (by simpa using hj)
theorem J1.closed (P : Program) (W0 : World) (Post : Value → World → Prop) : Closed P true (J1 P W0 Post) where
 rely := fun h hr gs w₂ sl t q hbd hsub hrel hbase h0 hL hP => h gs w₂ sl t q hbd hsub (hr.trans hrel) hbase h0 hL hP
 step := fun hrun h => J1.both hrun fun w₁ h₁ _ => by
  obtain ⟨g',w',es,a,b,c,d⟩ := h w₁ h₁
  exact .inl ⟨g',w',es,a,b,c,d⟩
end
end Go.Proofs.YtaceckiodofdkaaDoor
namespace Go.Proofs.YtaceckiodofdkaaDoor
open Go.Conc
section
variable {P : Program} {main : Bool} {J : JT} {g : FuncId} {args : List Value} {h : List AObj} {K K' : Value → List AObj → Prop}
theorem good_frame (hT : TagFree J) (hg : Good P J g args [] K) (hcl : callable P g = true) (hlt : g < P.funcs.size) (ha : ∀ v ∈ args,VOk 0 v) (hk : ∀ v h',K v h' → VOk 0 v ∧ K' v h) : Good P J g args h K' := by
 rcases hg with ⟨ho,hg⟩ | ⟨⟨_,hx⟩,_⟩
 rotate_left
 ·rw [hcl] at hx
  cases hx
 have hcall : callable P g = true := by
  rcases ho with ⟨_,e⟩ | ⟨e,_⟩
  ·exact e
  ·exact absurd hlt (Nat.not_lt.2 e)
 refine .inl ⟨.inl ⟨hlt,hcall⟩,fun ρ FC w ft cs c cargs fr H hargs hl hent hc => ?_⟩
 have hfr : fr = Frame.enter P g ⟨cargs⟩ .normal := by
  rcases hent with ⟨_,e⟩ | ⟨e,_⟩
  ·exact e
  ·exact absurd hlt (Nat.not_lt.2 e)
 have ob : ∃ ob : Nat → Option Obj,(∀ b,ft.rd b → ob b = w.heap[b]?) ∧ (∀ b,¬ ft.rd b → ob b = none) := by
  classical
  exact ⟨fun b => if ft.rd b then w.heap[b]? else none,fun b hb => if_pos hb,fun b hb => if_neg hb⟩
 obtain ⟨ob,ob1,ob2⟩ := ob
 have H0 : HRel ρ [] ⟨ob,ft.wr⟩ w ft := by
  refine ⟨fun b o hb => by simp at hb,fun b b' o o' hb => by simp at hb,fun b o hb => by simp at hb,fun b o hb => by simp at hb,H.lt,H.sub,fun b o hb => ?_,fun b hb => hb,fun b x hb => (by simp at hb)⟩
  by_cases hr : ft.rd b
  ·refine ⟨?_,hr,fun a oa ha => by simp at ha⟩
   rw [← ob1 b hr]
   exact hb
  ·have : ob b = some o := hb
   rw [ob2 b hr] at this
   cases this
 refine hg ρ ⟨ob,ft.wr⟩ w ft cs c cargs fr H0 (fun i => ?_) hl (.inl ⟨hlt,hfr⟩) fun v h' ρ' w' ft' cv hK H' hu hl' hv => ?_
 ·rcases hargs i with e | ⟨_,e⟩
  ·exact .inl e
  ·by_cases hi : i < args.length
   ·have : args.getD i unk ∈ args := by
     rw [List.getD_eq_getElem?_getD,List.getElem?_eq_getElem hi]
     exact List.getElem_mem hi
    exact .inr ⟨ha _ this,e⟩
   ·left
    rw [List.getD_eq_getElem?_getD,List.getElem?_eq_none (by omega)]
    rfl
 ·obtain ⟨hv0,hK'⟩ := hk v h' hK
  have kp : ∀ b,ft.rd b → w'.heap[b]? = w.heap[b]? ∧ ft'.rd b := by
   intro b hb
   have hlt' := H.lt b hb
   have : (⟨ob,ft.wr⟩ : Frm).ob b = some w.heap[b] := by
    show ob b = _
    rw [ob1 b hb,Array.getElem?_eq_getElem hlt']
   obtain ⟨a1,a2,_⟩ := H'.kept b _ this
   exact ⟨by rw [a1,Array.getElem?_eq_getElem hlt'],a2⟩
  refine hT _ _ ft' ft.tag (hc v h ρ w' { ft' with tag := ft.tag } cv hK' ⟨fun b o hb => ?_,H.inj,fun b o hb hl => (kp _ (H.rd b o hb hl)).2,fun b o hb hw => H'.keptW _ (H.wr b o hb hw),H'.lt,H'.sub,fun b o hb => ?_,fun b hb => H'.keptW _ (H.keptW b hb),H.tag⟩ (Env.upto_refl _ _) (Nat.le_refl _) ?_)
  ·cases hlv : o.live with
   | false => cases o <;> first | trivial | cases hlv
   | true =>
    rw [(kp _ (H.rd b o hb hlv)).1]
    exact H.obj b o hb
  ·obtain ⟨a1,a2,a3⟩ := H.kept b o hb
   exact ⟨by rw [(kp b a2).1]; exact a1,(kp b a2).2,a3⟩
  ·rcases hv with e | ⟨_,e⟩
   ·exact .inl e
   ·exact .inr ⟨VOk.mono (Nat.zero_le _) v hv0,by rw [e,ren0 v hv0,ren0 v hv0]⟩
end
end Go.Proofs.YtaceckiodofdkaaDoor
namespace Go.Proofs.YtaceckiodofdkaaDoor
open Go.Conc Go.Proofs.Tryd
set_option maxRecDepth 100000
def isT (v : Value) : Bool :=
 match v with
 | .bool true => true
 | _ => false
theorem run18 : xcall prog 200 5 [] ⟨0,.nil⟩ (fun v _ => isT v) = true := by kernel_rfl
end Go.Proofs.YtaceckiodofdkaaDoor
namespace Go.Proofs.YtaceckiodofdkaaDoor
open Go.Conc Go.Proofs.Tryd
section
variable {main : Bool} {J : JT} {h : List AObj} {K : Value → List AObj → Prop}
theorem good5 (hJ : Closed prog main J) (hK : K (.bool true) h) (hT : TagFree J := by first | assumption | exact J1.tagFree _ _ _) : Good prog J 5 [] h K := by
 have hg := (x_sound mixed 200 main J hJ).1 5 [] ⟨0,.nil⟩ _ run18
 refine good_frame hT (K := KP fun v _ => isT v) hg (by kernel_rfl) (blt_t (by kernel_rfl : Nat.blt 5 prog.funcs.size = true)) (by simp) fun v h' hk => ?_
 obtain ⟨x,rfl,hk⟩ := hk
 simp only at hk
 unfold isT at hk
 split at hk
 ·exact ⟨by simp [VOk],hK⟩
 ·cases hk
end
def shSpec (loss : Int) (hs : List Int) : List Int × Int :=
 if hs.length = 0 then ([],7) else if 5 < hs.length then ([],6) else
 if (hs.all fun x => decide (0 ≤ x ∧ x ≤ 300)) = true ∧ 0 ≤ loss ∧ loss ≤ hs.sum then (outAt hs loss.toNat,0) else ([],1)
theorem inR_all (hs : List Int) : (hs.all fun x => decide (0 ≤ x ∧ x ≤ 300)) = true ↔ inR hs := by
 simp [inR,List.all_eq_true]
section
variable {main : Bool} {J : JT} {h : List AObj} {K : Value → List AObj → Prop}
theorem sh_out {loss : Int} {hs : List Int} {A : Nat → Prop} {h : List AObj}
  (hK : ∀ v g,(Sli (h ++ g) v 1 (shSpec loss hs).1.length ((shSpec loss hs).1.map vint)) → K (.tuple ⟨[v,vint (shSpec loss hs).2]⟩) (h ++ g)) :
  (hs.length = 0 → K (.tuple ⟨[.slice none 0 0,vint 7]⟩) h) ∧ (hs.length > 5 → K (.tuple ⟨[.slice none 0 0,vint 6]⟩) h) ∧
  (0 < hs.length → hs.length ≤ 5 → ¬ (inR hs ∧ 0 ≤ loss ∧ loss ≤ hs.sum) → K (.tuple ⟨[.slice none 0 0,vint 1]⟩) h) ∧
  (0 < hs.length → hs.length ≤ 5 → inR hs → 0 ≤ loss → loss ≤ hs.sum → K (.tuple ⟨[.slice (some ⟨h.length,0,none⟩) hs.length hs.length,vint 0]⟩) (h ++ [.cells ((outAt hs loss.toNat).map vint) true 0])) := by
 refine ⟨fun e => ?_,fun e => ?_,fun e1 e2 e3 => ?_,fun e1 e2 e3 e4 e5 => ?_⟩
 ·have es : shSpec loss hs = ([],7) := by unfold shSpec; rw [if_pos e]
  have := hK (.slice none 0 0) [] (by rw [es]; exact sli_nil)
  rw [es,List.append_nil] at this
  exact this
 ·have es : shSpec loss hs = ([],6) := by unfold shSpec; rw [if_neg (by omega),if_pos e]
  have := hK (.slice none 0 0) [] (by rw [es]; exact sli_nil)
  rw [es,List.append_nil] at this
  exact this
 ·have es : shSpec loss hs = ([],1) := by
   unfold shSpec
   rw [if_neg (by omega),if_neg (by omega),if_neg]
   rw [inR_all]
   exact e3
  have := hK (.slice none 0 0) [] (by rw [es]; exact sli_nil)
  rw [es,List.append_nil] at this
  exact this
 ·have es : shSpec loss hs = (outAt hs loss.toNat,0) := by
   unfold shSpec
   rw [if_neg (by omega),if_neg (by omega),if_pos]
   rw [inR_all]
   exact ⟨e3,e4,e5⟩
  have := hK (.slice (some ⟨h.length,0,none⟩) hs.length hs.length) [.cells ((outAt hs loss.toNat).map vint) true 0] (by
   rw [es]
   simp only [out_len]
   exact sli_new (wr := true) (sz := 0) (by simp) (by simp [out_len]) (kn_ints _))
  rw [es] at this
  exact this
theorem good17' (hJ : Closed prog main J) {hv : Value} {loss : Int} {hs : List Int} (hsl : Sli h hv 1 hs.length (hs.map vint))
  (hK : ∀ v g,(Sli (h ++ g) v 1 (shSpec loss hs).1.length ((shSpec loss hs).1.map vint)) → K (.tuple ⟨[v,vint (shSpec loss hs).2]⟩) (h ++ g)) : Good prog J 17 [vint loss,hv] h K := by
 obtain ⟨a,b,c,d⟩ := sh_out (A := fun _ => True) hK
 exact good17 hJ hsl a b c d
def HF (h : List AObj) (nv : Value) (k : Nat) (s : Int) (rest : List AObj) : List AObj := h ++ (.cells [nv,vint k,.int .u64 s] true 0 :: rest)
theorem hf_app {h : List AObj} {nv : Value} {k : Nat} {s : Int} {rest g : List AObj} : HF h nv k s rest ++ g = HF h nv k s (rest ++ g) := by
 simp [HF]
theorem hf_dealt {h h' : List AObj} {nv : Value} {k n : Nat} {s : Int} {rest : List AObj} (hd : Dealt (HF h nv k s rest) h.length nv k n h') : ∃ k' s',k' ≤ k + n ∧ 0 ≤ s' ∧ s' < 18446744073709551616 ∧ h' = HF h nv k' s' rest := by
 obtain ⟨k',s',a,b,c,rfl⟩ := hd
 refine ⟨k',s',a,b,c,?_⟩
 simp [HF]
theorem sli_one {h : List AObj} {v : Value} {s n : Nat} {cs : List Value} (hs : Sli h v s n cs) : v.cells = #[v] ∧ one v = true ∧ kn1 v = true := by
 obtain ⟨_,_,rfl,_⟩ := hs
 exact ⟨rfl,rfl,rfl⟩
end
end Go.Proofs.YtaceckiodofdkaaDoor
namespace Go.Proofs.YtaceckiodofdkaaDoor
open Go.Conc Go.Proofs.Tryd
set_option maxRecDepth 100000
section
variable {main : Bool} {J : JT} {h A g : List AObj} {K : Value → List AObj → Prop} {KV : Value → Prop} {HL : List AObj → Prop} {H : Value → List AObj → Prop}
theorem a_min {a b : Int} : aMin (vint a) [vint b] KV = KV (vint (min a b)) := by
 show KV (vint (if b < a then b else a)) = _
 congr 2
 split <;> omega
theorem a_max {a b : Int} : aMax (vint a) [vint b] KV = KV (vint (max a b)) := by
 show KV (vint (if b > a then b else a)) = _
 congr 2
 split <;> omega
theorem u_neg {a : Int} (h : -9223372036854775808 < a ∧ a < 9223372036854775808) : aUn .neg (vint a) KV = KV (vint (-a)) := by
 show KV (.int .i64 (IntKind.i64.wrap (-a))) = _
 rw [wrap64 (by omega) (by omega)]
theorem back_get {i : Nat} : (A ++ g)[A.length + i]? = g[i]? := by
 rw [List.getElem?_append_right (by omega)]
 congr 1
 omega
theorem back_set {i : Nat} {o : AObj} : (A ++ g).set (A.length + i) o = A ++ g.set i o := by
 rw [List.set_append_right _ _ (by omega)]
 congr 2
 omega
def OwnE (n : Nat) (g : List AObj) (s : Nat) (cs : List Value) (len : Nat) (v : Value) (o : Option Nat) : Prop :=
 cs.length = len * s ∧ kn cs = true ∧ ((len = 0 ∧ v = .slice none 0 0 ∧ o = none) ∨ ∃ i c sz,o = some i ∧ v = .slice (some ⟨n + i,0,none⟩) len c ∧ g[i]? = some (.cells cs true sz) ∧ ((c = fz ∧ sz = s) ∨ c = len))
theorem ownE_keep {n s len : Nat} {cs : List Value} {v : Value} {o : Option Nat} {g' : List AObj} (ho : OwnE n g s cs len v o) (hk : ∀ i x,o = some i → g[i]? = some x → g'[i]? = some x) : OwnE n g' s cs len v o := by
 obtain ⟨h1,h2,h3 | ⟨i,c,sz,rfl,h4,h5,h6⟩⟩ := ho
 ·exact ⟨h1,h2,.inl h3⟩
 ·exact ⟨h1,h2,.inr ⟨i,c,sz,rfl,h4,hk i _ rfl h5,h6⟩⟩
theorem get_app {i : Nat} {x : AObj} {g' : List AObj} (hx : g[i]? = some x) : (g ++ g')[i]? = some x := by
 rw [List.getElem?_append_left (List.getElem?_eq_some_iff.1 hx).1]
 exact hx
theorem get_set {i j : Nat} {x y : AObj} (hx : g[i]? = some x) (hij : i ≠ j) : (g.set j y)[i]? = some x := by
 rw [List.getElem?_set,if_neg (fun e => hij e.symm)]
 exact hx
theorem ownE_app {n s len : Nat} {cs : List Value} {v : Value} {o : Option Nat} {g' : List AObj} (ho : OwnE n g s cs len v o) : OwnE n (g ++ g') s cs len v o :=
 ownE_keep ho fun _ _ _ hx => get_app hx
theorem ownE_set {n s len i : Nat} {cs : List Value} {v : Value} {o : Option Nat} {y : AObj} (ho : OwnE n g s cs len v o) (hi : o ≠ some i) : OwnE n (g.set i y) s cs len v o :=
 ownE_keep ho fun j _ hj hx => get_set hx fun e => hi (by rw [hj,e])
theorem ownE_at {n s len : Nat} {cs : List Value} {v : Value} {i : Nat} (ho : OwnE n g s cs len v (some i)) : ∃ sz,g[i]? = some (.cells cs true sz) := by
 obtain ⟨_,_,⟨_,_,h⟩ | ⟨j,c,sz,h,_,h5,_⟩⟩ := ho
 ·cases h
 ·cases h
  exact ⟨sz,h5⟩
theorem ownE_lt {n s len : Nat} {cs : List Value} {v : Value} {o : Option Nat} (ho : OwnE n g s cs len v o) {i : Nat} (hi : o = some i) : i < g.length := by
 subst hi
 obtain ⟨sz,h⟩ := ownE_at ho
 exact (List.getElem?_eq_some_iff.1 h).1
theorem ownE_sli {s len : Nat} {cs : List Value} {v : Value} {o : Option Nat} (ho : OwnE A.length g s cs len v o) : Sli (A ++ g) v s len cs := by
 obtain ⟨h1,h2,⟨rfl,rfl,_⟩ | ⟨i,c,sz,rfl,rfl,h5,_⟩⟩ := ho
 ·have : cs = [] := List.length_eq_zero_iff.1 (by omega)
  subst this
  exact sli_nil
 ·refine ⟨_,_,rfl,⟨h1,h2⟩,.inr ⟨_,_,rfl,.inr ⟨cs,true,sz,?_,by rw [List.drop_zero,List.take_of_length_le (by omega)]⟩⟩⟩
  rw [back_get]
  exact h5
theorem ownE_val {n s len : Nat} {cs : List Value} {v : Value} {o : Option Nat} (ho : OwnE n g s cs len v o) : v.cells = #[v] ∧ one v = true ∧ kn1 v = true := by
 obtain ⟨_,_,⟨_,rfl,_⟩ | ⟨_,_,_,_,rfl,_⟩⟩ := ho <;> exact ⟨rfl,rfl,rfl⟩
theorem ownE_more {s len : Nat} {cs e : List Value} {v y : Value} {o : Option Nat} (ho : OwnE A.length g s cs len v o) (hs : 0 < s) (hl : len < 1000) (hy : Sli (A ++ g) y s 1 e)
  (hk : ∀ v' g',OwnE A.length g' s (cs ++ e) (len + 1) v' (some g.length) → (∀ i x,o ≠ some i → g[i]? = some x → g'[i]? = some x) → H v' (A ++ g')) : aApp s v y (A ++ g) H := by
 have hr : room = 1073741824 := rfl
 have hel : e.length = s := by
  have := sli_vlen hy
  omega
 have hek : kn e = true := by
  obtain ⟨_,_,_,⟨_,h⟩,_⟩ := hy
  exact h
 have new : ∀ g1 : List AObj,g1.length = g.length → (∀ i x,o ≠ some i → g[i]? = some x → g1[i]? = some x) → cs.length = len * s → kn cs = true → H (.slice (some ⟨(A ++ g).length,0,none⟩) (len + 1) fz) (A ++ (g1 ++ [.cells (cs ++ e) true s])) := by
  intro g1 hg1 hkeep h1 h2
  refine hk _ _ ⟨?_,?_,.inr ⟨g.length,fz,s,rfl,by simp,by simp [← hg1],.inl ⟨rfl,rfl⟩⟩⟩ fun j x hj hx => get_app (hkeep j x hj hx)
  ·rw [List.length_append,hel,h1,Nat.succ_mul]
  ·unfold kn at *
   rw [List.all_append,h2,hek]
   rfl
 obtain ⟨h1,h2,⟨rfl,rfl,rfl⟩ | ⟨i,c,sz,rfl,rfl,h5,h6⟩⟩ := ho
 ·have hcs : cs = [] := List.length_eq_zero_iff.1 (by omega)
  subst hcs
  refine app_nil hs hy (by omega) (fun e => absurd e (by omega)) fun _ => ?_
  rw [List.append_assoc]
  exact new g rfl (fun _ _ _ hx => hx) h1 h2
 ·have hlt := (List.getElem?_eq_some_iff.1 h5).1
  have ht : cs.take (len * s) = cs := List.take_of_length_le (by omega)
  rcases h6 with ⟨rfl,rfl⟩ | rfl
  ·refine app_own (cs := cs) (by rw [back_get]; exact h5) (by omega) (by rw [ht]; exact h2) hs hy (by omega) ?_
   rw [back_set,List.append_assoc,ht]
   exact new _ (by simp) (fun j x hj hx => get_set hx fun e => hj (by rw [e])) h1 h2
  ·refine app_copy (cs := cs) (by rw [back_get]; exact h5) (by omega) (by rw [List.drop_zero,ht]; exact h2) (by omega) hs hy (by omega) ?_
   rw [List.append_assoc,List.drop_zero,ht]
   exact new g rfl (fun _ _ _ hx => hx) h1 h2
theorem hfd {nv : Value} {k n : Nat} {s : Int} {rest h' : List AObj} (hd : Dealt (HF h nv k s rest ++ g) h.length nv k n h') : ∃ k' s',k' ≤ k + n ∧ (0 ≤ s' ∧ s' < 18446744073709551616) ∧ h' = HF h nv k' s' rest ++ g := by
 rw [hf_app] at hd
 obtain ⟨k',s',a,b,c,rfl⟩ := hf_dealt hd
 exact ⟨k',s',a,⟨b,c⟩,by rw [hf_app]⟩
variable {nv : Value} {ns : List Int} {rest : List AObj} {k : Nat} {s : Int}
section
variable {KV : Value → Prop} {a b : Int} {t : TypeId} {h : List AObj}
theorem offI {b o d : Nat} (hk : KV (ptr b (o + d))) : aOff (ptr b o) d KV := hk
theorem fillI {c : List Value} {KL : List Value → Prop} (hk : KL c) : aFill c [] KL := hk
theorem nilI {b o : Nat} (hk : KV (ptr b o)) : aNil (ptr b o) KV := hk
theorem addI (h : -9223372036854775808 ≤ a + b ∧ a + b < 9223372036854775808) (hk : KV (vint (a + b))) : aBin prog .add t (vint a) (vint b) KV := by rw [b_add h]; exact hk
theorem subI (h : -9223372036854775808 ≤ a - b ∧ a - b < 9223372036854775808) (hk : KV (vint (a - b))) : aBin prog .sub t (vint a) (vint b) KV := by rw [b_sub h]; exact hk
theorem mulI (h : -9223372036854775808 ≤ a * b ∧ a * b < 9223372036854775808) (hk : KV (vint (a * b))) : aBin prog .mul t (vint a) (vint b) KV := by rw [b_mul h]; exact hk
theorem negI (h : -9223372036854775808 < a ∧ a < 9223372036854775808) (hk : KV (vint (-a))) : aUn .neg (vint a) KV := by rw [u_neg h]; exact hk
theorem minI (hk : KV (vint (min a b))) : aMin (vint a) [vint b] KV := by rw [a_min]; exact hk
theorem maxI (hk : KV (vint (max a b))) : aMax (vint a) [vint b] KV := by rw [a_max]; exact hk
theorem lssI (hk : KV (.bool (decide (a < b)))) : aBin prog .lss t (vint a) (vint b) KV := by rw [b_lss]; exact hk
theorem gtrI (hk : KV (.bool (decide (a > b)))) : aBin prog .gtr t (vint a) (vint b) KV := by rw [b_gtr]; exact hk
theorem geqI (hk : KV (.bool (decide (a ≥ b)))) : aBin prog .geq t (vint a) (vint b) KV := by rw [b_geq]; exact hk
theorem leqI (hk : KV (.bool (decide (a ≤ b)))) : aBin prog .leq t (vint a) (vint b) KV := by rw [b_leq]; exact hk
theorem eqlI (hk : KV (.bool (decide (a = b)))) : aBin prog .eql t (vint a) (vint b) KV := by rw [b_eql]; exact hk
theorem neqI (hk : KV (.bool (decide (a ≠ b)))) : aBin prog .neq t (vint a) (vint b) KV := by rw [b_neq]; exact hk
theorem notI {x : Bool} (hk : KV (.bool (!x))) : aUn .not (.bool x) KV := hk
theorem cndI {p : Prop} [Decidable p] {A B : Prop} (h1 : p → A) (h2 : ¬ p → B) : cnd (.bool (decide p)) A B := cnd_dec.2 ⟨h1,h2⟩
theorem cndN {p : Prop} [Decidable p] {A B : Prop} (h1 : ¬ p → A) (h2 : p → B) : cnd (.bool (!decide p)) A B := cnd_ndec.2 ⟨h1,h2⟩
theorem lenI {v : Value} {s n : Nat} {cells : List Value} (hs : Sli h v s n cells) (hk : KV (vint n)) : aLenS v KV := by rw [sli_len hs]; exact hk
theorem ldI {b o s : Nat} {c : List Value} {wr : Bool} {sz : Nat} {v : Value} (hb : h[b]? = some (.cells c wr sz)) (hv : c[o]? = some v) (hn : kn1 v = true) (hk : KV v) : aLoad false s (ptr b o) h KV := by rw [load_cell hb hv hn]; exact hk
theorem idxI {s b o n c : Nat} {j : Int} (h1 : 0 ≤ j ∧ j < n) (hk : KV (ptr b (o + j.toNat * s))) : aIdx s (.slice (some ⟨b,o,none⟩) n c) (vint j) KV := by rw [idx_ok]; exact ⟨h1,hk⟩
theorem ext0 {a b : Value} (hk : KV a) : aExt (.tuple ⟨[a,b]⟩) 0 KV := hk
theorem ext1 {a b : Value} (hk : KV b) : aExt (.tuple ⟨[a,b]⟩) 1 KV := hk
theorem ext30 {a b c : Value} (hk : KV a) : aExt (.tuple ⟨[a,b,c]⟩) 0 KV := hk
theorem ext31 {a b c : Value} (hk : KV b) : aExt (.tuple ⟨[a,b,c]⟩) 1 KV := hk
theorem ext32 {a b c : Value} (hk : KV c) : aExt (.tuple ⟨[a,b,c]⟩) 2 KV := hk
end
theorem last_get {x : AObj} : (g ++ [x])[g.length]? = some x := by simp
theorem last_set {x y : AObj} : (g ++ [x]).set g.length y = g ++ [y] := by simp
end
structure Chain (t : Tal) (nums losses : List Int) : Prop where
 numl : nums.length = t.changes.length + 1
 losl : losses.length = t.changes.length
 first : 30 ≤ t.first.lo ∧ t.first.lo ≤ 60 ∧ t.first.lo ≤ t.first.hi ∧ t.first.hi ≤ t.first.lo + 6
 most : 0 ≤ t.most ∧ t.most ≤ 4
 ch : ∀ r ∈ t.changes,-3 ≤ r.lo ∧ r.lo ≤ 2 ∧ r.lo ≤ r.hi ∧ r.hi ≤ r.lo + 2
 zero : t.first.lo ≤ nums.getD 0 0 ∧ nums.getD 0 0 ≤ t.first.hi
 step : ∀ i (hi : i < t.changes.length),0 ≤ losses.getD i 0 ∧ losses.getD i 0 ≤ t.most ∧ t.changes[i].lo ≤ nums.getD (i + 1) 0 - nums.getD i 0 + losses.getD i 0 ∧ nums.getD (i + 1) 0 - nums.getD i 0 + losses.getD i 0 ≤ t.changes[i].hi
theorem getD_app1 {l : List Int} {x : Int} {i : Nat} (hi : i < l.length) : (l ++ [x]).getD i 0 = l.getD i 0 := by
 simp only [List.getD_eq_getElem?_getD]
 rw [List.getElem?_append_left hi]
theorem getD_app2 {l : List Int} {x : Int} : (l ++ [x]).getD l.length 0 = x := by
 simp [List.getD_eq_getElem?_getD]
theorem Chain.more {t : Tal} {nums losses : List Int} (c : Chain t nums losses) {r : Rng} {now' l : Int} (hr : -3 ≤ r.lo ∧ r.lo ≤ 2 ∧ r.lo ≤ r.hi ∧ r.hi ≤ r.lo + 2) (hl : 0 ≤ l ∧ l ≤ t.most)
  (hn : r.lo ≤ now' - nums.getD t.changes.length 0 + l ∧ now' - nums.getD t.changes.length 0 + l ≤ r.hi) : Chain { t with changes := t.changes ++ [r] } (nums ++ [now']) (losses ++ [l]) where
 numl := by simp [c.numl]
 losl := by simp [c.losl]
 first := c.first
 most := c.most
 ch := fun x hx => by
  rcases List.mem_append.1 hx with hx | hx
  ·exact c.ch x hx
  ·simp at hx
   rw [hx]
   exact hr
 zero := by
  have := c.numl
  have := c.zero
  rw [getD_app1 (by omega)]
  exact this
 step := fun i hi => by
  have n1 := c.numl
  have n2 := c.losl
  dsimp only at hi ⊢
  simp at hi
  rcases Nat.lt_or_ge i t.changes.length with x | x
  ·rw [getD_app1 (by omega),getD_app1 (by omega),getD_app1 (by omega),List.getElem_append_left x]
   exact c.step i x
  ·have : i = t.changes.length := by omega
   subst this
   have e1 : (nums ++ [now']).getD (t.changes.length + 1) 0 = now' := by rw [← n1,getD_app2]
   have e2 : (losses ++ [l]).getD t.changes.length 0 = l := by rw [← n2,getD_app2]
   have e3 : (t.changes ++ [r])[t.changes.length] = r := by simp
   rw [getD_app1 (i := t.changes.length) (l := nums) (by omega),e1,e2,e3]
   exact ⟨hl.1,hl.2,hn.1,hn.2⟩
structure CoOk (gates : Int) (nums : List Int) (c : Cnt) : Prop where
 gate : 0 ≤ c.gate ∧ c.gate < gates
 man : 1 ≤ c.man ∧ c.man ≤ 4
 err : 0 ≤ c.err ∧ c.err ≤ 20
 num : -(c.err * nums.getD c.gate.toNat 0 / 100) ≤ c.num - nums.getD c.gate.toNat 0 ∧ c.num - nums.getD c.gate.toNat 0 ≤ c.err * nums.getD c.gate.toNat 0 / 100
section
variable {main : Bool} {J : JT} {h : List AObj} {K : Value → List AObj → Prop} {n0 : Nat}
theorem fill_agg {c l : List Value} {off s : Nat} {ps : List (Nat × Nat × Value)} {K : List Value → Prop} (h1 : l.length = s) (h2 : l.all one = true) (ho : off + s ≤ c.length) (hk : aFill (wrAt c off l) ps K) : aFill c ((off,s,.agg ⟨l⟩) :: ps) K := by
 refine ⟨by simpa [Value.cells] using h1,by simpa [Value.cells] using h2,ho,?_⟩
 simpa [Value.cells] using hk
theorem retQ_same {rs : List ResultVar} {f : RG} (ds : f.ds = []) (hr : resW prog rs f.r h fun vs => K (pack vs) h) : RetQ prog rs n0 K .ret f h := by
 unfold RetQ
 rw [ds]
 exact resW_imp rs hr fun vs hk => .inl hk
theorem cs_val {t : Tal} {cv nv : Value} : (talCells t cv nv).length = 6 := rfl
structure BT (n : Nat) (g : List AObj) (L : List Rng) (Cs : List Cnt) (nums losses : List Int) (cv cov nuv lov : Value) (o1 o2 o3 o4 : Option Nat) : Prop where
 ch : OwnE n g 2 (L.flatMap Rng.cells) L.length cv o1
 co : OwnE n g 4 (Cs.flatMap Cnt.cells) Cs.length cov o2
 nu : OwnE n g 1 (nums.map vint) nums.length nuv o3
 lo : OwnE n g 1 (losses.map vint) losses.length lov o4
 len : 2 < g.length
 b1 : ∀ i,o1 = some i → 2 < i
 b2 : ∀ i,o2 = some i → 2 < i
 b3 : ∀ i,o3 = some i → 2 < i
 b4 : ∀ i,o4 = some i → 2 < i
 d12 : ∀ i,o1 = some i → o2 ≠ some i
 d13 : ∀ i,o1 = some i → o3 ≠ some i
 d14 : ∀ i,o1 = some i → o4 ≠ some i
 d23 : ∀ i,o2 = some i → o3 ≠ some i
 d24 : ∀ i,o2 = some i → o4 ≠ some i
 d34 : ∀ i,o3 = some i → o4 ≠ some i
section
variable {n : Nat} {g : List AObj} {L : List Rng} {Cs : List Cnt} {nums losses : List Int} {cv cov nuv lov : Value} {o1 o2 o3 o4 : Option Nat} {nv : Value} {k : Nat} {s : Int} {rest : List AObj}
theorem BT.app {g' : List AObj} (B : BT n g L Cs nums losses cv cov nuv lov o1 o2 o3 o4) : BT n (g ++ g') L Cs nums losses cv cov nuv lov o1 o2 o3 o4 :=
 ⟨ownE_app B.ch,ownE_app B.co,ownE_app B.nu,ownE_app B.lo,by have := B.len; simp; omega,B.b1,B.b2,B.b3,B.b4,B.d12,B.d13,B.d14,B.d23,B.d24,B.d34⟩
theorem BT.set {i : Nat} {y : AObj} (B : BT n g L Cs nums losses cv cov nuv lov o1 o2 o3 o4) (h1 : o1 ≠ some i) (h2 : o2 ≠ some i) (h3 : o3 ≠ some i) (h4 : o4 ≠ some i) : BT n (g.set i y) L Cs nums losses cv cov nuv lov o1 o2 o3 o4 :=
 ⟨ownE_set B.ch h1,ownE_set B.co h2,ownE_set B.nu h3,ownE_set B.lo h4,by have := B.len; simpa using this,B.b1,B.b2,B.b3,B.b4,B.d12,B.d13,B.d14,B.d23,B.d24,B.d34⟩
end
structure S1 (h : List AObj) (rest g : List AObj) (C gt lo w mo : Int) (L : List Rng) (nums losses : List Int) (cv nuv lov : Value) (o1 o3 o4 : Option Nat) (j : Nat) (f : RG) : Prop where
 bt : BT (h.length + 1 + rest.length) g L [] nums losses cv (.slice none 0 0) nuv lov o1 none o3 o4
 z0 : g[0]? = some (.cells [vint 0,vint 0,vint 0,.slice none 0 0,vint 0,.slice none 0 0] true 0)
 t2 : g[2]? = some (.cells (talCells ⟨gt,⟨lo,lo + w⟩,L,mo,[]⟩ cv (.slice none 0 0)) true 0)
 chn : Chain ⟨gt,⟨lo,lo + w⟩,L,mo,[]⟩ nums losses
 lj : L.length = j
 jg : (j : Int) + 1 ≤ gt
 g5 : gt ≤ 5
 ds : f.ds = []
 r0 : f.r 0 = ptr h.length 0
 r2 : f.r 2 = vint C
 r6 : f.r 6 = ptr (h.length + 1 + rest.length + 0) 0
 r9 : f.r 9 = ptr (h.length + 1 + rest.length + 2) 0
 r10 : f.r 10 = vint (nums.getD j 0)
 r11 : f.r 11 = nuv
 r12 : f.r 12 = lov
 r13 : f.r 13 = vint ((j : Int) + 1)
theorem tal_kn {t : Tal} {cv nv : Value} (h1 : kn1 cv = true) (h2 : kn1 nv = true) : kn (talCells t cv nv) = true := by
 unfold kn talCells
 simp only [List.all_cons,List.all_nil,h1,h2]
 rfl
structure S2 (h : List AObj) (rest g : List AObj) (C gt lo w mo : Int) (L : List Rng) (Cs : List Cnt) (nums losses : List Int) (cv cov lov : Value) (i3 c3 : Nat) (o1 o2 o4 : Option Nat) (i : Nat) (f : RG) : Prop where
 bt : BT (h.length + 1 + rest.length) g L Cs nums losses cv cov (.slice (some ⟨h.length + 1 + rest.length + i3,0,none⟩) nums.length c3) lov o1 o2 (some i3) o4
 z0 : g[0]? = some (.cells [vint 0,vint 0,vint 0,.slice none 0 0,vint 0,.slice none 0 0] true 0)
 t2 : g[2]? = some (.cells (talCells ⟨gt,⟨lo,lo + w⟩,L,mo,Cs⟩ cv cov) true 0)
 co : ∀ c ∈ Cs,CoOk gt nums c
 few : (Cs.length : Int) + i ≤ C
 ds : f.ds = []
 r0 : f.r 0 = ptr h.length 0
 r6 : f.r 6 = ptr (h.length + 1 + rest.length + 0) 0
 r9 : f.r 9 = ptr (h.length + 1 + rest.length + 2) 0
 r11 : f.r 11 = .slice (some ⟨h.length + 1 + rest.length + i3,0,none⟩) nums.length c3
 r12 : f.r 12 = lov
 r16 : f.r 16 = vint (i : Int)
end
def Rng.meet (a b : Rng) : Rng := ⟨max a.lo b.lo,min a.hi b.hi⟩
def Rng.plus (a b : Rng) : Rng := ⟨a.lo + b.lo,a.hi + b.hi⟩
def Rng.turn (a : Rng) : Rng := ⟨-a.hi,-a.lo⟩
def rd (c : Cnt) : Rng := ⟨rdLo c,rdHi c⟩
def Rng.sm (a : Rng) (B : Int) : Prop := (-B ≤ a.lo ∧ a.lo ≤ B) ∧ (-B ≤ a.hi ∧ a.hi ≤ B)
def keepB (u : Int) (i : Nat) : Bool := decide (IntKind.u64.wrap (BitVec.ofInt 64 (u.fdiv (2 ^ min i 64)) &&& BitVec.ofInt 64 1).toNat = 0)
def limCells (L : Nat → Rng) : List Value := [vint (L 0).lo,vint (L 0).hi,vint (L 1).lo,vint (L 1).hi,vint (L 2).lo,vint (L 2).hi,vint (L 3).lo,vint (L 3).hi,vint (L 4).lo,vint (L 4).hi]
def updR (L : Nat → Rng) (i : Nat) (r : Rng) : Nat → Rng := fun g => if g = i then r else L g
def limN (u : Int) (cs : List Cnt) : Nat → Nat → Rng
 | 0 => fun _ => ⟨0,600⟩
 | i + 1 => match cs[i]? with
  | some c => bif keepB u i then updR (limN u cs i) c.gate.toNat ((limN u cs i c.gate.toNat).meet (rd c)) else limN u cs i
  | none => limN u cs i
theorem lim_congr {L L' : Nat → Rng} (h : ∀ g,g < 5 → L g = L' g) : limCells L = limCells L' := by
 unfold limCells
 rw [h 0 (by omega),h 1 (by omega),h 2 (by omega),h 3 (by omega),h 4 (by omega)]
theorem lim_set (L : Nat → Rng) (r : Rng) : ∀ i : Nat,i < 5 → ((limCells L).set (0 + i * 2) (vint r.lo)).set (0 + i * 2 + 1) (vint r.hi) = limCells (updR L i r)
 | 0,_ => rfl
 | 1,_ => rfl
 | 2,_ => rfl
 | 3,_ => rfl
 | 4,_ => rfl
 | _ + 5,h => absurd h (by omega)
theorem lim_get (L : Nat → Rng) : ∀ i : Nat,i < 5 → ((limCells L).drop (0 + i * 2)).take 2 = (L i).cells
 | 0,_ => rfl
 | 1,_ => rfl
 | 2,_ => rfl
 | 3,_ => rfl
 | 4,_ => rfl
 | _ + 5,h => absurd h (by omega)
section
variable {main : Bool} {J : JT} {h A g : List AObj} {K : Value → List AObj → Prop} {KV : Value → Prop} {HL : List AObj → Prop} {n0 : Nat}
theorem bAl {l : List Value} (hk : K (ptr (A.length + g.length) 0) (A ++ (g ++ [.cells l true 0]))) : aAlloc l (A ++ g) K := by
 unfold aAlloc
 rw [List.length_append,List.append_assoc]
 exact hk
theorem bBox {l : List Value} (h1 : l.all one = true) (hk : K (ptr (A.length + g.length) 0) (A ++ (g ++ [.cells l true 0]))) : aBox (.agg ⟨l⟩) (A ++ g) K := by
 refine box_agg h1 ?_
 rw [List.length_append,List.append_assoc]
 exact hk
theorem bLd {i o : Nat} {c : List Value} {wr : Bool} {sz : Nat} {v : Value} (hb : g[i]? = some (.cells c wr sz)) (hv : c[o]? = some v) (hn : kn1 v = true) (hk : KV v) : aLoad false 1 (ptr (A.length + i) o) (A ++ g) KV :=
 ldI (by rw [back_get]; exact hb) hv hn hk
theorem bLdA {i o n : Nat} {cs c : List Value} {wr : Bool} {sz : Nat} (hb : g[i]? = some (.cells cs wr sz)) (hl : o + n ≤ cs.length) (hc : (cs.drop o).take n = c) (hn : kn c = true) (hk : KV (.agg ⟨c⟩)) : aLoad true n (ptr (A.length + i) o) (A ++ g) KV :=
 load_part (by rw [back_get]; exact hb) hl hc hn hk
theorem bSt {i o : Nat} {c : List Value} {sz : Nat} {v : Value} (hb : g[i]? = some (.cells c true sz)) (ho : o < c.length) (h1 : v.cells = #[v]) (h2 : one v = true) (hk : HL (A ++ g.set i (.cells (c.set o v) true sz))) : aStore 1 (ptr (A.length + i) o) v (A ++ g) HL := by
 refine store_cell (by rw [back_get]; exact hb) ho h1 h2 ?_
 rw [back_set]
 exact hk
theorem bStA {i n : Nat} {cs c : List Value} {sz : Nat} (hb : g[i]? = some (.cells cs true sz)) (hl : c.length = n) (hs : cs.length = n) (h1 : c.all one = true) (hk : HL (A ++ g.set i (.cells c true sz))) : aStore n (ptr (A.length + i) 0) (.agg ⟨c⟩) (A ++ g) HL := by
 refine store_agg (by rw [back_get]; exact hb) hl hs h1 ?_
 rw [back_set]
 exact hk
theorem bSt2 {i o : Nat} {c : List Value} {sz : Nat} {x y : Value} (hb : g[i]? = some (.cells c true sz)) (ho : o + 2 ≤ c.length) (h1 : one x = true) (h2 : one y = true) (hk : HL (A ++ g.set i (.cells ((c.set o x).set (o + 1) y) true sz))) : aStore 2 (ptr (A.length + i) o) (.agg ⟨[x,y]⟩) (A ++ g) HL := by
 unfold aStore ptr
 simp only
 rw [back_get,hb]
 simp only [Value.cells,List.toList_toArray]
 refine ⟨rfl,by simp [h1,h2],ho,?_⟩
 rw [back_set]
 exact hk
theorem bSame {g' : List AObj} {is : List Nat} (hi : ∀ i ∈ is,g'[i]? = g[i]?) : SameB (some (is.map fun i => A.length + i)) (A ++ g) (A ++ g') := by
 intro b hb
 obtain ⟨i,hm,rfl⟩ := List.mem_map.1 hb
 rw [back_get,back_get,hi i hm]
theorem bRd {i o : Nat} {is : List Nat} (hi : i ∈ is) : RdOk (some (is.map fun i => A.length + i)) (ptrBlk (ptr (A.length + i) o)) := List.mem_map.2 ⟨i,hi,rfl⟩
theorem app_nil' : h = h ++ [] := by simp
theorem ret_agg {rs : List ResultVar} {f : RG} {i n t : Nat} {c : List Value} {wr : Bool} {sz x : Nat} (ds : f.ds = []) (ok : heapOk h) (hn : n0 ≤ h.length) (hrs : rs = [.cell x t]) (ht : tk prog t = some (true,n)) (hr : f.r x = ptr (h.length + i) 0) (hb : g[i]? = some (.cells c wr sz)) (hl : c.length = n) (hkn : kn c = true)
  (hv : VOk h.length (.agg ⟨c⟩)) (hk : K (.agg ⟨c⟩) h) : RetQ prog rs n0 K .ret f (h ++ g) := by
 subst hrs
 refine retQ_drop ds ok hn (resW_cell (gg := true) (s := n) ht ?_)
 rw [hr]
 refine bLdA (c := c) hb (by omega) (by rw [List.drop_zero,List.take_of_length_le (by omega)]) hkn (resW_nil ⟨hv,hk⟩)
theorem good39 (hJ : Closed prog main J) {r : Rng} (hr : r.sm 1000000) (hK : K r.turn.val h) : Good prog J 39 [r.val] h K := by
 refine g39 hJ fun ok => ?_
 rw [e39]
 unfold Rng.val Rng.cells
 obtain ⟨h1,h2⟩ := hr
 rw [app_nil' (h := h)]
 refine bBox rfl (bAl (offI (bLd (i := 0) rfl rfl rfl (negI (by omega) (offI (bLd (i := 0) rfl rfl rfl (negI (by omega) ?_)))))))
 refine fill1 rfl rfl (by decide) (fill1 rfl rfl (by simp) (fillI (bStA (i := 1) rfl rfl rfl rfl ?_)))
 rw [List.append_nil]
 exact ret_agg (i := 1) rfl (by simpa using ok) (Nat.le_refl _) rfl (by kernel_rfl) rfl rfl rfl rfl (by simp [VOk,AOk,LOk]) hK
theorem good40 (hJ : Closed prog main J) {r q : Rng} (hK : K (r.meet q).val h) : Good prog J 40 [r.val,q.val] h K := by
 refine g40 hJ fun ok => ?_
 rw [e40]
 unfold Rng.val Rng.cells
 rw [app_nil' (h := h)]
 refine bBox rfl (bBox rfl (bAl (offI (bLd (i := 0) rfl rfl rfl (offI (bLd (i := 1) rfl rfl rfl (maxI ?_)))))))
 refine offI (bLd (i := 0) rfl rfl rfl (offI (bLd (i := 1) rfl rfl rfl (minI ?_))))
 refine fill1 rfl rfl (by decide) (fill1 rfl rfl (by simp) (fillI (bStA (i := 2) rfl rfl rfl rfl ?_)))
 rw [List.append_nil]
 exact ret_agg (i := 2) rfl (by simpa using ok) (Nat.le_refl _) rfl (by kernel_rfl) rfl rfl rfl rfl (by simp [VOk,AOk,LOk]) hK
theorem good41 (hJ : Closed prog main J) {r q : Rng} (hr : r.sm 1000000) (hq : q.sm 1000000) (hK : K (r.plus q).val h) : Good prog J 41 [r.val,q.val] h K := by
 refine g41 hJ fun ok => ?_
 rw [e41]
 unfold Rng.val Rng.cells
 obtain ⟨h1,h2⟩ := hr
 obtain ⟨h3,h4⟩ := hq
 rw [app_nil' (h := h)]
 refine bBox rfl (bBox rfl (bAl (offI (bLd (i := 0) rfl rfl rfl (offI (bLd (i := 1) rfl rfl rfl (addI (by omega) ?_)))))))
 refine offI (bLd (i := 0) rfl rfl rfl (offI (bLd (i := 1) rfl rfl rfl (addI (by omega) ?_))))
 refine fill1 rfl rfl (by decide) (fill1 rfl rfl (by simp) (fillI (bStA (i := 2) rfl rfl rfl rfl ?_)))
 rw [List.append_nil]
 exact ret_agg (i := 2) rfl (by simpa using ok) (Nat.le_refl _) rfl (by kernel_rfl) rfl rfl rfl rfl (by simp [VOk,AOk,LOk]) hK
theorem good45 (hJ : Closed prog main J) {r : Rng} (hK : K (.bool (decide (r.lo > r.hi))) h) : Good prog J 45 [r.val] h K := by
 refine g45 hJ fun ok => ?_
 rw [e45]
 unfold Rng.val Rng.cells
 refine box_agg rfl ?_
 have hb : (h ++ [AObj.cells [vint r.lo,vint r.hi] true 0])[h.length]? = some (.cells [vint r.lo,vint r.hi] true 0) := by simp
 refine offI (ldI hb rfl rfl (offI (ldI hb rfl rfl (gtrI ?_))))
 exact retL_drop ok (Nat.le_refl _) (by simp [unk]) (by simp [pack,VOk]) hK
structure WorkAt (h : List AObj) (b : Nat) (t : Tal) (cv nv : Value) (u : Int) (m : Value) : Prop where
 at_ : h[b]? = some (.cells (talCells t cv nv ++ [.int .u64 u,m]) true 0)
 ch : SliE h cv 2 Rng.cells t.changes
 co : SliE h nv 4 Cnt.cells t.counts
theorem WorkAt.app {b : Nat} {t : Tal} {cv nv : Value} {u : Int} {m : Value} (w : WorkAt h b t cv nv u m) : WorkAt (h ++ g) b t cv nv u m := ⟨get_app w.at_,sliE_app w.ch,sliE_app w.co⟩
theorem WorkAt.kc {b : Nat} {t : Tal} {cv nv : Value} {u : Int} {m : Value} (w : WorkAt h b t cv nv u m) : kn1 cv = true ∧ kn1 nv = true := ⟨(sli_one w.ch).2.2,(sli_one w.co).2.2⟩
def stretchR (t : Tal) (g : Nat) : Rng := ((t.changes[g]?).getD ⟨0,0⟩).plus ⟨-t.most,0⟩
theorem good42 (hJ : Closed prog main J) {b i : Nat} {t : Tal} {cv nv : Value} {u : Int} {m : Value} (w : WorkAt h b t cv nv u m) (hi : i < t.changes.length) (hr : t.changes[i].sm 1000) (hm : 0 ≤ t.most ∧ t.most ≤ 1000) (hK : K (stretchR t i).val h) : Good prog J 42 [ptr b 0,vint i] h K := by
 refine g42 hJ fun ok => ?_
 rw [e42]
 obtain ⟨b2,o,cs,wr,sz,hidx,hb,hle,hpart,hkn⟩ := sliE_elem rng_len (by omega) (w.app (g := [.cells [vint 0,vint 0] true 0])).ch hi
 have wa := (w.app (g := [.cells [vint 0,vint 0] true 0])).at_
 unfold aAlloc
 refine ⟨[b,b2],nilI (offI (offI (ldI wa rfl w.kc.1 ⟨by simp [RdOk,ptrBlk,ptr],?_⟩)))⟩
 refine hidx _ (load_part hb hle hpart hkn ⟨by simp [RdOk,ptrBlk,ptr],?_⟩)
 refine nilI (offI (offI (ldI (v := vint t.most) wa rfl rfl ⟨by simp [RdOk,ptrBlk,ptr],negI (by omega) ?_⟩)))
 refine fill1 rfl rfl (by decide) (fill1 rfl rfl (by simp) (fillI ?_))
 obtain ⟨q1,q2⟩ := hr
 refine good41 hJ (r := t.changes[i]) (q := ⟨-t.most,0⟩) ⟨by omega,by omega⟩ ⟨by dsimp only; omega,by dsimp only; omega⟩ ?_
 refine ⟨fun _ _ => rfl,?_⟩
 refine store_agg (cs := [vint 0,vint 0]) (sz := 0) (by simp) rfl rfl rfl ?_
 rw [show ∀ (l : List AObj) (x y : AObj),(l ++ [x]).set l.length y = l ++ [y] from fun l x y => by simp]
 have e : stretchR t i = t.changes[i].plus ⟨-t.most,0⟩ := by
  unfold stretchR
  rw [List.getElem?_eq_getElem hi]
  rfl
 rw [e] at hK
 exact ret_agg (i := 0) (g := [_]) rfl ok (Nat.le_refl _) rfl (by kernel_rfl) rfl rfl rfl rfl (by simp [VOk,AOk,LOk,Rng.plus,Rng.cells]) hK
theorem u_shrI {u : Int} {i : Nat} {t : TypeId} (hk : KV (.int .u64 (u.fdiv (2 ^ min i 64)))) : aBin prog .shr t (.int .u64 u) (.int .u64 i) KV := ⟨by omega,hk⟩
theorem u_andI {a b : Int} {t : TypeId} (hk : KV (.int .u64 (IntKind.u64.wrap (BitVec.ofInt 64 a &&& BitVec.ofInt 64 b).toNat))) : aBin prog .and t (.int .u64 a) (.int .u64 b) KV := ⟨rfl,hk⟩
theorem wrapU_id {n : Int} (h1 : 0 ≤ n) (h2 : n < 18446744073709551616) : IntKind.u64.wrap n = n := by
 simp only [IntKind.wrap,IntKind.bits,IntKind.signed]
 simp
 omega
theorem idxAI {s len b o : Nat} {j : Int} (h1 : 0 ≤ j ∧ j < len) (hk : KV (ptr b (o + j.toNat * s))) : aIdxA len s (ptr b o) (vint j) KV := ⟨h1,hk⟩
theorem convI {n : Int} (h1 : 0 ≤ n) (h2 : n < 18446744073709551616) (hk : KV (.int .u64 n)) : aConvI .u64 (vint n) KV := by
 show KV (.int .u64 (IntKind.u64.wrap n))
 rw [wrapU_id h1 h2]
 exact hk
theorem eqlU {a b : Int} {t : TypeId} (hk : KV (.bool (decide (a = b)))) : aBin prog .eql t (.int .u64 a) (.int .u64 b) KV := by rw [b_eql]; exact hk
theorem lim_len (L : Nat → Rng) : (limCells L).length = 10 := rfl
theorem lim_kn (L : Nat → Rng) : kn (limCells L) = true := rfl
theorem lim_ok (L : Nat → Rng) (n : Nat) : VOk n (.agg ⟨limCells L⟩) := by simp [VOk,AOk,LOk,limCells]
def CoSm (cs : List Cnt) : Prop := cs.length ≤ 100 ∧ ∀ c ∈ cs,(0 ≤ c.gate ∧ c.gate < 5) ∧ (0 ≤ c.num ∧ c.num ≤ 300) ∧ (0 ≤ c.err ∧ c.err ≤ 20)
theorem limN_step {u : Int} {cs : List Cnt} {i : Nat} (hi : i < cs.length) : limN u cs (i + 1) = bif keepB u i then updR (limN u cs i) cs[i].gate.toNat ((limN u cs i cs[i].gate.toNat).meet (rd cs[i])) else limN u cs i := by
 show (match cs[i]? with
  | some c => bif keepB u i then updR (limN u cs i) c.gate.toNat ((limN u cs i c.gate.toNat).meet (rd c)) else limN u cs i
  | none => limN u cs i) = _
 rw [List.getElem?_eq_getElem hi]
theorem good38 (hJ : Closed prog main J) {b : Nat} {t : Tal} {cv nv : Value} {u : Int} {m : Value} (w : WorkAt h b t cv nv u m) (hc : CoSm t.counts) (hK : K (.agg ⟨limCells (limN u t.counts t.counts.length)⟩) h) : Good prog J 38 [ptr b 0] h K := by
 refine g38 hJ fun ok => ?_
 rw [e38]
 have e0 : W prog J 46 h.length 38 (codeOf f38) = W prog J 46 h.length 38 (codeOf f38) := rfl
 unfold aAlloc
 refine l38_1 hJ (fun i : Nat => 5 - i) (fun i f h' => ∃ L,h' = h ++ [.cells [vint 0,vint 0,vint 0,vint 0,vint 0,vint 0,vint 0,vint 0,vint 0,vint 0] true 0,.cells (limCells L) true 0] ∧ i ≤ 5 ∧ (∀ g,g < i → L g = ⟨0,600⟩) ∧
   f.ds = [] ∧ f.r 0 = ptr b 0 ∧ f.r 2 = ptr (h.length + 0) 0 ∧ f.r 3 = ptr (h.length + 1) 0 ∧ f.r 7 = vint (i : Nat)) ?_ (s := 0)
  (.inl ⟨fun _ => ⟨0,0⟩,by simp [limCells],by omega,by simp,rfl,rfl,rfl,by show ptr (h ++ [_]).length 0 = _; simp,rfl⟩)
 rintro i f _ ⟨L,rfl,hi,hL,hds,r0,r2,r3,r7⟩ ok' hn'
 rw [s38_1]
 simp only [r0,r2,r3,r7]
 refine lssI (cndI (fun hlt => ?_) fun hge => ?_)
 ·refine fill1 rfl rfl (by decide) (fill1 rfl rfl (by simp) (fillI (idxAI ⟨by omega,by omega⟩ ?_)))
  refine bSt2 (i := 1) rfl (by rw [lim_len]; omega) rfl rfl (addI (by omega) ?_)
  refine ⟨i + 1,by dsimp only; omega,.inl ⟨updR L i ⟨0,600⟩,?_,by omega,fun g hg => ?_,hds,r0,r2,r3,rfl⟩⟩
  ·rw [Int.toNat_natCast,lim_set L ⟨0,600⟩ i (by omega)]
   rfl
  ·unfold updR
   split
   ·rfl
   ·exact hL g (by omega)
 ·have hL0 : limCells L = limCells (limN u t.counts 0) := lim_congr fun g hg => hL g (by omega)
  rw [hL0]
  clear hL0 hL
  have wa := w.app (g := [.cells [vint 0,vint 0,vint 0,vint 0,vint 0,vint 0,vint 0,vint 0,vint 0,vint 0] true 0,.cells (limCells (limN u t.counts 0)) true 0])
  refine nilI (offI (offI (ldI wa.at_ rfl w.kc.2 (lenI wa.co ?_))))
  refine l38_2 hJ (fun i : Nat => 100 - i) (fun i f h' => ∃ g,h' = h ++ g ∧ i ≤ t.counts.length ∧ g[0]? = some (.cells [vint 0,vint 0,vint 0,vint 0,vint 0,vint 0,vint 0,vint 0,vint 0,vint 0] true 0) ∧ g[1]? = some (.cells (limCells (limN u t.counts i)) true 0) ∧
   f.ds = [] ∧ f.r 0 = ptr b 0 ∧ f.r 2 = ptr (h.length + 0) 0 ∧ f.r 3 = ptr (h.length + 1) 0 ∧ f.r 18 = nv ∧ f.r 19 = vint t.counts.length ∧ f.r 20 = vint (i : Nat)) ?_ (s := 0)
   (.inl ⟨_,rfl,by omega,rfl,rfl,hds,r0,r2,r3,rfl,rfl,rfl⟩)
  clear wa ok'
  rintro i f _ ⟨g,rfl,hi,z0,z1,hds,r0,r2,r3,r18,r19,r20⟩ ok' hn'
  have hl1 : 1 < g.length := (List.getElem?_eq_some_iff.1 z1).1
  have hc100 := hc.1
  rw [s38_2]
  simp only [r0,r2,r3,r18,r19,r20]
  refine lssI (cndI (fun hlt => ?_) fun hge => ?_)
  ·have hil : i < t.counts.length := by omega
   obtain ⟨c1,c2,c3⟩ := hc.2 t.counts[i] (List.getElem_mem _)
   have hstep := limN_step (u := u) hil
   obtain ⟨b2,o,cs,wr,sz,hidx,hb,hle,hpart,hkn⟩ := sliE_elem cnt_len (by omega) (sliE_app (g := g) w.co) hil
   generalize t.counts[i] = c at *
   refine hidx _ (load_part hb hle hpart hkn (bAl (bStA last_get rfl rfl rfl ?_)))
   rw [last_set]
   refine nilI (offI (ldI (v := .int .u64 u) (w.app (g := g ++ [.cells c.cells true 0])).at_ rfl rfl ?_))
   refine convI (by omega) (by omega) (u_shrI (u_andI (eqlU (cnd_bool.2 ⟨fun hkp => ?_,fun hkp => ?_⟩))))
   ·have hkp' : keepB u i = true := hkp
    have hga : c.gate.toNat < 5 := by omega
    refine ⟨[g.length,1].map fun i => h.length + i,?_⟩
    refine offI (bLd (v := vint c.gate) last_get rfl rfl ⟨bRd (by simp),offI (bLd (v := vint c.gate) last_get rfl rfl ⟨bRd (by simp),idxAI (by omega) ?_⟩)⟩)
    refine bLdA (c := (limN u t.counts i c.gate.toNat).cells) (get_app z1) (by rw [lim_len]; omega) (lim_get _ _ hga) rfl ⟨bRd (by simp),?_⟩
    refine bLdA (c := c.cells) last_get (by rw [cnt_len]; omega) rfl rfl ⟨bRd (by simp),?_⟩
    refine good23 hJ (c := c) c2 c3 ⟨fun _ _ => rfl,?_⟩
    refine good40 hJ (r := limN u t.counts i c.gate.toNat) (q := rd c) ⟨fun _ _ => rfl,idxAI (by omega) ?_⟩
    refine bSt2 (get_app z1) (by rw [lim_len]; omega) rfl rfl (addI (by omega) ?_)
    refine ⟨i + 1,by dsimp only; omega,.inl ⟨_,rfl,by omega,get_set (get_app z0) (by omega),?_,hds,r0,r2,r3,r18,r19,rfl⟩⟩
    rw [List.getElem?_set_self (by simp; omega),hstep,hkp']
    have := lim_set (limN u t.counts i) ((limN u t.counts i c.gate.toNat).meet (rd c)) _ hga
    rw [← cond_true (updR _ _ _)] at this
    exact congrArg (fun l => some (AObj.cells l true 0)) this
   ·have hkp' : keepB u i = false := hkp
    refine addI (by omega) ⟨i + 1,by dsimp only; omega,.inl ⟨_,rfl,by omega,get_app z0,?_,hds,r0,r2,r3,r18,r19,rfl⟩⟩
    rw [hstep,hkp']
    exact get_app z1
  ·refine bLdA (c := limCells (limN u t.counts i)) z1 (by rw [lim_len]; omega) rfl (lim_kn _) ?_
   have : i = t.counts.length := by omega
   subst this
   refine bStA z0 rfl rfl rfl ?_
   exact ret_agg (i := 0) hds ok (Nat.le_refl _) rfl (by kernel_rfl) r2 (List.getElem?_set_self (by omega)) rfl rfl (lim_ok _ _) hK
end
theorem lo_le {c : Cnt} (h2 : 0 ≤ c.err ∧ c.err ≤ 20) {n : Int} : rdLo c ≤ n ↔ 100 * c.num ≤ 100 * n + c.err * n := by
 unfold rdLo
 have e : (n + 1) * (100 + c.err) = 100 * n + c.err * n + 100 + c.err := by
  rw [Int.add_mul,Int.mul_add,Int.mul_comm n 100,Int.mul_comm n c.err]
  omega
 have := Int.ediv_lt_iff_lt_mul (a := 100 * c.num + 99 + c.err) (b := n + 1) (c := 100 + c.err) (by omega)
 rw [e] at this
 omega
theorem le_hi {c : Cnt} (h2 : 0 ≤ c.err ∧ c.err ≤ 20) {n : Int} : n ≤ rdHi c ↔ 100 * n - c.err * n ≤ 100 * c.num := by
 unfold rdHi
 have e : n * (100 - c.err) = 100 * n - c.err * n := by
  rw [Int.mul_sub,Int.mul_comm n 100,Int.mul_comm n c.err]
 rw [Int.le_ediv_iff_mul_le (by omega),e]
theorem rd_facts {c : Cnt} (h1 : 0 ≤ c.num ∧ c.num ≤ 300) (h2 : 0 ≤ c.err ∧ c.err ≤ 20) : rdLo c ≤ c.num ∧ c.num ≤ rdHi c ∧ 0 ≤ rdLo c ∧ rdHi c < 400 := by
 have m := mul_bd h2.1 h2.2 h1.1 h1.2
 refine ⟨(lo_le h2).2 (by omega),(le_hi h2).2 (by omega),Int.ediv_nonneg (by omega) (by omega),?_⟩
 refine Int.ediv_lt_of_lt_mul (by omega) ?_
 omega
def SameX (X : List Nat) (h H : List AObj) : Prop := h.length ≤ H.length ∧ ∀ i,i < h.length → i ∉ X → H[i]? = h[i]?
theorem SameX.refl {X : List Nat} {h : List AObj} : SameX X h h := ⟨Nat.le_refl _,fun _ _ _ => rfl⟩
theorem SameX.trans {X : List Nat} {h H H' : List AObj} (a : SameX X h H) (b : SameX X H H') : SameX X h H' :=
 ⟨Nat.le_trans a.1 b.1,fun i hi hx => by rw [b.2 i (Nat.lt_of_lt_of_le hi a.1) hx,a.2 i hi hx]⟩
theorem SameX.app {X : List Nat} {h H g : List AObj} (a : SameX X h H) : SameX X h (H ++ g) :=
 ⟨by have := a.1; simp; omega,fun i hi hx => by rw [List.getElem?_append_left (Nat.lt_of_lt_of_le hi a.1),a.2 i hi hx]⟩
theorem SameX.set {X : List Nat} {h H : List AObj} {i : Nat} {o : AObj} (a : SameX X h H) (hi : i ∈ X ∨ h.length ≤ i) : SameX X h (H.set i o) :=
 ⟨by have := a.1; simp; omega,fun j hj hx => by
  rw [List.getElem?_set,if_neg,a.2 j hj hx]
  rintro rfl
  rcases hi with hi | hi
  ·exact hx hi
  ·omega⟩
theorem SameX.get {X : List Nat} {h H : List AObj} {i : Nat} {o : AObj} (a : SameX X h H) (hx : h[i]? = some o) (hi : i ∉ X) : H[i]? = some o := by
 rw [a.2 i (List.getElem?_eq_some_iff.1 hx).1 hi,hx]
theorem SameX.pre {X : List Nat} {h0 g H : List AObj} (a : SameX X (h0 ++ g) H) (hX : ∀ x ∈ X,h0.length ≤ x) : ∃ g',H = h0 ++ g' := by
 refine ⟨H.drop h0.length,?_⟩
 have : H.take h0.length = h0 := by
  apply List.ext_getElem?
  intro i
  rw [List.getElem?_take]
  split
  ·rename_i hi
   rw [a.2 i (by simp; omega) (fun hx => by have := hX i hx; omega),List.getElem?_append_left hi]
  ·rename_i hi
   rw [List.getElem?_eq_none (by omega)]
 conv => lhs; rw [← List.take_append_drop h0.length H,this]
structure WorkIn (h0 H : List AObj) (b : Nat) (t : Tal) (cv nv : Value) (u : Int) (m : Value) : Prop where
 at_ : H[b]? = some (.cells (talCells t cv nv ++ [.int .u64 u,m]) true 0)
 pre : ∃ g,H = h0 ++ g
 ch : SliE h0 cv 2 Rng.cells t.changes
 co : SliE h0 nv 4 Cnt.cells t.counts
theorem WorkIn.work {h0 H : List AObj} {b : Nat} {t : Tal} {cv nv : Value} {u : Int} {m : Value} (w : WorkIn h0 H b t cv nv u m) : WorkAt H b t cv nv u m := by
 obtain ⟨a,⟨g,rfl⟩,c,d⟩ := w
 exact ⟨a,sliE_app c,sliE_app d⟩
theorem WorkIn.same {h0 h H : List AObj} {b : Nat} {t : Tal} {cv nv : Value} {u : Int} {m : Value} {X : List Nat} (w : WorkIn h0 h b t cv nv u m) (s : SameX X h H) (hX : ∀ x ∈ X,h0.length ≤ x) (hb : b ∉ X) : WorkIn h0 H b t cv nv u m := by
 obtain ⟨a,⟨g,rfl⟩,c,d⟩ := w
 exact ⟨s.get a hb,s.pre hX,c,d⟩
structure TalFine (t : Tal) : Prop where
 gates : 1 ≤ t.gates ∧ t.gates ≤ 5
 chl : (t.changes.length : Int) = t.gates - 1
 first : 0 ≤ t.first.lo ∧ t.first.lo ≤ t.first.hi ∧ t.first.hi ≤ 300
 ch : ∀ r ∈ t.changes,-60 ≤ r.lo ∧ r.lo ≤ r.hi ∧ r.hi ≤ 60
 most : 0 ≤ t.most ∧ t.most ≤ 60
 few : t.counts.length ≤ 7
 co : ∀ c ∈ t.counts,(0 ≤ c.gate ∧ c.gate < t.gates) ∧ (1 ≤ c.man ∧ c.man ≤ 9) ∧ (0 ≤ c.num ∧ c.num ≤ 300) ∧ (0 ≤ c.err ∧ c.err ≤ 20)
theorem firstE_all {l : List Int} (h : firstE l = 0) : ∀ e ∈ l,e = 0 := by
 induction l with
 | nil => simp
 | cons a l ih =>
  unfold firstE at h
  split at h
  ·omega
  ·rename_i ha
   intro e he
   rcases List.mem_cons.1 he with rfl | he
   ·omega
   ·exact ih h e he
theorem rngErr_zero {lo hi : Int} {r : Rng} (h : rngErr lo hi r = 0) : lo ≤ r.lo ∧ r.lo ≤ r.hi ∧ r.hi ≤ hi := by
 unfold rngErr at h
 split at h
 ·omega
 ·split at h
  ·omega
  ·omega
theorem cntErr_zero {c : Cnt} {g : Int} (h : cntErr c g = 0) : (0 ≤ c.gate ∧ c.gate < g) ∧ (1 ≤ c.man ∧ c.man ≤ 9) ∧ (0 ≤ c.num ∧ c.num ≤ 300) ∧ (0 ≤ c.err ∧ c.err ≤ 20) := by
 unfold cntErr at h
 split at h
 ·omega
 ·split at h
  ·omega
  ·omega
theorem talErr_fine {t : Tal} (h : talErr t = 0) : TalFine t := by
 unfold talErr at h
 split at h
 ·omega
 split at h
 ·contradiction
 split at h
 ·omega
 split at h
 ·omega
 split at h
 ·contradiction
 split at h
 ·omega
 split at h
 ·omega
 rename_i h1 h2 h3 h4 h5 h6 h7
 have h2' := rngErr_zero (by omega : rngErr 0 300 t.first = 0)
 refine ⟨by omega,by omega,h2',fun r hr => rngErr_zero (firstE_all (by omega : firstE (t.changes.map (rngErr (-60) 60)) = 0) _ (List.mem_map.2 ⟨r,hr,rfl⟩)),by omega,by omega,fun c hc => ?_⟩
 exact cntErr_zero (firstE_all h _ (List.mem_map.2 ⟨c,hc,rfl⟩))
theorem TalFine.cosm {t : Tal} (h : TalFine t) : CoSm t.counts := ⟨by have := h.few; omega,fun c hc => by
 obtain ⟨a,b,d,e⟩ := h.co c hc
 have := h.gates
 exact ⟨by omega,d,e⟩⟩
def fwd (t : Tal) (L : Nat → Rng) : Nat → Rng
 | 0 => t.first.meet (L 0)
 | g + 1 => ((fwd t L g).plus (stretchR t g)).meet (L (g + 1))
theorem Rng.sm_meet {a b : Rng} {B : Int} (h1 : a.sm B) (h2 : b.sm B) : (a.meet b).sm B := by
 obtain ⟨⟨_,_⟩,_,_⟩ := h1
 obtain ⟨⟨_,_⟩,_,_⟩ := h2
 unfold Rng.meet Rng.sm
 dsimp only
 omega
theorem Rng.sm_plus {a b : Rng} {B C : Int} (h1 : a.sm B) (h2 : b.sm C) : (a.plus b).sm (B + C) := by
 obtain ⟨⟨_,_⟩,_,_⟩ := h1
 obtain ⟨⟨_,_⟩,_,_⟩ := h2
 unfold Rng.plus Rng.sm
 dsimp only
 omega
theorem Rng.sm_le {a : Rng} {B C : Int} (h1 : a.sm B) (h : B ≤ C) : a.sm C := by
 obtain ⟨⟨_,_⟩,_,_⟩ := h1
 unfold Rng.sm
 omega
theorem Rng.sm_turn {a : Rng} {B : Int} (h1 : a.sm B) : a.turn.sm B := by
 obtain ⟨⟨_,_⟩,_,_⟩ := h1
 unfold Rng.turn Rng.sm
 dsimp only
 omega
theorem stretch_sm {t : Tal} (h : TalFine t) (g : Nat) : (stretchR t g).sm 1000 := by
 have h1 := h.most
 unfold stretchR
 cases e : t.changes[g]? with
 | none =>
  unfold Rng.plus Rng.sm
  dsimp only [Option.getD]
  omega
 | some r =>
  have := h.ch r (List.mem_of_getElem? e)
  unfold Rng.plus Rng.sm
  dsimp only [Option.getD]
  omega
theorem fwd_sm {t : Tal} (h : TalFine t) {L : Nat → Rng} (hL : ∀ g,(L g).sm 1000) : ∀ g : Nat,(fwd t L g).sm (1000 + 1000 * g)
 | 0 => by
  have := h.first
  exact Rng.sm_le (B := 1000) (Rng.sm_meet ⟨by omega,by omega⟩ (hL 0)) (by omega)
 | g + 1 => by
  refine Rng.sm_meet ?_ (Rng.sm_le (hL (g + 1)) (by omega))
  exact Rng.sm_le (Rng.sm_plus (fwd_sm h hL g) (stretch_sm h g)) (by omega)
theorem rd_sm {c : Cnt} (h1 : 0 ≤ c.num ∧ c.num ≤ 300) (h2 : 0 ≤ c.err ∧ c.err ≤ 20) : (rd c).sm 1000 := by
 obtain ⟨a,b,d,e⟩ := rd_facts h1 h2
 unfold rd Rng.sm
 dsimp only
 omega
theorem limN_sm {u : Int} {cs : List Cnt} (hc : ∀ c ∈ cs,(0 ≤ c.num ∧ c.num ≤ 300) ∧ (0 ≤ c.err ∧ c.err ≤ 20)) : ∀ i g : Nat,(limN u cs i g).sm 1000
 | 0,g => by
  show Rng.sm ⟨0,600⟩ 1000
  unfold Rng.sm
  dsimp only
  omega
 | i + 1,g => by
  have ih := limN_sm (u := u) hc i
  show Rng.sm ((match cs[i]? with
   | some c => bif keepB u i then updR (limN u cs i) c.gate.toNat ((limN u cs i c.gate.toNat).meet (rd c)) else limN u cs i
   | none => limN u cs i) g) 1000
  cases e : cs[i]? with
  | none => exact ih g
  | some c =>
   have := hc c (List.mem_of_getElem? e)
   cases keepB u i with
   | false => exact ih g
   | true =>
    show Rng.sm (updR _ _ _ g) 1000
    unfold updR
    split
    ·exact Rng.sm_meet (ih _) (rd_sm this.1 this.2)
    ·exact ih g
section
variable {main : Bool} {J : JT} {h h0 : List AObj} {K : Value → List AObj → Prop}
theorem tail111 (hJ : Closed prog main J) {p b2 i : Nat} {H : List AObj} {nw : Rng} {L : Nat → Rng} {Y : Value} {sz : Nat} {wr : Bool} (hp : H[p]? = some (.cells nw.cells true 0)) (hb2 : H[b2]? = some (.cells (limCells L) wr sz)) (hi : i < 5)
  {Kc : Value → Value → Value → Value → Value → Value → List AObj → Prop}
  (hk : callV prog (Good prog J) Y [vint i,(nw.meet (L i)).val] (H.set p (.cells (nw.meet (L i)).cells true 0)) (Kc nw.val (ptr b2 (0 + i * 2)) (L i).val (nw.meet (L i)).val (nw.meet (L i)).val)) :
  aLoad true 2 (ptr p 0) H fun v11 => aIdxA 5 2 (ptr b2 0) (vint i) fun v12 => aLoad true 2 v12 H fun v13 => Good prog J 40 [v11,v13] H fun v14 h15 => aStore 2 (ptr p 0) v14 h15 fun h16 => aLoad true 2 (ptr p 0) h16 fun v17 => callV prog (Good prog J) Y [vint i,v17] h16 (Kc v11 v12 v13 v14 v17) := by
 refine load_part hp (by simp [Rng.cells]) rfl rfl (idxAI ⟨by omega,by omega⟩ ?_)
 rw [Int.toNat_natCast]
 refine load_part hb2 (by rw [lim_len]; omega) (lim_get L i hi) rfl ?_
 refine good40 hJ (r := nw) (q := L i) ?_
 refine store_agg hp rfl rfl rfl ?_
 exact load_part (c := (nw.meet (L i)).cells) (List.getElem?_set_self (List.getElem?_eq_some_iff.1 hp).1) (by simp [Rng.cells]) rfl rfl hk
theorem good51 (hJ : Closed prog main J) {Y : Value} {b1 b2 bw : Nat} {X : List Nat} {I Stop : Nat → List AObj → Prop} {t : Tal} {L : Nat → Rng} {cv nv : Value} {u : Int} {m : Value} {wr1 wr2 : Bool} {s1 s2 : Nat}
  (w : WorkIn h0 h bw t cv nv u m) (fine : TalFine t) (hL : ∀ g,(L g).sm 1000) (hX : ∀ x ∈ X,h0.length ≤ x ∧ x < h.length) (hb1 : h[b1]? = some (.cells [ptr bw 0] wr1 s1)) (hb2 : h[b2]? = some (.cells (limCells L) wr2 s2)) (n1 : b1 ∉ X) (n2 : b2 ∉ X) (n3 : bw ∉ X)
  (stable : ∀ g H H',(∀ x ∈ X,H'[x]? = H[x]?) → I g H → I g H') (hI : I 0 h)
  (call : ∀ (g : Nat) H (Q : Value → List AObj → Prop),(g : Int) < t.gates → SameX X h H → I g H → (∀ H',SameX X H H' → I (g + 1) H' → Q (.bool true) H') → (∀ H',SameX X H H' → Stop g H' → Q (.bool false) H') → callV prog (Good prog J) Y [vint g,(fwd t L g).val] H Q)
  (fin : ∀ H,SameX X h H → I t.gates.toNat H → K (pack []) H) (stop : ∀ (g : Nat) H,(g : Int) < t.gates → SameX X h H → Stop g H → K (pack []) H) : Good prog J 51 [Y,ptr b1 0,ptr b2 0] h K := by
 refine g51 hJ fun ok => ?_
 rw [e51]
 have hX0 : ∀ x ∈ X,h0.length ≤ x := fun x hx => (hX x hx).1
 have hp : h.length ∉ X := fun hx => by have := (hX _ hx).2; omega
 have hg := fine.gates
 refine ldI hb1 rfl rfl (nilI (offI (offI (load_part (c := t.first.cells) w.at_ (by simp [talCells]) rfl rfl ?_))))
 unfold aAlloc
 refine store_agg (cs := [vint 0,vint 0]) (sz := 0) (by simp) rfl rfl rfl ?_
 rw [show ∀ (l : List AObj) (x y : AObj),(l ++ [x]).set l.length y = l ++ [y] from fun l x y => by simp]
 refine ldI (get_app hb1) rfl rfl (nilI (offI (offI (ldI (v := vint t.gates) (get_app w.at_) rfl rfl ?_))))
 refine l51_1 hJ (fun i : Nat => 5 - i) (fun i f H => ∃ nw,SameX X h H ∧ H[h.length]? = some (.cells (Rng.cells nw) true 0) ∧ (i = 0 → nw = t.first) ∧ (∀ j,i = j + 1 → nw = fwd t L j) ∧ I i H ∧ (i : Int) ≤ t.gates ∧
   f.ds = [] ∧ f.r 0 = Y ∧ f.r 1 = ptr b1 0 ∧ f.r 2 = ptr b2 0 ∧ f.r 4 = ptr h.length 0 ∧ f.r 15 = vint t.gates ∧ f.r 16 = vint (i : Nat)) ?_ (s := 0)
  (.inl ⟨t.first,SameX.refl.app,by simp,fun _ => rfl,fun j hj => (by omega),stable 0 h _ (fun x hx => List.getElem?_append_left (hX x hx).2) hI,by omega,rfl,rfl,rfl,rfl,rfl,rfl,rfl⟩)
 rintro i f H ⟨nw,S,hnow,z,sc,hIi,hi,hds,r0,r1,r2,r4,r15,r16⟩ ok' hn'
 rw [s51_1]
 simp only [r0,r1,r2,r4,r15,r16,hds]
 -- the end of a round
 have post : ∀ (nw' : Rng) (H1 : List AObj) (Q : Value → List AObj → Prop),(i : Int) < t.gates → SameX X h H1 → H1[h.length]? = some (.cells nw'.cells true 0) → I i H1 → nw'.meet (L i) = fwd t L i →
   (∀ H',SameX X h H' → H'[h.length]? = some (.cells (fwd t L i).cells true 0) → I (i + 1) H' → Q (.bool true) H') → (∀ H',SameX X h H' → Stop i H' → Q (.bool false) H') →
   callV prog (Good prog J) Y [vint i,(nw'.meet (L i)).val] (H1.set h.length (.cells (nw'.meet (L i)).cells true 0)) Q := by
  intro nw' H1 Q hlt S1 hn1 hI1 hm hq1 hq2
  have S2 : SameX X h (H1.set h.length (.cells (nw'.meet (L i)).cells true 0)) := S1.set (.inr (Nat.le_refl _))
  have hlen : h.length < H1.length := (List.getElem?_eq_some_iff.1 hn1).1
  rw [hm] at S2 ⊢
  refine call i _ Q hlt S2 (stable i H1 _ (fun x hx => ?_) hI1) (fun H' S' hI' => hq1 H' (S2.trans S') ?_ hI') (fun H' S' hs => hq2 H' (S2.trans S') hs)
  ·rw [List.getElem?_set,if_neg]
   have := (hX x hx).2
   omega
  ·rw [S'.2 h.length (by simpa using hlen) hp]
   exact List.getElem?_set_self hlen
 refine lssI (cndI (fun hlt => gtrI (cndI (fun hpos => ?_) fun h0' => ?_)) fun hge => ?_)
 ·obtain ⟨j,rfl⟩ : ∃ j,i = j + 1 := ⟨i - 1,by omega⟩
  have enw := sc j rfl
  subst enw
  have wH := w.same S hX0 n3
  have hch := fine.chl
  have hj : j < t.changes.length := by omega
  refine ⟨[h.length,b1],load_part (c := (fwd t L j).cells) hnow (by simp [Rng.cells]) rfl rfl ⟨by simp [RdOk,ptrBlk,ptr],ldI (S.get hb1 n1) rfl rfl ⟨by simp [RdOk,ptrBlk,ptr],subI (by omega) ?_⟩⟩⟩
  rw [show ((j + 1 : Nat) : Int) - 1 = (j : Nat) from by omega]
  refine good42 hJ wH.work hj ?_ (by have := fine.most; omega) ⟨fun _ _ => rfl,?_⟩
  ·have := fine.ch _ (List.getElem_mem hj)
   unfold Rng.sm
   omega
  refine good41 hJ (r := fwd t L j) (q := stretchR t j) (Rng.sm_le (fwd_sm fine hL j) (by omega)) (Rng.sm_le (stretch_sm fine j) (by omega)) ⟨fun _ _ => rfl,?_⟩
  refine store_agg hnow rfl rfl rfl ?_
  have hlen : h.length < H.length := (List.getElem?_eq_some_iff.1 hnow).1
  have S1 : SameX X h (H.set h.length (.cells ((fwd t L j).plus (stretchR t j)).cells true 0)) := S.set (.inr (Nat.le_refl _))
  have hn1 : (H.set h.length (.cells ((fwd t L j).plus (stretchR t j)).cells true 0))[h.length]? = some (.cells ((fwd t L j).plus (stretchR t j)).cells true 0) := List.getElem?_set_self hlen
  refine tail111 hJ (nw := (fwd t L j).plus (stretchR t j)) hn1 (S1.get hb2 n2) (by omega) ?_
  refine post _ _ _ hlt S1 hn1 (stable _ H _ (fun x hx => ?_) hIi) rfl (fun H' S' hn' hI' => notI (cnd_false.2 (addI (by omega) ?_))) (fun H' S' hs => notI (cnd_true.2 (retL_same (by simp) (stop _ H' hlt S' hs))))
  ·rw [List.getElem?_set,if_neg]
   have := (hX x hx).2
   omega
  ·exact ⟨j + 1 + 1,by dsimp only; omega,.inl ⟨_,S',hn',fun e => (by omega),fun q hq => (by cases hq; rfl),hI',by omega,hds,r0,r1,r2,r4,r15,rfl⟩⟩
 ·have hi0 : i = 0 := by omega
  subst hi0
  have enw := z rfl
  subst enw
  refine tail111 hJ (nw := t.first) hnow (S.get hb2 n2) (by omega) ?_
  refine post _ _ _ hlt S hnow hIi rfl (fun H' S' hn' hI' => notI (cnd_false.2 (addI (by omega) ?_))) (fun H' S' hs => notI (cnd_true.2 (retL_same (by simp) (stop _ H' hlt S' hs))))
  exact ⟨0 + 1,by dsimp only; omega,.inl ⟨_,S',hn',fun e => (by omega),fun q hq => (by cases hq; rfl),hI',by omega,hds,r0,r1,r2,r4,r15,rfl⟩⟩
 ·have : i = t.gates.toNat := by omega
  subst this
  exact retL_same (by simp) (fin H S hIi)
end
def TruthIs (t : Tal) (L : Nat → Rng) : Prop := ∀ g : Nat,(g : Int) < t.gates → (fwd t L g).lo ≤ (fwd t L g).hi
noncomputable instance (t : Tal) (L : Nat → Rng) : Decidable (TruthIs t L) := Classical.propDecidable _
section
variable {main : Bool} {J : JT} {h h0 : List AObj} {K : Value → List AObj → Prop} {KV : Value → Prop} {HL : List AObj → Prop}
theorem lim_key (L : Nat → Rng) : kOk prog 10000 84 (.agg ⟨limCells L⟩) = true := by kernel_rfl
theorem look_none {b : Nat} {es : List (Value × Value)} {wr : Bool} {L : Nat → Rng} (hb : h[b]? = some (.map es wr)) (hf : mfind prog 84 (.agg ⟨limCells L⟩) es = some none) (hk : KV (.tuple ⟨[.bool false,.bool false]⟩)) : aLook prog 77 true (.map (some b)) (.agg ⟨limCells L⟩) h KV := by
 have e1 : prog.underlying 77 = some (.map 84 4) := by kernel_rfl
 have e2 : zv1 prog 4 = some (.bool false) := by kernel_rfl
 unfold aLook
 rw [e1]
 simp only
 rw [hb,e2]
 simp only
 rw [hf]
 exact ⟨lim_key L,hk⟩
theorem look_some {b : Nat} {es : List (Value × Value)} {wr : Bool} {L : Nat → Rng} {v : Value} (hb : h[b]? = some (.map es wr)) (hf : mfind prog 84 (.agg ⟨limCells L⟩) es = some (some v)) (hk : KV (.tuple ⟨[v,.bool true]⟩)) : aLook prog 77 true (.map (some b)) (.agg ⟨limCells L⟩) h KV := by
 have e1 : prog.underlying 77 = some (.map 84 4) := by kernel_rfl
 have e2 : zv1 prog 4 = some (.bool false) := by kernel_rfl
 unfold aLook
 rw [e1]
 simp only
 rw [hb,e2]
 simp only
 rw [hf]
 exact ⟨lim_key L,hk⟩
theorem upd_none {b : Nat} {es : List (Value × Value)} {L : Nat → Rng} {v : Value} (hb : h[b]? = some (.map es true)) (hf : mfind prog 84 (.agg ⟨limCells L⟩) es = some none) (hk : HL (h.set b (.map (es ++ [(.agg ⟨limCells L⟩,v)]) true))) : aUpd prog 77 (.map (some b)) (.agg ⟨limCells L⟩) v h HL := by
 have e1 : prog.underlying 77 = some (.map 84 4) := by kernel_rfl
 unfold aUpd
 rw [e1]
 simp only
 rw [hb]
 exact ⟨lim_key L,lim_ok L 0,hf,hk⟩
theorem retL_def {n0 n : Nat} {vs : List Value} (hd : h[n]? = some .deferred) (hv : ∀ v ∈ vs,v ≠ unk) (hk : K (pack vs) (h.set n .dead)) : retL n0 K [n] vs h := by
 have := retL_same (n0 := n0) (H := K) hv hk
 unfold retL at *
 exact ⟨hd,this⟩
theorem good37 (hJ : Closed prog main J) {b : Nat} {L : Nat → Rng} (hK : K (.func (.func 51) ⟨[]⟩ ⟨[ptr h.length 0,ptr (h.length + 1) 0]⟩) (h ++ [.cells [ptr b 0] true 0,.cells (limCells L) true 0])) : Good prog J 37 [ptr b 0,.agg ⟨limCells L⟩] h K := by
 refine g37 hJ fun ok => ?_
 rw [e37]
 refine box_one rfl rfl (box_agg rfl ?_)
 refine ⟨rfl,retL_same (by simp [unk]) ?_⟩
 simpa [pack] using hK
theorem WorkIn.setU {b : Nat} {t : Tal} {cv nv : Value} {u u' : Int} {m : Value} (w : WorkIn h0 h b t cv nv u m) (hb : h0.length ≤ b) : WorkIn h0 (h.set b (.cells (talCells t cv nv ++ [.int .u64 u',m]) true 0)) b t cv nv u' m := by
 obtain ⟨a,⟨g,rfl⟩,c,d⟩ := w
 refine ⟨List.getElem?_set_self (List.getElem?_eq_some_iff.1 a).1,?_,c,d⟩
 rw [List.set_append_right _ _ hb]
 exact ⟨_,rfl⟩
noncomputable abbrev lp27 (st : LoopState) (pend : Option Code) (r : Nat → Value) (d : Nat) : AObj := .loop st pend 27 r 43 #[31,32] (subC [1,0,1,1,1,1,1,0,1,0,0] (codeOf f27)) (subC [1,0,1,1,1,1,1,0,1,0,1] (codeOf f27)) d
theorem endQ_normal {n : Nat} {f : RG} {Q : QT} {v : Value} {st : LoopState} {fn : FuncId} {r : Nat → Value} {size : Nat} {params : Array Tmp} {assign body : Code} {dfr : Nat} (hl : h[n + 1]? = some (.loop st none fn r size params assign body dfr)) (hs : st ≠ .busy) (hq : Q .normal ⟨f.r,n :: f.ds⟩ (h.set (n + 1) .dead)) : endQ n f Q v h :=
 ⟨st,none,_,_,_,_,_,_,_,hl,hs,hq⟩
theorem endQ_exit {n id : Nat} {f : RG} {Q : QT} {v : Value} {st : LoopState} {fn : FuncId} {r : Nat → Value} {size : Nat} {params : Array Tmp} {assign body : Code} {dfr : Nat} (hl : h[n + 1]? = some (.loop st (some (.exit id)) fn r size params assign body dfr)) (hs : st ≠ .busy) (hq : Q (.exit id) ⟨f.r,n :: f.ds⟩ (h.set (n + 1) .dead)) : endQ n f Q v h :=
 ⟨st,some (.exit id),_,_,_,_,_,_,_,hl,hs,hq⟩
theorem app2_get1 {a b : AObj} : (h ++ [a,b])[h.length + 1]? = some b := by simp
theorem round74 (hJ : Closed prog main J) {H : List AObj} {l p2 d g : Nat} {r : Nat → Value} {s : Rng} {Q : Value → List AObj → Prop} (hl : H[l]? = some (lp27 .ready none r d))
  (r8 : r 8 = ptr p2 0) (hp : H[p2]? = some (.cells [.bool true] true 0)) (hne : p2 ≠ l)
  (h1 : ∀ H',SameX [l,p2] H H' → s.lo ≤ s.hi → H'[l]? = some (lp27 .ready none r d) → H'[p2]? = some (.cells [.bool true] true 0) → Q (.bool true) H')
  (h2 : ∀ H',SameX [l,p2] H H' → ¬ s.lo ≤ s.hi → H'[l]? = some (lp27 .done (some (.exit 0)) r d) → H'[p2]? = some (.cells [.bool false] true 0) → Q (.bool false) H') :
  callV prog (Good prog J) (.func (.yield l) ⟨[]⟩ ⟨[]⟩) [vint g,s.val] H Q := by
 show Good prog J (yid prog l) [vint g,s.val] H Q
 have hll : l < H.length := (List.getElem?_eq_some_iff.1 hl).1
 have hpl : p2 < H.length := (List.getElem?_eq_some_iff.1 hp).1
 refine good_round hJ hl rfl (by decide) fun ok => W_sound hJ mixed _ ?_
 rw [a27_1]
 unfold aAlloc
 refine store_agg (c := s.cells) (cs := [vint 0,vint 0]) (sz := 0) (by simp) rfl rfl rfl ?_
 rw [show ∀ (l : List AObj) (x y : AObj),(l ++ [x]).set l.length y = l ++ [y] from fun l x y => by simp]
 refine ⟨rfl,none,_,_,_,_,_,_,_,get_app hl,W_sound hJ mixed _ ?_⟩
 have hll' : l < (H ++ [AObj.cells s.cells true 0]).length := by simp; omega
 rw [b27_1]
 refine load_part (c := s.cells) (cs := s.cells) (wr := true) (sz := 0) (b := H.length) (get_set (by simp) (by omega)) (by simp [Rng.cells]) rfl rfl ?_
 refine good45 hJ (cndI (fun hgt => ?_) fun hle => ?_)
 ·have hp' : ((H ++ [AObj.cells s.cells true 0]).set l (lp27 .busy none r d))[p2]? = some (.cells [.bool true] true 0) := get_set (get_app hp) hne
  show aStore 1 (r 8) _ _ _
  rw [r8]
  refine store_cell hp' (by simp) rfl rfl ?_
  refine ⟨.busy,none,_,_,_,_,_,_,_,get_set (List.getElem?_set_self hll') (Ne.symm hne),.inl (h2 _ ?_ (by omega) (List.getElem?_set_self (by simpa using hll')) ?_)⟩
  ·exact ((SameX.refl.app.set (.inl (by simp))).set (.inl (by simp))).set (.inl (by simp))
  ·exact get_set (List.getElem?_set_self (by simp; omega)) hne
 ·refine ⟨.busy,none,_,_,_,_,_,_,_,List.getElem?_set_self hll',.inl (h1 _ ?_ (by omega) (List.getElem?_set_self (by simpa using hll')) ?_)⟩
  ·exact (SameX.refl.app.set (.inl (by simp))).set (.inl (by simp))
  ·exact get_set (get_set (get_app hp) hne) hne
theorem range74 (hJ : Closed prog main J) {n0 p1 p2 b1 b2 bw bm : Nat} {t : Tal} {L : Nat → Rng} {cv nv : Value} {u : Int} {es : List (Value × Value)} {f : RG} (w : WorkIn h0 h bw t cv nv u (.map (some bm))) (fine : TalFine t) (hL : ∀ g,(L g).sm 1000)
  (hm : h[bm]? = some (.map es true)) (hf : mfind prog 84 (.agg ⟨limCells L⟩) es = some none) (q1 : h[p1]? = some (.cells (limCells L) true 0)) (q2 : h[p2]? = some (.cells [.bool true] true 0)) (q3 : h[b1]? = some (.cells [ptr bw 0] true 0)) (q4 : h[b2]? = some (.cells (limCells L) true 0))
  (d1 : p1 ≠ p2) (d2 : p2 ≠ b1) (d3 : p2 ≠ b2) (d4 : p2 ≠ bw) (d5 : p2 ≠ bm) (hp2 : h0.length ≤ p2) (hbm : h0.length ≤ bm)
  (ds : f.ds = []) (r0 : f.r 0 = ptr bw 0) (r5 : f.r 5 = ptr p1 0) (r8 : f.r 8 = ptr p2 0) (r30 : f.r 30 = .func (.func 51) ⟨[]⟩ ⟨[ptr b1 0,ptr b2 0]⟩)
  (hK : ∀ H,SameX [p2,bm] h H → H[bm]? = some (.map (es ++ [(.agg ⟨limCells L⟩,.bool (decide (TruthIs t L)))]) true) → K (.bool (decide (TruthIs t L))) H) :
  Sem J 43 n0 27 (subC [1,0,1,1,1,1,1,0,1,0] (codeOf f27)) f h (contQ prog J 43 n0 27 [1,0,1,1,1,1,1,0,1,0] (codeOf f27) [] (RetQ prog [.tmp 4] n0 K)) := by
 have hlen : ∀ {i o},h[i]? = some o → i < h.length := fun hx => (List.getElem?_eq_some_iff.1 hx).1
 have l1 := hlen q1
 have l2 := hlen q2
 have l3 := hlen q3
 have l4 := hlen q4
 have lw := hlen w.at_
 have lm := hlen hm
 refine l27_1 hJ (first := []) (cap := [ptr b1 0,ptr b2 0]) r30 (by decide) ?_
 have hpre : h0.length ≤ h.length := by
  obtain ⟨g,rfl⟩ := w.pre
  simp
 have S0 : SameX [h.length + 1,p2] h (h ++ [AObj.deferred] ++ [lp27 .ready none f.r h.length]) := SameX.refl.app.app
 -- what is asked behind the loop
 have post : ∀ (H : List AObj) (b : Bool),b = decide (TruthIs t L) → SameX [h.length + 1,p2] (h ++ [AObj.deferred] ++ [lp27 .ready none f.r h.length]) H → H[p2]? = some (.cells [.bool b] true 0) →
   (aNil (f.r 0) fun v1 => aOff v1 7 fun v2 => aLoad false 1 v2 (H.set (h.length + 1) .dead) fun v3 => aLoad true 10 (f.r 5) (H.set (h.length + 1) .dead) fun v4 => aLoad false 1 (f.r 8) (H.set (h.length + 1) .dead) fun v5 =>
    ((VOk (H.set (h.length + 1) .dead).length v5 ∧ one v5 = true) ∧ aUpd prog 77 v3 v4 v5 (H.set (h.length + 1) .dead) fun h6 => aLoad false 1 (f.r 8) h6 fun v7 => retL n0 K [h.length] [v7] h6)) := by
  intro H b hb S hH
  have S1 := S0.trans S
  have hd : H[h.length]? = some .deferred := S.get (by simp) (by simp; omega)
  have S2 : SameX [h.length + 1,p2] h (H.set (h.length + 1) .dead) := S1.set (.inl (by simp))
  rw [r0,r5,r8]
  refine nilI (offI (ldI (v := .map (some bm)) (S2.get w.at_ (by simp; omega)) rfl rfl ?_))
  refine load_part (c := limCells L) (S2.get q1 (by simp; omega)) (by rw [lim_len]; omega) rfl rfl ?_
  have hH2 : (H.set (h.length + 1) AObj.dead)[p2]? = some (.cells [.bool b] true 0) := get_set hH (by omega)
  refine ldI hH2 rfl rfl ⟨⟨by simp [VOk],rfl⟩,upd_none (S2.get hm (by simp; omega)) hf ?_⟩
  refine ldI (v := .bool b) (get_set hH2 d5) rfl rfl (retL_def ?_ (by simp [unk]) ?_)
  ·exact get_set (get_set hd (by omega)) (by omega)
  have hml : bm < (H.set (h.length + 1) AObj.dead).length := by have := S2.1; omega
  rw [hb]
  refine hK _ ?_ ?_
  ·have : SameX [p2,bm] h (H.set (h.length + 1) .dead) := ⟨S2.1,fun i hi hx => S2.2 i hi (by simp at hx ⊢; omega)⟩
   exact (this.set (.inl (by simp))).set (.inr (Nat.le_refl _))
  ·exact get_set (List.getElem?_set_self hml) (by omega)
 have hIl : (h ++ [AObj.deferred] ++ [lp27 .ready none f.r h.length])[h.length + 1]? = some (lp27 .ready none f.r h.length) := by
  rw [List.append_assoc]
  exact app2_get1
 have hsl : (h ++ [AObj.deferred] ++ [lp27 .ready none f.r h.length]).length = h.length + 2 := by simp
 have fin : ∀ (H : List AObj) (b : Bool),b = decide (TruthIs t L) → SameX [h.length + 1,p2] (h ++ [AObj.deferred] ++ [lp27 .ready none f.r h.length]) H → H[p2]? = some (.cells [.bool b] true 0) → (H[h.length + 1]? = some (lp27 .ready none f.r h.length) ∨ H[h.length + 1]? = some (lp27 .done (some (.exit 0)) f.r h.length)) →
   endQ h.length f (contQ prog J 43 n0 27 [1,0,1,1,1,1,1,0,1,0] (codeOf f27) [] (RetQ prog [.tmp 4] n0 K)) (pack []) H := by
  intro H b hb S hH hl
  have := post H b hb S hH
  rcases hl with hl | hl
  ·refine endQ_normal hl (by simp) ?_
   rw [c27_1,ds]
   exact this
  ·refine endQ_exit hl (by simp) ?_
   rw [c27_1x0,ds]
   exact this
 have hX : ∀ x ∈ [h.length + 1,p2],h0.length ≤ x ∧ x < (h ++ [AObj.deferred] ++ [lp27 .ready none f.r h.length]).length := by
  rw [hsl]
  simp
  omega
 refine good51 hJ (h0 := h0) (X := [h.length + 1,p2]) (L := L) (t := t) (I := fun g H => H[h.length + 1]? = some (lp27 .ready none f.r h.length) ∧ H[p2]? = some (.cells [.bool true] true 0) ∧ ∀ j,j < g → (fwd t L j).lo ≤ (fwd t L j).hi)
  (Stop := fun g H => H[h.length + 1]? = some (lp27 .done (some (.exit 0)) f.r h.length) ∧ H[p2]? = some (.cells [.bool false] true 0) ∧ ¬ (fwd t L g).lo ≤ (fwd t L g).hi)
  (w.same S0 (fun x hx => (hX x hx).1) (by simp; omega)) fine hL hX (S0.get q3 (by simp; omega)) (S0.get q4 (by simp; omega)) (by simp; omega) (by simp; omega) (by simp; omega) (fun g H H' hx hI => ?_) ⟨hIl,get_app (get_app q2),by simp⟩ (fun g H Q hg S hI k1 k2 => ?_) (fun H S hI => ?_) (fun g H hg S hI => ?_)
 ·rw [hx _ (by simp),hx _ (by simp)]
  exact hI
 ·refine round74 hJ hI.1 r8 hI.2.1 (by omega) (fun H' S' hs a b => k1 H' S' ⟨a,b,fun j hj => ?_⟩) (fun H' S' hs a b => k2 H' S' ⟨a,b,hs⟩)
  rcases Nat.lt_or_ge j g with x | x
  ·exact hI.2.2 j x
  ·have : j = g := by omega
   subst this
   exact hs
 ·refine fin H true ?_ S hI.2.1 (.inl hI.1)
  rw [eq_comm,decide_eq_true_eq]
  intro g hg
  exact hI.2.2 g (by omega)
 ·refine fin H false ?_ S hI.2.1 (.inr hI.1)
  rw [eq_comm,decide_eq_false_iff_not]
  intro hT
  exact hI.2.2 (hT g hg)
theorem teq_span (a b c d : Int) : teq prog 9999 55 (.agg ⟨[vint a,vint b]⟩) (.agg ⟨[vint c,vint d]⟩) =
 (match some (a == c) with
 | some true => (match some (b == d) with
  | some true => some true
  | some false => some false
  | none => none)
 | some false => some false
 | none => none) := by kernel_rfl
theorem teq_lim (L L' : Nat → Rng) : teq prog 10000 84 (.agg ⟨limCells L⟩) (.agg ⟨limCells L'⟩) =
 (match teq prog 9999 55 (.agg ⟨(L 0).cells⟩) (.agg ⟨(L' 0).cells⟩) with
 | some true => (match teq prog 9999 55 (.agg ⟨(L 1).cells⟩) (.agg ⟨(L' 1).cells⟩) with
  | some true => (match teq prog 9999 55 (.agg ⟨(L 2).cells⟩) (.agg ⟨(L' 2).cells⟩) with
   | some true => (match teq prog 9999 55 (.agg ⟨(L 3).cells⟩) (.agg ⟨(L' 3).cells⟩) with
    | some true => (match teq prog 9999 55 (.agg ⟨(L 4).cells⟩) (.agg ⟨(L' 4).cells⟩) with
     | some true => some true
     | some false => some false
     | none => none)
    | some false => some false
    | none => none)
   | some false => some false
   | none => none)
  | some false => some false
  | none => none)
 | some false => some false
 | none => none) := by kernel_rfl
theorem teq_span2 (x y : Rng) : (teq prog 9999 55 (.agg ⟨x.cells⟩) (.agg ⟨y.cells⟩) = some true ∧ x = y) ∨ teq prog 9999 55 (.agg ⟨x.cells⟩) (.agg ⟨y.cells⟩) = some false := by
 obtain ⟨a,b⟩ := x
 obtain ⟨c,d⟩ := y
 unfold Rng.cells
 rw [teq_span]
 by_cases e1 : a = c
 ·by_cases e2 : b = d
  ·left
   simp [e1,e2]
  ·right
   rw [beq_eq_false_iff_ne.2 e2,beq_iff_eq.2 e1]
 ·right
  rw [beq_eq_false_iff_ne.2 e1]
theorem teq_lim2 (L L' : Nat → Rng) : (teq prog 10000 84 (.agg ⟨limCells L⟩) (.agg ⟨limCells L'⟩) = some true ∧ ∀ g,g < 5 → L g = L' g) ∨ teq prog 10000 84 (.agg ⟨limCells L⟩) (.agg ⟨limCells L'⟩) = some false := by
 rw [teq_lim]
 rcases teq_span2 (L 0) (L' 0) with ⟨h0,e0⟩ | h0
 ·rw [h0]
  rcases teq_span2 (L 1) (L' 1) with ⟨h1,e1⟩ | h1
  ·rw [h1]
   rcases teq_span2 (L 2) (L' 2) with ⟨h2,e2⟩ | h2
   ·rw [h2]
    rcases teq_span2 (L 3) (L' 3) with ⟨h3,e3⟩ | h3
    ·rw [h3]
     rcases teq_span2 (L 4) (L' 4) with ⟨h4,e4⟩ | h4
     ·rw [h4]
      left
      refine ⟨rfl,fun g hg => ?_⟩
      match g,hg with
      | 0,_ => exact e0
      | 1,_ => exact e1
      | 2,_ => exact e2
      | 3,_ => exact e3
      | 4,_ => exact e4
     ·rw [h4]; exact .inr rfl
    ·rw [h3]; exact .inr rfl
   ·rw [h2]; exact .inr rfl
  ·rw [h1]; exact .inr rfl
 ·rw [h0]; exact .inr rfl
theorem fwd_congr {t : Tal} {L L' : Nat → Rng} (h : ∀ g,g < 5 → L g = L' g) : ∀ g : Nat,g < 5 → fwd t L g = fwd t L' g
 | 0,_ => by
  unfold fwd
  rw [h 0 (by omega)]
 | g + 1,hg => by
  unfold fwd
  rw [fwd_congr h g (by omega),h (g + 1) hg]
theorem truthIs_congr {t : Tal} {L L' : Nat → Rng} (hg : t.gates ≤ 5) (h : ∀ g,g < 5 → L g = L' g) : TruthIs t L ↔ TruthIs t L' :=
 ⟨fun x g hl => by rw [← fwd_congr h g (by omega)]; exact x g hl,fun x g hl => by rw [fwd_congr h g (by omega)]; exact x g hl⟩
def MetOk (t : Tal) (es : List (Value × Value)) : Prop := ∀ L : Nat → Rng,mfind prog 84 (.agg ⟨limCells L⟩) es = some none ∨ mfind prog 84 (.agg ⟨limCells L⟩) es = some (some (.bool (decide (TruthIs t L))))
theorem metOk_nil {t : Tal} : MetOk t [] := fun _ => .inl rfl
theorem metOk_more {t : Tal} {es : List (Value × Value)} {L' : Nat → Rng} (hg : t.gates ≤ 5) (h : MetOk t es) : MetOk t (es ++ [(.agg ⟨limCells L'⟩,.bool (decide (TruthIs t L')))]) := by
 intro L
 have key : ∀ es : List (Value × Value),(mfind prog 84 (.agg ⟨limCells L⟩) es = some none ∨ mfind prog 84 (.agg ⟨limCells L⟩) es = some (some (.bool (decide (TruthIs t L))))) →
   mfind prog 84 (.agg ⟨limCells L⟩) (es ++ [(.agg ⟨limCells L'⟩,.bool (decide (TruthIs t L')))]) = some none ∨ mfind prog 84 (.agg ⟨limCells L⟩) (es ++ [(.agg ⟨limCells L'⟩,.bool (decide (TruthIs t L')))]) = some (some (.bool (decide (TruthIs t L)))) := by
  intro es
  induction es with
  | nil =>
   intro _
   simp only [List.nil_append,mfind]
   rcases teq_lim2 L L' with ⟨e,hl⟩ | e
   ·rw [e]
    right
    have := truthIs_congr (t := t) hg hl
    simp [this]
   ·rw [e]
    exact .inl rfl
  | cons x es ih =>
   obtain ⟨a,v⟩ := x
   simp only [List.cons_append,mfind]
   cases teq prog 10000 84 (.agg ⟨limCells L⟩) a with
   | none => intro h; rcases h with h | h <;> cases h
   | some b => cases b with
    | true => exact fun h => h
    | false => exact ih
 exact key es (h L)
theorem good27 (hJ : Closed prog main J) {bw bm : Nat} {t : Tal} {cv nv : Value} {u u' : Int} (w : WorkIn h0 h bw t cv nv u (.map (some bm))) (hbw : h0.length ≤ bw) (hbm : h0.length ≤ bm) (hne : bw ≠ bm) (fine : TalFine t) {es : List (Value × Value)} (hm : h[bm]? = some (.map es true)) (met : MetOk t es)
  (hK : ∀ H es',SameX [bw,bm] h H → WorkIn h0 H bw t cv nv u' (.map (some bm)) → H[bm]? = some (.map es' true) → MetOk t es' → K (.bool (decide (TruthIs t (limN u' t.counts t.counts.length)))) H) :
  Good prog J 27 [ptr bw 0,.int .u64 u'] h K := by
 refine g27 hJ fun ok => ?_
 rw [e27]
 have hlw : bw < h.length := (List.getElem?_eq_some_iff.1 w.at_).1
 have hlm : bm < h.length := (List.getElem?_eq_some_iff.1 hm).1
 refine nilI (offI (store_cell (c := talCells t cv nv ++ [.int .u64 u,.map (some bm)]) w.at_ (by simp [talCells]) rfl rfl ?_))
 have w1 := w.setU (u' := u') hbw
 have hm1 : (h.set bw (.cells (talCells t cv nv ++ [.int .u64 u',.map (some bm)]) true 0))[bm]? = some (.map es true) := get_set hm (Ne.symm hne)
 have S1 : SameX [bw,bm] h (h.set bw (.cells (talCells t cv nv ++ [.int .u64 u',.map (some bm)]) true 0)) := SameX.refl.set (.inl (by simp))
 change Good prog J 38 [ptr bw 0] (h.set bw (.cells (talCells t cv nv ++ [.int .u64 u',.map (some bm)]) true 0)) _
 have hlen1 : (h.set bw (.cells (talCells t cv nv ++ [.int .u64 u',.map (some bm)]) true 0)).length = h.length := by simp
 generalize h.set bw (.cells (talCells t cv nv ++ [.int .u64 u',.map (some bm)]) true 0) = h1 at *
 refine good38 hJ w1.work fine.cosm ?_
 have hL : ∀ g,(limN u' t.counts t.counts.length g).sm 1000 := limN_sm (fun c hc => (fine.cosm.2 c hc).2) _
 generalize limN u' t.counts t.counts.length = L at *
 unfold aAlloc
 refine store_agg (cs := [vint 0,vint 0,vint 0,vint 0,vint 0,vint 0,vint 0,vint 0,vint 0,vint 0]) (sz := 0) (by simp) rfl rfl rfl ?_
 rw [show ∀ (l : List AObj) (x y : AObj),(l ++ [x]).set l.length y = l ++ [y] from fun l x y => by simp]
 refine nilI (offI (ldI (v := .map (some bm)) (get_app w1.at_) rfl rfl ?_))
 refine load_part (c := limCells L) (cs := limCells L) (wr := true) (sz := 0) (by simp) (by rw [lim_len]; omega) rfl rfl ?_
 rcases met L with hf | hf
 rotate_left
 ·refine look_some (get_app hm1) hf (ext0 (ext1 (cnd_true.2 (retL_same (by simp [unk]) ?_))))
  refine hK _ es S1.app (w1.same (X := []) SameX.refl.app (by simp) (by simp)) (get_app hm1) met
 refine look_none (get_app hm1) hf (ext0 (ext1 (cnd_false.2 ?_)))
 refine store_cell (c := [.bool false]) (sz := 0) (by simp) (by simp) rfl rfl ?_
 rw [show [Value.bool false].set 0 (Value.bool true) = [Value.bool true] from rfl]
 rw [show ∀ (l : List AObj) (x y : AObj),(l ++ [x]).set l.length y = l ++ [y] from fun l x y => by simp]
 refine load_part (c := limCells L) (cs := limCells L) (wr := true) (sz := 0) (by simp) (by rw [lim_len]; omega) rfl rfl ?_
 refine good37 hJ ?_
 have hl0 : h0.length ≤ h1.length := by
  obtain ⟨g,rfl⟩ := w1.pre
  simp
 have E : h1 ++ [AObj.cells (limCells L) true 0] ++ [AObj.cells [Value.bool true] true 0] ++ [AObj.cells [ptr bw 0] true 0,AObj.cells (limCells L) true 0] = h1 ++ [.cells (limCells L) true 0,.cells [.bool true] true 0,.cells [ptr bw 0] true 0,.cells (limCells L) true 0] := by simp
 have w2 := w1.same (X := []) (SameX.refl.app (g := [.cells (limCells L) true 0,.cells [.bool true] true 0,.cells [ptr bw 0] true 0,.cells (limCells L) true 0])) (by simp) (by simp)
 have S2 : SameX [bw,bm] h (h1 ++ [.cells (limCells L) true 0,.cells [.bool true] true 0,.cells [ptr bw 0] true 0,.cells (limCells L) true 0]) := S1.app
 rw [E]
 have e1 : (h1 ++ [AObj.cells (limCells L) true 0]).length = h1.length + 1 := by simp
 have e2 : (h1 ++ [AObj.cells (limCells L) true 0] ++ [AObj.cells [Value.bool true] true 0]).length = h1.length + 2 := by simp
 rw [e1,e2]
 refine range74 hJ (p1 := h1.length + 0) (p2 := h1.length + 1) (b1 := h1.length + 2) (b2 := h1.length + 3) w2 fine hL (get_app hm1) hf (by rw [back_get]; rfl) (by rw [back_get]; rfl) (by rw [back_get]; rfl) (by rw [back_get]; rfl) (by omega) (by omega) (by omega) (by omega) (by omega) (by omega) hbm rfl rfl rfl rfl rfl ?_
 intro H S hH
 have S3 : SameX [bw,bm] h H := by
  refine ⟨by have := S2.1; have := S.1; omega,fun i hi hx => ?_⟩
  simp at hx
  rw [S.2 i (by simp; omega) (by simp; omega),S2.2 i hi (by simp; omega)]
 exact hK H _ S3 (w2.same S (by simp; omega) (by simp; omega)) hH (metOk_more fine.gates.2 met)
end
def OwnX (H : List AObj) (s : Nat) (cs : List Value) (len : Nat) (v : Value) (o : Option Nat) : Prop :=
 cs.length = len * s ∧ kn cs = true ∧ ((len = 0 ∧ v = .slice none 0 0 ∧ o = none) ∨ ∃ i c sz,o = some i ∧ v = .slice (some ⟨i,0,none⟩) len c ∧ H[i]? = some (.cells cs true sz) ∧ ((c = fz ∧ sz = s) ∨ c = len))
section
variable {h H : List AObj} {K : Value → List AObj → Prop} {KV : Value → Prop} {HL : List AObj → Prop} {n0 : Nat}
theorem SameX.weak {X Y : List Nat} {h H : List AObj} (a : SameX X h H) (hxy : ∀ x ∈ X,x ∈ Y) : SameX Y h H := ⟨a.1,fun i hi hx => a.2 i hi fun hm => hx (hxy i hm)⟩
theorem SameX.weak0 {Y : List Nat} {h H : List AObj} (a : SameX [] h H) : SameX Y h H := a.weak (by simp)
theorem SameX.thru {X Y : List Nat} {h H H' : List AObj} (a : SameX X h H) (b : SameX Y H H') (hy : ∀ y ∈ Y,y ∈ X ∨ h.length ≤ y) : SameX X h H' :=
 ⟨Nat.le_trans a.1 b.1,fun i hi hx => by
  rw [b.2 i (Nat.lt_of_lt_of_le hi a.1) fun hm => ?_,a.2 i hi hx]
  rcases hy i hm with h1 | h1
  ·exact hx h1
  ·omega⟩
theorem SameX.app0 {X : List Nat} {h H : List AObj} (a : SameX X h H) (hX : ∀ x ∈ X,h.length ≤ x) : ∃ g,H = h ++ g := by
 have := SameX.pre (h0 := h) (g := []) (X := X) (H := H) (by simpa using a) hX
 exact this
theorem lt_of_get {i : Nat} {o : AObj} (hx : H[i]? = some o) : i < H.length := (List.getElem?_eq_some_iff.1 hx).1
theorem SameX.sli {X : List Nat} {v : Value} {s n : Nat} {cs : List Value} (a : SameX X h H) (hs : Sli h v s n cs) (hX : ∀ x ∈ X,h.length ≤ x) : Sli H v s n cs := by
 obtain ⟨g,rfl⟩ := a.app0 hX
 exact sli_app hs
theorem qAl {l : List Value} (hk : ∀ H' p,p = H.length → SameX [] H H' → H'[p]? = some (.cells l true 0) → H'.length = p + 1 → K (ptr p 0) H') : aAlloc l H K :=
 hk _ _ rfl SameX.refl.app (by simp) (by simp)
theorem qBox {l : List Value} (h1 : l.all one = true) (hk : ∀ H' p,p = H.length → SameX [] H H' → H'[p]? = some (.cells l true 0) → H'.length = p + 1 → K (ptr p 0) H') : aBox (.agg ⟨l⟩) H K :=
 box_agg h1 (hk _ _ rfl SameX.refl.app (by simp) (by simp))
theorem qBox1 {v : Value} (hc : v.cells = #[v]) (h1 : one v = true) (hk : ∀ H' p,p = H.length → SameX [] H H' → H'[p]? = some (.cells [v] true 0) → H'.length = p + 1 → K (ptr p 0) H') : aBox v H K :=
 box_one hc h1 (hk _ _ rfl SameX.refl.app (by simp) (by simp))
theorem qNew {n : Nat} {l : List Value} (hk : ∀ H' p,p = H.length → SameX [] H H' → H'[p]? = some (.cells l true 0) → H'.length = p + 1 → K (.slice (some ⟨p,0,none⟩) n n) H') : aNewS n l H K :=
 hk _ _ rfl SameX.refl.app (by simp) (by simp)
theorem qNewM (hk : ∀ H' p,p = H.length → SameX [] H H' → H'[p]? = some (.map [] true) → H'.length = p + 1 → K (.map (some p)) H') : aNewM H K :=
 hk _ _ rfl SameX.refl.app (by simp) (by simp)
theorem qMk {z : List Value} {n : Nat} (hn : n ≤ 100000) (hk : ∀ H' p,p = H.length → SameX [] H H' → H'[p]? = some (.cells (zrep z n) true 0) → H'.length = p + 1 → K (.slice (some ⟨p,0,none⟩) n n) H') : aMkS z (vint n) (vint n) H K := by
 have hr : room = 1073741824 := rfl
 simp only [aMkS,Int.toNat_natCast]
 exact ⟨by omega,by omega,by omega,hk _ _ rfl SameX.refl.app (by simp) (by simp)⟩
theorem qSt {b o : Nat} {c : List Value} {sz : Nat} {v : Value} (hb : H[b]? = some (.cells c true sz)) (ho : o < c.length) (h1 : v.cells = #[v]) (h2 : one v = true) (hk : ∀ H',SameX [b] H H' → H'[b]? = some (.cells (c.set o v) true sz) → H'.length = H.length → HL H') : aStore 1 (ptr b o) v H HL :=
 store_cell hb ho h1 h2 (hk _ (SameX.refl.set (.inl (by simp))) (List.getElem?_set_self (lt_of_get hb)) (by simp))
theorem qStA {b n : Nat} {cs c : List Value} {sz : Nat} (hb : H[b]? = some (.cells cs true sz)) (hl : c.length = n) (hs : cs.length = n) (h1 : c.all one = true) (hk : ∀ H',SameX [b] H H' → H'[b]? = some (.cells c true sz) → H'.length = H.length → HL H') : aStore n (ptr b 0) (.agg ⟨c⟩) H HL :=
 store_agg hb hl hs h1 (hk _ (SameX.refl.set (.inl (by simp))) (List.getElem?_set_self (lt_of_get hb)) (by simp))
theorem qSt2 {b o : Nat} {c : List Value} {sz : Nat} {x y : Value} (hb : H[b]? = some (.cells c true sz)) (ho : o + 2 ≤ c.length) (h1 : one x = true) (h2 : one y = true) (hk : ∀ H',SameX [b] H H' → H'[b]? = some (.cells ((c.set o x).set (o + 1) y) true sz) → H'.length = H.length → HL H') : aStore 2 (ptr b o) (.agg ⟨[x,y]⟩) H HL := by
 have := bSt2 (A := []) (g := H) (i := b) (o := o) (c := c) (sz := sz) (x := x) (y := y) (HL := HL) hb ho h1 h2 (hk _ (SameX.refl.set (.inl (by simp))) (List.getElem?_set_self (lt_of_get hb)) (by simp))
 simpa using this
theorem ownX_iff {s len : Nat} {cs : List Value} {v : Value} {o : Option Nat} : OwnX H s cs len v o ↔ OwnE 0 H s cs len v o := by
 simp [OwnX,OwnE]
theorem ownX_nil {s : Nat} : OwnX H s [] 0 (.slice none 0 0) none := ⟨by simp,rfl,.inl ⟨rfl,rfl,rfl⟩⟩
theorem ownX_keep {s len : Nat} {cs : List Value} {v : Value} {o : Option Nat} {H' : List AObj} {X : List Nat} (ho : OwnX H s cs len v o) (a : SameX X H H') (hX : ∀ i,o = some i → i ∉ X) : OwnX H' s cs len v o := by
 obtain ⟨h1,h2,h3 | ⟨i,c,sz,rfl,h4,h5,h6⟩⟩ := ho
 ·exact ⟨h1,h2,.inl h3⟩
 ·exact ⟨h1,h2,.inr ⟨i,c,sz,rfl,h4,a.get h5 (hX i rfl),h6⟩⟩
theorem ownX_sli {s len : Nat} {cs : List Value} {v : Value} {o : Option Nat} (ho : OwnX H s cs len v o) : Sli H v s len cs := by
 have := ownE_sli (A := []) (ownX_iff.1 ho)
 exact this
theorem ownX_val {s len : Nat} {cs : List Value} {v : Value} {o : Option Nat} (ho : OwnX H s cs len v o) : v.cells = #[v] ∧ one v = true ∧ kn1 v = true := ownE_val (ownX_iff.1 ho)
theorem ownX_lt {s len : Nat} {cs : List Value} {v : Value} {o : Option Nat} (ho : OwnX H s cs len v o) : ∀ i,o = some i → i < H.length := fun _ hi => ownE_lt (ownX_iff.1 ho) hi
theorem ownX_new {s n p : Nat} {l : List Value} (hp : H[p]? = some (.cells l true 0)) (hl : l.length = n * s) (hk : kn l = true) : OwnX H s l n (.slice (some ⟨p,0,none⟩) n n) (some p) :=
 ⟨hl,hk,.inr ⟨p,n,0,rfl,rfl,hp,.inr rfl⟩⟩
theorem ownX_more {s len : Nat} {cs e : List Value} {v y : Value} {o : Option Nat} (ho : OwnX H s cs len v o) (hs : 0 < s) (hl : len < 1000) (hy : Sli H y s 1 e)
  (hk : ∀ v' H' p,p = H.length → OwnX H' s (cs ++ e) (len + 1) v' (some p) → SameX o.toList H H' → K v' H') : aApp s v y H K := by
 have hlo := ownX_lt ho
 refine ownE_more (A := []) (g := H) (ownX_iff.1 ho) hs hl hy fun v' g' ho' hkeep => hk v' ([] ++ g') _ rfl (ownX_iff.2 ho') ⟨?_,fun i hi hx => ?_⟩
 ·have := ownE_lt ho' rfl
  simp only [List.nil_append]
  omega
 ·have hx' : o ≠ some i := fun e => hx (by rw [e]; simp)
  obtain ⟨x,hxx⟩ : ∃ x,H[i]? = some x := ⟨H[i],List.getElem?_eq_getElem hi⟩
  rw [hxx]
  exact hkeep i x hx' hxx
theorem retX {X : List Nat} {vs : List Value} (ok : heapOk h) (hn : n0 ≤ h.length) (S : SameX X h H) (hX : ∀ x ∈ X,h.length ≤ x) (hv : ∀ v ∈ vs,v ≠ unk) (hw : VOk h.length (pack vs)) (hk : K (pack vs) h) : retL n0 K [] vs H := by
 obtain ⟨g,rfl⟩ := S.app0 hX
 exact retL_drop ok hn hv hw hk
theorem retX_tail {g : List AObj} {k : Nat} {o : AObj} {m c : Nat} {ws : List Value} (ok : heapOk h) (hn : n0 ≤ h.length) (hk : (h ++ g)[k]? = some o) (hkn : h.length ≤ k) (ho : objOk h.length o) (hu : ∀ w ∈ ws,w ≠ unk) (hws : ∀ w ∈ ws,sub (moveTo h.length k) w = w ∧ VOk h.length w)
  (hne : ws ≠ []) (hK : K (.tuple ⟨.slice (some ⟨h.length,0,none⟩) m c :: ws⟩) (h ++ [o])) : retL n0 K [] (.slice (some ⟨k,0,none⟩) m c :: ws) (h ++ g) := by
 have hnu : ∀ (l : List Value) (p : Prop),(∀ v ∈ l,v ≠ unk) → p → nuK l p := by
  intro l
  induction l with
  | nil => intro p _ hp; exact hp
  | cons v l ih => intro p h hp; exact ⟨h v (by simp),ih p (fun u hu => h u (by simp [hu])) hp⟩
 have hpk : ∀ x : Value,pack (x :: ws) = .tuple ⟨x :: ws⟩ := by
  intro x
  cases ws with
  | nil => exact absurd rfl hne
  | cons a l => rfl
 refine ⟨by simp [unk],hnu _ _ hu (.inr ⟨moveTo h.length k,h ++ [o],.tuple ⟨.slice (some ⟨h.length,0,none⟩) m c :: ws⟩,gc_one ok hn hk hkn ho,?_,?_,hK⟩)⟩
 ·rw [hpk]
  have hm : ∀ l : List Value,(∀ w ∈ l,sub (moveTo h.length k) w = w) → subL (moveTo h.length k) l = l := by
   intro l
   induction l with
   | nil => intro _; rfl
   | cons a l ih => intro h; simp [subL,h a (by simp),ih fun w hw => h w (by simp [hw])]
  simp [sub,subA,subL,hm ws fun w hw => (hws w hw).1,moveTo]
 ·have : LOk (h ++ [o]).length ws := by
   rw [LOk_iff]
   exact fun w hw => VOk.mono (by simp) w (hws w hw).2
  simp [VOk,LOk,AddrOk,AOk,this]
  simpa using this
end
def rngsC (f : Nat → Rng) (n : Nat) : List Value := (List.range n).flatMap fun j => (f j).cells
theorem rngsC_succ (f : Nat → Rng) (n : Nat) : rngsC f (n + 1) = rngsC f n ++ (f n).cells := by
 simp [rngsC,List.range_succ]
theorem rngsC_len (f : Nat → Rng) : ∀ n,(rngsC f n).length = n * 2
 | 0 => rfl
 | n + 1 => by rw [rngsC_succ,List.length_append,rngsC_len f n,rng_len]; omega
theorem rngsC_congr {f f' : Nat → Rng} : ∀ {n : Nat},(∀ j,j < n → f j = f' j) → rngsC f n = rngsC f' n
 | 0,_ => rfl
 | n + 1,h => by rw [rngsC_succ,rngsC_succ,rngsC_congr fun j hj => h j (by omega),h n (by omega)]
theorem rngsC_zero : ∀ n,zrep [vint 0,vint 0] n = rngsC (fun _ => ⟨0,0⟩) n := by
 intro n
 have : ∀ n,rngsC (fun _ => ⟨0,0⟩) (n + 1) = [vint 0,vint 0] ++ rngsC (fun _ => ⟨0,0⟩) n := by
  intro n
  unfold rngsC
  rw [List.range_succ_eq_map,List.flatMap_cons,List.flatMap_map]
  rfl
 induction n with
 | zero => rfl
 | succ n ih => rw [this,← ih]; rfl
theorem rngsC_get (f : Nat → Rng) {n i : Nat} (hi : i < n) : ((rngsC f n).drop (i * 2)).take 2 = (f i).cells := by
 have := flat_take (enc := fun j => (f j).cells) (s := 2) (fun j => rng_len (f j)) (List.range n) i (by simpa using hi)
 simpa [rngsC] using this
theorem rngsC_set (f : Nat → Rng) (r : Rng) : ∀ {n i : Nat},i < n → ((rngsC f n).set (i * 2) (vint r.lo)).set (i * 2 + 1) (vint r.hi) = rngsC (fun j => if j = i then r else f j) n
 | n + 1,i,hi => by
  have hl := rngsC_len f n
  rw [rngsC_succ,rngsC_succ]
  rcases Nat.lt_or_ge i n with x | x
  ·rw [List.set_append_left _ _ (by omega),List.set_append_left _ _ (by simp; omega),rngsC_set f r x,if_neg (by omega)]
  ·have : i = n := by omega
   subst this
   rw [List.set_append_right _ _ (by omega),List.set_append_right _ _ (by omega),hl,if_pos rfl]
   congr 1
   ·exact rngsC_congr fun j hj => by rw [if_neg (by omega)]
   ·simp [Rng.cells,show i * 2 + 1 - i * 2 = 1 by omega]
def limA (t : Tal) (u : Int) : Nat → Rng := limN u t.counts t.counts.length
def bkN (t : Tal) (L : Nat → Rng) : Nat → Rng
 | 0 => fwd t L (t.gates.toNat - 1)
 | n + 1 => (fwd t L (t.gates.toNat - 2 - n)).meet ((bkN t L n).plus (stretchR t (t.gates.toNat - 2 - n)).turn)
def bkR (t : Tal) (L : Nat → Rng) (g : Nat) : Rng := bkN t L (t.gates.toNat - 1 - g)
def trulyL (t : Tal) : List Rng := (List.range t.gates.toNat).map (bkR t (limA t 0))
theorem bkR_last {t : Tal} {L : Nat → Rng} {g : Nat} (hg : t.gates.toNat = g + 1) : bkR t L g = fwd t L g := by
 unfold bkR
 rw [hg,show g + 1 - 1 - g = 0 from by omega]
 show fwd t L _ = _
 rw [hg]
 rfl
theorem bkR_step {t : Tal} {L : Nat → Rng} {g : Nat} (hg : g + 1 < t.gates.toNat) : bkR t L g = (fwd t L g).meet ((bkR t L (g + 1)).plus (stretchR t g).turn) := by
 unfold bkR
 obtain ⟨n,hn⟩ : ∃ n,t.gates.toNat - 1 - g = n + 1 := ⟨t.gates.toNat - 2 - g,by omega⟩
 rw [hn,show t.gates.toNat - 1 - (g + 1) = n from by omega]
 show (fwd t L (t.gates.toNat - 2 - n)).meet ((bkN t L n).plus (stretchR t (t.gates.toNat - 2 - n)).turn) = _
 rw [show t.gates.toNat - 2 - n = g from by omega]
theorem bkR_sm {t : Tal} (h : TalFine t) {L : Nat → Rng} (hL : ∀ g,(L g).sm 1000) (g : Nat) : (bkR t L g).sm 100000 := by
 have hg := h.gates
 have key : ∀ n : Nat,n < 5 → (bkN t L n).sm (6000 + 1000 * n) := by
  intro n
  induction n with
  | zero =>
   intro _
   exact Rng.sm_le (fwd_sm h hL _) (by omega)
  | succ n ih =>
   intro hn
   refine Rng.sm_meet (Rng.sm_le (fwd_sm h hL _) (by omega)) ?_
   exact Rng.sm_le (Rng.sm_plus (ih (by omega)) (Rng.sm_turn (stretch_sm h _))) (by omega)
 exact Rng.sm_le (key (t.gates.toNat - 1 - g) (by omega)) (by omega)
theorem limA_sm {t : Tal} (h : TalFine t) (u : Int) : ∀ g,(limA t u g).sm 1000 := limN_sm (fun c hc => (h.cosm.2 c hc).2) _
section
variable {main : Bool} {J : JT} {h h0 : List AObj} {K : Value → List AObj → Prop} {KV : Value → Prop} {HL : List AObj → Prop} {n0 : Nat}
theorem good36 (hJ : Closed prog main J) {v cv nv : Value} {t : Tal} (ht : TalAt h v t cv nv) (hs : SliE h0 cv 2 Rng.cells t.changes) (hs2 : SliE h0 nv 4 Cnt.cells t.counts) (hp : ∃ g,h = h0 ++ g)
  (hK : ∀ H bw bm,SameX [] h H → h.length ≤ bw → h.length ≤ bm → bw ≠ bm → WorkIn h0 H bw t cv nv 0 (.map (some bm)) → H[bm]? = some (.map [] true) → K (ptr bw 0) H) : Good prog J 36 [v] h K := by
 refine g36 hJ fun ok => ?_
 rw [e36,ht.val]
 have k1 : kn1 cv = true ∧ kn1 nv = true := ⟨(sli_one ht.ch).2.2,(sli_one ht.co).2.2⟩
 refine qBox (tal_one ht) fun H1 p1 e1 S1 b1 l1 => load_part (c := talCells t cv nv) b1 (by rw [cs_val]; omega) rfl (tal_kn k1.1 k1.2) ?_
 refine qNewM fun H2 p2 e2 S2 b2 l2 => ?_
 refine fill_agg (l := talCells t cv nv) rfl (tal_one ht) (by simp) (fill1 rfl rfl (by simp [wrAt,talCells]) (fillI ?_))
 have hone : (talCells t cv nv ++ [Value.int .u64 0,.map (some p2)]).all one = true := by
  rw [List.all_append,tal_one ht]
  rfl
 refine qBox (l := talCells t cv nv ++ [Value.int .u64 0,.map (some p2)]) hone fun H3 p3 e3 S3 b3 l3 => ?_
 have S13 : SameX [] h H3 := (S1.trans S2).trans S3
 refine retL_same (by simp [ptr,unk]) (hK H3 p3 p2 S13 (by omega) (by omega) (by omega) ⟨b3,?_,hs,hs2⟩ (S3.get b2 (by simp)))
 obtain ⟨g,rfl⟩ := hp
 obtain ⟨g',e⟩ := S13.app0 (by simp)
 exact ⟨g ++ g',by rw [e,List.append_assoc]⟩
theorem good24 (hJ : Closed prog main J) {v cv nv : Value} {t : Tal} (ht : TalAt h v t cv nv)
  (hK : ∀ H bw bm,SameX [] h H → h.length ≤ bw → h.length ≤ bm → bw ≠ bm → WorkIn h H bw t cv nv 0 (.map (some bm)) → H[bm]? = some (.map [] true) → K (.tuple ⟨[ptr bw 0,vint (talErr t)]⟩) H) : Good prog J 24 [v] h K := by
 refine g24 hJ fun ok => ?_
 rw [e24,ht.val]
 have k1 : kn1 cv = true ∧ kn1 nv = true := ⟨(sli_one ht.ch).2.2,(sli_one ht.co).2.2⟩
 refine qBox (tal_one ht) fun H1 p1 e1 S1 b1 l1 => ⟨[p1],?_⟩
 refine load_part (c := talCells t cv nv) b1 (by rw [cs_val]; omega) rfl (tal_kn k1.1 k1.2) ⟨by simp [RdOk,ptrBlk,ptr],?_⟩
 refine load_part (c := talCells t cv nv) b1 (by rw [cs_val]; omega) rfl (tal_kn k1.1 k1.2) ⟨by simp [RdOk,ptrBlk,ptr],?_⟩
 have t1 : TalAt H1 (.agg ⟨talCells t cv nv⟩) t cv nv := ⟨rfl,S1.sli ht.ch (by simp),S1.sli ht.co (by simp)⟩
 obtain ⟨g,hg⟩ := S1.app0 (by simp)
 refine good36 hJ t1 ht.ch ht.co ⟨g,hg⟩ fun H2 bw bm S2 a1 a2 a3 w hm => ⟨fun b hb => ?_,?_⟩
 ·simp at hb
  subst hb
  exact S2.2 _ (lt_of_get b1) (by simp)
 have t2 : TalAt H2 (.agg ⟨talCells t cv nv⟩) t cv nv := ⟨rfl,S2.sli t1.ch (by simp),S2.sli t1.co (by simp)⟩
 refine good6 hJ t2 ⟨fun b hb => ?_,?_⟩
 ·simp at hb
  subst hb
  exact S2.2 _ (lt_of_get b1) (by simp)
 exact retL_same (by simp [ptr,unk]) (hK H2 bw bm (S1.trans S2) (by omega) (by omega) a3 w hm)
noncomputable abbrev lp25 (st : LoopState) (pend : Option Code) (r : Nat → Value) (d : Nat) : AObj := .loop st pend 25 r 60 #[23,24] (subC yp1 (codeOf f25)) (subC [1,1,1,0,1,0,1] (codeOf f25)) d
def outF (t : Tal) (L : Nat → Rng) (g : Nat) : Nat → Rng := fun j => if j < g then fwd t L j else ⟨0,0⟩
def outB (t : Tal) (L : Nat → Rng) (g : Nat) : Nat → Rng := fun j => if j < g then fwd t L j else bkR t L j
theorem round72 (hJ : Closed prog main J) {H : List AObj} {l p4 po d g G : Nat} {r : Nat → Value} {s : Rng} {f : Nat → Rng} {Q : Value → List AObj → Prop} (hl : H[l]? = some (lp25 .ready none r d))
  (r4 : r 4 = ptr p4 0) (h4 : H[p4]? = some (.cells [.slice (some ⟨po,0,none⟩) G G] true 0)) (ho : H[po]? = some (.cells (rngsC f G) true 0)) (hg : g < G) (n1 : p4 ≠ l) (n2 : po ≠ l) (n3 : p4 ≠ po)
  (h1 : ∀ H',SameX [l,po] H H' → H'[l]? = some (lp25 .ready none r d) → H'[po]? = some (.cells (rngsC (fun j => if j = g then s else f j) G) true 0) → Q (.bool true) H') :
  callV prog (Good prog J) (.func (.yield l) ⟨[]⟩ ⟨[]⟩) [vint g,s.val] H Q := by
 show Good prog J (yid prog l) [vint g,s.val] H Q
 have hll := lt_of_get hl
 refine good_round hJ hl rfl (by decide) fun ok => W_sound hJ mixed _ ?_
 rw [a25_1]
 refine qAl fun H1 p e1 S1 b1 l1 => ?_
 refine qStA (c := s.cells) b1 rfl rfl rfl fun H2 S2 b2 l2 => ?_
 refine ⟨rfl,none,_,_,_,_,_,_,_,S2.get (S1.get hl (by simp)) (by simp; omega),W_sound hJ mixed _ ?_⟩
 rw [b25_1]
 have hpo := lt_of_get ho
 have hp4 := lt_of_get h4
 have S3 : SameX [l] H2 (H2.set l (lp25 .busy none r d)) := SameX.refl.set (.inl (by simp))
 have z4 := S3.get (S2.get (S1.get h4 (by simp)) (by simp; omega)) (by simp; omega)
 show aLoad false 1 (r 4) _ _
 rw [r4]
 refine ldI z4 rfl rfl ?_
 refine load_part (c := s.cells) (S3.get b2 (by simp; omega)) (by simp [Rng.cells]) rfl rfl ?_
 refine idxI ⟨by omega,by omega⟩ ?_
 rw [Int.toNat_natCast,Nat.zero_add]
 have zo := S3.get (S2.get (S1.get ho (by simp)) (by simp; omega)) (by simp; omega)
 refine qSt2 zo (by rw [rngsC_len]; omega) rfl rfl fun H4 S4 b4 l4 => ?_
 rw [rngsC_set f s hg] at b4
 have hl2 : l < H2.length := by omega
 refine ⟨.busy,none,_,_,_,_,_,_,_,S4.get (List.getElem?_set_self hl2) (by simp; omega),.inl (h1 _ ?_ (List.getElem?_set_self (by rw [l4]; simpa using hl2)) (get_set b4 n2))⟩
 have S12 : SameX [l,po] H H2 := (S1.weak0).thru S2 (by simp; omega)
 refine SameX.set ?_ (.inl (by simp))
 exact (S12.thru S3 (by simp)).thru S4 (by simp)
theorem back72 (hJ : Closed prog main J) {H : List AObj} {f : RG} {bw bm p4 po d : Nat} {t : Tal} {cv nv : Value} {u : Int} {L : Nat → Rng} {s : Nat} {nx0 : RG → List AObj → Prop} (w : WorkIn h0 H bw t cv nv u (.map (some bm))) (fine : TalFine t) (hL : ∀ g,(L g).sm 1000)
  (hs : s < t.gates.toNat) (z4 : H[p4]? = some (.cells [.slice (some ⟨po,0,none⟩) t.gates.toNat t.gates.toNat] true 0)) (zo : H[po]? = some (.cells (rngsC (outB t L s) t.gates.toNat) true 0)) (hn : p4 ≠ po) (hd : H[d]? = some .deferred) (hdp : d ≠ po)
  (ds : f.ds = [d]) (r0 : f.r 0 = ptr bw 0) (r4 : f.r 4 = ptr p4 0) (r7 : f.r 7 = .func (.func 39) ⟨[]⟩ ⟨[]⟩) (r8 : f.r 8 = .func (.func 40) ⟨[]⟩ ⟨[]⟩) (r9 : f.r 9 = vint ((s : Int) - 1))
  (hx : 0 < s → ∀ H' f',SameX [po] H H' → H'[po]? = some (.cells (rngsC (outB t L (s - 1)) t.gates.toNat) true 0) → f'.ds = [d] → f'.r 0 = ptr bw 0 → f'.r 4 = ptr p4 0 → f'.r 7 = .func (.func 39) ⟨[]⟩ ⟨[]⟩ → f'.r 8 = .func (.func 40) ⟨[]⟩ ⟨[]⟩ → f'.r 9 = vint ((s : Int) - 1 - 1) → nx0 f' H')
  (hK : s = 0 → K (.tuple ⟨[.slice (some ⟨po,0,none⟩) t.gates.toNat t.gates.toNat,.bool true]⟩) (H.set d .dead)) :
  W prog J 60 n0 25 (subC yp13 (codeOf f25)) f H (thenK nx0 (contQ prog J 60 n0 25 [1,1,1,1,1,0,1,0] (codeOf f25) [] (RetQ prog [.tmp 2,.tmp 3] n0 K))) := by
 have hg := fine.gates
 have hch := fine.chl
 rw [s25_2]
 simp only [r0,r4,r7,r8,r9,ds]
 refine geqI (cndI (fun hge => ?_) fun hlt => ?_)
 ·refine ⟨[p4,po],ldI z4 rfl rfl ⟨by simp [RdOk,ptrBlk,ptr],ldI z4 rfl rfl ⟨by simp [RdOk,ptrBlk,ptr],?_⟩⟩⟩
  have e1 : (s : Int) - 1 = ((s - 1 : Nat) : Int) := by omega
  have e2 : ((s - 1 : Nat) : Int) + 1 = (s : Nat) := by omega
  rw [e1]
  refine idxI ⟨by omega,by omega⟩ ?_
  rw [Int.toNat_natCast,Nat.zero_add]
  refine load_part (c := (outB t L s (s - 1)).cells) zo (by rw [rngsC_len]; omega) (rngsC_get _ (by omega)) rfl ⟨by simp [RdOk,ptrBlk,ptr],ldI z4 rfl rfl ⟨by simp [RdOk,ptrBlk,ptr],addI (by omega) ?_⟩⟩
  rw [e2]
  refine idxI ⟨by omega,by omega⟩ ?_
  rw [Int.toNat_natCast,Nat.zero_add]
  refine load_part (c := (outB t L s s).cells) zo (by rw [rngsC_len]; omega) (rngsC_get _ (by omega)) rfl ⟨by simp [RdOk,ptrBlk,ptr],?_⟩
  have hj : s - 1 < t.changes.length := by omega
  refine good42 hJ w.work hj ?_ (by have := fine.most; omega) ⟨fun _ _ => rfl,?_⟩
  ·have := fine.ch _ (List.getElem_mem hj)
   unfold Rng.sm
   omega
  have b1 : outB t L s (s - 1) = fwd t L (s - 1) := by
   unfold outB
   rw [if_pos (by omega)]
  have b2 : outB t L s s = bkR t L s := by
   unfold outB
   rw [if_neg (by omega)]
  rw [b1,b2]
  show Good prog J 39 [(stretchR t (s - 1)).val] _ _
  refine good39 hJ (Rng.sm_le (stretch_sm fine _) (by omega)) ⟨fun _ _ => rfl,?_⟩
  refine good41 hJ (r := bkR t L s) (q := (stretchR t (s - 1)).turn) (Rng.sm_le (bkR_sm fine hL s) (by omega)) (Rng.sm_le (Rng.sm_turn (stretch_sm fine _)) (by omega)) ⟨fun _ _ => rfl,?_⟩
  show Good prog J 40 [(fwd t L (s - 1)).val,_] _ _
  refine good40 hJ (r := fwd t L (s - 1)) (q := (bkR t L s).plus (stretchR t (s - 1)).turn) ⟨fun _ _ => rfl,?_⟩
  have b3 : (fwd t L (s - 1)).meet ((bkR t L s).plus (stretchR t (s - 1)).turn) = bkR t L (s - 1) := by
   rw [bkR_step (t := t) (L := L) (g := s - 1) (by omega),show s - 1 + 1 = s from by omega]
  rw [b3]
  refine idxI ⟨by omega,by omega⟩ ?_
  rw [Int.toNat_natCast,Nat.zero_add]
  refine qSt2 zo (by rw [rngsC_len]; omega) rfl rfl fun H1 S1 c1 l1 => subI (by omega) ?_
  rw [rngsC_set _ _ (by omega)] at c1
  have b4 : rngsC (fun j => if j = s - 1 then bkR t L (s - 1) else outB t L s j) t.gates.toNat = rngsC (outB t L (s - 1)) t.gates.toNat := rngsC_congr fun j _ => by
   unfold outB
   by_cases h1 : j = s - 1
   ·subst h1
    rw [if_pos rfl,if_neg (by omega)]
   ·rw [if_neg h1]
    by_cases h2 : j < s - 1
    ·rw [if_pos (by omega),if_pos h2]
    ·rw [if_neg (by omega),if_neg h2]
  rw [b4] at c1
  refine hx (by omega) H1 _ S1 c1 ds r0 r4 r7 r8 ?_
  show vint _ = vint _
  congr 1
  omega
 ·refine ldI z4 rfl rfl (retL_def hd (by simp [unk]) (hK (by omega)))
theorem outF_all {t : Tal} {L : Nat → Rng} : rngsC (outF t L t.gates.toNat) t.gates.toNat = rngsC (outB t L (t.gates.toNat - 1)) t.gates.toNat := by
 refine rngsC_congr fun j hj => ?_
 unfold outF outB
 rw [if_pos hj]
 split
 ·rfl
 ·exact (bkR_last (by omega)).symm
theorem range72 (hJ : Closed prog main J) {n0 p4 po b1 b2 bw bm : Nat} {t : Tal} {L : Nat → Rng} {cv nv : Value} {u : Int} {f : RG} (w : WorkIn h0 h bw t cv nv u (.map (some bm))) (fine : TalFine t) (hL : ∀ g,(L g).sm 1000) (hT : TruthIs t L)
  (q1 : h[p4]? = some (.cells [.slice (some ⟨po,0,none⟩) t.gates.toNat t.gates.toNat] true 0)) (q2 : h[po]? = some (.cells (rngsC (outF t L 0) t.gates.toNat) true 0)) (q3 : h[b1]? = some (.cells [ptr bw 0] true 0)) (q4 : h[b2]? = some (.cells (limCells L) true 0))
  (d1 : p4 ≠ po) (d2 : po ≠ b1) (d3 : po ≠ b2) (d4 : po ≠ bw) (hpo : h0.length ≤ po)
  (ds : f.ds = []) (r0 : f.r 0 = ptr bw 0) (r4 : f.r 4 = ptr p4 0) (r22 : f.r 22 = .func (.func 51) ⟨[]⟩ ⟨[ptr b1 0,ptr b2 0]⟩)
  (hK : ∀ H,SameX [po] h H → H[po]? = some (.cells (rngsC (bkR t L) t.gates.toNat) true 0) → K (.tuple ⟨[.slice (some ⟨po,0,none⟩) t.gates.toNat t.gates.toNat,.bool true]⟩) H) :
  Sem J 60 n0 25 (subC yp0 (codeOf f25)) f h (contQ prog J 60 n0 25 [1,1,1,0,1,0] (codeOf f25) [] (RetQ prog [.tmp 2,.tmp 3] n0 K)) := by
 have hg := fine.gates
 have l1 := lt_of_get q1
 have l2 := lt_of_get q2
 have l3 := lt_of_get q3
 have l4 := lt_of_get q4
 have lw := lt_of_get w.at_
 refine l25_1 hJ (first := []) (cap := [ptr b1 0,ptr b2 0]) r22 (by decide) ?_
 have hpre : h0.length ≤ h.length := by
  obtain ⟨g,rfl⟩ := w.pre
  simp
 have S0 : SameX [] h (h ++ [AObj.deferred] ++ [lp25 .ready none f.r h.length]) := SameX.refl.app.app
 have hIl : (h ++ [AObj.deferred] ++ [lp25 .ready none f.r h.length])[h.length + 1]? = some (lp25 .ready none f.r h.length) := by
  rw [List.append_assoc]
  exact app2_get1
 have hId : (h ++ [AObj.deferred] ++ [lp25 .ready none f.r h.length])[h.length]? = some .deferred := by simp
 have hsl : (h ++ [AObj.deferred] ++ [lp25 .ready none f.r h.length]).length = h.length + 2 := by simp
 generalize h ++ [AObj.deferred] ++ [lp25 .ready none f.r h.length] = h1 at *
 have hX : ∀ x ∈ [h.length + 1,po],h0.length ≤ x ∧ x < h1.length := by
  rw [hsl]
  simp
  omega
 refine good51 hJ (h0 := h0) (X := [h.length + 1,po]) (L := L) (t := t) (I := fun g H => H[h.length + 1]? = some (lp25 .ready none f.r h.length) ∧ H[po]? = some (.cells (rngsC (outF t L g) t.gates.toNat) true 0)) (Stop := fun _ _ => False)
  (w.same S0 (by simp) (by simp)) fine hL hX (S0.get q3 (by simp)) (S0.get q4 (by simp)) (by simp; omega) (by simp; omega) (by simp; omega) (fun g H H' hx hI => ?_) ⟨hIl,S0.get q2 (by simp)⟩ (fun g H Q hg' S hI k1 k2 => ?_) (fun H S hI => ?_) (fun g H hg' S hI => hI.elim)
 ·rw [hx _ (by simp),hx _ (by simp)]
  exact hI
 ·refine round72 hJ hI.1 r4 (S.get (S0.get q1 (by simp)) (by simp; omega)) hI.2 (by omega) (by omega) (by omega) d1 fun H' S' a b => k1 H' S' ⟨a,?_⟩
  rw [b]
  congr 2
  refine rngsC_congr fun j _ => ?_
  unfold outF
  by_cases e1 : j = g
  ·subst e1
   rw [if_pos rfl,if_pos (by omega)]
  ·rw [if_neg e1]
   by_cases e2 : j < g
   ·rw [if_pos e2,if_pos (by omega)]
   ·rw [if_neg e2,if_neg (by omega)]
 ·refine endQ_normal hI.1 (by simp) ?_
  rw [c25_1]
  have hlen := S.1
  have S2 : SameX [po] h (H.set (h.length + 1) .dead) := by
   have := (S0.weak0 (Y := [h.length + 1,po])).trans S
   refine SameX.thru (Y := [h.length + 1,po]) SameX.refl (this.set (.inl (by simp))) (by simp)
  have w2 := w.same S2 (by simp; omega) (by simp; omega)
  show aNil (f.r 0) _
  rw [r0]
  refine nilI (offI (offI (ldI (v := vint t.gates) w2.at_ rfl rfl (subI (by omega) ?_))))
  have z4 := S2.get q1 (by simp; omega)
  have zo : (H.set (h.length + 1) AObj.dead)[po]? = some (.cells (rngsC (outB t L (t.gates.toNat - 1)) t.gates.toNat) true 0) := by
   rw [← outF_all]
   exact get_set hI.2 (by omega)
  have zd : (H.set (h.length + 1) AObj.dead)[h.length]? = some .deferred := get_set (S.get hId (by simp; omega)) (by omega)
  generalize H.set (h.length + 1) AObj.dead = H1 at *
  refine l25_2 hJ (fun s : Nat => s) (fun s f' H' => SameX [po] h H' ∧ s < t.gates.toNat ∧ H'[po]? = some (.cells (rngsC (outB t L s) t.gates.toNat) true 0) ∧ H'[h.length]? = some .deferred ∧ f'.ds = [h.length] ∧ f'.r 0 = ptr bw 0 ∧ f'.r 4 = ptr p4 0 ∧ f'.r 7 = .func (.func 39) ⟨[]⟩ ⟨[]⟩ ∧ f'.r 8 = .func (.func 40) ⟨[]⟩ ⟨[]⟩ ∧ f'.r 9 = vint ((s : Int) - 1)) ?_ (s := t.gates.toNat - 1)
   (.inl ⟨S2,by omega,zo,zd,by show h.length :: f.ds = _; rw [ds],r0,r4,rfl,rfl,by show vint _ = vint _; congr 1; omega⟩)
  rintro s f' H' ⟨S3,hs,zo',zd',ds',r0',r4',r7',r8',r9'⟩ ok' hn'
  refine back72 hJ (w.same S3 (by simp; omega) (by simp; omega)) fine hL hs (S3.get q1 (by simp; omega)) zo' d1 zd' (by omega) ds' r0' r4' r7' r8' r9' (fun hpos H2 f2 S4 zo2 a1 a2 a3 a4 a5 a6 => ⟨s - 1,by dsimp only; omega,.inl ⟨S3.trans S4,by omega,zo2,S4.get zd' (by simp; omega),a1,a2,a3,a4,a5,by rw [a6]; congr 1; omega⟩⟩) fun hs0 => ?_
  subst hs0
  refine hK _ (S3.set (.inr (Nat.le_refl _))) ?_
  have : rngsC (outB t L 0) t.gates.toNat = rngsC (bkR t L) t.gates.toNat := rngsC_congr fun j _ => by
   unfold outB
   rw [if_neg (by omega)]
  rw [← this]
  exact get_set zo' (by omega)
theorem good25 (hJ : Closed prog main J) {bw bm : Nat} {t : Tal} {cv nv : Value} {u : Int} (w : WorkIn h0 h bw t cv nv u (.map (some bm))) (hbw : h0.length ≤ bw) (hbm : h0.length ≤ bm) (hne : bw ≠ bm) (fine : TalFine t) {es : List (Value × Value)} (hm : h[bm]? = some (.map es true)) (met : MetOk t es)
  (k1 : ¬ TruthIs t (limA t 0) → ∀ H,SameX [bw,bm] h H → K (.tuple ⟨[.slice none 0 0,.bool false]⟩) H)
  (k2 : TruthIs t (limA t 0) → ∀ H po es',SameX [bw,bm] h H → h.length ≤ po → WorkIn h0 H bw t cv nv 0 (.map (some bm)) → H[bm]? = some (.map es' true) → MetOk t es' → H[po]? = some (.cells (rngsC (bkR t (limA t 0)) t.gates.toNat) true 0) → K (.tuple ⟨[.slice (some ⟨po,0,none⟩) t.gates.toNat t.gates.toNat,.bool true]⟩) H) :
  Good prog J 25 [ptr bw 0] h K := by
 refine g25 hJ fun ok => ?_
 rw [e25]
 have hg := fine.gates
 have lw := lt_of_get w.at_
 have lm := lt_of_get hm
 have hpre : h0.length ≤ h.length := by
  obtain ⟨g,rfl⟩ := w.pre
  simp
 refine good27 hJ (u' := 0) w hbw hbm hne fine hm met fun H1 es1 S1 w1 hm1 met1 => ?_
 refine notI (cndN (fun hf => retL_same (by simp [unk]) (k1 hf H1 S1)) fun hT => ?_)
 refine nilI (offI (offI (ldI (v := vint t.gates) w1.at_ rfl rfl ⟨by decide,?_⟩)))
 have eg : t.gates = (t.gates.toNat : Int) := by omega
 rw [eg]
 refine qMk (by omega) fun H2 po e2 S2 c2 l2 => qAl fun H3 p4 e3 S3 c3 l3 => qSt (c := [.slice none 0 0]) c3 (by simp) rfl rfl fun H4 S4 c4 l4 => ?_
 have w4 : WorkIn h0 H4 bw t cv nv 0 (.map (some bm)) := ((w1.same S2 (by simp) (by simp)).same S3 (by simp) (by simp)).same S4 (by have := S1.1; simp; omega) (by have := S1.1; simp; omega)
 refine good38 hJ w4.work fine.cosm ?_
 show Good prog J 37 [ptr bw 0,.agg ⟨limCells (limA t 0)⟩] H4 _
 refine good37 hJ ?_
 have S5 : SameX [] H4 (H4 ++ [.cells [ptr bw 0] true 0,.cells (limCells (limA t 0)) true 0]) := SameX.refl.app
 have g1 : (H4 ++ [AObj.cells [ptr bw 0] true 0,.cells (limCells (limA t 0)) true 0])[H4.length]? = some (.cells [ptr bw 0] true 0) := by simp
 have g2 : (H4 ++ [AObj.cells [ptr bw 0] true 0,.cells (limCells (limA t 0)) true 0])[H4.length + 1]? = some (.cells (limCells (limA t 0)) true 0) := by simp
 generalize H4 ++ [AObj.cells [ptr bw 0] true 0,.cells (limCells (limA t 0)) true 0] = H5 at *
 have h1l := S1.1
 have SA : SameX [bw,bm] h H4 := ((S1.thru S2 (by simp)).thru S3 (by simp)).thru S4 (by simp; omega)
 have zpo : H5[po]? = some (.cells (rngsC (outF t (limA t 0) 0) t.gates.toNat) true 0) := by
  have := S5.get (S4.get (S3.get c2 (by simp)) (by simp; omega)) (by simp)
  rw [rngsC_zero] at this
  rw [this]
  congr 2
 refine range72 hJ (p4 := p4) (po := po) (b1 := H4.length) (b2 := H4.length + 1) (w4.same S5 (by simp) (by simp)) fine (limA_sm fine 0) hT (S5.get c4 (by simp)) zpo g1 g2 (by omega) (by omega) (by omega) (by omega) (by omega) rfl rfl rfl rfl fun H6 S6 c6 => ?_
 have S46 : SameX [po] H4 H6 := S5.weak0.trans S6
 refine k2 hT H6 po es1 (SA.thru S46 (by simp; omega)) (by omega) (w4.same S46 (by simp; omega) (by simp; omega)) ?_ met1 c6
 exact S46.get (S4.get (S3.get (S2.get hm1 (by simp)) (by simp)) (by simp; omega)) (by simp; omega)
theorem trulyL_len (t : Tal) : (trulyL t).length = t.gates.toNat := by simp [trulyL]
theorem trulyL_get (t : Tal) (i : Nat) (hi : i < (trulyL t).length) : (trulyL t)[i] = bkR t (limA t 0) i := by simp [trulyL]
theorem trulyL_take (t : Tal) {i : Nat} (hi : i < t.gates.toNat) : (trulyL t).take (i + 1) = (trulyL t).take i ++ [bkR t (limA t 0) i] := by
 have hl := trulyL_len t
 rw [List.take_add_one,List.getElem?_eq_getElem (by omega),trulyL_get]
 rfl
theorem good9 (hJ : Closed prog main J) {v cv nv : Value} {t : Tal} (ht : TalAt h v t cv nv)
  (k1 : talErr t ≠ 0 → K (.tuple ⟨[.slice none 0 0,vint (talErr t)]⟩) h) (k2 : talErr t = 0 → ¬ TruthIs t (limA t 0) → K (.tuple ⟨[.slice none 0 0,vint 11]⟩) h)
  (k3 : talErr t = 0 → TruthIs t (limA t 0) → ∀ c sz,K (.tuple ⟨[.slice (some ⟨h.length,0,none⟩) t.gates.toNat c,vint 0]⟩) (h ++ [.cells ((trulyL t).flatMap Rng.cells) true sz])) : Good prog J 9 [v] h K := by
 refine g9 hJ fun ok => ?_
 rw [e9,ht.val]
 have kc : kn1 cv = true ∧ kn1 nv = true := ⟨(sli_one ht.ch).2.2,(sli_one ht.co).2.2⟩
 refine qBox (tal_one ht) fun H1 p1 e1 S1 b1 l1 => ?_
 refine load_part (c := talCells t cv nv) b1 (by rw [cs_val]; omega) rfl (tal_kn kc.1 kc.2) ?_
 have t1 : TalAt H1 (.agg ⟨talCells t cv nv⟩) t cv nv := ⟨rfl,S1.sli ht.ch (by simp),S1.sli ht.co (by simp)⟩
 refine good24 hJ t1 fun H2 bw bm S2 a1 a2 a3 w hm => ext0 (ext1 (neqI (cndI (fun hne => ?_) fun heq => ?_)))
 ·exact retX ok (Nat.le_refl _) (S1.trans S2) (by simp) (by simp [unk]) (by simp [pack,VOk,AOk,LOk]) (k1 hne)
 have h0 : talErr t = 0 := by omega
 have fine := talErr_fine h0
 have hg := fine.gates
 have S2' : SameX [] h H2 := S1.trans S2
 refine good25 hJ w a1 a2 a3 fine hm metOk_nil (fun hf H3 S3 => ext0 (ext1 (notI (cnd_true.2 ?_)))) (fun hT H3 po es' S3 h1 w3 hm3 met3 c3 => ext0 (ext1 (notI (cnd_false.2 ?_))))
 ·exact retX ok (Nat.le_refl _) (S2'.thru S3 (by simp; omega)) (by simp) (by simp [unk]) (by simp [pack,VOk,AOk,LOk]) (k2 h0 hf)
 have SA : SameX [] h H3 := S2'.thru S3 (by simp; omega)
 have hl2 := S2'.1
 show aLenS (.slice (some ⟨po,0,none⟩) t.gates.toNat t.gates.toNat) _
 rw [lenS]
 refine l9_1 hJ (fun i : Nat => t.gates.toNat - i) (fun i f H => ∃ lv o,SameX [] h H ∧ H[po]? = some (.cells (rngsC (bkR t (limA t 0)) t.gates.toNat) true 0) ∧ i ≤ t.gates.toNat ∧ OwnX H 2 (((trulyL t).take i).flatMap Rng.cells) i lv o ∧ (∀ b,o = some b → h.length ≤ b ∧ b ≠ po) ∧
   f.ds = [] ∧ f.r 8 = lv ∧ f.r 26 = .slice (some ⟨po,0,none⟩) t.gates.toNat t.gates.toNat ∧ f.r 27 = vint t.gates.toNat ∧ f.r 28 = vint (i : Nat)) ?_ (s := 0)
  (.inl ⟨_,none,SA,c3,by omega,ownX_nil,by simp,rfl,rfl,rfl,rfl,rfl⟩)
 rintro i f H ⟨lv,o,SH,zo,hi,own,hob,hds,r8,r26,r27,r28⟩ ok' hn'
 rw [s9_1]
 simp only [r8,r26,r27,r28,hds]
 refine lssI (cndI (fun hlt => ?_) fun hge => ?_)
 ·refine idxI ⟨by omega,by omega⟩ ?_
  rw [Int.toNat_natCast,Nat.zero_add]
  refine load_part (c := (bkR t (limA t 0) i).cells) zo (by rw [rngsC_len]; omega) (rngsC_get _ (by omega)) rfl ?_
  refine qAl fun H4 p4 e4 S4 c4 l4 => qStA (c := (bkR t (limA t 0) i).cells) c4 rfl rfl rfl fun H5 S5 c5 l5 => ?_
  refine load_part (c := (bkR t (limA t 0) i).cells) c5 (by simp [Rng.cells]) rfl rfl ⟨by decide,fill_agg (l := (bkR t (limA t 0) i).cells) rfl rfl (by simp [zrep]) (fillI ?_)⟩
  refine qNew fun H6 p6 e6 S6 c6 l6 => ⟨by decide,?_⟩
  have hol := ownX_lt own
  have own6 : OwnX H6 2 (((trulyL t).take i).flatMap Rng.cells) i lv o := ownX_keep (ownX_keep (ownX_keep own S4 (by simp)) S5 (by intro b hb; have := hol b hb; simp; omega)) S6 (by simp)
  have S36 : SameX [p4] H H6 := (S4.weak0.trans S5).thru S6 (by simp)
  have hSl := SH.1
  refine ownX_more own6 (by omega) (by omega) (e := (bkR t (limA t 0) i).cells) (ownX_sli (ownX_new (n := 1) c6 rfl rfl)) fun v' H7 p7 e7 own7 S7 => addI (by omega) ?_
  have S37 : SameX (p4 :: o.toList) H H7 := (S36.weak (by simp)).thru (S7.weak (Y := p4 :: o.toList) (by simp +contextual)) (by simp +contextual)
  have hpo := lt_of_get zo
  refine ⟨i + 1,by dsimp only; omega,.inl ⟨v',some p7,?_,?_,by omega,?_,?_,hds,rfl,r26,r27,rfl⟩⟩
  ·refine SH.thru S37 fun y hy => .inr ?_
   simp at hy
   rcases hy with rfl | hy
   ·omega
   ·exact (hob y hy).1
  ·refine S37.get zo ?_
   simp
   exact ⟨by omega,fun e => (hob po e).2 rfl⟩
  ·rw [trulyL_take t (by omega),List.flatMap_append]
   simpa using own7
  ·intro b hb
   cases hb
   have := S37.1
   have := S6.1
   omega
 ·have hi2 : i = t.gates.toNat := by omega
  have htk : (trulyL t).take i = trulyL t := List.take_of_length_le (by rw [trulyL_len]; omega)
  rw [htk] at own
  obtain ⟨h1,h2,⟨h3,_,_⟩ | ⟨b,c,sz,rfl,rfl,h5,h6⟩⟩ := own
  ·omega
  ·obtain ⟨g,rfl⟩ := SH.app0 (by simp)
   subst hi2
   refine retX_tail ok (Nat.le_refl _) h5 (hob b rfl).1 ?_ (by simp [unk]) (by simp [sub,VOk]) (by simp) (k3 h0 hT c sz)
   show LOk _ _
   rw [LOk_iff]
   intro x hx
   obtain ⟨r,_,hr⟩ := List.mem_flatMap.1 hx
   simp [Rng.cells] at hr
   rcases hr with rfl | rfl <;> simp [VOk]
def verdict (r : Rng) (n : Int) : Int := if ¬ (r.lo ≤ n ∧ n ≤ r.hi) then 2 else if r.lo = r.hi then 1 else 3
theorem good8 (hJ : Closed prog main J) {v cv nv : Value} {t : Tal} {gate number : Int} (ht : TalAt h v t cv nv)
  (k1 : talErr t ≠ 0 → K (.tuple ⟨[vint 0,vint (talErr t)]⟩) h) (k2 : talErr t = 0 → ¬ (0 ≤ gate ∧ gate ≤ t.gates - 1) → K (.tuple ⟨[vint 0,vint 3]⟩) h)
  (k3 : talErr t = 0 → 0 ≤ gate → gate ≤ t.gates - 1 → number < 0 → K (.tuple ⟨[vint 0,vint 1]⟩) h)
  (k4 : talErr t = 0 → 0 ≤ gate → gate ≤ t.gates - 1 → 0 ≤ number → ¬ TruthIs t (limA t 0) → K (.tuple ⟨[vint 0,vint 11]⟩) h)
  (k5 : talErr t = 0 → 0 ≤ gate → gate ≤ t.gates - 1 → 0 ≤ number → TruthIs t (limA t 0) → K (.tuple ⟨[vint (verdict (bkR t (limA t 0) gate.toNat) number),vint 0]⟩) h) : Good prog J 8 [v,vint gate,vint number] h K := by
 refine g8 hJ fun ok => ?_
 rw [e8,ht.val]
 have kc : kn1 cv = true ∧ kn1 nv = true := ⟨(sli_one ht.ch).2.2,(sli_one ht.co).2.2⟩
 refine qBox (tal_one ht) fun H1 p1 e1 S1 b1 l1 => ?_
 refine load_part (c := talCells t cv nv) b1 (by rw [cs_val]; omega) rfl (tal_kn kc.1 kc.2) ?_
 have t1 : TalAt H1 (.agg ⟨talCells t cv nv⟩) t cv nv := ⟨rfl,S1.sli ht.ch (by simp),S1.sli ht.co (by simp)⟩
 refine good24 hJ t1 fun H2 bw bm S2 a1 a2 a3 w hm => ext0 (ext1 (neqI (cndI (fun hne => ?_) fun heq => ?_)))
 ·exact retX ok (Nat.le_refl _) (S1.trans S2) (by simp) (by simp [unk]) (by simp [pack,VOk,AOk,LOk]) (k1 hne)
 have h0 : talErr t = 0 := by omega
 have fine := talErr_fine h0
 have hg := fine.gates
 have S2' : SameX [] h H2 := S1.trans S2
 have fin : ∀ (x y : Int) (H : List AObj),SameX [] h H → K (.tuple ⟨[vint x,vint y]⟩) h → retL h.length K [] [vint x,vint y] H := fun x y H S hk =>
  retX ok (Nat.le_refl _) S (by simp) (by simp [unk]) (by simp [pack,VOk,AOk,LOk]) hk
 refine offI (ldI (v := vint t.gates) (S2.get b1 (by simp)) rfl rfl (subI (by omega) (good20 hJ (notI (cndN (fun hn => fin _ _ _ S2' (k2 h0 hn)) fun hgt => lssI (cndI (fun hn => fin _ _ _ S2' (k3 h0 hgt.1 hgt.2 hn)) fun hn0 => ?_))))))
 refine good25 hJ w a1 a2 a3 fine hm metOk_nil (fun hf H3 S3 => ext0 (ext1 (notI (cnd_true.2 ?_)))) (fun hT H3 po es' S3 h1 w3 hm3 met3 c3 => ext0 (ext1 (notI (cnd_false.2 ?_))))
 ·exact fin _ _ _ (S2'.thru S3 (by simp; omega)) (k4 h0 hgt.1 hgt.2 (by omega) hf)
 have SA : SameX [] h H3 := S2'.thru S3 (by simp; omega)
 refine idxI ⟨by omega,by omega⟩ ?_
 rw [Nat.zero_add]
 refine load_part (c := (bkR t (limA t 0) gate.toNat).cells) c3 (by rw [rngsC_len]; omega) (rngsC_get _ (by omega)) rfl ?_
 refine qAl fun H4 p4 e4 S4 c4 l4 => qStA (c := (bkR t (limA t 0) gate.toNat).cells) c4 rfl rfl rfl fun H5 S5 c5 l5 => ?_
 have hSA := SA.1
 have S5' : SameX [] h H5 := (SA.trans S4).thru S5 (by simp; omega)
 have k5' := k5 h0 hgt.1 hgt.2 (by omega) hT
 refine offI (ldI c5 rfl rfl (offI (ldI c5 rfl rfl (good20 hJ (notI (cndN (fun hn => fin _ _ _ S5' ?_) fun hin => ?_))))))
 ·rw [verdict,if_pos hn] at k5'
  exact k5'
 ·refine offI (ldI c5 rfl rfl (offI (ldI c5 rfl rfl (eqlI (cndI (fun he => fin _ _ _ S5' ?_) fun hne => fin _ _ _ S5' ?_)))))
  ·rw [verdict,if_neg (by simpa using hin),if_pos he] at k5'
   exact k5'
  ·rw [verdict,if_neg (by simpa using hin),if_neg hne] at k5'
   exact k5'
end
section
variable {h H : List AObj} {KV : Value → Prop}
theorem talAt_same {X : List Nat} {H' : List AObj} {v cv nv : Value} {t : Tal} (ht : TalAt H v t cv nv) (S : SameX X H H') (hX : ∀ x ∈ X,H.length ≤ x) : TalAt H' v t cv nv := ⟨ht.val,S.sli ht.ch hX,S.sli ht.co hX⟩
theorem talAt_kc {v cv nv : Value} {t : Tal} (ht : TalAt H v t cv nv) : kn (talCells t cv nv) = true := tal_kn (sli_one ht.ch).2.2 (sli_one ht.co).2.2
end
instance : DecidableEq Rng := fun a b =>
  if h : a.lo = b.lo ∧ a.hi = b.hi then isTrue (by cases a; cases b; simp_all) else isFalse (fun e => h (by rw [e]; exact ⟨rfl,rfl⟩))
instance : DecidableEq Cnt := fun a b =>
  if h : a.gate = b.gate ∧ a.man = b.man ∧ a.num = b.num ∧ a.err = b.err then isTrue (by cases a; cases b; simp_all) else isFalse (fun e => h (by rw [e]; exact ⟨rfl,rfl,rfl,rfl⟩))
theorem teqR (a b c d : Int) : teq prog 10000 23 (.agg ⟨[vint a,vint b]⟩) (.agg ⟨[vint c,vint d]⟩) =
 (match some (a == c) with
 | some true => (match some (b == d) with
  | some true => some true
  | some false => some false
  | none => none)
 | some false => some false
 | none => none) := by kernel_rfl
theorem teqR2 (r q : Rng) : teq prog 10000 23 r.val q.val = some (decide (r = q)) := by
 obtain ⟨a,b⟩ := r
 obtain ⟨c,d⟩ := q
 unfold Rng.val Rng.cells
 rw [teqR]
 by_cases e1 : a = c
 ·by_cases e2 : b = d
  ·simp [e1,e2]
  ·rw [beq_eq_false_iff_ne.2 e2,beq_iff_eq.2 e1]
   simp [e2]
 ·rw [beq_eq_false_iff_ne.2 e1]
  simp [e1]
def Rng.sub (a b : Rng) : Prop := b.lo ≤ a.lo ∧ a.hi ≤ b.hi
theorem Rng.sub_refl (a : Rng) : a.sub a := ⟨Int.le_refl _,Int.le_refl _⟩
theorem Rng.meet_left {a b c : Rng} (h1 : a.sub c) : (a.meet b).sub c := by
 obtain ⟨_,_⟩ := h1
 unfold Rng.meet Rng.sub
 dsimp only
 omega
theorem flatR : ∀ l : List Rng,(l.flatMap Rng.cells).length = l.length * 2 ∧ kn (l.flatMap Rng.cells) = true
 | [] => ⟨rfl,rfl⟩
 | c :: l => by
  obtain ⟨h1,h2⟩ := flatR l
  rw [List.flatMap_cons,List.length_append,h1,rng_len,List.length_cons]
  refine ⟨by omega,?_⟩
  unfold kn at *
  rw [List.all_append,h2]
  rfl
end Go.Proofs.YtaceckiodofdkaaDoor
