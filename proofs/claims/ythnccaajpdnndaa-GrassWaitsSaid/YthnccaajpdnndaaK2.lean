/- Parts of the proof, 2. No conditions. -/
import Derived.Test.YthnccaajpdnndaaK1
import Derived.Conc.Listed
import Derived.Laws.Sem
import Derived.Orders
import Derived.Conc.Holds
import Derived.Conc.Beside
import Derived.Below
import Derived.Test.YthnccaajpdnndaaProg
import Derived.Test.YthnccaajpdnndaaRows
import Derived.Conc.LeavingOf
import Derived.ChangeSlices
import Derived.OpenShut
import Derived.Carry
import Derived.Conc.CrowdComm
import Derived.Conc.TokenTrace
import Derived.Conc.CrowdBase
set_option linter.unusedSimpArgs false
set_option linter.unusedVariables false
namespace Go.Proofs.Ythnccaajpdnndaa
open Go.Conc
structure RG where
 r : Nat → Value
 ds : List Nat
def RG.p (f : RG) (d : Nat) (v : Value) : RG := ⟨fun t => bif t == d then v else f.r t, f.ds⟩
structure FB where
 fn : FuncId
 kind : CallKind
 ro : Option Nat
 /-- Calls that are to be made behind all else, when the frame is left. -/
 dfs : List Deferred
def FB.tag (b : FB) : Nat :=
 match b.ro with
 | none => b.fn
 | some _ => b.fn + 1000000
def FB.at (b : FB) (a : Act) (todo : List Item) : Frame := { fn := b.fn, tmps := a.tmps, todo, defers := a.defers ++ b.dfs, mode := .run, kind := b.kind, roundOf := b.ro }
structure ActRel (n : Nat) (ρ : Env) (N : Nat) (f : RG) (a : Act) : Prop where
 regs : RegRel n ρ f.r a.tmps
 size : a.tmps.size = N
 defers : a.defers = f.ds.map fun b => { target := .collected (ρ.blk b), args := #[] }
 ok : ∀ b ∈ f.ds, b < n
abbrev JT := Goroutine → World → Foot → Prop
def Heads (jump : Option Code) (todo : List Item) : Prop :=
 (jump = some .ret ∧ ∃ k, todo = .code .ret :: k) ∨ (∃ id k, jump = some (.exit id) ∧ todo = .code (.exit id) :: k ∧ exitTo id k = none) ∨ (jump = none ∧ todo = [])
def LeaveOk (J : JT) (b : FB) (cs : List Frame) (L : Option Code → Act → World → Foot → Prop) : Prop :=
 ∀ jump a w ft todo, L jump a w ft → Heads jump todo → J (G (b.at a todo) cs) w ft
def AfterJ (J : JT) (b : FB) (k : List Item) (cs : List Frame) (L : Option Code → Act → World → Foot → Prop) (e : Exit) (a : Act) (w : World) (ft : Foot) : Prop :=
 match e with
 | .normal => J (G (b.at a k) cs) w ft
 | .exit id => match exitTo id k with
  | some k' => J (G (b.at a k') cs) w ft
  | none => L (some (.exit id)) a w ft
 | .ret => L (some .ret) a w ft
 | _ => False
abbrev QT := Exit → RG → List AObj → Prop
def Cont (J : JT) (N n0 : Nat) (b : FB) (k : List Item) (cs : List Frame) (L : Option Code → Act → World → Foot → Prop) (ρ : Env) (FC : Frm) (Q : QT) : Prop :=
 ∀ e f' h' ρ' w' ft' a', Q e f' h' → ActRel h'.length ρ' N f' a' → HRel ρ' h' FC w' ft' → Env.upto n0 ρ ρ' → n0 ≤ h'.length → AfterJ J b k cs L e a' w' ft'
def Sem (J : JT) (N n0 : Nat) (fn : FuncId) (c : Code) (f : RG) (h : List AObj) (Q : QT) : Prop :=
 ∀ (b : FB) (a : Act) (k : List Item) (cs : List Frame) (L : Option Code → Act → World → Foot → Prop) (ρ : Env) (FC : Frm) (w : World) (ft : Foot), b.tag = fn → b.kind ≠ .early → LeaveOk J b cs L →
  ActRel h.length ρ N f a → HRel ρ h FC w ft → n0 ≤ h.length → Cont J N n0 b k cs L ρ FC Q → J (G (b.at a (.code c :: k)) cs) w ft
def SemOps (J : JT) (N n0 : Nat) (fn : FuncId) (ops : Array Oper) (todo : List Nat) (f : RG) (h : List AObj) (Q : QT) : Prop :=
 ∀ (b : FB) (a : Act) (k : List Item) (cs : List Frame) (L : Option Code → Act → World → Foot → Prop) (ρ : Env) (FC : Frm) (w : World) (ft : Foot), b.tag = fn → b.kind ≠ .early → LeaveOk J b cs L →
  ActRel h.length ρ N f a → HRel ρ h FC w ft → n0 ≤ h.length → Cont J N n0 b k cs L ρ FC Q → J (G (b.at a (.inRegion ops todo :: k)) cs) w ft
def thenK (S : RG → List AObj → Prop) (Q : QT) : QT := fun e f h =>
 match e with
 | .normal => S f h
 | e => Q e f h
def blockK (id : Nat) (Q : QT) : QT := fun e f h =>
 match e with
 | .exit i => bif i == id then Q .normal f h else Q (.exit i) f h
 | e => Q e f h
section
variable {P : Program} {main : Bool} {J : JT} {N n0 : Nat} {fn : FuncId} {Q Q' : QT} {f : RG} {h : List AObj}
theorem Closed.ctrl (hJ : Closed P main J) {g g' : Goroutine} {w : World} {ft : Foot} (hs : g.status = .running) (hs' : g'.status = .running) (hst : ∀ w, stepG P main g w = .go g' w #[]) (h : J g' w ft) : J g w ft :=
 hJ.step hs fun w₁ h₁ => ⟨g', w₁, #[], hst w₁, hs', GuarW.refl _ _, by rw [Foot.ext_self]; exact hJ.rely h h₁⟩
theorem upto_act {n m : Nat} {ρ ρ' : Env} {N : Nat} {f : RG} {a : Act} (hu : Env.upto n ρ ρ') (hn : n ≤ m) (h : ActRel n ρ N f a) : ActRel m ρ' N f a :=
 ⟨h.regs.congr hu hn, h.size, by rw [h.defers]; exact List.map_congr_left fun b hb => by rw [(hu b (h.ok b hb)).1], fun b hb => Nat.lt_of_lt_of_le (h.ok b hb) hn⟩
theorem Sem.mono {c : Code} (hh : Sem J N n0 fn c f h Q) (hq : ∀ e f h, Q e f h → Q' e f h) : Sem J N n0 fn c f h Q' :=
 fun b a k cs L ρ FC w ft h1 h2 h3 h4 h5 h6 hc => hh b a k cs L ρ FC w ft h1 h2 h3 h4 h5 h6 fun e f' h' ρ' w' ft' a' q => hc e f' h' ρ' w' ft' a' (hq _ _ _ q)
theorem Sem_skip (hJ : Closed P main J) (hq : Q .normal f h) : Sem J N n0 fn .skip f h Q := by
 intro b a k cs L ρ FC w ft h1 h2 h3 h4 h5 h6 hc
 refine hJ.ctrl rfl rfl (g' := G (b.at a k) cs) (fun w => by simp [G, stepG, stepG.exec, FB.at]) ?_
 exact hc _ _ _ _ _ _ _ hq h4 h5 (Env.upto_refl _ _) h6
theorem Sem_label (hJ : Closed P main J) {l : Nat} (hq : Q .normal f h) : Sem J N n0 fn (.label l) f h Q := by
 intro b a k cs L ρ FC w ft h1 h2 h3 h4 h5 h6 hc
 refine hJ.ctrl rfl rfl (g' := G (b.at a k) cs) (fun w => by simp [G, stepG, stepG.exec, FB.at]) ?_
 exact hc _ _ _ _ _ _ _ hq h4 h5 (Env.upto_refl _ _) h6
theorem Sem_ret (hq : Q .ret f h) : Sem J N n0 fn .ret f h Q := by
 intro b a k cs L ρ FC w ft h1 h2 h3 h4 h5 h6 hc
 exact h3 _ _ _ _ _ (hc _ _ _ _ _ _ _ hq h4 h5 (Env.upto_refl _ _) h6) (.inl ⟨rfl, _, rfl⟩)
theorem Sem_exit (hJ : Closed P main J) {id : Nat} (hq : Q (.exit id) f h) : Sem J N n0 fn (.exit id) f h Q := by
 intro b a k cs L ρ FC w ft h1 h2 h3 h4 h5 h6 hc
 have := hc _ _ _ _ _ _ _ hq h4 h5 (Env.upto_refl _ _) h6
 unfold AfterJ at this
 simp only at this
 cases he : exitTo id k with
 | some k' =>
  rw [he] at this
  exact hJ.ctrl rfl rfl (g' := G (b.at a k') cs) (fun w => by simp [G, stepG, stepG.exec, FB.at, he]) this
 | none =>
  rw [he] at this
  exact h3 _ _ _ _ _ this (.inr (.inl ⟨id, k, rfl, rfl, he⟩))
theorem AfterJ.push {b : FB} {x : Item} {k : List Item} {cs : List Frame} {L : Option Code → Act → World → Foot → Prop} {e : Exit} {a : Act} {w : World} {ft : Foot} (hx : ∀ id, exitTo id (x :: k) = exitTo id k) (he : e ≠ .normal)
  (h : AfterJ J b k cs L e a w ft) : AfterJ J b (x :: k) cs L e a w ft := by
 cases e with
 | normal => exact absurd rfl he
 | exit id => unfold AfterJ at h ⊢; simp only [hx] at h ⊢; exact h
 | ret => exact h
 | _ => exact h
theorem Sem_seq (hJ : Closed P main J) {x y : Code} (hx : Sem J N n0 fn x f h (thenK (fun f' h' => Sem J N n0 fn y f' h' Q) Q)) : Sem J N n0 fn (.seq x y) f h Q := by
 intro b a k cs L ρ FC w ft h1 h2 h3 h4 h5 h6 hc
 refine hJ.ctrl rfl rfl (g' := G (b.at a (.code x :: .code y :: k)) cs) (fun w => by simp [G, stepG, stepG.exec, FB.at]) ?_
 refine hx b a (.code y :: k) cs L ρ FC w ft h1 h2 h3 h4 h5 h6 fun e f' h' ρ' w' ft' a' q g1 g2 g3 g4 => ?_
 cases e with
 | normal => exact q b a' k cs L ρ' FC w' ft' h1 h2 h3 g1 g2 g4 fun e f2 h2' ρ2 w2 ft2 a2 q2 r1 r2 r3 r4 => hc e f2 h2' ρ2 w2 ft2 a2 q2 r1 r2 (Env.upto_trans g3 r3) r4
 | exit id => exact AfterJ.push (fun _ => rfl) (by simp) (hc _ _ _ _ _ _ _ q g1 g2 g3 g4)
 | ret => exact AfterJ.push (fun _ => rfl) (by simp) (hc _ _ _ _ _ _ _ q g1 g2 g3 g4)
 | goto l => exact hc _ _ _ _ _ _ _ q g1 g2 g3 g4
 | panic l => exact hc _ _ _ _ _ _ _ q g1 g2 g3 g4
 | outgrown => exact hc _ _ _ _ _ _ _ q g1 g2 g3 g4
theorem Sem_cond (hJ : Closed P main J) {c : Operand} {x y : Code} {t : Bool} (ht : ev f.r c = .bool t) (hx : Sem J N n0 fn (if t then x else y) f h Q) : Sem J N n0 fn (.cond c x y) f h Q := by
 intro b a k cs L ρ FC w ft h1 h2 h3 h4 h5 h6 hc
 have hv := ((ev_rel h4.regs c).val (by rw [ht]; simp [unk])).2
 rw [ht] at hv
 simp only [ren] at hv
 have he : ∀ todo, (b.at a todo).eval c = .bool t := fun todo => by rw [← hv]; cases c <;> rfl
 refine hJ.ctrl rfl rfl (g' := G (b.at a (.code (if t then x else y) :: k)) cs) (fun w => ?_) ?_
 ·have := he (.code (.cond c x y) :: k)
  simp only [FB.at] at this
  simp [G, stepG, stepG.exec, FB.at, this]
 ·exact hx b a k cs L ρ FC w ft h1 h2 h3 h4 h5 h6 hc
theorem Sem_block (hJ : Closed P main J) {id : Nat} {c : Code} (hx : Sem J N n0 fn c f h (blockK id Q)) : Sem J N n0 fn (.block id c) f h Q := by
 intro b a k cs L ρ FC w ft h1 h2 h3 h4 h5 h6 hc
 refine hJ.ctrl rfl rfl (g' := G (b.at a (.code c :: .inBlock id :: k)) cs) (fun w => by simp [G, stepG, stepG.exec, FB.at]) ?_
 refine hx b a (.inBlock id :: k) cs L ρ FC w ft h1 h2 h3 h4 h5 h6 fun e f' h' ρ' w' ft' a' q g1 g2 g3 g4 => ?_
 have step : J (G (b.at a' k) cs) w' ft' → J (G (b.at a' (.inBlock id :: k)) cs) w' ft' := fun hh => hJ.ctrl rfl rfl (fun w => by simp [G, stepG, stepG.exec, FB.at]) hh
 cases e with
 | normal => exact step (hc .normal _ _ _ _ _ _ q g1 g2 g3 g4)
 | exit i =>
  unfold blockK at q
  simp only at q
  unfold AfterJ
  simp only [exitTo]
  cases hi : i == id with
  | true =>
   rw [hi] at q
   have hi' : (id == i) = true := by simp at hi ⊢; omega
   rw [hi']
   exact hc .normal _ _ _ _ _ _ q g1 g2 g3 g4
  | false =>
   rw [hi] at q
   have hi' : (id == i) = false := by simp at hi ⊢; omega
   rw [hi']
   exact hc (.exit i) _ _ _ _ _ _ q g1 g2 g3 g4
 | ret => exact hc .ret _ _ _ _ _ _ q g1 g2 g3 g4
 | goto l => exact hc _ _ _ _ _ _ _ q g1 g2 g3 g4
 | panic l => exact hc _ _ _ _ _ _ _ q g1 g2 g3 g4
 | outgrown => exact hc _ _ _ _ _ _ _ q g1 g2 g3 g4
theorem Sem_scope (hJ : Closed P main J) {c : Code} (hx : Sem J N n0 fn c f h Q) : Sem J N n0 fn (.scope c) f h Q := by
 intro b a k cs L ρ FC w ft h1 h2 h3 h4 h5 h6 hc
 refine hJ.ctrl rfl rfl (g' := G (b.at a (.code c :: .inScope c :: k)) cs) (fun w => by simp [G, stepG, stepG.exec, FB.at]) ?_
 refine hx b a (.inScope c :: k) cs L ρ FC w ft h1 h2 h3 h4 h5 h6 fun e f' h' ρ' w' ft' a' q g1 g2 g3 g4 => ?_
 have hh := hc _ _ _ _ _ _ _ q g1 g2 g3 g4
 cases e with
 | normal => exact hJ.ctrl rfl rfl (g' := G (b.at a' k) cs) (fun w => by simp [G, stepG, stepG.exec, FB.at]) hh
 | exit id => exact AfterJ.push (fun _ => rfl) (by simp) hh
 | ret => exact hh
 | _ => exact hh
theorem Sem_region (hJ : Closed P main J) {id : Nat} {ops : Array Oper} (hx : SemOps J N n0 fn ops (List.range ops.size) f h Q) : Sem J N n0 fn (.region id ops false) f h Q := by
 intro b a k cs L ρ FC w ft h1 h2 h3 h4 h5 h6 hc
 refine hJ.ctrl rfl rfl (g' := G (b.at a (.inRegion ops (List.range ops.size) :: k)) cs) (fun w => by simp [G, stepG, stepG.exec, FB.at]) ?_
 exact hx b a k cs L ρ FC w ft h1 h2 h3 h4 h5 h6 hc
theorem SemOps_nil (hJ : Closed P main J) {ops : Array Oper} (hq : Q .normal f h) : SemOps J N n0 fn ops [] f h Q := by
 intro b a k cs L ρ FC w ft h1 h2 h3 h4 h5 h6 hc
 refine hJ.ctrl rfl rfl (g' := G (b.at a k) cs) (fun w => by simp [G, stepG, stepG.exec, FB.at]) ?_
 exact hc _ _ _ _ _ _ _ hq h4 h5 (Env.upto_refl _ _) h6
end
theorem FB.eval_at (b : FB) (a : Act) (todo : List Item) : (b.at a todo).eval = a.eval := funext fun x => by cases x <;> rfl
theorem FB.finish_at (b : FB) (a : Act) (ops : Array Oper) (i : Nat) (rest : List Nat) (k : List Item) (v : Value) :
  (b.at a (.inRegion ops (i :: rest) :: k)).finish v = b.at (a.put ((ops[i]?).bind (·.dst)) v) (.inRegion ops rest :: k) := by
 cases h : (ops[i]?).bind (·.dst) <;> simp [Frame.finish, FB.at, Act.put, h]
def RG.putO (f : RG) (d : Option Nat) (v : Value) : RG :=
 match d with
 | some d => f.p d v
 | none => f
def gd (ops : Array Oper) (o : Oper) (r : Nat → Value) : Option Bool :=
 match o.guard with
 | none => some true
 | some (j, want) => match (ops[j]?).bind (·.dst) with
  | some t => match r t with
   | .bool b => some (b == want)
   | .tuple ⟨[]⟩ => some false
   | _ => none
  | none => none
def callable (P : Program) (g : FuncId) : Bool :=
 match P.funcs[g]? with
 | some fn => fn.body.isSome && !(fn.name == "runtime.NumGoroutine")
 | none => false
def yid (P : Program) (l : Nat) : Nat := P.funcs.size + l
def loopAt (h : List AObj) (l n : Nat) : Prop := ∃ st pend fn r size params assign body dfr, h[l]? = some (.loop st pend fn r size params assign body dfr) ∧ params.size = n
def okCall (P : Program) (g n : Nat) (h : List AObj) : Prop := (g < P.funcs.size ∧ callable P g = true) ∨ (P.funcs.size ≤ g ∧ loopAt h (g - P.funcs.size) n)
def Entry (P : Program) (g : Nat) (ρ : Env) (w : World) (cargs : List Value) (fr : Frame) : Prop :=
 (g < P.funcs.size ∧ fr = Frame.enter P g ⟨cargs⟩ .normal) ∨ (P.funcs.size ≤ g ∧ ∃ lo : Loop, w.heap[ρ.blk (g - P.funcs.size)]? = some (.loop lo) ∧ lo.params.size = cargs.length ∧
  fr = Frame.round (ρ.blk (g - P.funcs.size)) lo.fn ((lo.params.zip ⟨cargs⟩).foldl (fun tmps (t, a) => tmps.setIfInBounds t a) lo.tmps) lo.assign lo.body .normal)
def GoodF (P : Program) (J : JT) (g : FuncId) (args : List Value) (h : List AObj) (K : Value → List AObj → Prop) : Prop :=
 okCall P g args.length h ∧ ∀ (ρ : Env) (FC : Frm) (w : World) (ft : Foot) (cs : List Frame) (c : Frame) (cargs : List Value) (fr : Frame), HRel ρ h FC w ft →
  (∀ i : Nat, VRel h.length ρ (args.getD i unk) (cargs.getD i undef)) → cargs.length = args.length → Entry P g ρ w cargs fr →
  (∀ v h' ρ' w' ft' cv, K v h' → HRel ρ' h' FC w' ft' → Env.upto h.length ρ ρ' → h.length ≤ h'.length → VRel h'.length ρ' v cv → J (G (c.finish cv) cs) w' ft') →
  J (G fr (c :: cs)) w ft
structure Site (g : FuncId) (cargs : List Value) (b : FB) (a : Act) (ops : Array Oper) (i : Nat) (o : Oper) : Prop where
 kind : b.kind ≠ .early
 here : ops[i]? = some o
 wanted : Region.wanted o (yielded ops a.tmps) = true
 nodef : ∀ c, o.op ≠ .defer c
 calls : execOp a.eval o = callFunc g ⟨cargs⟩
def ExtJ (J : JT) (g : FuncId) (args : List Value) (h : List AObj) (K : Value → List AObj → Prop) : Prop :=
 ∀ (b : FB) (a : Act) (ops : Array Oper) (i : Nat) (rest : List Nat) (o : Oper) (k : List Item) (cs : List Frame) (ρ : Env) (FC : Frm) (w : World) (ft : Foot) (cargs : List Value), Site g cargs b a ops i o → HRel ρ h FC w ft →
  (∀ i : Nat, VRel h.length ρ (args.getD i unk) (cargs.getD i undef)) → cargs.length = args.length →
  (∀ v h' ρ' w' ft' cv, K v h' → HRel ρ' h' FC w' ft' → Env.upto h.length ρ ρ' → h.length ≤ h'.length → VRel h'.length ρ' v cv → J (G (b.at (a.put o.dst cv) (.inRegion ops rest :: k)) cs) w' ft') →
  J (G (b.at a (.inRegion ops (i :: rest) :: k)) cs) w ft
def Good (P : Program) (J : JT) (g : FuncId) (args : List Value) (h : List AObj) (K : Value → List AObj → Prop) : Prop :=
 GoodF P J g args h K ∨ ((g < P.funcs.size ∧ callable P g = false) ∧ ExtJ J g args h K)
def callV (P : Program) (C : FuncId → List Value → List AObj → (Value → List AObj → Prop) → Prop) (v : Value) (args : List Value) (h : List AObj) (K : Value → List AObj → Prop) : Prop :=
 match v with
 | .func (.func g) ⟨first⟩ ⟨cap⟩ => bif Nat.blt g P.funcs.size then C g (first ++ args ++ cap) h K else False
 | .func (.yield l) ⟨[]⟩ ⟨[]⟩ => C (yid P l) args h K
 | _ => False
def opW (P : Program) (C : FuncId → List Value → List AObj → (Value → List AObj → Prop) → Prop) (o : Oper) (r : Nat → Value) (h : List AObj) (K : Value → List AObj → Prop) : Prop :=
 match o.op with
 | .call { callee := .value x, args, .. } => callV P C (ev r x) (args.toList.map (ev r)) h K
 | op => aop P op r h K
section
variable {P : Program} {main : Bool} {J : JT} {N : Nat} {b : FB} {f : RG} {h : List AObj} {a : Act} {k : List Item} {cs : List Frame} {ρ : Env} {FC : Frm} {w : World} {ft : Foot} {ops : Array Oper} {i : Nat} {rest : List Nat} {o : Oper}
theorem regs_put {n : Nat} {r : Nat → Value} {tmps : Array Value} {d : Nat} {v c : Value} (hr : RegRel n ρ r tmps) (hd : d < tmps.size) (hv : VRel n ρ v c) : RegRel n ρ (fun t => bif t == d then v else r t) (tmps.setIfInBounds d c) := by
 intro t
 by_cases e : t = d
 ·subst e
  simp only [BEq.rfl, cond_true]
  rcases hv with rfl | ⟨h1, h2⟩
  ·exact .inl rfl
  ·refine .inr ⟨h1, ?_⟩
   simp [Array.getD, hd, h2]
 ·have : (t == d) = false := by simpa using e
  simp only [this, cond_false]
  rcases hr t with h | ⟨h1, h2⟩
  ·exact .inl h
  ·refine .inr ⟨h1, ?_⟩
   rw [← h2]
   simp only [Array.getD_eq_getD_getElem?, Array.getElem?_setIfInBounds]
   rw [if_neg (fun x => e x.symm)]
theorem act_put {n : Nat} {d : Option Nat} {v c : Value} (A : ActRel n ρ N f a) (hd : ∀ t, d = some t → t < N) (hv : VRel n ρ v c) : ActRel n ρ N (f.putO d v) (a.put d c) := by
 cases d with
 | none => exact A
 | some t => exact ⟨regs_put A.regs (by rw [A.size]; exact hd t rfl) hv, by simp [Act.put, A.size], A.defers, A.ok⟩
theorem gd_wanted {n : Nat} {t : Bool} (A : ActRel n ρ N f a) (hg : gd ops o f.r = some t) : Region.wanted o (yielded ops a.tmps) = t := by
 unfold gd at hg
 unfold Region.wanted
 split at hg
 ·rename_i e
  rw [e]
  cases hg
  rfl
 ·rename_i j want e
  rw [e]
  simp only
  split at hg
  ·rename_i u hu
   split at hg
   ·rename_i bb hb
    cases hg
    have hv := (A.regs u).resolve_left (by rw [hb]; simp [unk])
    rw [hb] at hv
    have h2 : a.tmps[u]? = some (.bool bb) := by
     have := hv.2
     simp only [ren] at this
     rw [Array.getD_eq_getD_getElem?] at this
     cases hx : a.tmps[u]? with
     | none => rw [hx] at this; simp [undef] at this
     | some x => rw [hx] at this; simpa using this
    unfold yielded
    rw [hu]
    simp only [Option.bind_some, h2]
    cases bb <;> cases want <;> rfl
   ·rename_i hb
    cases hg
    have hv := (A.regs u).resolve_left (by rw [hb]; simp [unk])
    rw [hb] at hv
    have h2 := hv.2
    simp only [ren, renA, renL] at h2
    unfold yielded
    rw [hu]
    simp only [Option.bind_some]
    rw [Array.getD_eq_getD_getElem?] at h2
    cases hx : a.tmps[u]? with
    | none => rfl
    | some x =>
     rw [hx] at h2
     simp only [Option.getD_some] at h2
     subst h2
     rfl
   ·cases hg
  ·cases hg
theorem stepG_op (ho : ops[i]? = some o) (hw : Region.wanted o (yielded ops a.tmps) = true) (hnd : ∀ c, o.op ≠ .defer c) (main : Bool) (w : World) :
  stepG P main (G (b.at a (.inRegion ops (i :: rest) :: k)) cs) w = stepG.apply P true (b.at a (.inRegion ops (i :: rest) :: k)) cs none (execOp a.eval o) w := by
 have he := FB.eval_at b a (.inRegion ops (i :: rest) :: k)
 simp only [FB.at] at he
 simp only [G, stepG, stepG.exec, stepG.oper, Frame.oper?, FB.at, ho, hw, he, Option.map_some, Option.getD_some, if_true]
 split
 ·rename_i l c h1 h2
  exact absurd h2 (hnd c)
 ·rfl
theorem step_skip (hJ : Closed P main J) (ho : ops[i]? = some o) (hg : gd ops o f.r = some false) (A : ActRel h.length ρ N f a) (hJ' : J (G (b.at (a.put o.dst undef) (.inRegion ops rest :: k)) cs) w ft) :
  J (G (b.at a (.inRegion ops (i :: rest) :: k)) cs) w ft := by
 have hw := gd_wanted A hg
 refine hJ.ctrl rfl rfl (g' := G (b.at (a.put o.dst undef) (.inRegion ops rest :: k)) cs) (fun w => ?_) hJ'
 have hf := FB.finish_at b a ops i rest k undef
 rw [ho] at hf
 simp only [Option.bind_some] at hf
 rw [← hf]
 simp [G, stepG, stepG.exec, FB.at, ho, hw]
theorem step_op (hJ : Closed P main J) (hk : b.kind ≠ .early) (ho : ops[i]? = some o) (hg : gd ops o f.r = some true) (hd : ∀ t, o.dst = some t → t < N) (A : ActRel h.length ρ N f a) (H : HRel ρ h FC w ft) {K : Value → List AObj → Prop} (hop : aop P o.op f.r h K)
  (hc : ∀ v h' ρ' w' ft' a', K v h' → ActRel h'.length ρ' N (f.putO o.dst v) a' → HRel ρ' h' FC w' ft' → Env.upto h.length ρ ρ' → h.length ≤ h'.length → J (G (b.at a' (.inRegion ops rest :: k)) cs) w' ft') :
  J (G (b.at a (.inRegion ops (i :: rest) :: k)) cs) w ft := by
 have hw := gd_wanted A hg
 have hnd : ∀ c, o.op ≠ .defer c := fun c e => by rw [e] at hop; exact hop
 have hk' : (b.kind == CallKind.early) = false := by simpa using hk
 refine hJ.step rfl fun w₁ h₁ => ?_
 have H₁ := H.rely h₁
 obtain ⟨nx, w', es, hr, he, v, h', ρ', hK, g, hn⟩ := aop_sound H₁ A.regs o hop (Q := fun nx w' => ∃ v h' ρ', K v h' ∧ Goes1 ρ h FC w₁ ft ρ' h' w' ∧ NxRel h'.length ρ' v nx)
  (fun v h' ρ' w' nx hK g hn => ⟨v, h', ρ', hK, g, hn⟩) #[] (by simp)
 have hes : ∀ e ∈ seen P b.fn es, EvOk ft e := fun e hm => he e (mem_seen hm)
 have hf := FB.finish_at b a ops i rest k
 rw [ho] at hf
 simp only [Option.bind_some] at hf
 have A' := upto_act g.upto g.len A
 rcases hn with ⟨rfl, rfl⟩ | ⟨c, rfl, hv⟩
 ·refine ⟨G (b.at (a.put o.dst undef) (.inRegion ops rest :: k)) cs, w', seen P b.fn es, ?_, rfl, g.stays.guar hes, ?_⟩
  ·rw [stepG_op ho hw hnd, ← hf]
   simp only [stepG.apply, hr, if_true]
   simp [G, FB.at, hk', GStep.after]
  ·exact hc _ _ _ _ _ _ hK (act_put A' hd (.inl rfl)) g.rel g.upto g.len
 ·refine ⟨G (b.at (a.put o.dst c) (.inRegion ops rest :: k)) cs, w', seen P b.fn es, ?_, rfl, g.stays.guar hes, ?_⟩
  ·rw [stepG_op ho hw hnd, ← hf]
   simp only [stepG.apply, hr, if_true]
   simp [G, FB.at, hk', GStep.after]
  ·exact hc _ _ _ _ _ _ hK (act_put A' hd hv) g.rel g.upto g.len
theorem callFunc_run {X : Event → Prop} {g : FuncId} {args : Array Value} (hg : callable P g = true) {Q : Next → World → Prop} (hQ : Q (.enter g args) w) : RunsTo P X (callFunc g args) w Q := by
 unfold callable at hg
 split at hg
 ·rename_i fn hf
  simp only [Bool.and_eq_true, Bool.not_eq_true'] at hg
  unfold callFunc
  refine RunsTo.bind (RunsTo.program ?_)
  simp only [hf, hg.2]
  have : fn.body.isNone = false := by cases h : fn.body <;> simp_all
  simp only [this]
  exact RunsTo.pure hQ
 ·cases hg
theorem getD_app {x y x' y' : List Value} (hl : x.length = x'.length) {n : Nat} (h1 : ∀ i : Nat, VRel n ρ (x.getD i unk) (x'.getD i undef)) (h2 : ∀ i : Nat, VRel n ρ (y.getD i unk) (y'.getD i undef)) (i : Nat) :
  VRel n ρ ((x ++ y).getD i unk) ((x' ++ y').getD i undef) := by
 by_cases e : i < x.length
 ·have := h1 i
  simp only [List.getD_eq_getElem?_getD] at this ⊢
  rw [List.getElem?_append_left e, List.getElem?_append_left (by omega)]
  exact this
 ·have := h2 (i - x.length)
  simp only [List.getD_eq_getElem?_getD] at this ⊢
  rw [List.getElem?_append_right (by omega), List.getElem?_append_right (by omega), ← hl]
  exact this
theorem getD_ren {n : Nat} {l : List Value} (h : LOk n l) (i : Nat) : VRel n ρ (l.getD i unk) ((l.map (ren ρ)).getD i undef) := by
 simp only [List.getD_eq_getElem?_getD, List.getElem?_map]
 cases hx : l[i]? with
 | none => exact .inl rfl
 | some v => exact .inr ⟨(LOk_iff l).1 h v (List.mem_of_getElem? hx), rfl⟩
theorem getD_ev {n : Nat} (hr : RegRel n ρ f.r a.tmps) (l : List Operand) (i : Nat) : VRel n ρ ((l.map (ev f.r)).getD i unk) ((l.map a.eval).getD i undef) := by
 simp only [List.getD_eq_getElem?_getD, List.getElem?_map]
 cases hx : l[i]? with
 | none => exact .inl rfl
 | some v => exact ev_rel hr v
theorem step_enter (hJ : Closed P main J) (hk : b.kind ≠ .early) (ho : ops[i]? = some o) (hg : gd ops o f.r = some true) (A : ActRel h.length ρ N f a)
  {x : Operand} {args : Array Operand} {ats : Array TypeId} (hop : o.op = .call { callee := .value x, args := args, argTypes := ats }) {g : FuncId} {first cap : List Value} (hx : ev f.r x = .func (.func g) ⟨first⟩ ⟨cap⟩) (hcl : callable P g = true)
  (hc : ∀ cargs, (∀ i : Nat, VRel h.length ρ ((first ++ args.toList.map (ev f.r) ++ cap).getD i unk) (cargs.getD i undef)) → cargs.length = (first ++ args.toList.map (ev f.r) ++ cap).length →
   J (G (Frame.enter P g ⟨cargs⟩ .normal) (b.at a (.inRegion ops (i :: rest) :: k) :: cs)) w ft) :
  J (G (b.at a (.inRegion ops (i :: rest) :: k)) cs) w ft := by
 have hw := gd_wanted A hg
 have hnd : ∀ c, o.op ≠ .defer c := fun c e => by rw [hop] at e; cases e
 have hk' : (b.kind == CallKind.early) = false := by simpa using hk
 obtain ⟨hok, hv⟩ := (ev_rel A.regs x).val (by rw [hx]; simp [unk])
 rw [hx] at hv hok
 simp only [ren, renFn, renA, renL_eq] at hv
 simp only [VOk, AOk] at hok
 have hrel : ∀ i : Nat, VRel h.length ρ ((first ++ args.toList.map (ev f.r) ++ cap).getD i unk) ((first.map (ren ρ) ++ args.toList.map a.eval ++ cap.map (ren ρ)).getD i undef) :=
  getD_app (by simp) (getD_app (by simp) (getD_ren hok.2.1) (getD_ev A.regs _)) (getD_ren hok.2.2)
 refine hJ.step rfl fun w₁ h₁ => ?_
 have hrun : RunsTo P (EvOk ft) (execOp a.eval o) w₁ fun nx w' => nx = .enter g ⟨first.map (ren ρ) ++ args.toList.map a.eval ++ cap.map (ren ρ)⟩ ∧ w' = w₁ := by
  unfold execOp
  rw [hop]
  simp only
  unfold resolve
  simp only [hv, Deferred.ofValue]
  refine RunsTo.bind (RunsTo.pure ?_)
  unfold invoke
  simp only
  refine callFunc_run hcl ⟨?_, rfl⟩
  congr 1
  apply Array.ext'
  simp
 obtain ⟨nx, w', es, hr, he, rfl, rfl⟩ := hrun #[] (by simp)
 have hes : ∀ e ∈ seen P b.fn es, EvOk ft e := fun e hm => he e (mem_seen hm)
 refine ⟨G (Frame.enter P g ⟨first.map (ren ρ) ++ args.toList.map a.eval ++ cap.map (ren ρ)⟩ .normal) (b.at a (.inRegion ops (i :: rest) :: k) :: cs), w', seen P b.fn es, ?_, rfl, (Stays.refl ft w').guar hes, ?_⟩
 ·rw [stepG_op ho hw hnd]
  simp only [stepG.apply, hr, if_true]
  simp [FB.at, hk', GStep.after, G]
 ·rw [Foot.ext_self]
  exact hJ.rely (hc _ hrel (by simp)) h₁
theorem step_round (hJ : Closed P main J) (hk : b.kind ≠ .early) (ho : ops[i]? = some o) (hg : gd ops o f.r = some true) (A : ActRel h.length ρ N f a) (H : HRel ρ h FC w ft)
  {x : Operand} {args : Array Operand} {ats : Array TypeId} (hop : o.op = .call { callee := .value x, args := args, argTypes := ats }) {l : Nat} (hx : ev f.r x = .func (.yield l) ⟨[]⟩ ⟨[]⟩) (hcl : loopAt h l args.size)
  (hc : ∀ w₁ cargs lo, RelyW ft w w₁ → (∀ i : Nat, VRel h.length ρ ((args.toList.map (ev f.r)).getD i unk) (cargs.getD i undef)) → cargs.length = args.size → w₁.heap[ρ.blk l]? = some (.loop lo) → lo.params.size = cargs.length →
   J (G (Frame.round (ρ.blk l) lo.fn ((lo.params.zip ⟨cargs⟩).foldl (fun tmps (t, a) => tmps.setIfInBounds t a) lo.tmps) lo.assign lo.body .normal) (b.at a (.inRegion ops (i :: rest) :: k) :: cs)) w₁ ft) :
  J (G (b.at a (.inRegion ops (i :: rest) :: k)) cs) w ft := by
 have hw := gd_wanted A hg
 have hnd : ∀ c, o.op ≠ .defer c := fun c e => by rw [hop] at e; cases e
 have hk' : (b.kind == CallKind.early) = false := by simpa using hk
 obtain ⟨hok, hv⟩ := (ev_rel A.regs x).val (by rw [hx]; simp [unk])
 rw [hx] at hv hok
 simp only [ren, renFn, renA, renL] at hv
 obtain ⟨st, pend, fn, r, size, params, assign, body, dfr, hl, hps⟩ := hcl
 refine hJ.step rfl fun w₁ h₁ => ?_
 have H₁ := H.rely h₁
 have hobj := H₁.obj l _ hl
 have hrd := H₁.rd l _ hl rfl
 match hlo : w₁.heap[ρ.blk l]?, hobj with
 | some (.loop lo), hobj =>
  obtain ⟨_, _, _, _, _, hpar, _⟩ := hobj
  have hsz : lo.params.size = (args.toList.map a.eval).length := by rw [hpar, hps]; simp
  have hrun : RunsTo P (EvOk ft) (execOp a.eval o) w₁ fun nx w' => nx = .round (ρ.blk l) lo.fn ((lo.params.zip ⟨args.toList.map a.eval⟩).foldl (fun tmps (t, a) => tmps.setIfInBounds t a) lo.tmps) lo.assign lo.body ∧ w' = w₁ := by
   unfold execOp
   rw [hop]
   simp only
   unfold resolve
   simp only [hv, Deferred.ofValue]
   refine RunsTo.bind (RunsTo.pure ?_)
   unfold invoke
   simp only
   unfold Instr.yield Instr.getLoop
   have he : (#[] ++ args.map a.eval : Array Value) = ⟨args.toList.map a.eval⟩ := by
    apply Array.ext'
    simp
   rw [he]
   refine RunsTo.bind (RunsTo.bind (RunsTo.getObj hlo (fun _ _ _ e => by cases e) ⟨rfl, hrd, fun e => by cases e⟩ (RunsTo.pure ?_)))
   have hne : ¬ ((⟨args.toList.map a.eval⟩ : Array Value).size ≠ lo.params.size) := by
    rw [hsz]
    simp
   simp only [if_neg hne]
   exact RunsTo.bind (RunsTo.pure (RunsTo.pure ⟨rfl, rfl⟩))
  obtain ⟨nx, w', es, hr, he, rfl, rfl⟩ := hrun #[] (by simp)
  have hes : ∀ e ∈ seen P b.fn es, EvOk ft e := fun e hm => he e (mem_seen hm)
  refine ⟨G (Frame.round (ρ.blk l) lo.fn ((lo.params.zip ⟨args.toList.map a.eval⟩).foldl (fun tmps (t, a) => tmps.setIfInBounds t a) lo.tmps) lo.assign lo.body .normal) (b.at a (.inRegion ops (i :: rest) :: k) :: cs), w', seen P b.fn es, ?_, rfl, (Stays.refl ft w').guar hes, ?_⟩
  ·rw [stepG_op ho hw hnd]
   simp only [stepG.apply, hr, if_true]
   simp [FB.at, hk', GStep.after, G]
  ·rw [Foot.ext_self]
   exact hc w' _ lo h₁ (getD_ev A.regs _) (by simp) hlo hsz
theorem step_any (hJ : Closed P main J) (hk : b.kind ≠ .early) (ho : ops[i]? = some o) (hg : gd ops o f.r = some true) (hd : ∀ t, o.dst = some t → t < N) (A : ActRel h.length ρ N f a) (H : HRel ρ h FC w ft) {K : Value → List AObj → Prop} (hop : opW P (Good P J) o f.r h K)
  (hc : ∀ v h' ρ' w' ft' a', K v h' → ActRel h'.length ρ' N (f.putO o.dst v) a' → HRel ρ' h' FC w' ft' → Env.upto h.length ρ ρ' → h.length ≤ h'.length → J (G (b.at a' (.inRegion ops rest :: k)) cs) w' ft') :
  J (G (b.at a (.inRegion ops (i :: rest) :: k)) cs) w ft := by
 unfold opW at hop
 split at hop
 ·rename_i x args ats hopp
  unfold callV at hop
  split at hop
  ·rename_i g first cap hx
   cases hlt : Nat.blt g P.funcs.size with
   | false => rw [hlt] at hop; exact hop.elim
   | true =>
    rw [hlt, cond_true] at hop
    have hlt' : g < P.funcs.size := by rw [← Nat.blt_eq]; exact hlt
    rcases hop with hop | ⟨_, hop⟩
    rotate_left
    ·obtain ⟨hok, hv⟩ := (ev_rel A.regs x).val (by rw [hx]; simp [unk])
     rw [hx] at hv hok
     simp only [ren, renFn, renA, renL_eq] at hv
     simp only [VOk, AOk] at hok
     have hrel : ∀ i : Nat, VRel h.length ρ ((first ++ args.toList.map (ev f.r) ++ cap).getD i unk) ((first.map (ren ρ) ++ args.toList.map a.eval ++ cap.map (ren ρ)).getD i undef) :=
      getD_app (by simp) (getD_app (by simp) (getD_ren hok.2.1) (getD_ev A.regs _)) (getD_ren hok.2.2)
     refine hop b a ops i rest o k cs ρ FC w ft (first.map (ren ρ) ++ args.toList.map a.eval ++ cap.map (ren ρ)) ⟨hk, ho, gd_wanted A hg, fun c e => (by rw [hopp] at e; cases e), ?_⟩ H hrel (by simp) fun v h' ρ' w' ft' cv hK H' hu hl hv => hc v h' ρ' w' ft' _ hK (act_put (upto_act hu hl A) hd hv) H' hu hl
     unfold execOp
     rw [hopp]
     simp only
     unfold resolve
     simp only [hv, Deferred.ofValue, pure_bind]
     unfold invoke
     simp only
     congr 1
     apply Array.ext'
     simp
    rcases hop.1 with ⟨_, hcl⟩ | ⟨hge, _⟩
    ·refine step_enter hJ hk ho hg A hopp hx hcl fun cargs h1 h2 => ?_
     refine hop.2 ρ FC w ft cs _ cargs _ H h1 h2 (.inl ⟨hlt', rfl⟩) fun v h' ρ' w' ft' cv hK H' hu hl hv => ?_
     have hf := FB.finish_at b a ops i rest k cv
     rw [ho] at hf
     rw [hf]
     exact hc v h' ρ' w' ft' _ hK (act_put (upto_act hu hl A) hd hv) H' hu hl
    ·exact absurd hlt' (Nat.not_lt.2 hge)
  ·rename_i l hx
   have hge : P.funcs.size ≤ yid P l := Nat.le_add_right _ _
   have hll : yid P l - P.funcs.size = l := by simp [yid]
   rcases hop with hop | ⟨⟨hlt, _⟩, _⟩
   rotate_left
   ·exact absurd hlt (Nat.not_lt.2 hge)
   rcases hop.1 with ⟨hlt, _⟩ | ⟨_, hcl⟩
   ·omega
   ·rw [hll] at hcl
    refine step_round hJ hk ho hg A H hopp hx (by simpa using hcl) fun w₁ cargs lo hr h1 h2 h3 h4 => ?_
    refine hop.2 ρ FC w₁ ft cs _ cargs _ (H.rely hr) h1 (by simpa using h2) (.inr ⟨hge, lo, by rw [hll]; exact h3, h4, by rw [hll]⟩) fun v h' ρ' w' ft' cv hK H' hu hl hv => ?_
    have hf := FB.finish_at b a ops i rest k cv
    rw [ho] at hf
    rw [hf]
    exact hc v h' ρ' w' ft' _ hK (act_put (upto_act hu hl A) hd hv) H' hu hl
  ·exact hop.elim
 ·exact step_op hJ hk ho hg hd A H hop hc
end
def subFn (σ : Nat → Nat) : Fn → Fn
 | .yield l => .yield (σ l)
 | f => f
mutual
/-- Block numbers replaced. -/
def sub (σ : Nat → Nat) : Value → Value
 | .pointer (some a) => .pointer (some ⟨σ a.block, a.off, a.spot⟩)
 | .slice (some a) n c => .slice (some ⟨σ a.block, a.off, a.spot⟩) n c
 | .map (some r) => .map (some (σ r))
 | .chan (some r) => .chan (some (σ r))
 | .func fn first cap => .func (subFn σ fn) (subA σ first) (subA σ cap)
 | .iface t v => .iface t (sub σ v)
 | .agg cs => .agg (subA σ cs)
 | .tuple vs => .tuple (subA σ vs)
 | .bool b => .bool b
 | .int k n => .int k n
 | .float k n => .float k n
 | .complex k a b => .complex k a b
 | .string s => .string s
 | .pointer none => .pointer none
 | .slice none n c => .slice none n c
 | .map none => .map none
 | .chan none => .chan none
 | .nilFunc => .nilFunc
 | .nilIface => .nilIface
def subA (σ : Nat → Nat) : Array Value → Array Value
 | ⟨l⟩ => ⟨subL σ l⟩
def subL (σ : Nat → Nat) : List Value → List Value
 | [] => []
 | v :: l => sub σ v :: subL σ l
end
def Env.comp (ρ : Env) (σ : Nat → Nat) : Env := ⟨fun b => ρ.blk (σ b), fun b => ρ.cap (σ b)⟩
section
variable {ρ : Env} {σ : Nat → Nat} {n m : Nat}
theorem subL_eq (l : List Value) : subL σ l = l.map (sub σ) := by
 induction l with
 | nil => simp [subL]
 | cons v l ih => simp [subL, ih]
mutual
theorem ren_sub : ∀ v : Value, ren ρ (sub σ v) = ren (ρ.comp σ) v
 | .pointer (some a) => by simp [sub, ren, renAddr, Env.comp]
 | .slice (some a) _ _ => by simp [sub, ren, renAddr, renCap, Env.comp]
 | .map (some r) => by simp [sub, ren, Env.comp]
 | .chan (some r) => by simp [sub, ren, Env.comp]
 | .func fn first cap => by
  have hf : renFn ρ (subFn σ fn) = renFn (ρ.comp σ) fn := by cases fn <;> simp [renFn, subFn, Env.comp]
  simp only [sub, ren, hf, renA_sub first, renA_sub cap]
 | .iface _ v => by simp only [sub, ren, ren_sub v]
 | .agg cs => by simp only [sub, ren, renA_sub cs]
 | .tuple vs => by simp only [sub, ren, renA_sub vs]
 | .bool _ | .int _ _ | .float _ _ | .complex _ _ _ | .string _ | .pointer none | .slice none _ _ | .map none | .chan none | .nilFunc | .nilIface => by simp only [sub, ren]
theorem renA_sub : ∀ a : Array Value, renA ρ (subA σ a) = renA (ρ.comp σ) a
 | ⟨l⟩ => by simp only [subA, renA, renL_sub l]
theorem renL_sub : ∀ l : List Value, renL ρ (subL σ l) = renL (ρ.comp σ) l
 | [] => by simp only [subL, renL]
 | v :: l => by simp only [subL, renL, ren_sub v, renL_sub l]
end
def Same (n : Nat) (σ : Nat → Nat) : Prop := ∀ b, b < n → σ b = b
mutual
theorem sub_same (h : Same n σ) : ∀ v : Value, VOk n v → sub σ v = v
 | .pointer (some a), hv => by simp only [VOk, AddrOk] at hv; simp [sub, h _ hv.1]
 | .slice (some a) _ _, hv => by simp only [VOk, AddrOk] at hv; simp [sub, h _ hv.1]
 | .map (some r), hv => by simp only [VOk] at hv; simp [sub, h _ hv]
 | .chan (some r), hv => by simp only [VOk] at hv; simp [sub, h _ hv]
 | .func fn first cap, hv => by
  simp only [VOk] at hv
  have hf : subFn σ fn = fn := by
   cases fn <;> simp only [subFn]
   have := hv.1
   simp only [FnOk] at this
   rw [h _ this]
  simp only [sub, hf, subA_same h first hv.2.1, subA_same h cap hv.2.2]
 | .iface _ v, hv => by simp only [VOk] at hv; simp only [sub, sub_same h v hv]
 | .agg cs, hv => by simp only [VOk] at hv; simp only [sub, subA_same h cs hv]
 | .tuple vs, hv => by simp only [VOk] at hv; simp only [sub, subA_same h vs hv]
 | .bool _, _ | .int _ _, _ | .float _ _, _ | .complex _ _ _, _ | .string _, _ | .pointer none, _ | .slice none _ _, _ | .map none, _ | .chan none, _ | .nilFunc, _ | .nilIface, _ => by simp only [sub]
theorem subA_same (h : Same n σ) : ∀ a : Array Value, AOk n a → subA σ a = a
 | ⟨l⟩, hv => by simp only [AOk] at hv; simp only [subA, subL_same h l hv]
theorem subL_same (h : Same n σ) : ∀ l : List Value, LOk n l → subL σ l = l
 | [], _ => by simp only [subL]
 | v :: l, hv => by simp only [LOk] at hv; simp only [subL, sub_same h v hv.1, subL_same h l hv.2]
end
theorem one_sub (v : Value) : one (sub σ v) = one v := by
 cases v with
 | pointer a => cases a <;> rfl
 | slice a _ _ => cases a <;> rfl
 | map a => cases a <;> rfl
 | chan a => cases a <;> rfl
 | _ => rfl
theorem sub_undef : sub σ unk = unk := by simp [unk, sub, subA, subL]
end
def ROk (n : Nat) (r : Nat → Value) : Prop := ∀ t, r t = unk ∨ VOk n (r t)
def objOk (n : Nat) : AObj → Prop
 | .dead => True
 | .cells c _ _ => LOk n c
 | .map es _ => ∀ e ∈ es, VOk 0 e.1 ∧ VOk n e.2
 | .loop _ _ _ r _ _ _ _ dfr => ROk n r ∧ dfr < n
 | .deferred => True
 | .chan _ => True
 | .group _ => True
 | .iter m _ _ => m < n
def heapOk (h : List AObj) : Prop := ∀ (i : Nat) (o : AObj), h[i]? = some o → objOk h.length o
def subO (σ : Nat → Nat) : AObj → AObj
 | .dead => .dead
 | .cells c wr sz => .cells (c.map (sub σ)) wr sz
 | .map es wr => .map (es.map fun e => (e.1, sub σ e.2)) wr
 | .loop st pend fn r size params assign body dfr => .loop st pend fn (fun t => sub σ (r t)) size params assign body (σ dfr)
 | .deferred => .deferred
 | .chan cap => .chan cap
 | .group x => .group x
 | .iter m k sn => .iter (σ m) k sn
theorem subO_live {σ : Nat → Nat} (o : AObj) : (subO σ o).live = o.live := by cases o <;> rfl
theorem subO_wrt {σ : Nat → Nat} (o : AObj) : (subO σ o).wrt = o.wrt := by cases o <;> rfl
theorem subO_same {n : Nat} {σ : Nat → Nat} (h : Same n σ) {o : AObj} (ho : objOk n o) : subO σ o = o := by
 cases o with
 | dead => rfl
 | deferred => rfl
 | chan cap => rfl
 | group x => rfl
 | iter m k sn =>
  simp only [objOk] at ho
  simp only [subO]
  rw [h m ho]
 | cells c wr sz =>
  simp only [objOk, LOk_iff] at ho
  simp only [subO]
  congr 1
  exact (List.map_congr_left fun v hv => sub_same h v (ho v hv)).trans (List.map_id _)
 | map es wr =>
  simp only [objOk] at ho
  simp only [subO]
  congr 1
  refine (List.map_congr_left fun e he => ?_).trans (List.map_id _)
  rw [sub_same h _ (ho e he).2]
  rfl
 | loop st pend fn r size params assign body dfr =>
  simp only [objOk] at ho
  simp only [subO]
  congr 1
  ·funext t
   rcases ho.1 t with e | e
   ·rw [e, sub_undef]
   ·exact sub_same h _ e
  ·exact h _ ho.2
structure GC (n0 : Nat) (σ : Nat → Nat) (h₂ h' : List AObj) : Prop where
 le : n0 ≤ h'.length
 same : Same n0 σ
 obj : ∀ (i : Nat) (o : AObj), h'[i]? = some o → o = .dead ∨ h₂[σ i]? = some (subO σ o)
 inj : ∀ (i j : Nat) (o o' : AObj), h'[i]? = some o → h'[j]? = some o' → o.live = true → o'.live = true → σ i = σ j → i = j
 ok : heapOk h'
section
variable {ρ : Env} {σ : Nat → Nat} {n0 n n' : Nat} {h h₂ h' : List AObj} {FC : Frm} {w : World} {ft : Foot} {f f' : RG} {a : Act} {N : Nat}
theorem sub_inv0 {v : Value} (u : sub σ v = .tuple ⟨[]⟩) : v = .tuple ⟨[]⟩ := by
 cases v with
 | tuple vs =>
  obtain ⟨l⟩ := vs
  simp only [sub, subA, subL_eq, Value.tuple.injEq] at u ⊢
  have := congrArg Array.toList u
  simp only [List.map_eq_nil_iff] at this
  rw [this]
 | pointer a => cases a <;> simp [sub] at u
 | slice a _ _ => cases a <;> simp [sub] at u
 | map a => cases a <;> simp [sub] at u
 | chan a => cases a <;> simp [sub] at u
 | _ => simp [sub] at u
theorem sub_inv {v : Value} (u : sub σ v = unk) : v = unk := by
 cases v with
 | tuple vs =>
  obtain ⟨l⟩ := vs
  simp only [sub, subA, subL_eq, unk, Value.tuple.injEq] at u ⊢
  have := congrArg Array.toList u
  simp only at this
  obtain ⟨x, rfl, hx⟩ := List.map_eq_singleton_iff.1 this
  rw [sub_inv0 hx]
 | pointer a => cases a <;> simp [sub, unk] at u
 | slice a _ _ => cases a <;> simp [sub, unk] at u
 | map a => cases a <;> simp [sub, unk] at u
 | chan a => cases a <;> simp [sub, unk] at u
 | _ => simp [sub, unk] at u
theorem RegRel.sub {r r' : Nat → Value} {tmps : Array Value} (hr : RegRel n ρ r tmps) (h : ∀ t, r' t = unk ∨ (r t = sub σ (r' t) ∧ VOk n' (r' t))) : RegRel n' (ρ.comp σ) r' tmps := by
 intro t
 rcases h t with e | ⟨e, ok⟩
 ·exact .inl e
 ·rcases hr t with u | ⟨_, u⟩
  ·rw [e] at u
   have hu : r' t = unk := sub_inv u
   exact .inl hu
  ·exact .inr ⟨ok, by rw [u, e, ren_sub]⟩
theorem ORel.sub {b : Nat} {o : AObj} {x : Option Obj} (ho : ORel n ρ (σ b) (subO σ o) x) (hok : objOk n' o) : ORel n' (ρ.comp σ) b o x := by
 cases o with
 | dead => trivial
 | cells c wr sz =>
  match x, ho with
  | some (.cells c' ty fr), ho =>
   obtain ⟨h1, h2, h3, h4⟩ := ho
   simp only [objOk, LOk_iff] at hok
   refine ⟨fun i v hv => ?_, fun hz => by simpa using h2 hz, fun hz => by simpa [Env.comp] using h3 hz, h4⟩
   rcases h1 i (Go.Proofs.Ythnccaajpdnndaa.sub σ v) (by rw [List.getElem?_map, hv]; rfl) with u | ⟨a1, a2, a3⟩
   ·exact .inl ⟨sub_inv u.1, u.2⟩
   ·exact .inr ⟨hok v (List.mem_of_getElem? hv), by rw [one_sub] at a2; exact a2, by rw [a3, ren_sub]⟩
 | map es wr =>
  match x, ho with
  | some (.map es' _), ⟨ho, hcl⟩ =>
   simp only [objOk] at hok
   refine ⟨⟨by simpa using ho.1, fun i k v hv => ?_⟩, by simpa using hcl⟩
   obtain ⟨a1, a2, e, a3, a4, a5, a6⟩ := ho.2 i k (Go.Proofs.Ythnccaajpdnndaa.sub σ v) (by rw [List.getElem?_map, hv]; rfl)
   exact ⟨a1, (hok _ (List.mem_of_getElem? hv)).2, e, a3, a4, by rw [a5, ren_sub], a6⟩
 | iter m k sn =>
  match x, ho with
  | some (.mapIter m' since seen last), ho => exact ⟨hok, ho.2⟩
 | loop st pend fn r size params assign body dfr =>
  match x, ho with
  | some (.loop l), ho =>
   obtain ⟨a1, a2, a3, a4, a5, a6, a7, a8, a9, a10⟩ := ho
   refine ⟨a1, a2, a3, a4.sub fun t => ?_, a5, a6, a7, a8, a9, hok.2⟩
   rcases hok.1 t with e | e
   ·exact .inl e
   ·exact .inr ⟨rfl, e⟩
 | deferred =>
  match x, ho with
  | some (.deferred (some [])), _ => trivial
 | chan cap =>
  match x, ho with
  | some (.chan _ _ _ _ _ _), ho => exact ho
 | group x => trivial
theorem GC.rel (g : GC n0 σ h₂ h') (H : HRel ρ h₂ FC w ft) : HRel (ρ.comp σ) h' FC w ft where
 obj := fun b o hb => by
  rcases g.obj b o hb with rfl | e
  ·trivial
  ·exact (H.obj _ _ e).sub (g.ok b o hb)
 inj := fun b b' o o' hb hb' l l' e => by
  have e1 := (g.obj b o hb).resolve_left (fun x => by rw [x] at l; cases l)
  have e2 := (g.obj b' o' hb').resolve_left (fun x => by rw [x] at l'; cases l')
  exact g.inj b b' o o' hb hb' l l' (H.inj _ _ _ _ e1 e2 (by rw [subO_live]; exact l) (by rw [subO_live]; exact l') e)
 rd := fun b o hb l => by
  have e1 := (g.obj b o hb).resolve_left (fun x => by rw [x] at l; cases l)
  exact H.rd _ _ e1 (by rw [subO_live]; exact l)
 wr := fun b o hb l => by
  have e1 := (g.obj b o hb).resolve_left (fun x => by rw [x] at l; cases l)
  exact H.wr _ _ e1 (by rw [subO_wrt]; exact l)
 lt := H.lt
 sub := H.sub
 kept := fun b o hb => by
  obtain ⟨a1, a2, a3⟩ := H.kept b o hb
  refine ⟨a1, a2, fun i oi hi l => ?_⟩
  have e1 := (g.obj i oi hi).resolve_left (fun x => by rw [x] at l; cases l)
  exact a3 _ _ e1 (by rw [subO_wrt]; exact l)
 keptW := H.keptW
 tag := fun b x hb => by
  have e1 := (g.obj b _ hb).resolve_left (fun e => by cases e)
  exact H.tag _ x e1
theorem GC.upto (g : GC n0 σ h₂ h') : Env.upto n0 ρ (ρ.comp σ) := fun b hb => by simp [Env.comp, g.same b hb]
theorem HRel.ok (H : HRel ρ h FC w ft) : heapOk h := by
 intro i o hi
 have := H.obj i o hi
 cases o with
 | dead => trivial
 | deferred => trivial
 | chan cap => trivial
 | group x => trivial
 | iter m k sn =>
  match hx : w.heap[ρ.blk i]?, this with
  | some (.mapIter m' since seen last), ho => exact ho.1
 | cells c wr sz =>
  match hx : w.heap[ρ.blk i]?, this with
  | some (.cells c' ty fr), ho =>
   simp only [objOk, LOk_iff]
   intro v hv
   obtain ⟨j, hj⟩ := List.getElem?_of_mem hv
   exact H.cellOk hi hj
 | map es wr =>
  match hx : w.heap[ρ.blk i]?, this with
  | some (.map es' _), ⟨ho, _⟩ =>
   intro e he
   obtain ⟨j, hj⟩ := List.getElem?_of_mem he
   obtain ⟨a1, a2, _⟩ := ho.2 j e.1 e.2 hj
   exact ⟨a1, a2⟩
 | loop st pend fn r size params assign body dfr =>
  match hx : w.heap[ρ.blk i]?, this with
  | some (.loop l), ho =>
   obtain ⟨a1, a2, a3, a4, a5, a6, a7, a8, a9, a10⟩ := ho
   refine ⟨fun t => ?_, a10⟩
   rcases a4 t with e | ⟨e, _⟩
   ·exact .inl e
   ·exact .inr e
structure GCR (n0 : Nat) (σ : Nat → Nat) (f₂ : RG) (h₂ : List AObj) (f' : RG) (h' : List AObj) : Prop where
 gc : GC n0 σ h₂ h'
 regs : ∀ t, f'.r t = unk ∨ (f₂.r t = sub σ (f'.r t) ∧ VOk h'.length (f'.r t))
 ds : f₂.ds = f'.ds.map σ
 dok : ∀ b ∈ f'.ds, b < h'.length
theorem GCR.act {f₂ : RG} (g : GCR n0 σ f₂ h₂ f' h') (A : ActRel h₂.length ρ N f₂ a) : ActRel h'.length (ρ.comp σ) N f' a :=
 ⟨A.regs.sub g.regs, A.size, by rw [A.defers, g.ds, List.map_map]; rfl, g.dok⟩
variable {P : Program} {main : Bool} {J : JT} {fn : FuncId} {Q : QT}
theorem Sem.gc {c : Code} {f₂ : RG} (g : GCR n0 σ f₂ h₂ f' h') (hs : Sem J N n0 fn c f' h' Q) : Sem J N n0 fn c f₂ h₂ Q := by
 intro b a k cs L ρ FC w ft h1 h2 h3 h4 h5 h6 hc
 exact hs b a k cs L _ FC w ft h1 h2 h3 (g.act h4) (g.gc.rel h5) g.gc.le fun e f3 h3' ρ3 w3 ft3 a3 q r1 r2 r3 r4 => hc e f3 h3' ρ3 w3 ft3 a3 q r1 r2 (Env.upto_trans g.gc.upto r3) r4
theorem Sem.ok {c : Code} (hs : heapOk h → n0 ≤ h.length → Sem J N n0 fn c f h Q) : Sem J N n0 fn c f h Q := by
 intro b a k cs L ρ FC w ft h1 h2 h3 h4 h5 h6 hc
 exact hs h5.ok h6 b a k cs L ρ FC w ft h1 h2 h3 h4 h5 h6 hc
theorem Sem_loop (hJ : Closed P main J) {c : Code} (I : Nat → RG → List AObj → Prop)
  (hI : ∀ m f h, I m f h → Sem J N n0 fn c f h (thenK (fun f h => ∃ m', m' < m ∧ I m' f h) Q))
  {m : Nat} (h0 : I m f h) : Sem J N n0 fn (.loop c) f h Q := by
 have main : ∀ (m : Nat) (f : RG) (h : List AObj), I m f h → ∀ (b : FB) (a : Act) (k : List Item) (cs : List Frame) (L : Option Code → Act → World → Foot → Prop) (ρ : Env) (FC : Frm) (w : World) (ft : Foot), b.tag = fn → b.kind ≠ .early → LeaveOk J b cs L →
   ActRel h.length ρ N f a → HRel ρ h FC w ft → n0 ≤ h.length → Cont J N n0 b k cs L ρ FC Q → J (G (b.at a (.code c :: .inLoop c :: k)) cs) w ft := by
  intro m
  induction m using Nat.strongRecOn with
  | ind m ih =>
   intro f h hi b a k cs L ρ FC w ft h1 h2 h3 h4 h5 h6 hc
   refine hI m f h hi b a (.inLoop c :: k) cs L ρ FC w ft h1 h2 h3 h4 h5 h6 fun e f' h' ρ' w' ft' a' q g1 g2 g3 g4 => ?_
   cases e with
   | normal =>
    obtain ⟨m', hm, hi'⟩ := q
    refine hJ.ctrl rfl rfl (g' := G (b.at a' (.code c :: .inLoop c :: k)) cs) (fun w => by simp [G, stepG, stepG.exec, FB.at]) ?_
    exact ih m' hm f' h' hi' b a' k cs L _ FC w' ft' h1 h2 h3 g1 g2 g4 fun e f3 h3' ρ3 w3 ft3 a3 q r1 r2 r3 r4 => hc e f3 h3' ρ3 w3 ft3 a3 q r1 r2 (Env.upto_trans g3 r3) r4
   | exit id => exact AfterJ.push (fun _ => rfl) (by simp) (hc _ _ _ _ _ _ _ q g1 g2 g3 g4)
   | ret => exact AfterJ.push (fun _ => rfl) (by simp) (hc _ _ _ _ _ _ _ q g1 g2 g3 g4)
   | goto l => exact hc _ _ _ _ _ _ _ q g1 g2 g3 g4
   | panic l => exact hc _ _ _ _ _ _ _ q g1 g2 g3 g4
   | outgrown => exact hc _ _ _ _ _ _ _ q g1 g2 g3 g4
 intro b a k cs L ρ FC w ft h1 h2 h3 h4 h5 h6 hc
 refine hJ.ctrl rfl rfl (g' := G (b.at a (.code c :: .inLoop c :: k)) cs) (fun w => by simp [G, stepG, stepG.exec, FB.at]) ?_
 exact main m f h h0 b a k cs L ρ FC w ft h1 h2 h3 h4 h5 h6 hc
end
def resW (P : Program) : List ResultVar → (Nat → Value) → List AObj → (List Value → Prop) → Prop
 | [], _, _, K => K []
 | .tmp t :: rs, r, h, K => r t ≠ unk ∧ resW P rs r h fun vs => K (r t :: vs)
 | .cell a t :: rs, r, h, K => match tk P t with
  | some (g, s) => aLoad g s (r a) h fun v => resW P rs r h fun vs => K (v :: vs)
  | none => False
def pack (vs : List Value) : Value :=
 match vs with
 | [v] => v
 | vs => .tuple ⟨vs⟩
def takeW : List Nat → List AObj → (List AObj → Prop) → Prop
 | [], h, K => K h
 | d :: ds, h, K => h[d]? = some .deferred ∧ takeW ds (h.set d .dead) K
def RetQ (P : Program) (rs : List ResultVar) (n0 : Nat) (K : Value → List AObj → Prop) : QT := fun e f h =>
 match e with
 | .normal | .ret => takeW f.ds h fun h => resW P rs f.r h fun vs => K (pack vs) h ∨ ∃ σ h' v, GC n0 σ h h' ∧ pack vs = sub σ v ∧ VOk h'.length v ∧ K v h'
 | _ => False
section
variable {P : Program} {main : Bool} {J : JT} {N : Nat} {ρ : Env} {h : List AObj} {FC : Frm} {w : World} {ft : Foot} {f : RG} {a : Act} {cs : List Frame} {b : FB}
theorem HRel.clobber (H : HRel ρ h FC w ft) {d : Nat} {o₀ : AObj} (hd : h[d]? = some o₀) (hw : o₀.wrt = true) (x : Obj) : HRel ρ (h.set d .dead) FC { w with heap := w.heap.setIfInBounds (ρ.blk d) x } ft := by
 have hl0 : o₀.live = true := by cases o₀ <;> first | rfl | cases hw
 have hoth : ∀ y, y ≠ ρ.blk d → (w.heap.setIfInBounds (ρ.blk d) x)[y]? = w.heap[y]? := fun y hy => by
  rw [Array.getElem?_setIfInBounds, if_neg (fun e => hy e.symm)]
 refine ⟨fun i o hi => ?_, fun i j o o' hi hj l1 l2 e => ?_, fun i o hi hl => ?_, fun i o hi hl => ?_, fun y hy => ?_, H.sub, fun y o hy => ?_, H.keptW, fun i x hi => (by
  rcases set_get hi with ⟨rfl, e, _⟩ | ⟨_, hi⟩
  ·cases e
  ·exact H.tag i x hi)⟩
 ·rw [List.length_set]
  rcases set_get hi with ⟨rfl, rfl, _⟩ | ⟨hne, hi⟩
  ·trivial
  ·cases hl : o.live with
   | false => cases o <;> first | trivial | cases hl
   | true =>
    show ORel h.length ρ i o (w.heap.setIfInBounds (ρ.blk d) x)[ρ.blk i]?
    rw [hoth _ (fun e => hne (H.inj _ _ _ _ hi hd hl hl0 e))]
    exact H.obj _ _ hi
 ·rcases set_get hi with ⟨rfl, rfl, _⟩ | ⟨hne, hi⟩
  ·cases l1
  ·rcases set_get hj with ⟨rfl, rfl, _⟩ | ⟨hne', hj⟩
   ·cases l2
   ·exact H.inj _ _ _ _ hi hj l1 l2 e
 ·rcases set_get hi with ⟨rfl, rfl, _⟩ | ⟨hne, hi⟩
  ·cases hl
  ·exact H.rd _ _ hi hl
 ·rcases set_get hi with ⟨rfl, rfl, _⟩ | ⟨hne, hi⟩
  ·cases hl
  ·exact H.wr _ _ hi hl
 ·simpa using H.lt y hy
 ·obtain ⟨a1, a2, a3⟩ := H.kept y o hy
  refine ⟨?_, a2, fun i oi hi hl => ?_⟩
  ·show (w.heap.setIfInBounds (ρ.blk d) x)[y]? = some o
   rw [hoth _ (fun e => a3 _ _ hd hw e.symm)]
   exact a1
  ·rcases set_get hi with ⟨rfl, rfl, _⟩ | ⟨hne, hi⟩
   ·cases hl
   ·exact a3 _ _ hi hl
theorem evOk_objW {r : Nat} {x : Obj} (hr : ft.rd r) (hw : ft.wr r) (hx : x.isChan = false) : EvOk ft ⟨.obj r, true, x.isChan⟩ := ⟨hx, hr, fun _ => hw⟩
theorem evOk_objR {r : Nat} {x : Obj} (hr : ft.rd r) (hx : x.isChan = false) : EvOk ft ⟨.obj r, false, x.isChan⟩ := ⟨hx, hr, fun e => by cases e⟩
theorem take_run (H : HRel ρ h FC w ft) {d : Nat} (hd : h[d]? = some .deferred) {Q : List Deferred → World → Prop} (hQ : ∀ w', HRel ρ (h.set d .dead) FC w' ft → Stays ft w w' → w'.heap.size = w.heap.size → Q [] w') : RunsTo P (EvOk ft) (Instr.takeDeferred (ρ.blk d)) w Q := by
 have ho := H.obj d _ hd
 have hrd := H.rd d _ hd rfl
 have hwr := H.wr d _ hd rfl
 match hw : w.heap[ρ.blk d]?, ho with
 | some (.deferred (some [])), _ =>
  unfold Instr.takeDeferred
  refine RunsTo.bind (RunsTo.getObj hw (fun _ _ _ e => by cases e) (evOk_objR hrd rfl) ?_)
  simp only
  refine RunsTo.bind (RunsTo.setObj hw (fun _ _ _ e => by cases e) (evOk_objW hrd hwr rfl) (RunsTo.pure ?_))
  refine hQ _ (H.clobber hd rfl _) ⟨fun y hy hny => ?_, by simp, rfl, rfl, rfl⟩ (by simp)
  show (w.heap.setIfInBounds (ρ.blk d) _)[y]? = _
  have hne : ρ.blk d ≠ y := fun e => hny (by rw [← e]; exact hwr)
  rw [Array.getElem?_setIfInBounds, if_neg hne]
def resF (tmps : Array Value) : ResultVar → Go.Sem Value
 | .tmp t => pure (tmps.getD t undef)
 | .cell x t => do loadVar t (← asAddr (tmps.getD x undef))
theorem res_run (H : HRel ρ h FC w ft) {n : Nat} (hr : RegRel h.length ρ f.r a.tmps) {Q : List Value → World → Prop} : ∀ (rs : List ResultVar) {K : List Value → Prop}, resW P rs f.r h K →
  (∀ vs, K vs → (∀ v ∈ vs, VOk h.length v) → Q (vs.map (ren ρ)) w) →
  RunsTo P (EvOk ft) (rs.mapM (resF a.tmps)) w Q
 | [], K, hK, hQ => by
  rw [List.mapM_nil]
  exact RunsTo.pure (hQ [] hK (by simp))
 | .tmp t :: rs, K, hK, hQ => by
  rw [List.mapM_cons]
  have hv := (hr t).resolve_left hK.1
  refine RunsTo.bind (RunsTo.pure (RunsTo.bind (res_run (n := n) H hr rs hK.2 fun vs hvs hok => RunsTo.pure ?_)))
  rw [hv.2]
  exact hQ (f.r t :: vs) hvs (by simpa using ⟨hv.1, hok⟩)
 | .cell x t :: rs, K, hK, hQ => by
  rw [List.mapM_cons]
  simp only [resW] at hK
  split at hK
  ·rename_i g s ht
   have hx : f.r x ≠ unk := by
    intro e
    rw [e] at hK
    exact hK
   have hv := (hr x).resolve_left hx
   have hl : resF a.tmps (.cell x t) = Instr.loadAt t (ren ρ (f.r x)) := by
    unfold resF
    simp only
    rw [hv.2]
    unfold aLoad at hK
    split at hK
    ·rename_i e
     rw [e]
     rfl
    ·exact hK.elim
   rw [hl]
   refine RunsTo.bind (sound_load H ht hK fun v hk hok => ?_)
   refine RunsTo.bind (res_run (n := n) H hr rs hk fun vs hvs hoks => RunsTo.pure ?_)
   exact hQ (v :: vs) hvs (by simpa using ⟨hok, hoks⟩)
  ·exact hK.elim
theorem pack_ren (vs : List Value) : (if h : (vs.map (ren ρ)).toArray.size = 1 then (vs.map (ren ρ)).toArray[0] else .tuple (vs.map (ren ρ)).toArray) = ren ρ (pack vs) := by
 match vs with
 | [] => simp [pack, ren, renA, renL]
 | [v] => simp [pack]
 | v :: u :: vs => simp [pack, ren, renA, renL_eq]
theorem pack_ok {n : Nat} {vs : List Value} (h : ∀ v ∈ vs, VOk n v) : VOk n (pack vs) := by
 match vs with
 | [] => simp [pack, VOk, AOk, LOk]
 | [v] => exact h v (by simp)
 | v :: u :: vs =>
  simp only [pack, VOk, AOk]
  exact (LOk_iff _).2 h
theorem leave_run (hJ : Closed P main J) {fn : Func} (hk : b.kind = .normal) (hf : P.funcs[b.fn]? = some fn) {c : Frame} {n0 : Nat} {K : Value → List AObj → Prop}
  (hc : ∀ v h' ρ' w' ft' cv, K v h' → HRel ρ' h' FC w' ft' → Env.upto n0 ρ ρ' → n0 ≤ h'.length → VRel h'.length ρ' v cv → J (G (c.finish cv) cs) w' ft') :
  ∀ (ds : List Nat) (h : List AObj) (w : World) (ft : Foot) (a : Act) (fr : Frame), fr.fn = b.fn → fr.kind = .normal → fr.mode = .returning → fr.tmps = a.tmps → fr.defers = ds.map (fun d => { target := .collected (ρ.blk d), args := #[] }) → RegRel h.length ρ f.r a.tmps → HRel ρ h FC w ft → n0 ≤ h.length →
   takeW ds h (fun h => resW P fn.results.toList f.r h fun vs => K (pack vs) h ∨ ∃ σ h' v, GC n0 σ h h' ∧ pack vs = sub σ v ∧ VOk h'.length v ∧ K v h') → J (G fr (c :: cs)) w ft
 | [], h, w, ft, a, fr, e1, e2, e3, e4, e5, hr, H, hn, hq => by
  obtain ⟨fn', tmps, todo, defers, mode, kind, ro⟩ := fr
  simp only at e1 e2 e3 e4 e5
  subst e1 e2 e3 e4 e5
  refine hJ.step rfl fun w₁ h₁ => ?_
  have H₁ := H.rely h₁
  have hrun : RunsTo P (EvOk ft) (results fn a.tmps) w₁ fun cv w' => w' = w₁ ∧ ∃ vs, cv = ren ρ (pack vs) ∧ (∀ v ∈ vs, VOk h.length v) ∧ (K (pack vs) h ∨ ∃ σ h' v, GC n0 σ h h' ∧ pack vs = sub σ v ∧ VOk h'.length v ∧ K v h') := by
   unfold results
   have : (fn.results.mapM (resF a.tmps)) = Functor.map List.toArray (fn.results.toList.mapM (resF a.tmps)) := by
    rw [Array.mapM_eq_mapM_toList]
   show RunsTo P (EvOk ft) (do
    let vs ← fn.results.mapM (resF a.tmps)
    pure (if h : vs.size = 1 then vs[0] else .tuple vs)) w₁ _
   rw [this]
   refine RunsTo.bind (RunsTo.map (res_run (n := 0) H₁ hr fn.results.toList hq fun vs hvs hok => RunsTo.pure ⟨rfl, vs, ?_, hok, hvs⟩))
   exact pack_ren vs
  obtain ⟨cv, w', es, hr', he, rfl, vs, rfl, hvok, hvs⟩ := hrun #[] (by simp)
  have hes : ∀ e ∈ seen P b.fn es, EvOk ft e := fun e hm => he e (mem_seen hm)
  refine ⟨G (c.finish (ren ρ (pack vs))) cs, w', seen P b.fn es, ?_, rfl, (Stays.refl ft w').guar hes, ?_⟩
  ·simp only [G, stepG, unwind, List.map_nil, hf, hr']
   simp [doReturn, GStep.after]
  ·rw [Foot.ext_self]
   rcases hvs with hK | ⟨σ, h', v, g, hp, hok, hK⟩
   ·exact hc _ h _ w' ft _ hK H₁ (Env.upto_refl _ _) hn (.inr ⟨pack_ok hvok, rfl⟩)
   ·rw [hp, ren_sub]
    exact hc v h' _ w' ft _ hK (g.rel H₁) g.upto g.le (.inr ⟨hok, rfl⟩)
 | d :: ds, h, w, ft, a, fr, e1, e2, e3, e4, e5, hr, H, hn, hq => by
  obtain ⟨fn', tmps, todo, defers, mode, kind, ro⟩ := fr
  simp only at e1 e2 e3 e4 e5
  subst e1 e2 e3 e4 e5
  obtain ⟨hd, hq⟩ := hq
  refine hJ.step rfl fun w₁ h₁ => ?_
  have H₁ := H.rely h₁
  obtain ⟨cv, w', es, hr', he, rfl, H', hst, hsz⟩ := take_run (P := P) H₁ hd (Q := fun l w' => l = [] ∧ HRel ρ (h.set d .dead) FC w' ft ∧ Stays ft w₁ w' ∧ w'.heap.size = w₁.heap.size) (fun w' a1 a2 a3 => ⟨rfl, a1, a2, a3⟩) #[] (by simp)
  have hes : ∀ e ∈ seen P b.fn es, EvOk ft e := fun e hm => he e (mem_seen hm)
  refine ⟨G { fn := b.fn, tmps := a.tmps, todo := todo, defers := ds.map (fun d => { target := .collected (ρ.blk d), args := #[] }), mode := .returning, kind := .normal, roundOf := ro } (c :: cs), w', seen P b.fn es, ?_, rfl, hst.guar hes, ?_⟩
  ·simp only [G, stepG, unwind, List.map_cons, hr']
   simp [GStep.after]
  ·rw [hsz, Foot.ext_self]
   exact leave_run hJ hk hf hc ds _ w' ft a _ rfl rfl rfl rfl rfl (by rw [List.length_set]; exact hr) H' (by rw [List.length_set]; exact hn) hq
end
def regs (args : List Value) : Nat → Value := fun t => args.getD t unk
section
variable {P : Program} {main : Bool} {J : JT} {g : FuncId} {args : List Value} {h : List AObj} {K : Value → List AObj → Prop}
theorem Good.mono {K' : Value → List AObj → Prop} (hg : Good P J g args h K) (hk : ∀ v h, K v h → K' v h) : Good P J g args h K' :=
 hg.imp (fun hg => ⟨hg.1, fun ρ FC w ft cs c cargs fr h1 h2 h3 he h4 => hg.2 ρ FC w ft cs c cargs fr h1 h2 h3 he fun v h' ρ' w' ft' cv k => h4 v h' ρ' w' ft' cv (hk _ _ k)⟩) fun hg => ⟨hg.1, fun b a ops i rest o k cs ρ FC w ft cargs s h1 h2 h3 h4 => hg.2 b a ops i rest o k cs ρ FC w ft cargs s h1 h2 h3 fun v h' ρ' w' ft' cv k => h4 v h' ρ' w' ft' cv (hk _ _ k)⟩
theorem good_of_sem (hJ : Closed P main J) {fn : Func} (hf : P.funcs[g]? = some fn) {c : Code} (hb : fn.body = some c) (hn : (fn.name == "runtime.NumGoroutine") = false) (ha : args.length ≤ fn.ntmps)
  (hs : heapOk h → Sem J fn.ntmps h.length g c ⟨regs args, []⟩ h (RetQ P fn.results.toList h.length K)) : Good P J g args h K := by
 have hlt : g < P.funcs.size := (Array.getElem?_eq_some_iff.1 hf).1
 refine .inl ⟨.inl ⟨hlt, by simp [callable, hf, hb, hn]⟩, fun ρ FC w ft cs c' cargs fr H hr hl hent hc => ?_⟩
 obtain rfl : fr = Frame.enter P g ⟨cargs⟩ .normal := by
  rcases hent with ⟨_, e⟩ | ⟨hge, _⟩
  ·exact e
  ·exact absurd hlt (Nat.not_lt.2 hge)
 have he : Frame.enter P g ⟨cargs⟩ .normal = FB.at ⟨g, .normal, none, []⟩ ⟨⟨cargs⟩ ++ Array.replicate (fn.ntmps - cargs.length) undef, []⟩ [.code c] := by
  simp [Frame.enter, FB.at, hf, hb]
 rw [he]
 have A : ActRel h.length ρ fn.ntmps ⟨regs args, []⟩ ⟨⟨cargs⟩ ++ Array.replicate (fn.ntmps - cargs.length) undef, []⟩ := by
  refine ⟨fun t => ?_, by simp; omega, rfl, by simp⟩
  have := hr t
  have ht : ((⟨cargs⟩ : Array Value) ++ Array.replicate (fn.ntmps - cargs.length) undef).getD t undef = cargs.getD t undef := by
   rw [Array.getD_eq_getD_getElem?, List.getD_eq_getElem?_getD]
   by_cases hx : t < cargs.length
   ·rw [Array.getElem?_append_left (by simpa using hx)]
    simp
   ·rw [Array.getElem?_append_right (by simp; omega), List.getElem?_eq_none (by omega)]
    simp only [Array.getElem?_replicate]
    split <;> rfl
  rw [ht]
  exact this
 have last : ∀ f' h' ρ' w' ft' a' todo, RetQ P fn.results.toList h.length K .ret f' h' → ActRel h'.length ρ' fn.ntmps f' a' → HRel ρ' h' FC w' ft' → Env.upto h.length ρ ρ' → h.length ≤ h'.length →
   J (G { (FB.at ⟨g, .normal, none, []⟩ a' todo) with mode := .returning } (c' :: cs)) w' ft' := by
  intro f' h' ρ' w' ft' a' todo q A' H' hu hl
  exact leave_run (b := ⟨g, .normal, none, []⟩) (f := f') (n0 := h.length) (ρ := ρ') hJ rfl hf (fun v h2 ρ2 w2 ft2 cv k H2 u2 l2 v2 => hc v h2 ρ2 w2 ft2 cv k H2 (Env.upto_trans hu u2) l2 v2) f'.ds h' w' ft' a' _ rfl rfl rfl rfl ((List.append_nil _).trans A'.defers) A'.regs H' hl q
 refine hs H.ok ⟨g, .normal, none, []⟩ _ [] (c' :: cs) (fun jump a w ft => jump = some .ret ∧ ∀ todo, J (G { (FB.at ⟨g, .normal, none, []⟩ a todo) with mode := .returning } (c' :: cs)) w ft) ρ FC w ft rfl (by simp) ?_ A H (Nat.le_refl _) ?_
 ·rintro jump a w ft todo ⟨rfl, hj⟩ hh
  rcases hh with ⟨_, k, rfl⟩ | ⟨id, k, e, _⟩ | ⟨e, _⟩
  ·exact hJ.ctrl rfl rfl (fun w => by simp [G, stepG, stepG.exec, FB.at]) (hj (.code .ret :: k))
  ·cases e
  ·cases e
 ·intro e f' h' ρ' w' ft' a' q A' H' hu hl
  cases e with
  | normal => exact hJ.ctrl rfl rfl (fun w => by simp [G, stepG, stepG.exec, FB.at]) (last f' h' ρ' w' ft' a' [] q A' H' hu hl)
  | ret => exact ⟨rfl, fun todo => last f' h' ρ' w' ft' a' todo q A' H' hu hl⟩
  | exit id => exact q.elim
  | goto l => exact q.elim
  | panic l => exact q.elim
  | outgrown => exact q.elim
end
def Pin (F : (Value → Prop) → Prop) : Prop := ∀ K, F K → ∃ v, K v ∧ ∀ K1 : Value → Prop, K1 v → F K1
section
variable {P : Program}
theorem pin_const (v : Value) : Pin fun K => K v := fun _ h => ⟨v, h, fun _ h => h⟩
theorem pin_no : Pin fun _ => False := fun _ h => h.elim
theorem pin_and {p : Prop} {F : (Value → Prop) → Prop} (h : Pin F) : Pin fun K => p ∧ F K := fun K hk => by
 obtain ⟨v, a, b⟩ := h K hk.2
 exact ⟨v, a, fun K1 k => ⟨hk.1, b K1 k⟩⟩
theorem pin_aLoad {g : Bool} {s : Nat} {p : Value} {h : List AObj} : Pin (aLoad g s p h) := by
 intro K hK
 unfold aLoad at hK ⊢
 split at hK
 ·split at hK
  ·rename_i hb
   cases g with
   | true => exact ⟨_, hK.2.2, fun K1 k => ⟨hK.1, hK.2.1, k⟩⟩
   | false =>
    simp only [cond_false] at hK
    split at hK
    ·rename_i hv
     exact ⟨_, hK.2, fun K1 k => by first | exact ⟨hK.1, k⟩ | (simp only [cond_false]; exact ⟨hK.1, k⟩) | (simp only [cond_false, hv]; exact ⟨hK.1, k⟩)⟩
    ·exact hK.elim
  ·exact hK.elim
 ·exact hK.elim
theorem pin_aField {g : Bool} {s o : Nat} {x : Value} : Pin (aField g s o x) := by
 intro K hK
 unfold aField at hK ⊢
 split at hK
 ·cases g with
  | true => exact ⟨_, hK.2, fun K1 k => ⟨hK.1, k⟩⟩
  | false =>
   simp only [cond_false] at hK
   split at hK
   ·rename_i hv
    exact ⟨_, hK, fun K1 k => by first | exact k | (simp only [cond_false]; exact k) | (simp only [cond_false, hv]; exact k)⟩
   ·exact hK.elim
 ·exact hK.elim
theorem pin_aOff {p : Value} {o : Nat} : Pin (aOff p o) := by
 intro K hK
 unfold aOff at hK ⊢
 split at hK
 ·exact ⟨_, hK, fun K1 k => k⟩
 ·exact hK.elim
theorem pin_aIdx {s : Nat} {x i : Value} : Pin (aIdx s x i) := by
 intro K hK
 unfold aIdx at hK ⊢
 split at hK
 ·exact ⟨_, hK.2, fun K1 k => ⟨hK.1, k⟩⟩
 ·exact hK.elim
theorem pin_aIdxA {l s : Nat} {x i : Value} : Pin (aIdxA l s x i) := by
 intro K hK
 unfold aIdxA at hK ⊢
 split at hK
 ·exact ⟨_, hK.2, fun K1 k => ⟨hK.1, k⟩⟩
 ·exact hK.elim
theorem pin_aInt {op : BinOp} {k : IntKind} {a b : Int} : Pin (aInt op k a b) := by
 cases op <;> first | exact pin_no | exact pin_const _ | exact pin_and (pin_const _)
theorem pin_aShift {op : BinOp} {k : IntKind} {a b : Int} : Pin (aShift op k a b) := by
 unfold aShift
 refine pin_and ?_
 cases op <;> first | exact pin_no | exact pin_const _
theorem pin_aEq {n : Bool} {t : TypeId} {x y : Value} : Pin (aEq P n t x y) := by
 intro K hK
 unfold aEq at hK ⊢
 split at hK
 ·rename_i hb
  exact ⟨_, hK.2, fun K1 k => by first | exact ⟨hK.1, k⟩ | (simp only [hb]; exact ⟨hK.1, k⟩)⟩
 ·exact hK.elim
theorem pin_aStr {op : BinOp} {a b : ByteArray} : Pin (aStr op a b) := by
 cases op <;> first | exact pin_no | exact pin_const _ | exact pin_and (pin_const _)
theorem pin_aBin {op : BinOp} {t : TypeId} {x y : Value} : Pin (aBin P op t x y) := by
 intro K hK
 have hh := hK
 unfold aBin at hK
 split at hK
 ·split at hK
  ·obtain ⟨v, a, b⟩ := pin_aShift K hK
   exact ⟨v, a, fun K1 k => by unfold aBin; exact b K1 k⟩
  ·obtain ⟨v, a, b⟩ := pin_aShift K hK
   exact ⟨v, a, fun K1 k => by unfold aBin; exact b K1 k⟩
  ·rename_i n1 n2
   obtain ⟨v, a, b⟩ := pin_aInt K hK.2
   refine ⟨v, a, fun K1 k => ?_⟩
   unfold aBin
   cases op <;> first | exact ⟨hK.1, b K1 k⟩ | exact absurd rfl n1 | exact absurd rfl n2
 ·obtain ⟨v, a, b⟩ := pin_aStr K hK
  exact ⟨v, a, fun K1 k => by unfold aBin; exact b K1 k⟩
 ·rename_i n1 n2
  cases op <;> first | exact hK.elim | skip
  ·obtain ⟨v, a, b⟩ := pin_aEq K hK
   refine ⟨v, a, fun K1 k => ?_⟩
   unfold aBin
   split
   ·exact absurd rfl (n1 _ _ _ _ rfl)
   ·exact absurd rfl (n2 _ _ rfl)
   ·exact b K1 k
  ·obtain ⟨v, a, b⟩ := pin_aEq K hK
   refine ⟨v, a, fun K1 k => ?_⟩
   unfold aBin
   split
   ·exact absurd rfl (n1 _ _ _ _ rfl)
   ·exact absurd rfl (n2 _ _ rfl)
   ·exact b K1 k
theorem pin_aUn {op : UnOp} {x : Value} : Pin (aUn op x) := by
 intro K hK
 unfold aUn at hK ⊢
 split at hK
 ·exact ⟨_, hK, fun K1 k => k⟩
 ·exact ⟨_, hK, fun K1 k => k⟩
 ·exact hK.elim
theorem pin_aConv {t : TypeId} {x : Value} : Pin (aConv P t x) := by
 intro K hK
 unfold aConv at hK ⊢
 split at hK
 ·rename_i hb
  exact ⟨_, hK, fun K1 k => by first | exact k | (simp only [hb]; exact k)⟩
 ·exact hK.elim
theorem pin_aIdxStr {x i : Value} : Pin (aIdxStr x i) := by
 intro K hK
 unfold aIdxStr at hK ⊢
 split at hK
 ·obtain ⟨h0, hK⟩ := hK
  split at hK
  ·rename_i hb
   exact ⟨_, hK, fun K1 k => by first | exact ⟨h0, k⟩ | (simp only [hb]; exact ⟨h0, k⟩)⟩
  ·exact hK.elim
 ·exact hK.elim
theorem pin_aIdxV {n s : Nat} {g : Bool} {x i : Value} : Pin (aIdxV n s g x i) := by
 intro K hK
 unfold aIdxV at hK ⊢
 split at hK
 ·obtain ⟨v, a, b⟩ := pin_aField _ hK.2
  exact ⟨v, a, fun K1 k => ⟨hK.1, b K1 k⟩⟩
 ·exact hK.elim
theorem pin_aCapS {x : Value} : Pin (aCapS x) := by
 intro K hK
 unfold aCapS at hK ⊢
 split at hK
 ·exact ⟨_, hK.2, fun K1 k => ⟨hK.1, k⟩⟩
 ·exact hK.elim
theorem pin_aExt {x : Value} {i : Nat} : Pin (aExt x i) := by
 intro K hK
 unfold aExt at hK ⊢
 split at hK
 ·split at hK
  ·rename_i hb
   exact ⟨_, hK, fun K1 k => by first | exact k | (simp only [hb]; exact k)⟩
  ·exact hK.elim
 ·exact ⟨_, hK.2, fun K1 k => ⟨hK.1, k⟩⟩
 ·exact hK.elim
theorem pin_aNil {x : Value} : Pin (aNil x) := by
 intro K hK
 unfold aNil at hK ⊢
 split at hK
 ·exact ⟨_, hK, fun K1 k => k⟩
 ·exact ⟨_, hK, fun K1 k => k⟩
 ·exact ⟨_, hK, fun K1 k => k⟩
 ·exact hK.elim
theorem pin_aLenS {x : Value} : Pin (aLenS x) := by
 intro K hK
 unfold aLenS at hK ⊢
 split at hK
 ·exact ⟨_, hK, fun K1 k => k⟩
 ·exact hK.elim
theorem pin_aLenStr {x : Value} : Pin (aLenStr x) := by
 intro K hK
 unfold aLenStr at hK ⊢
 split at hK
 ·exact ⟨_, hK, fun K1 k => k⟩
 ·exact hK.elim
theorem pin_aMin : ∀ (l : List Value) (x : Value), Pin (aMin x l)
 | [], x => fun K hK => ⟨x, hK, fun K1 k => k⟩
 | y :: l, x => by
  intro K hK
  unfold aMin at hK ⊢
  split at hK
  ·obtain ⟨v, a, b⟩ := pin_aMin l _ K hK
   exact ⟨v, a, fun K1 k => b K1 k⟩
  ·exact hK.elim
theorem pin_aMax : ∀ (l : List Value) (x : Value), Pin (aMax x l)
 | [], x => fun K hK => ⟨x, hK, fun K1 k => k⟩
 | y :: l, x => by
  intro K hK
  unfold aMax at hK ⊢
  split at hK
  ·obtain ⟨v, a, b⟩ := pin_aMax l _ K hK
   exact ⟨v, a, fun K1 k => b K1 k⟩
  ·exact hK.elim
theorem pin_aFill : ∀ (ps : List (Nat × Nat × Value)) (c : List Value) (K : List Value → Prop), aFill c ps K → ∃ c', K c' ∧ ∀ K1 : List Value → Prop, K1 c' → aFill c ps K1
 | [], c, K, hK => ⟨c, hK, fun K1 k => k⟩
 | (off, s, v) :: ps, c, K, hK => by
  obtain ⟨a1, a2, a3, hK⟩ := hK
  obtain ⟨c', b1, b2⟩ := pin_aFill ps _ K hK
  exact ⟨c', b1, fun K1 k => ⟨a1, a2, a3, b2 K1 k⟩⟩
def ptrBlk : Value → Option Nat
 | .pointer (some a) => some a.block
 | _ => none
def mapBlk : Value → Option Nat
 | .map b => b
 | _ => none
def readOf (o : Op) (r : Nat → Value) : Option Nat :=
 match o with
 | .load _ x => ptrBlk (ev r x)
 | .lookup _ m _ _ => mapBlk (ev r m)
 | .call { callee := .builtin .len, args, .. } => match args.toList with
  | [x] => mapBlk (ev r x)
  | _ => none
 | _ => none
def freeOp (P : Program) : Op → Bool
 | .move _ | .assign _ | .pick .. | .load .. | .nilCheck _ | .binOp .. | .unOp .. | .fieldAddr .. | .field .. | .indexAddr .. | .lookup .. | .extract .. | .build .. | .index .. => true
 | .convert s _ _ => match P.underlying s with
  | some (.int _) => true
  | _ => false
 | .makeFunc .. => true
 | .call { callee := .builtin b, .. } => match b with
  | .len | .min | .max | .cap => true
  | _ => false
 | _ => false
theorem aLoad_same {g : Bool} {s : Nat} {p : Value} {h h1 : List AObj} {K : Value → Prop} (e : ∀ b, ptrBlk p = some b → h1[b]? = h[b]?) (hK : aLoad g s p h K) : aLoad g s p h1 K := by
 unfold aLoad at hK ⊢
 split at hK
 ·rename_i b off
  rw [e b rfl]
  exact hK
 ·exact hK.elim
theorem aop_free {o : Op} {r : Nat → Value} {h : List AObj} {K : Value → List AObj → Prop} (hf : freeOp P o = true) (hK : aop P o r h K) :
  ∃ v, K v h ∧ ∀ (h1 : List AObj) (K1 : Value → List AObj → Prop), (∀ b, readOf o r = some b → h1[b]? = h[b]?) → K1 v h1 → aop P o r h1 K1 := by
 have use : ∀ {F : (Value → Prop) → Prop}, Pin F → F (fun v => K v h) → (∀ h1 (K1 : Value → List AObj → Prop), (∀ b, readOf o r = some b → h1[b]? = h[b]?) → F (fun v => K1 v h1) → aop P o r h1 K1) →
   ∃ v, K v h ∧ ∀ (h1 : List AObj) (K1 : Value → List AObj → Prop), (∀ b, readOf o r = some b → h1[b]? = h[b]?) → K1 v h1 → aop P o r h1 K1 := by
  intro F pf hF hh
  obtain ⟨v, a, b⟩ := pf _ hF
  exact ⟨v, a, fun h1 K1 e k => hh h1 K1 e (b _ k)⟩
 cases o <;> simp only [freeOp, Bool.false_eq_true] at hf <;> simp only [aop] at hK
 case move x => exact ⟨_, hK, fun h1 K1 _ k => k⟩
 case assign x => exact ⟨_, hK, fun h1 K1 _ k => k⟩
 case pick c a b =>
  split at hK
  ·rename_i hb
   exact ⟨_, hK, fun h1 K1 _ k => by simp only [aop, hb]; exact k⟩
  ·exact hK.elim
 case build t ps =>
  split at hK
  ·rename_i z l hz hl
   cases hg : aggT P t with
   | true =>
    rw [hg] at hK
    obtain ⟨c', b1, b2⟩ := pin_aFill _ _ _ hK
    exact ⟨_, b1, fun h1 K1 _ k => by simp only [aop, hz, hl, hg, cond_true]; exact b2 _ k⟩
   | false => rw [hg] at hK; exact hK.elim
  ·exact hK.elim
 case load t x =>
  split at hK
  ·rename_i g s ht
   obtain ⟨v, a, b⟩ := pin_aLoad _ hK
   refine ⟨v, a, fun h1 K1 e k => ?_⟩
   simp only [aop, ht]
   exact aLoad_same e (b (fun v => K1 v h1) k)
  ·exact hK.elim
 case nilCheck x => exact use pin_aNil hK fun h1 K1 _ k => k
 case binOp op t x y _ => exact use pin_aBin hK fun h1 K1 _ k => k
 case unOp op _ x => exact use pin_aUn hK fun h1 K1 _ k => k
 case convert s d x =>
  split at hK
  ·rename_i hs
   exact use pin_aConv hK fun h1 K1 _ k => by simp only [aop, hs]; exact k
  ·rename_i e hs
   rw [hs] at hf
   cases hf
  ·exact hK.elim
 case index t x i =>
  split at hK
  ·rename_i hs
   exact use pin_aIdxStr hK fun h1 K1 _ k => by simp only [aop, hs]; exact k
  ·rename_i h1
   split at hK
   ·rename_i h2
    exact use pin_aIdxV hK fun _ K1 _ k => by simp only [aop, h1, h2]; exact k
   ·exact hK.elim
  ·exact hK.elim
 case makeFunc fn first cap =>
  cases fn <;> simp only at hK
  exact ⟨_, hK.2, fun h1 K1 _ k => ⟨hK.1, k⟩⟩
 case fieldAddr t x f =>
  split at hK
  ·rename_i hs
   exact use pin_aOff hK fun h1 K1 _ k => by simp only [aop, hs]; exact k
  ·exact hK.elim
 case field t x f =>
  split at hK
  ·rename_i h1
   split at hK
   ·rename_i h2
    split at hK
    ·rename_i h3
     exact use pin_aField hK fun _ K1 _ k => by simp only [aop, h1, h2, h3]; exact k
    ·exact hK.elim
   ·exact hK.elim
  ·exact hK.elim
 case indexAddr t x i =>
  split at hK
  ·rename_i h1
   split at hK
   ·rename_i h2
    exact use pin_aIdx hK fun _ K1 _ k => by simp only [aop, h1, h2]; exact k
   ·exact hK.elim
  ·rename_i h1
   split at hK
   ·rename_i h2
    exact use pin_aIdxA hK fun _ K1 _ k => by simp only [aop, h1, h2]; exact k
   ·exact hK.elim
  ·exact hK.elim
 case lookup t m k ok =>
  unfold aLook at hK
  split at hK
  ·rename_i kt vt b hu hm
   split at hK
   ·rename_i es wr z hb hz
    obtain ⟨hk, hK⟩ := hK
    split at hK
    ·rename_i v hv
     refine ⟨_, hK, fun h1 K1 e k1 => ?_⟩
     simp only [aop, aLook, hu, hm]
     rw [e b (by simp [readOf, mapBlk, hm]), hb, hz]
     simp only [hv]
     exact ⟨hk, k1⟩
    ·rename_i hv
     refine ⟨_, hK, fun h1 K1 e k1 => ?_⟩
     simp only [aop, aLook, hu, hm]
     rw [e b (by simp [readOf, mapBlk, hm]), hb, hz]
     simp only [hv]
     exact ⟨hk, k1⟩
    ·exact hK.elim
   ·exact hK.elim
  ·exact hK.elim
 case extract t i => exact use pin_aExt hK fun h1 K1 _ k => k
 case call c =>
  obtain ⟨callee, args, argTypes⟩ := c
  cases callee with
  | value f => cases hf
  | invoke x m => cases hf
  | builtin b =>
   obtain ⟨args⟩ := args
   obtain ⟨argTypes⟩ := argTypes
   simp only at hK
   split at hK
   ·rename_i x t
    split at hK
    ·rename_i hu
     exact use pin_aLenStr hK fun h1 K1 _ k => by simp only [aop, hu]; exact k
    ·rename_i hu
     exact use pin_aLenS hK fun h1 K1 _ k => by simp only [aop, hu]; exact k
    ·rename_i hu
     unfold aLenM at hK
     split at hK
     ·rename_i hm
      exact ⟨_, hK, fun h1 K1 _ k => by simp only [aop, hu, aLenM, hm]; exact k⟩
     ·rename_i bb hm
      split at hK
      ·rename_i hb
       refine ⟨_, hK, fun h1 K1 e k => ?_⟩
       simp only [aop, hu, aLenM, hm]
       rw [e bb (by simp [readOf, mapBlk, hm]), hb]
       exact k
      ·exact hK.elim
     ·exact hK.elim
    ·rename_i hu
     exact ⟨_, hK, fun h1 K1 _ k => by simp only [aop, hu]; exact k⟩
    ·exact hK.elim
   ·split at hK
    ·rename_i hu
     exact use pin_aCapS hK fun h1 K1 _ k => by simp only [aop, hu]; exact k
    ·exact hK.elim
   ·exact use (pin_aMin _ _) hK fun h1 K1 _ k => k
   ·exact use (pin_aMax _ _) hK fun h1 K1 _ k => k
   ·simp at hf
   ·simp at hf
   ·exact hK.elim
end
section
variable {P : Program} {C : FuncId → List Value → List AObj → (Value → List AObj → Prop) → Prop} {N : Nat} {ops : Array Oper}
theorem aop_congr {o : Op} {r r' : Nat → Value} {h : List AObj} {K : Value → List AObj → Prop} (e : ∀ x ∈ o.operands, ev r x = ev r' x) (hK : aop P o r h K) : aop P o r' h K := by
 have lst : ∀ l : Array Operand, (∀ x ∈ l, ev r x = ev r' x) → l.toList.map (ev r) = l.toList.map (ev r') := fun l hl => List.map_congr_left fun x hx => hl x (by simpa using hx)
 have prs : ∀ ps : Array (Nat × Operand), (∀ x ∈ (ps.toList.map (·.2)).toArray, ev r x = ev r' x) → (ps.toList.map fun (i, x) => (i, ev r x)) = ps.toList.map fun (i, x) => (i, ev r' x) := fun ps hp =>
  List.map_congr_left fun p hm => by
   obtain ⟨i, x⟩ := p
   simp only [hp x (by simp only [List.mem_toArray, List.mem_map]; exact ⟨(i, x), hm, rfl⟩)]
 cases o <;> simp only [Op.operands] at e
 case build t ps => simp only [aop] at hK ⊢; rw [← prs ps e]; exact hK
 case buildSlice t n ps => simp only [aop] at hK ⊢; rw [← prs ps e]; exact hK
 case makeFunc fn first cap =>
  cases fn <;> simp only [aop] at hK ⊢
  have e1 : ∀ x ∈ first, ev r x = ev r' x := fun x hx => e x (by simp [hx])
  have e2 : ∀ x ∈ cap, ev r x = ev r' x := fun x hx => e x (by simp [hx])
  rw [← lst first e1, ← lst cap e2]
  refine ⟨?_, hK.2⟩
  rw [List.all_eq_true] at *
  intro x hx
  rw [← e x (by simpa using hx)]
  exact hK.1 x hx
 case slice t x lo hi mx => cases lo <;> cases hi <;> cases mx <;> simp_all [aop]
 case makeMap t x => cases x <;> simp_all [aop]
 case call c =>
  obtain ⟨callee, args, argTypes⟩ := c
  cases callee with
  | value f => exact hK.elim
  | invoke x m => exact hK.elim
  | builtin b =>
   have e1 := lst args fun x hx => e x (by simp [Call.operands, hx])
   obtain ⟨args⟩ := args
   simp only at e1
   obtain ⟨argTypes⟩ := argTypes
   simp only [aop] at hK
   split at hK
   ·rename_i x t
    have hx : ev r x = ev r' x := by simpa using e1
    simp only [aop]
    rw [← hx]
    exact hK
   ·rename_i x t
    have hx : ev r x = ev r' x := by simpa using e1
    simp only [aop]
    rw [← hx]
    exact hK
   ·rename_i x l tys
    simp only [List.map_cons, List.cons.injEq] at e1
    simp only [aop]
    rw [← e1.1, ← e1.2]
    exact hK
   ·rename_i x l tys
    simp only [List.map_cons, List.cons.injEq] at e1
    simp only [aop]
    rw [← e1.1, ← e1.2]
    exact hK
   ·rename_i x y t u
    simp only [List.map_cons, List.cons.injEq] at e1
    simp only [aop]
    rw [← e1.1, ← e1.2.1]
    exact hK
   ·rename_i x y t u
    simp only [List.map_cons, List.cons.injEq] at e1
    simp only [aop]
    rw [← e1.1, ← e1.2.1]
    exact hK
   ·exact hK.elim
 case next x s =>
  cases s with
  | true => exact hK.elim
  | false =>
   simp only [aop] at hK ⊢
   have ex : ev r x = ev r' x := by first | exact e | exact e x (by simp)
   rw [← ex]
   exact hK
 all_goals (first | exact hK | (simp_all [aop]; done))
def opG (P : Program) (C : FuncId → List Value → List AObj → (Value → List AObj → Prop) → Prop) (ops : Array Oper) (o : Oper) (r : Nat → Value) (h : List AObj) (K : Value → List AObj → Prop) : Prop :=
 match gd ops o r with
 | some true => opW P C o r h K
 | some false => K undef h
 | none => False
def opM (P : Program) (C : FuncId → List Value → List AObj → (Value → List AObj → Prop) → Prop) (ops : Array Oper) (o : Oper) (r : Nat → Value) (h : List AObj) (K : Value → List AObj → Prop) : Prop :=
 ∃ K', opG P C ops o r h K' ∧ ∀ v h', K' v h' → K v h'
theorem gd_congr {o : Oper} {r r' : Nat → Value} (e : ∀ t ∈ o.looksAt ops, r t = r' t) : gd ops o r = gd ops o r' := by
 unfold gd
 cases hg : o.guard with
 | none => rfl
 | some jw =>
  obtain ⟨j, want⟩ := jw
  simp only
  cases hd : (ops[j]?).bind (·.dst) with
  | none => rfl
  | some t =>
   simp only
   rw [e t (by simp [Oper.looksAt, hg, hd])]
theorem ev_looks {o : Oper} {r r' : Nat → Value} (e : ∀ t ∈ o.looksAt ops, r t = r' t) : ∀ x ∈ o.op.operands, ev r x = ev r' x := by
 intro x hx
 cases x with
 | tmp t => exact e t (by
  simp only [Oper.looksAt, List.mem_append, List.mem_filterMap]
  exact .inl ⟨.tmp t, by simpa using hx, rfl⟩)
 | _ => rfl
theorem opG_congr {o : Oper} {r r' : Nat → Value} {h : List AObj} {K : Value → List AObj → Prop} (e : ∀ t ∈ o.looksAt ops, r t = r' t) (hK : opG P C ops o r h K) : opG P C ops o r' h K := by
 unfold opG at hK ⊢
 rw [← gd_congr e]
 split at hK
 ·have eo := ev_looks e
  unfold opW at hK ⊢
  split at hK
  ·rename_i x args ats hop
   rw [hop] at eo
   have ex := eo x (by simp [Op.operands, Call.operands])
   have ea : args.toList.map (ev r) = args.toList.map (ev r') := List.map_congr_left fun y hy => eo y (by simp [Op.operands, Call.operands]; exact .inr (by simpa using hy))
   try simp only [hop]
   rw [← ex, ← ea]
   exact hK
  ·rename_i hn
   exact aop_congr eo hK
 ·exact hK
 ·exact hK.elim
def isFree (P : Program) (o : Oper) : Bool := freeOp P o.op
theorem opG_free {o : Oper} {r : Nat → Value} {h : List AObj} {K : Value → List AObj → Prop} (hf : isFree P o = true) (hK : opG P C ops o r h K) :
  ∃ v, K v h ∧ ∀ (h1 : List AObj) (K1 : Value → List AObj → Prop), (∀ b, readOf o.op r = some b → h1[b]? = h[b]?) → K1 v h1 → opG P C ops o r h1 K1 := by
 unfold opG at hK ⊢
 split at hK
 ·have hw : opW P C o r h K = aop P o.op r h K := by
   unfold opW
   unfold isFree at hf
   split
   ·rename_i e
    rw [e] at hf
    cases hf
   ·rfl
  rw [hw] at hK
  obtain ⟨v, a, b⟩ := aop_free hf hK
  refine ⟨v, a, fun h1 K1 e k => ?_⟩
  have hw1 : opW P C o r h1 K1 = aop P o.op r h1 K1 := by
   unfold opW
   unfold isFree at hf
   split
   ·rename_i e
    rw [e] at hf
    cases hf
   ·rfl
  simp only [hw1]
  exact b h1 K1 e k
 ·exact ⟨_, hK, fun h1 K1 _ k => k⟩
 ·exact hK.elim
def isRead : Op → Bool
 | .load .. | .lookup .. => true
 | .call { callee := .builtin .len, .. } => true
 | _ => false
theorem readOf_none {o : Op} {r : Nat → Value} (h : isRead o = false) : readOf o r = none := by
 unfold isRead at h
 split at h
 ·cases h
 ·cases h
 ·cases h
 ·rename_i n1 n2 n3
  unfold readOf
  split
  ·exact absurd rfl (n1 _ _)
  ·exact absurd rfl (n2 _ _ _ _)
  ·exact absurd rfl (n3 _ _)
  ·rfl
def sOld (P : Program) (ops : Array Oper) (j : Nat) (o : Oper) : Bool :=
 !isFree P o && (List.range ops.size).any fun i => i != j && (match ops[i]? with
  | some oi => isRead oi.op && !(o.after.any fun e => Region.binds .any e && e.on == i)
  | none => false)
def maskOf (ops : Array Oper) (l : List Nat) (j : Nat) : Nat := match ops[j]? with
 | some o => o.after.toList.foldl (fun m e => bif Region.binds .any e then m ||| (2 ^ e.on ||| l.getD e.on 0) else m) 0
 | none => 0
def snocM (ops : Array Oper) (l : List Nat) (n : Nat) : List Nat := l ++ [maskOf ops l n]
def masks (ops : Array Oper) : Nat → List Nat
 | 0 => []
 | n + 1 => snocM ops (masks ops n) n
def isSt : Op → Bool
 | .store .. => true
 | _ => false
def fineR (P : Program) (ops : Array Oper) : Bool := (List.range ops.size).any fun i => match ops[i]? with
 | some o => isSt o.op && sOld P ops i o
 | none => false
def sFine (P : Program) (ops : Array Oper) (j : Nat) (o : Oper) : Bool :=
 !isFree P o && (List.range ops.size).any fun i => i != j && (match ops[i]? with
  | some oi => isRead oi.op && !(Nat.testBit ((masks ops ops.size).getD j 0) i)
  | none => false)
def sNeed (P : Program) (ops : Array Oper) (j : Nat) (o : Oper) : Bool := bif fineR P ops then sFine P ops j o else sOld P ops j o
def Down (ops : Array Oper) (L : Array Bool) : Prop := ∀ k ok, ops[k]? = some ok → L.getD k false = true → ∀ e ∈ ok.after, Region.binds .any e = true → L.getD e.on false = true
theorem down_init {ops : Array Oper} {n : Nat} : Down ops (Array.replicate n false) := by
 intro k ok _ hk
 exfalso
 rw [Array.getD_eq_getD_getElem?, Array.getElem?_replicate] at hk
 split at hk <;> simp at hk
theorem down_set {ops : Array Oper} {L : Array Bool} {j : Nat} (hD : Down ops L) (hj : j ∈ Region.ready .any ops L) : Down ops (L.setIfInBounds j true) := by
 intro k ok hk hd e he hb
 refine getD_set_true ?_
 by_cases hkj : j = k
 ·subst hkj
  rw [mem_ready] at hj
  obtain ⟨_, o, ho, hall⟩ := hj
  rw [hk] at ho
  cases ho
  exact hall e he hb
 ·rw [getD_set_ne false hkj] at hd
  exact hD k ok hk hd e he hb
theorem mask_fold {ops : Array Oper} {l : List Nat} {i : Nat} : ∀ {es : List Edge} {m : Nat}, Nat.testBit (es.foldl (fun m e => bif Region.binds .any e then m ||| (2 ^ e.on ||| l.getD e.on 0) else m) m) i = true → Nat.testBit m i = true ∨ ∃ e ∈ es, Region.binds .any e = true ∧ (e.on = i ∨ Nat.testBit (l.getD e.on 0) i = true)
 | [], m, h => .inl h
 | e :: es, m, h => by
  rw [List.foldl_cons] at h
  rcases mask_fold (ops := ops) h with h | ⟨x, hx, h1, h2⟩
  ·cases hb : Region.binds .any e with
   | false => rw [hb] at h; exact .inl h
   | true =>
    rw [hb, cond_true, Nat.testBit_or, Nat.testBit_or, Nat.testBit_two_pow] at h
    simp only [Bool.or_eq_true, decide_eq_true_eq] at h
    rcases h with h | h | h
    ·exact .inl h
    ·exact .inr ⟨e, List.mem_cons_self, hb, .inl h⟩
    ·exact .inr ⟨e, List.mem_cons_self, hb, .inr h⟩
  ·exact .inr ⟨x, List.mem_cons_of_mem _ hx, h1, h2⟩
theorem masks_len {ops : Array Oper} : ∀ n, (masks ops n).length = n
 | 0 => rfl
 | n + 1 => by
  show (masks ops n ++ [_]).length = n + 1
  rw [List.length_append, masks_len n]
  rfl
theorem masks_sound {ops : Array Oper} {L : Array Bool} (hD : Down ops L) {i : Nat} : ∀ (n j : Nat), Nat.testBit ((masks ops n).getD j 0) i = true → (∀ oj, ops[j]? = some oj → ∀ e ∈ oj.after, Region.binds .any e = true → L.getD e.on false = true) → L.getD i false = true
 | 0, j, h, _ => by simp [masks] at h
 | n + 1, j, h, hj => by
  have hl := masks_len (ops := ops) n
  rw [List.getD_eq_getElem?_getD] at h
  rcases Nat.lt_or_ge j n with hjn | hjn
  ·have e : (masks ops (n + 1))[j]? = (masks ops n)[j]? := List.getElem?_append_left (by omega)
   rw [e, ← List.getD_eq_getElem?_getD] at h
   exact masks_sound hD n j h hj
  ·rcases Nat.lt_or_ge n j with hnj | hnj
   ·have e : (masks ops (n + 1))[j]? = none := List.getElem?_eq_none (by rw [masks_len]; omega)
    rw [e] at h
    simp at h
   ·have : j = n := by omega
    subst this
    have e : (masks ops (j + 1))[j]? = some (maskOf ops (masks ops j) j) := by
     show (masks ops j ++ [_])[j]? = _
     rw [List.getElem?_append_right (by omega), hl, Nat.sub_self]
     rfl
    rw [e, Option.getD_some] at h
    unfold maskOf at h
    cases ho : ops[j]? with
    | none => rw [ho] at h; simp at h
    | some o =>
     rw [ho] at h
     rcases mask_fold (ops := ops) h with h | ⟨x, hx, h1, h2⟩
     ·simp at h
     ·have hx' : x ∈ o.after := Array.mem_toList_iff.1 hx
      have hdone := hj o ho x hx' h1
      rcases h2 with h2 | h2
      ·rw [← h2]
       exact hdone
      ·exact masks_sound hD j x.on h2 fun ox hox e he hb => hD x.on ox hox hdone e he hb
def AnyH (P : Program) (C : FuncId → List Value → List AObj → (Value → List AObj → Prop) → Prop) (N : Nat) (ops : Array Oper) (S : List AObj → Prop) : Nat → Array Bool → RG → List AObj → (RG → List AObj → Prop) → Prop
 | 0, L, f, h, K => Region.ready .any ops L = [] ∧ K f h
 | n + 1, L, f, h, K => (Region.ready .any ops L = [] → K f h) ∧ ∀ i ∈ Region.ready .any ops L, ∀ o, ops[i]? = some o → (∀ t, o.dst = some t → t < N) ∧
  opM P C ops o f.r h fun v h' => (sNeed P ops i o = true → S h') ∧ AnyH P C N ops S n (L.setIfInBounds i true) (f.putO o.dst v) h' K
def Apart (ops : Array Oper) (i : Nat) (oi : Oper) (L : Array Bool) : Prop :=
 ∀ j oj, ops[j]? = some oj → j ≠ i → L.getD j true = false → (∀ e ∈ oj.after, Region.binds .any e = true → e.on ≠ i) → oi.apart ops oj = true
theorem putO_r {f : RG} {d : Option Nat} {v : Value} {t : Nat} (h : d ≠ some t) : (f.putO d v).r t = f.r t := by
 cases d with
 | none => rfl
 | some d =>
  have : (t == d) = false := by
   have : t ≠ d := fun e => h (by rw [e])
   simpa using this
  simp [RG.putO, RG.p, this]
theorem putO_comm (f : RG) {x y : Option Nat} (v u : Value) (h : ∀ d, x = some d → y ≠ some d) : (f.putO x v).putO y u = (f.putO y u).putO x v := by
 cases x with
 | none => rfl
 | some d =>
  cases y with
  | none => rfl
  | some e =>
   have hde : d ≠ e := fun he => h d rfl (by rw [he])
   simp only [RG.putO, RG.p]
   congr 1
   funext t
   by_cases h1 : t = d
   ·subst h1
    have : (t == e) = false := by simpa using hde
    simp [this]
   ·have : (t == d) = false := by simpa using h1
    simp [this]
theorem set_comm {L : Array Bool} {i j : Nat} : (L.setIfInBounds i true).setIfInBounds j true = (L.setIfInBounds j true).setIfInBounds i true := by
 by_cases h : i = j
 ·rw [h]
 ·exact Array.setIfInBounds_comm _ _ h
theorem need_free {j : Nat} {o : Oper} (hf : isFree P o = true) : sNeed P ops j o = false := by
 unfold sNeed sFine sOld
 rw [hf]
 cases fineR P ops <;> rfl
theorem need_read {L : Array Bool} {i j : Nat} {oi oj : Oper} (hD : Down ops L) (hi : ops[i]? = some oi) (hij : i ≠ j) (hr : isRead oi.op = true) (hfj : isFree P oj = false) (hil : L.getD i true = false)
  (haft : ∀ e ∈ oj.after, Region.binds .any e = true → e.on ≠ i) (hrd : ∀ ox, ops[j]? = some ox → ∀ e ∈ ox.after, Region.binds .any e = true → L.getD e.on false = true) : sNeed P ops j oj = true := by
 have hlt : i < ops.size := by
  rcases Nat.lt_or_ge i ops.size with hlt | hlt
  ·exact hlt
  ·rw [Array.getElem?_eq_none hlt] at hi
   cases hi
 have hne : (i != j) = true := by simpa using hij
 unfold sNeed
 cases fineR P ops with
 | true =>
  rw [cond_true]
  unfold sFine
  rw [hfj]
  simp only [Bool.not_false, Bool.true_and, List.any_eq_true]
  refine ⟨i, List.mem_range.2 hlt, ?_⟩
  rw [hne, hi]
  simp only [hr, Bool.true_and, Bool.not_eq_true']
  cases ht : Nat.testBit ((masks ops ops.size).getD j 0) i with
  | false => rfl
  | true =>
   exfalso
   have h1 := masks_sound hD _ j ht hrd
   rw [Array.getD_eq_getD_getElem?] at h1 hil
   cases hx : L[i]? with
   | none => rw [hx] at hil; cases hil
   | some b => rw [hx] at h1 hil; simp at h1 hil; rw [h1] at hil; cases hil
 | false =>
  rw [cond_false]
  unfold sOld
  rw [hfj]
  simp only [Bool.not_false, Bool.true_and, List.any_eq_true]
  refine ⟨i, List.mem_range.2 hlt, ?_⟩
  rw [hne, hi]
  simp only [hr, Bool.true_and, Bool.not_eq_true', Array.any_eq_false]
  intro x hx hh
  simp only [Bool.and_eq_true, beq_iff_eq] at hh
  exact haft _ (Array.getElem_mem hx) hh.1 hh.2
theorem AnyH_take {S : List AObj → Prop} {i : Nat} {oi : Oper} {v : Value} {K : RG → List AObj → Prop} (hi : ops[i]? = some oi) (hN : ∀ t, oi.dst = some t → t < N) (hfr : isFree P oi = true) :
  ∀ (n : Nat) (L : Array Bool) (f : RG) (h : List AObj), Down ops L → Apart ops i oi L → i ∈ Region.ready .any ops L → (isRead oi.op = true → S h) →
   (∀ h1 (K1 : Value → List AObj → Prop), (isRead oi.op = true → S h1) → K1 v h1 → opG P C ops oi f.r h1 K1) → AnyH P C N ops S n (L.setIfInBounds i true) (f.putO oi.dst v) h K → AnyH P C N ops S (n + 1) L f h K := by
 intro n
 induction n with
 | zero =>
  intro L f h hD hap hir hS hY hA
  refine ⟨fun e => (by rw [e] at hir; cases hir), fun j hj oj hoj => ?_⟩
  by_cases hji : j = i
  ·subst hji
   rw [hi] at hoj
   cases hoj
   refine ⟨hN, fun u h' => u = v ∧ h' = h, hY h _ hS ⟨rfl, rfl⟩, ?_⟩
   rintro u h' ⟨rfl, rfl⟩
   exact ⟨fun e => (by rw [need_free hfr] at e; cases e), hA⟩
  ·have := ready_mono hj hji
   rw [hA.1] at this
   cases this
 | succ n ih =>
  intro L f h hD hap hir hS hY hA
  refine ⟨fun e => (by rw [e] at hir; cases hir), fun j hj oj hoj => ?_⟩
  by_cases hji : j = i
  ·subst hji
   rw [hi] at hoj
   cases hoj
   refine ⟨hN, fun u h' => u = v ∧ h' = h, hY h _ hS ⟨rfl, rfl⟩, ?_⟩
   rintro u h' ⟨rfl, rfl⟩
   exact ⟨fun e => (by rw [need_free hfr] at e; cases e), hA⟩
  ·obtain ⟨hjN, K', hK', hsub⟩ := hA.2 j (ready_mono hj hji) oj hoj
   have hnl : L.getD j true = false := by
    rw [mem_ready] at hj
    exact hj.1
   have hil : L.getD i true = false := by
    rw [mem_ready] at hir
    exact hir.1
   have haft : ∀ e ∈ oj.after, Region.binds .any e = true → e.on ≠ i := by
    intro e he hb hei
    rw [mem_ready] at hj
    obtain ⟨_, o, ho, hall⟩ := hj
    rw [hoj] at ho
    cases ho
    have h1 := hall e he hb
    rw [hei] at h1
    rw [Array.getD_eq_getD_getElem?] at h1 hil
    cases hx : L[i]? with
    | none => rw [hx] at hil; cases hil
    | some b => rw [hx] at h1 hil; simp at h1 hil; rw [h1] at hil; cases hil
   obtain ⟨ap1, ap2, ap3⟩ := Oper.apart_spec (hap j oj hoj hji hnl haft)
   have back : ∀ t ∈ oj.looksAt ops, (f.putO oi.dst v).r t = f.r t := fun t ht => putO_r fun e => ap1 t e ht
   have hKj := opG_congr back hK'
   refine ⟨hjN, ?_⟩
   have fin : ∀ u h', (isRead oi.op = true → S h') → ((sNeed P ops j oj = true → S h') ∧ AnyH P C N ops S n ((L.setIfInBounds i true).setIfInBounds j true) ((f.putO oi.dst v).putO oj.dst u) h' K) →
     (sNeed P ops j oj = true → S h') ∧ AnyH P C N ops S (n + 1) (L.setIfInBounds j true) (f.putO oj.dst u) h' K := by
    rintro u h' hS' ⟨hs, hA'⟩
    refine ⟨hs, ih (L.setIfInBounds j true) (f.putO oj.dst u) h' (down_set hD hj) ?_ (ready_mono hir (fun e => hji e.symm)) hS' (fun h1 K1 hs1 k1 => ?_) ?_⟩
    ·intro x ox hx hxi hxl hxa
     refine hap x ox hx hxi ?_ hxa
     by_cases hxj : x = j
     ·rw [hxj]; exact hnl
     ·rw [getD_set_ne true (Ne.symm hxj)] at hxl
      exact hxl
    ·refine opG_congr (fun t ht => ?_) (hY h1 K1 hs1 k1)
     exact (putO_r fun e => ap3 t e ht).symm
    ·rw [set_comm, ← putO_comm f v u ap2]
     exact hA'
   cases hfj : isFree P oj with
   | true =>
    obtain ⟨u, a, b⟩ := opG_free hfj hKj
    refine ⟨fun u' h' => u' = u ∧ h' = h, b h _ (fun _ _ => rfl) ⟨rfl, rfl⟩, ?_⟩
    rintro u' h' ⟨rfl, rfl⟩
    exact fin _ _ hS (hsub _ _ a)
   | false =>
    refine ⟨K', hKj, fun u h' k => fin u h' (fun hr => ?_) (hsub _ _ k)⟩
    refine (hsub _ _ k).1 ?_
    refine need_read hD hi (fun e => hji e.symm) hr hfj hil (fun e he hb hei => haft e he hb hei) ?_
    intro ox hox e he hb
    rw [mem_ready] at hj
    obtain ⟨_, o, ho, hall⟩ := hj
    rw [hox] at ho
    cases ho
    exact hall e he hb
end
def cnd (v : Value) (A B : Prop) : Prop :=
 match v with
 | .bool b => bif b then A else B
 | _ => False
abbrev Dec := List (Nat × Option Bool)
def dfind (j : Nat) : Dec → Option (Option Bool)
 | [] => none
 | (i, b) :: l => bif i == j then some b else dfind j l
def dstOf (ops : Array Oper) (j : Nat) : Option Nat :=
 match ops[j]? with
 | some o => o.dst
 | none => none
def goG (ops : Array Oper) (dec : Dec) (o : Oper) (f : RG) (A : Bool → Dec → RG → Prop) : Prop :=
 match o.guard with
 | none => A true dec f
 | some (j, want) => match dfind j dec with
  | some (some b) => A (b == want) dec f
  | some none => A false dec f
  | none => match dstOf ops j with
   | some t => cnd (f.r t) (A (true == want) ((j, some true) :: dec) (f.p t (.bool true))) (A (false == want) ((j, some false) :: dec) (f.p t (.bool false)))
   | none => False
def forget (ops : Array Oper) (d : Option Nat) (dec : Dec) : Dec :=
 match d with
 | none => dec
 | some d => dec.filter fun x => !(dstOf ops x.1 == some d)
def skipD (ops : Array Oper) (i : Nat) (d : Option Nat) (dec : Dec) : Dec :=
 match d with
 | none => dec
 | some d => (i, none) :: forget ops (some d) dec
def dstOk (N : Nat) (o : Oper) : Bool :=
 match o.dst with
 | some d => Nat.blt d N
 | none => true
abbrev CT := FuncId → List Value → List AObj → (Value → List AObj → Prop) → Prop
def opsW (P : Program) (C : CT) (N : Nat) (ops : Array Oper) : List Nat → Dec → RG → List AObj → (RG → List AObj → Prop) → Prop
 | [], _, f, h, K => K f h
 | i :: l, dec, f, h, K => match ops[i]? with
  | some o => bif dstOk N o then goG ops dec o f fun w dec f =>
    bif w then opW P C o f.r h fun v h' => opsW P C N ops l (forget ops o.dst dec) (f.putO o.dst v) h' K
    else opsW P C N ops l (skipD ops i o.dst dec) (f.putO o.dst undef) h K
   else False
  | none => False
def SameB (B : Option (List Nat)) (h0 h1 : List AObj) : Prop :=
 match B with
 | none => h1 = h0
 | some B => ∀ b ∈ B, h1[b]? = h0[b]?
def RdOk (B : Option (List Nat)) (x : Option Nat) : Prop :=
 match B, x with
 | some B, some b => b ∈ B
 | _, _ => True
def apartB (ops : Array Oper) (i : Nat) (oi : Oper) (L : Array Bool) : Bool :=
 (List.range ops.size).all fun j => match ops[j]? with
  | none => true
  | some oj => j == i || L.getD j true || (oj.after.any fun e => Region.binds .any e && e.on == i) || oi.apart ops oj
def pickN (P : Program) (ops : Array Oper) (L : Array Bool) : Option Nat :=
 (Region.ready .any ops L).find? fun i => match ops[i]? with
  | some o => isFree P o && apartB ops i o L
  | none => false
def allOf : List Nat → (Nat → Prop) → Prop
 | [], _ => True
 | [i], A => A i
 | i :: l, A => A i ∧ allOf l A
def anyW (P : Program) (C : CT) (N : Nat) (ops : Array Oper) (B : Option (List Nat)) (h0 : List AObj) : Nat → Array Bool → Bool → Dec → RG → List AObj → (RG → List AObj → Prop) → Prop
 | 0, L, _, _, f, h, K => bif (Region.ready .any ops L).isEmpty then K f h else False
 | n + 1, L, sok, dec, f, h, K => match pickN P ops L with
  | some i => match ops[i]? with
   | some o => bif dstOk N o && (!isRead o.op || sok) then goG ops dec o f fun w dec f =>
     bif w then opW P C o f.r h fun v _ =>
      bif isRead o.op && B.isSome then RdOk B (readOf o.op f.r) ∧ anyW P C N ops B h0 n (L.setIfInBounds i true) sok (forget ops o.dst dec) (f.putO o.dst v) h K
      else anyW P C N ops B h0 n (L.setIfInBounds i true) sok (forget ops o.dst dec) (f.putO o.dst v) h K
     else anyW P C N ops B h0 n (L.setIfInBounds i true) sok (skipD ops i o.dst dec) (f.putO o.dst undef) h K
    else False
   | none => False
  | none => bif (Region.ready .any ops L).isEmpty then K f h else allOf (Region.ready .any ops L) fun i => match ops[i]? with
   | some o => bif dstOk N o then goG ops dec o f fun w dec f =>
     bif w then opW P C o f.r h fun v h' =>
      bif sNeed P ops i o then SameB B h0 h' ∧ anyW P C N ops B h0 n (L.setIfInBounds i true) true (forget ops o.dst dec) (f.putO o.dst v) h' K
      else anyW P C N ops B h0 n (L.setIfInBounds i true) false (forget ops o.dst dec) (f.putO o.dst v) h' K
     else bif sNeed P ops i o && !sok then False else anyW P C N ops B h0 n (L.setIfInBounds i true) sok (skipD ops i o.dst dec) (f.putO o.dst undef) h K
    else False
   | none => False
def still (P : Program) (ops : Array Oper) : Bool := (List.range ops.size).all fun i => match ops[i]? with
 | some o => !sNeed P ops i o
 | none => true
def drawW (P : Program) (C : CT) (N : Nat) (ops : Array Oper) (f : RG) (h : List AObj) (K : RG → List AObj → Prop) : Prop :=
 bif still P ops then anyW P C N ops none h ops.size (Array.replicate ops.size false) true [] f h K
 else ∃ B, anyW P C N ops (some B) h ops.size (Array.replicate ops.size false) true [] f h K
section
variable {P : Program} {C : CT} {N : Nat} {ops : Array Oper} {f : RG} {h : List AObj}
def dval : Option Bool → Value
 | some b => .bool b
 | none => undef
def decOk (ops : Array Oper) (dec : Dec) (f : RG) : Prop := ∀ j b, dfind j dec = some b → ∃ t, dstOf ops j = some t ∧ f.r t = dval b
theorem bind_dst (j : Nat) : (ops[j]?).bind (·.dst) = dstOf ops j := by
 unfold dstOf
 cases ops[j]? <;> rfl
theorem put_self {t : Nat} {v : Value} (e : f.r t = v) : f.p t v = f := by
 obtain ⟨r, ds⟩ := f
 simp only [RG.p, RG.mk.injEq, and_true]
 funext x
 by_cases hx : x = t
 ·subst hx
  simp only [BEq.rfl, cond_true]
  exact e.symm
 ·have : (x == t) = false := by simpa using hx
  simp [this]
theorem goG_out {dec : Dec} {o : Oper} {A : Bool → Dec → RG → Prop} (hd : decOk ops dec f) (hg : goG ops dec o f A) : ∃ w dec', decOk ops dec' f ∧ gd ops o f.r = some w ∧ A w dec' f := by
 unfold goG at hg
 unfold gd
 split at hg
 ·rename_i e
  try rw [e]
  exact ⟨true, dec, hd, rfl, hg⟩
 ·rename_i j want e
  try rw [e]
  simp only [bind_dst]
  split at hg
  ·rename_i b hb
   obtain ⟨t, h1, h2⟩ := hd j _ hb
   exact ⟨_, dec, hd, by rw [h1]; simp only [h2, dval], hg⟩
  ·rename_i hb
   obtain ⟨t, h1, h2⟩ := hd j _ hb
   exact ⟨_, dec, hd, by rw [h1]; simp only [h2, dval, undef], hg⟩
  ·split at hg
   ·rename_i t ht
    unfold cnd at hg
    split at hg
    ·rename_i b hb
     have nd : ∀ b', f.r t = .bool b' → decOk ops ((j, some b') :: dec) f := by
      intro b' hb' i c hc
      unfold dfind at hc
      cases hij : j == i with
      | true =>
       rw [hij] at hc
       simp only [cond_true, Option.some.injEq] at hc
       have : j = i := by simpa using hij
       subst this
       subst hc
       exact ⟨t, ht, hb'⟩
      | false =>
       rw [hij] at hc
       exact hd i c hc
     cases b with
     | true =>
      have := hg
      simp only [cond_true] at this
      rw [put_self hb] at this
      exact ⟨_, _, nd _ hb, by rw [ht]; simp only [hb], this⟩
     | false =>
      have := hg
      simp only [cond_false] at this
      rw [put_self hb] at this
      exact ⟨_, _, nd _ hb, by rw [ht]; simp only [hb], this⟩
    ·exact hg.elim
   ·exact hg.elim
theorem dfind_filter {p : Nat × Option Bool → Bool} : ∀ {dec : Dec} {j : Nat} {b : Option Bool}, dfind j (dec.filter p) = some b → (∀ x y y', p (x, y) = p (x, y')) → dfind j dec = some b ∧ p (j, b) = true
 | [], j, b, h, _ => by cases h
 | (i, c) :: l, j, b, h, hp => by
  rw [List.filter_cons] at h
  unfold dfind
  split at h
  ·rename_i hpc
   unfold dfind at h
   cases hij : i == j with
   | true =>
    rw [hij] at h
    simp only [cond_true, Option.some.injEq] at h
    have : i = j := by simpa using hij
    subst this
    subst h
    exact ⟨rfl, hpc⟩
   | false =>
    rw [hij] at h
    exact dfind_filter h hp
  ·rename_i hpc
   obtain ⟨h1, h2⟩ := dfind_filter h hp
   cases hij : i == j with
   | true =>
    have : i = j := by simpa using hij
    subst this
    exfalso
    apply hpc
    rw [hp i c b]
    exact h2
   | false => exact ⟨h1, h2⟩
theorem decOk_put {dec : Dec} {d : Option Nat} {v : Value} (hd : decOk ops dec f) : decOk ops (forget ops d dec) (f.putO d v) := by
 intro j b hj
 cases d with
 | none => exact hd j b hj
 | some d =>
  obtain ⟨h1, h2⟩ := dfind_filter hj (fun _ _ _ => rfl)
  obtain ⟨t, ht, hv⟩ := hd j b h1
  refine ⟨t, ht, ?_⟩
  rw [putO_r]
  ·exact hv
  ·intro e
   cases e
   simp [ht] at h2
theorem decOk_skip {dec : Dec} {i : Nat} {o : Oper} (ho : ops[i]? = some o) (hd : decOk ops dec f) : decOk ops (skipD ops i o.dst dec) (f.putO o.dst undef) := by
 unfold skipD
 cases hdst : o.dst with
 | none => exact hd
 | some d =>
  intro j b hj
  unfold dfind at hj
  cases hij : i == j with
  | true =>
   rw [hij] at hj
   simp only [cond_true, Option.some.injEq] at hj
   have : i = j := by simpa using hij
   subst this
   subst hj
   refine ⟨d, by simp [dstOf, ho, hdst], ?_⟩
   simp [RG.putO, RG.p, dval]
  | false =>
   rw [hij] at hj
   exact decOk_put (d := some d) hd j b hj
theorem dstOk_lt {o : Oper} (h : dstOk N o = true) : ∀ t, o.dst = some t → t < N := by
 intro t ht
 unfold dstOk at h
 rw [ht] at h
 simpa using h
theorem allOf_mem {A : Nat → Prop} : ∀ {l : List Nat} {i : Nat}, allOf l A → i ∈ l → A i
 | [i], j, h, hm => by
  simp only [List.mem_singleton] at hm
  subst hm
  exact h
 | i :: k :: l, j, h, hm => by
  rcases List.mem_cons.1 hm with rfl | hm
  ·exact h.1
  ·exact allOf_mem h.2 hm
theorem opG_of {o : Oper} {r : Nat → Value} {K : Value → List AObj → Prop} {w : Bool} (hg : gd ops o r = some w) (hk : bif w then opW P C o r h K else K undef h) : opG P C ops o r h K := by
 unfold opG
 rw [hg]
 cases w <;> exact hk
theorem anyW_sound {B : Option (List Nat)} {h0 : List AObj} {K : RG → List AObj → Prop} : ∀ (n : Nat) (L : Array Bool) (sok : Bool) (dec : Dec) (f : RG) (h : List AObj), Down ops L → decOk ops dec f → (sok = true → SameB B h0 h) →
  anyW P C N ops B h0 n L sok dec f h K → AnyH P C N ops (SameB B h0) n L f h K := by
 intro n
 induction n with
 | zero =>
  intro L sok dec f h hD hd hs hw
  unfold anyW at hw
  cases he : (Region.ready .any ops L).isEmpty with
  | true =>
   rw [he] at hw
   exact ⟨List.isEmpty_iff.1 he, hw⟩
  | false => rw [he] at hw; exact hw.elim
 | succ n ih =>
  intro L sok dec f h hD hd hs hw
  unfold anyW at hw
  split at hw
  ·rename_i i hp
   have hir : i ∈ Region.ready .any ops L := List.mem_of_find?_eq_some hp
   have hpi := List.find?_some hp
   split at hw
   ·rename_i o ho
    simp only [ho, Bool.and_eq_true] at hpi
    cases hc : dstOk N o && (!isRead o.op || sok) with
    | false => rw [hc] at hw; exact hw.elim
    | true =>
     rw [hc] at hw
     rw [cond_true] at hw
     simp only [Bool.and_eq_true, Bool.or_eq_true, Bool.not_eq_true'] at hc
     obtain ⟨w, dec', hd', hg, hw⟩ := goG_out hd hw
     have hap : Apart ops i o L := by
      intro j oj hoj hji hl ha
      have hall := hpi.2
      unfold apartB at hall
      rw [List.all_eq_true] at hall
      have hlt : j < ops.size := by
       rcases Nat.lt_or_ge j ops.size with hlt | hlt
       ·exact hlt
       ·rw [Array.getElem?_eq_none hlt] at hoj
        cases hoj
      have := hall j (List.mem_range.2 hlt)
      rw [hoj] at this
      simp only [hl, Bool.or_false, Bool.or_eq_true, beq_iff_eq, hji, false_or] at this
      rcases this with this | this
      ·rw [Array.any_eq_true] at this
       obtain ⟨x, hx, he⟩ := this
       simp only [Bool.and_eq_true, beq_iff_eq] at he
       exact absurd he.2 (ha _ (Array.getElem_mem hx) he.1)
      ·exact this
     have hSr : isRead o.op = true → SameB B h0 h := by
      intro hr
      rcases hc.2 with x | x
      ·rw [hr] at x; cases x
      ·exact hs x
     cases w with
     | false =>
      exact AnyH_take ho (dstOk_lt hc.1) hpi.1 n L f h hD hap hir hSr (fun h1 K1 _ k1 => opG_of hg k1) (ih _ sok _ _ h (down_set hD hir) (decOk_skip ho hd') hs hw)
     | true =>
      have hop : opG P C ops o f.r h fun v _ => (isRead o.op = true → RdOk B (readOf o.op f.r)) ∧ anyW P C N ops B h0 n (L.setIfInBounds i true) sok (forget ops o.dst dec') (f.putO o.dst v) h K := by
       refine opG_of hg ?_
       simp only [cond_true] at hw ⊢
       cases hr : isRead o.op && B.isSome with
       | true =>
        simp only [hr, cond_true] at hw
        simp only [Bool.and_eq_true] at hr
        simp only [hr.1, true_implies]
        exact hw
       | false =>
        simp only [hr, cond_false] at hw
        have hrd : isRead o.op = true → RdOk B (readOf o.op f.r) := by
         intro hx
         cases B with
         | none => exact trivial
         | some B => simp [hx] at hr
        have e := eq_true hrd
        simp only [e, true_and]
        exact hw
      obtain ⟨v, ⟨hrd, hv⟩, hrep⟩ := opG_free hpi.1 hop
      refine AnyH_take ho (dstOk_lt hc.1) hpi.1 n L f h hD hap hir hSr (fun h1 K1 hs1 k1 => hrep h1 K1 (fun b hb => ?_) k1) (ih _ sok _ _ h (down_set hD hir) (decOk_put hd') hs hv)
      have hr : isRead o.op = true := by
       cases hx : isRead o.op with
       | true => rfl
       | false => rw [readOf_none hx] at hb; cases hb
      have sh := hSr hr
      have sh1 := hs1 hr
      have hrd := hrd hr
      cases B with
      | none =>
       simp only [SameB] at sh sh1
       rw [sh, sh1]
      | some B =>
       rw [hb] at hrd
       rw [sh1 b hrd, sh b hrd]
   ·exact hw.elim
  ·cases he : (Region.ready .any ops L).isEmpty with
   | true =>
    rw [he] at hw
    have hnil := List.isEmpty_iff.1 he
    exact ⟨fun _ => hw, fun i hi => (by rw [hnil] at hi; cases hi)⟩
   | false =>
    rw [he] at hw
    rw [cond_false] at hw
    refine ⟨fun e => (by rw [e] at he; cases he), fun i hi o ho => ?_⟩
    have hx := allOf_mem hw hi
    simp only [ho] at hx
    cases hc : dstOk N o with
    | false => rw [hc] at hx; exact hx.elim
    | true =>
     rw [hc, cond_true] at hx
     refine ⟨dstOk_lt hc, ?_⟩
     obtain ⟨w, dec', hd', hg, hx⟩ := goG_out hd hx
     cases w with
     | true =>
      rw [cond_true] at hx
      refine ⟨_, opG_of hg hx, fun v h' k => ?_⟩
      cases hn : sNeed P ops i o with
      | true =>
       rw [hn, cond_true] at k
       exact ⟨fun _ => k.1, ih _ true _ _ h' (down_set hD hi) (decOk_put hd') (fun _ => k.1) k.2⟩
      | false =>
       rw [hn, cond_false] at k
       exact ⟨fun e => (by cases e), ih _ false _ _ h' (down_set hD hi) (decOk_put hd') (fun e => by cases e) k⟩
     | false =>
      rw [cond_false] at hx
      cases hn : sNeed P ops i o && !sok with
      | true => rw [hn] at hx; exact hx.elim
      | false =>
       rw [hn, cond_false] at hx
       refine ⟨fun v h' => v = undef ∧ h' = h, opG_of hg ⟨rfl, rfl⟩, ?_⟩
       rintro v h' ⟨rfl, rfl⟩
       refine ⟨fun e => ?_, ih _ sok _ _ h' (down_set hD hi) (decOk_skip ho hd') hs hx⟩
       rw [e] at hn
       simp only [Bool.true_and, Bool.not_eq_false'] at hn
       exact hs hn
end
section
variable {P : Program} {main : Bool} {J : JT} {N n0 : Nat} {ops : Array Oper} {f : RG} {h : List AObj} {fn : FuncId} {Q : QT} {i : Nat} {rest : List Nat} {o : Oper}
theorem SemOps_cons (hJ : Closed P main J) (ho : ops[i]? = some o) (hd : ∀ t, o.dst = some t → t < N) {K : Value → List AObj → Prop} (hop : opG P (Good P J) ops o f.r h K) (hs : ∀ v h', K v h' → SemOps J N n0 fn ops rest (f.putO o.dst v) h' Q) : SemOps J N n0 fn ops (i :: rest) f h Q := by
 intro b a k cs L ρ FC w ft h1 h2 h3 h4 h5 h6 hc
 unfold opG at hop
 split at hop
 ·rename_i hg
  refine step_any hJ h2 ho hg hd h4 h5 hop fun v h' ρ' w' ft' a' hK A' H' hu hl => ?_
  exact hs v h' hK b a' k cs L ρ' FC w' ft' h1 h2 h3 A' H' (Nat.le_trans h6 hl) fun e f2 h2' ρ2 w2 ft2 a2 q r1 r2 r3 r4 => hc e f2 h2' ρ2 w2 ft2 a2 q r1 r2 (Env.upto_trans (Env.upto_le hu h6) r3) r4
 ·rename_i hg
  refine step_skip hJ ho hg h4 ?_
  exact hs _ _ hop b _ k cs L ρ FC w ft h1 h2 h3 (act_put h4 hd (vrel_undef _ _)) h5 h6 hc
 ·exact hop.elim
theorem SemOps_of (hJ : Closed P main J) : ∀ (todo : List Nat) {dec : Dec} {f : RG} {h : List AObj}, decOk ops dec f → opsW P (Good P J) N ops todo dec f h (fun f h => Q .normal f h) → SemOps J N n0 fn ops todo f h Q
 | [], _, f, h, _, hq => SemOps_nil hJ hq
 | i :: todo, dec, f, h, hdec, hq => by
  unfold opsW at hq
  cases ho : ops[i]? with
  | none => rw [ho] at hq; exact hq.elim
  | some o =>
   rw [ho] at hq
   simp only at hq
   cases hc : dstOk N o with
   | false => rw [hc] at hq; exact hq.elim
   | true =>
    rw [hc, cond_true] at hq
    obtain ⟨w, dec', hd', hg, hq⟩ := goG_out hdec hq
    cases w with
    | true =>
     rw [cond_true] at hq
     exact SemOps_cons hJ ho (dstOk_lt hc) (opG_of hg hq) fun v h' k => SemOps_of hJ todo (decOk_put hd') k
    | false =>
     rw [cond_false] at hq
     refine SemOps_cons hJ ho (dstOk_lt hc) (K := fun v h' => v = undef ∧ h' = h) (opG_of hg ⟨rfl, rfl⟩) ?_
     rintro v h' ⟨rfl, rfl⟩
     exact SemOps_of hJ todo (decOk_skip ho hd') hq
theorem Sem_region_text (hJ : Closed P main J) {id : Nat} (hq : opsW P (Good P J) N ops (List.range ops.size) [] f h (fun f h => Q .normal f h)) : Sem J N n0 fn (.region id ops false) f h Q :=
 Sem_region hJ (SemOps_of hJ _ (fun j b e => by cases e) hq)
theorem SemOps_any (hJ : Closed P main J) {S : List AObj → Prop} : ∀ (n t : Nat) (L : Array Bool) (f : RG) (h : List AObj), AnyH P (Good P J) N ops S n L f h (fun f h => Q .normal f h) → SemOps J N n0 fn ops (Region.linearise.go .any ops n t L []) f h Q := by
 intro n
 induction n with
 | zero =>
  intro t L f h hA
  simp only [Region.linearise.go, List.reverse_nil]
  exact SemOps_nil hJ hA.2
 | succ n ih =>
  intro t L f h hA
  obtain ⟨h₀, h₁⟩ := hA
  simp only [Region.linearise.go]
  change SemOps J N n0 fn ops (match (Region.ready .any ops L)[t % (Region.ready .any ops L).length]? with
   | some i => Region.linearise.go .any ops n (t / (Region.ready .any ops L).length) (L.setIfInBounds i true) [i]
   | none => [].reverse) f h Q
  cases hi : (Region.ready .any ops L)[t % (Region.ready .any ops L).length]? with
  | none =>
   have hnil : Region.ready .any ops L = [] := by
    cases hr : Region.ready .any ops L with
    | nil => rfl
    | cons x xs =>
     rw [hr] at hi
     have hlt : t % (x :: xs).length < (x :: xs).length := Nat.mod_lt _ (by simp)
     simp at hi
     simp at hlt
     omega
   exact SemOps_nil hJ (h₀ hnil)
  | some i =>
   simp only []
   rw [linearise_go_acc, List.reverse_singleton, List.singleton_append]
   have hm := List.mem_of_getElem? hi
   have hm' := hm
   rw [mem_ready] at hm'
   obtain ⟨_, o, ho, _⟩ := hm'
   obtain ⟨hN, K', hK', hsub⟩ := h₁ i hm o ho
   exact SemOps_cons hJ ho hN hK' fun v h' k => ih _ _ _ _ (hsub v h' k).2
theorem Sem_region_draw (hJ : Closed P main J) (hm : P.follows .mixedOrders = true) {id : Nat} (hq : drawW P (Good P J) N ops f h (fun f h => Q .normal f h)) : Sem J N n0 fn (.region id ops true) f h Q := by
 have hA : ∃ S, AnyH P (Good P J) N ops S ops.size (Array.replicate ops.size false) f h (fun f h => Q .normal f h) := by
  unfold drawW at hq
  cases hs : still P ops with
  | true =>
   rw [hs] at hq
   exact ⟨_, anyW_sound (B := none) (h0 := h) _ _ true [] f h down_init (fun j b e => by cases e) (fun _ => rfl) hq⟩
  | false =>
   rw [hs] at hq
   obtain ⟨B, hq⟩ := hq
   exact ⟨_, anyW_sound (B := some B) (h0 := h) _ _ true [] f h down_init (fun j b e => by cases e) (fun _ b _ => rfl) hq⟩
 obtain ⟨S, hA⟩ := hA
 intro b a k cs L ρ FC w ft h1 h2 h3 h4 h5 h6 hc
 refine hJ.step rfl fun w₁ h₁ => ⟨G (b.at a (.inRegion ops (Region.schedule (P.follows .mixedOrders) ops (w₁.tape w₁.drawn (.order b.fn id))) :: k)) cs, { w₁ with drawn := w₁.drawn + 1 }, #[], ?_, rfl, (Stays.drawn ft w₁ _).guar (by simp), ?_⟩
 ·simp [G, stepG, stepG.exec, FB.at, choose, Go.Sem.run, Question.forced, Question.cut]
 ·rw [show ({ w₁ with drawn := w₁.drawn + 1 } : World).heap = w₁.heap from rfl, Foot.ext_self]
  have H₁ := (h5.rely h₁).of_drawn (w₁.drawn + 1)
  simp only [Region.schedule, hm, Bool.true_or, if_true]
  exact SemOps_any hJ _ _ _ _ _ hA b a k cs L ρ FC _ ft h1 h2 h3 h4 H₁ h6 hc
def W (P : Program) (J : JT) (N n0 : Nat) (fn : FuncId) : Code → RG → List AObj → QT → Prop
 | .skip, f, h, Q => Q .normal f h
 | .label _, f, h, Q => Q .normal f h
 | .ret, f, h, Q => Q .ret f h
 | .exit id, f, h, Q => Q (.exit id) f h
 | .seq a b, f, h, Q => W P J N n0 fn a f h (thenK (fun f h => W P J N n0 fn b f h Q) Q)
 | .cond c a b, f, h, Q => cnd (ev f.r c) (W P J N n0 fn a f h Q) (W P J N n0 fn b f h Q)
 | .block id a, f, h, Q => W P J N n0 fn a f h (blockK id Q)
 | .scope a, f, h, Q => W P J N n0 fn a f h Q
 | .region _ ops draw, f, h, Q => bif draw then drawW P (Good P J) N ops f h (fun f h => Q .normal f h) else opsW P (Good P J) N ops (List.range ops.size) [] f h (fun f h => Q .normal f h)
 | c, f, h, Q => Sem J N n0 fn c f h Q
theorem W_sound (hJ : Closed P main J) (hm : P.follows .mixedOrders = true) : ∀ (c : Code) {f : RG} {h : List AObj} {Q : QT}, W P J N n0 fn c f h Q → Sem J N n0 fn c f h Q
 | .skip, f, h, Q, hw => Sem_skip hJ hw
 | .label _, f, h, Q, hw => Sem_label hJ hw
 | .ret, f, h, Q, hw => Sem_ret hw
 | .exit id, f, h, Q, hw => Sem_exit hJ hw
 | .seq a b, f, h, Q, hw => by
  refine Sem_seq hJ ((W_sound hJ hm a hw).mono fun e f h q => ?_)
  cases e with
  | normal => exact W_sound hJ hm b q
  | _ => exact q
 | .cond c a b, f, h, Q, hw => by
  simp only [W, cnd] at hw
  split at hw
  ·rename_i t ht
   refine Sem_cond hJ ht ?_
   cases t with
   | true => exact W_sound hJ hm a hw
   | false => exact W_sound hJ hm b hw
  ·exact hw.elim
 | .block id a, f, h, Q, hw => Sem_block hJ (W_sound hJ hm a hw)
 | .scope a, f, h, Q, hw => Sem_scope hJ (W_sound hJ hm a hw)
 | .region id ops draw, f, h, Q, hw => by
  cases draw with
  | true => exact Sem_region_draw hJ hm hw
  | false => exact Sem_region_text hJ hw
 | .loop _, f, h, Q, hw => hw
 | .rangeFunc .., f, h, Q, hw => hw
 | .goto _, f, h, Q, hw => hw
 | .refuse _, f, h, Q, hw => hw
def codeOf (fn : Func) : Code := fn.body.getD .skip
theorem good_of_W (hJ : Closed P main J) (hm : P.follows .mixedOrders = true) {g : FuncId} {args : List Value} {K : Value → List AObj → Prop} {fn : Func} (hf : P.funcs[g]? = some fn) {c : Code} (hb : fn.body = some c) (hn : (fn.name == "runtime.NumGoroutine") = false) (ha : args.length ≤ fn.ntmps)
  (hs : heapOk h → W P J fn.ntmps h.length g c ⟨regs args, []⟩ h (RetQ P fn.results.toList h.length K)) : Good P J g args h K :=
 good_of_sem hJ hf hb hn ha fun ok => W_sound hJ hm c (hs ok)
end
def subC : List Nat → Code → Code
 | [], c => c
 | 0 :: p, .seq a _ => subC p a
 | _ :: p, .seq _ b => subC p b
 | 0 :: p, .cond _ a _ => subC p a
 | _ :: p, .cond _ _ b => subC p b
 | _ :: p, .block _ a => subC p a
 | _ :: p, .scope a => subC p a
 | _ :: p, .loop a => subC p a
 | 0 :: p, .rangeFunc _ _ a _ => subC p a
 | _ :: p, .rangeFunc _ _ _ b => subC p b
 | _, c => c
def contQ (P : Program) (J : JT) (N n0 : Nat) (fn : FuncId) : List Nat → Code → List (RG → List AObj → Prop) → QT → QT
 | 0 :: p, .seq a b, nx, Q => contQ P J N n0 fn p a nx (thenK (fun f h => W P J N n0 fn b f h Q) Q)
 | _ :: p, .seq _ b, nx, Q => contQ P J N n0 fn p b nx Q
 | 0 :: p, .cond _ a _, nx, Q => contQ P J N n0 fn p a nx Q
 | _ :: p, .cond _ _ b, nx, Q => contQ P J N n0 fn p b nx Q
 | _ :: p, .block id a, nx, Q => contQ P J N n0 fn p a nx (blockK id Q)
 | _ :: p, .scope a, nx, Q => contQ P J N n0 fn p a nx Q
 | _ :: p, .loop a, n :: nx, Q => contQ P J N n0 fn p a nx (thenK n Q)
 | _, _, _, Q => Q
def Gets {S : Type} (n0 : Nat) (I : S → RG → List AObj → Prop) (s : S) (f : RG) (h : List AObj) : Prop :=
 I s f h ∨ ∃ σ f' h', GCR n0 σ f h f' h' ∧ I s f' h'
def Nx {S : Type} (n0 : Nat) (μ : S → Nat) (I : S → RG → List AObj → Prop) (s : S) : RG → List AObj → Prop := fun f h =>
 ∃ s', μ s' < μ s ∧ Gets n0 I s' f h
section
variable {P : Program} {main : Bool} {J : JT} {N n0 : Nat} {f : RG} {h : List AObj} {fn : FuncId} {Q : QT}
theorem loop_rule (hJ : Closed P main J) (hm : P.follows .mixedOrders = true) {c b : Code} (hc : c = .loop b) {S : Type} (μ : S → Nat) (I : S → RG → List AObj → Prop)
  (hI : ∀ s f h, I s f h → heapOk h → n0 ≤ h.length → W P J N n0 fn b f h (thenK (Nx n0 μ I s) Q))
  {s : S} (hi : Gets n0 I s f h) : Sem J N n0 fn c f h Q := by
 subst hc
 have body : ∀ s f h, I s f h → Sem J N n0 fn b f h (thenK (fun f h => ∃ m', m' < μ s ∧ ∃ s, m' = μ s ∧ Gets n0 I s f h) Q) := by
  intro s f h hi
  refine Sem.ok fun ok hn => (W_sound hJ hm b (hI s f h hi ok hn)).mono fun e f h q => ?_
  cases e with
  | normal =>
   obtain ⟨s', hlt, g⟩ := q
   exact ⟨μ s', hlt, s', rfl, g⟩
  | _ => exact q
 refine Sem_loop hJ (fun m f h => ∃ s, m = μ s ∧ Gets n0 I s f h) ?_ (m := μ s) ⟨s, rfl, hi⟩
 rintro m f h ⟨s, rfl, hi | ⟨σ, f', h', g, hi⟩⟩
 ·exact body s f h hi
 ·exact Sem.gc g (body s f' h' hi)
end
def nuK : List Value → Prop → Prop
 | [], p => p
 | v :: vs, p => v ≠ unk ∧ nuK vs p
def retL (n0 : Nat) (K : Value → List AObj → Prop) (ds : List Nat) (vs : List Value) (h : List AObj) : Prop :=
 takeW ds h fun h => nuK vs (K (pack vs) h ∨ ∃ σ h' v, GC n0 σ h h' ∧ pack vs = sub σ v ∧ VOk h'.length v ∧ K v h')
def aNewS (n : Nat) (c : List Value) (h : List AObj) (K : Value → List AObj → Prop) : Prop := K (.slice (some ⟨h.length, 0, none⟩) n n) (h ++ [.cells c true 0])
def aNewM (h : List AObj) (K : Value → List AObj → Prop) : Prop := K (.map (some h.length)) (h ++ [.map [] true])
def aConvI (k : IntKind) (x : Value) (K : Value → Prop) : Prop :=
 match x with
 | .int _ n => K (.int k (k.wrap n))
 | _ => False
def aMkF (f : FuncId) (first cap : List Value) (K : Value → Prop) : Prop := ((first ++ cap).all one) = true ∧ K (.func (.func f) ⟨first⟩ ⟨cap⟩)
section
variable {P : Program} {t : TypeId} {K : Value → Prop} {H : Value → List AObj → Prop} {k : IntKind} {a b : Int} {p : Prop} [Decidable p] {A B : Prop} {h : List AObj}
theorem cnd_dec : cnd (.bool (decide p)) A B ↔ (p → A) ∧ (¬p → B) := by by_cases h : p <;> simp [cnd, h]
theorem cnd_ndec : cnd (.bool (!decide p)) A B ↔ (¬p → A) ∧ (p → B) := by by_cases h : p <;> simp [cnd, h]
theorem cnd_true : cnd (.bool true) A B ↔ A := by simp [cnd]
theorem cnd_false : cnd (.bool false) A B ↔ B := by simp [cnd]
theorem b_lss : aBin P .lss t (.int k a) (.int k b) K = K (.bool (decide (a < b))) := by simp [aBin, aInt]
theorem b_leq : aBin P .leq t (.int k a) (.int k b) K = K (.bool (decide (a ≤ b))) := by simp [aBin, aInt]
theorem b_gtr : aBin P .gtr t (.int k a) (.int k b) K = K (.bool (decide (a > b))) := by simp [aBin, aInt]
theorem b_geq : aBin P .geq t (.int k a) (.int k b) K = K (.bool (decide (a ≥ b))) := by simp [aBin, aInt]
theorem b_eql : aBin P .eql t (.int k a) (.int k b) K = K (.bool (decide (a = b))) := by simp [aBin, aInt]; rfl
theorem b_neq : aBin P .neq t (.int k a) (.int k b) K = K (.bool (decide (a ≠ b))) := by simp [aBin, aInt]; rfl
theorem wrap64 {n : Int} (h1 : -9223372036854775808 ≤ n) (h2 : n < 9223372036854775808) : IntKind.i64.wrap n = n := by
 simp only [IntKind.wrap, IntKind.bits, IntKind.signed]
 simp
 split <;> omega
theorem b_add (h : -9223372036854775808 ≤ a + b ∧ a + b < 9223372036854775808) : aBin P .add t (vint a) (vint b) K = K (vint (a + b)) := by simp [aBin, aInt, vint, wrap64 h.1 h.2]
theorem b_sub (h : -9223372036854775808 ≤ a - b ∧ a - b < 9223372036854775808) : aBin P .sub t (vint a) (vint b) K = K (vint (a - b)) := by simp [aBin, aInt, vint, wrap64 h.1 h.2]
theorem lenS {x : Option Addr} {n c : Nat} : aLenS (.slice x n c) K = K (vint n) := rfl
theorem idx_ok {s b o n c : Nat} {j : Int} : aIdx s (.slice (some ⟨b, o, none⟩) n c) (vint j) K = ((0 ≤ j ∧ j < n) ∧ K (ptr b (o + j.toNat * s))) := rfl
theorem load_cell {b o s : Nat} {c : List Value} {wr : Bool} {sz : Nat} {v : Value} (hb : h[b]? = some (.cells c wr sz)) (hv : c[o]? = some v) (hn : kn1 v = true) {K : Value → Prop} : aLoad false s (ptr b o) h K = K v := by
 simp [aLoad, hb, hv, hn]
theorem store_cell {b o : Nat} {c : List Value} {sz : Nat} {v : Value} (hb : h[b]? = some (.cells c true sz)) (ho : o < c.length) (h1 : v.cells = #[v]) (h2 : one v = true) {K : List AObj → Prop} (hk : K (h.set b (.cells (c.set o v) true sz))) : aStore 1 (ptr b o) v h K := by
 simp [aStore, hb, h1, h2, wrAt]
 exact ⟨ho, hk⟩
theorem sub_id {n : Nat} {v : Value} (h : VOk n v) : sub id v = v := sub_same (n := n) (fun _ _ => rfl) v h
theorem gc_drop {n0 : Nat} {g : List AObj} (ok : heapOk h) (hn : n0 ≤ h.length) : GC n0 id (h ++ g) h :=
 ⟨hn, fun _ _ => rfl, fun i o hi => .inr (by
  rw [subO_same (σ := id) (n := h.length) (fun _ _ => rfl) (ok i o hi)]
  have : i < h.length := by
   rcases Nat.lt_or_ge i h.length with x | x
   ·exact x
   ·rw [List.getElem?_eq_none x] at hi; cases hi
  simp only [id]
  rw [List.getElem?_append_left this]
  exact hi), fun i j _ _ _ _ _ _ e => e, ok⟩
theorem objOk_mono {n m : Nat} (hn : n ≤ m) {o : AObj} (ho : objOk n o) : objOk m o := by
 cases o with
 | dead => trivial
 | deferred => trivial
 | chan cap => trivial
 | group x => trivial
 | iter m k sn => exact Nat.lt_of_lt_of_le ho hn
 | cells c wr sz => exact LOk.mono hn c ho
 | map es wr => exact fun e he => ⟨(ho e he).1, VOk.mono hn _ (ho e he).2⟩
 | loop st pend fn r size params assign body dfr => exact ⟨fun t => (ho.1 t).imp id (VOk.mono hn _), Nat.lt_of_lt_of_le ho.2 hn⟩
theorem retL_same {n0 : Nat} {vs : List Value} (hv : ∀ v ∈ vs, v ≠ unk) (hk : H (pack vs) h) : retL n0 H [] vs h := by
 unfold retL takeW
 have : ∀ (l : List Value) (p : Prop), (∀ v ∈ l, v ≠ unk) → p → nuK l p := by
  intro l
  induction l with
  | nil => intro p _ hp; exact hp
  | cons v l ih => intro p h hp; exact ⟨h v (by simp), ih p (fun u hu => h u (by simp [hu])) hp⟩
 exact this vs _ hv (.inl hk)
theorem retL_drop {n0 : Nat} {g : List AObj} {vs : List Value} (ok : heapOk h) (hn : n0 ≤ h.length) (hv : ∀ v ∈ vs, v ≠ unk) (hw : VOk h.length (pack vs)) (hk : H (pack vs) h) : retL n0 H [] vs (h ++ g) := by
 unfold retL takeW
 have : ∀ (l : List Value) (p : Prop), (∀ v ∈ l, v ≠ unk) → p → nuK l p := by
  intro l
  induction l with
  | nil => intro p _ hp; exact hp
  | cons v l ih => intro p h hp; exact ⟨h v (by simp), ih p (fun u hu => h u (by simp [hu])) hp⟩
 exact this vs _ hv (.inr ⟨id, h, pack vs, gc_drop ok hn, (sub_id hw).symm, hw, hk⟩)
def Sli (h : List AObj) (v : Value) (s n : Nat) (cells : List Value) : Prop :=
 ∃ base c, v = .slice base n c ∧ (cells.length = n * s ∧ kn cells = true) ∧ ((base = none ∧ n = 0) ∨ ∃ b o, base = some ⟨b, o, none⟩ ∧ (n = 0 ∨ ∃ cs wr sz, h[b]? = some (.cells cs wr sz) ∧ (cs.drop o).take (n * s) = cells))
theorem sli_len {v : Value} {s n : Nat} {cells : List Value} (hs : Sli h v s n cells) : aLenS v K = K (vint n) := by
 obtain ⟨base, c, rfl, _⟩ := hs
 rfl
theorem sli_get {v : Value} {s n : Nat} {cells : List Value} (hs : Sli h v s n cells) {i : Int} (hi : 0 ≤ i ∧ i < n) :
  ∃ b o cs wr sz c, v = .slice (some ⟨b, o, none⟩) n c ∧ h[b]? = some (.cells cs wr sz) ∧ ∀ j x, cells[j]? = some x → cs[o + j]? = some x := by
 obtain ⟨base, c, rfl, ⟨hl, hkn⟩, hc⟩ := hs
 rcases hc with ⟨_, h0⟩ | ⟨b, o, rfl, h0 | ⟨cs, wr, sz, hb, rfl⟩⟩
 ·omega
 ·omega
 ·refine ⟨b, o, cs, wr, sz, c, rfl, hb, fun j x hx => ?_⟩
  rw [List.getElem?_take] at hx
  split at hx
  ·rw [List.getElem?_drop] at hx
   exact hx
  ·cases hx
theorem idx_load {v : Value} {n : Nat} {cells : List Value} {i : Int} {x : Value} {K : Value → Value → Prop} (hs : Sli h v 1 n cells) (hi : 0 ≤ i ∧ i < n) (hx : cells[i.toNat]? = some x) (hk : ∀ p, K p x) :
  aIdx 1 v (vint i) fun p => aLoad false 1 p h (K p) := by
 obtain ⟨b, o, cs, wr, sz, c, rfl, hb, hg⟩ := sli_get hs hi
 rw [idx_ok]
 refine ⟨hi, ?_⟩
 rw [load_cell hb (by simpa using hg _ _ hx) (by
  obtain ⟨_, _, _, ⟨_, hkn⟩, _⟩ := hs
  exact kn_get hkn hx)]
 exact hk _
theorem sli_app {v : Value} {s n : Nat} {cells : List Value} {g : List AObj} (hs : Sli h v s n cells) : Sli (h ++ g) v s n cells := by
 obtain ⟨base, c, rfl, ⟨hl, hkn⟩, hc⟩ := hs
 refine ⟨base, c, rfl, ⟨hl, hkn⟩, ?_⟩
 rcases hc with h0 | ⟨b, o, rfl, h0 | ⟨cs, wr, sz, hb, hx⟩⟩
 ·exact .inl h0
 ·exact .inr ⟨b, o, rfl, .inl h0⟩
 ·refine .inr ⟨b, o, rfl, .inr ⟨cs, wr, sz, ?_, hx⟩⟩
  have : b < h.length := by
   rcases Nat.lt_or_ge b h.length with x | x
   ·exact x
   ·rw [List.getElem?_eq_none x] at hb; cases hb
  rw [List.getElem?_append_left this]
  exact hb
theorem sli_new {b n c : Nat} {cells : List Value} {wr : Bool} {sz : Nat} (hb : h[b]? = some (.cells cells wr sz)) (hl : cells.length = n) (hk : kn cells = true) : Sli h (.slice (some ⟨b, 0, none⟩) n c) 1 n cells :=
 ⟨_, c, rfl, ⟨by omega, hk⟩, .inr ⟨b, 0, rfl, .inr ⟨cells, wr, sz, hb, by simp [← hl]⟩⟩⟩
theorem sli_nil {s : Nat} : Sli h (.slice none 0 0) s 0 [] := ⟨none, 0, rfl, ⟨by simp, rfl⟩, .inl ⟨rfl, rfl⟩⟩
theorem sli_vlen {v : Value} {s n : Nat} {cells : List Value} (hs : Sli h v s n cells) : cells.length = n * s := by
 obtain ⟨_, _, _, ⟨hl, _⟩, _⟩ := hs
 exact hl
theorem src_sli {v : Value} {s n : Nat} {cells : List Value} {K : List Value → Prop} (hs : Sli h v s n cells) (hsp : 0 < s) (hk : K cells) : srcCells s n v h K := by
 obtain ⟨base, c, rfl, ⟨hl, hkn⟩, hc⟩ := hs
 rcases hc with ⟨rfl, rfl⟩ | ⟨b, o, rfl, h0 | ⟨cs, wr, sz, hb, rfl⟩⟩
 ·have : cells = [] := List.length_eq_zero_iff.1 (by omega)
  subst this
  exact ⟨rfl, hk⟩
 ·subst h0
  have : cells = [] := List.length_eq_zero_iff.1 (by omega)
  subst this
  exact ⟨fun _ => hk, fun x => absurd rfl x⟩
 ·by_cases h0 : n = 0
  ·subst h0
   exact ⟨fun _ => by simpa using hk, fun x => absurd rfl x⟩
  ·refine ⟨fun x => absurd x h0, fun _ => ?_⟩
   simp only [hb]
   refine ⟨?_, hkn, hk⟩
   rw [List.length_take, List.length_drop] at hl
   have := Nat.mul_pos (Nat.pos_of_ne_zero h0) hsp
   omega
theorem app_nil {s m : Nat} {y : Value} {ys : List Value} (hsp : 0 < s) (hy : Sli h y s m ys) (hm : m ≤ room) (h0 : m = 0 → H (.slice none 0 0) h) (h1 : m ≠ 0 → H (.slice (some ⟨h.length, 0, none⟩) m fz) (h ++ [.cells ys true s])) : aApp s (.slice none 0 0) y h H := by
 have hy' := hy
 obtain ⟨yb, yc, rfl, _⟩ := hy
 exact ⟨by omega, src_sli hy' hsp ⟨⟨rfl, rfl⟩, h0, h1⟩⟩
theorem app_own {s n m b : Nat} {y : Value} {cs ys : List Value} (hb : h[b]? = some (.cells cs true s)) (hcs : n * s ≤ cs.length) (hkn : kn (cs.take (n * s)) = true) (hsp : 0 < s) (hy : Sli h y s m ys) (hm : n + m ≤ room)
  (hk : H (.slice (some ⟨h.length, 0, none⟩) (n + m) fz) (h.set b .dead ++ [.cells (cs.take (n * s) ++ ys) true s])) : aApp s (.slice (some ⟨b, 0, none⟩) n fz) y h H := by
 have hy' := hy
 obtain ⟨yb, yc, rfl, _⟩ := hy
 refine ⟨hm, src_sli hy' hsp ?_⟩
 simp only [hb, List.drop_zero, Nat.zero_add]
 have : s ≠ 0 := by omega
 exact ⟨⟨hcs, hkn⟩, fun x => absurd x (Nat.lt_irrefl _), fun _ => ⟨trivial, trivial, trivial, trivial, hk⟩⟩
theorem app_copy {s n m b o c : Nat} {y : Value} {cs ys : List Value} {wr : Bool} {sz : Nat} (hb : h[b]? = some (.cells cs wr sz)) (hcs : o + n * s ≤ cs.length) (hkn : kn ((cs.drop o).take (n * s)) = true) (hc : c < n + m) (hsp : 0 < s) (hy : Sli h y s m ys) (hm : n + m ≤ room)
  (hk : H (.slice (some ⟨h.length, 0, none⟩) (n + m) fz) (h ++ [.cells ((cs.drop o).take (n * s) ++ ys) true s])) : aApp s (.slice (some ⟨b, o, none⟩) n c) y h H := by
 have hy' := hy
 obtain ⟨yb, yc, rfl, _⟩ := hy
 refine ⟨hm, src_sli hy' hsp ?_⟩
 simp only [hb]
 have hr : room = 1073741824 := rfl
 have hf : fz = 1180591620717411303424 := rfl
 exact ⟨⟨hcs, hkn⟩, fun _ => ⟨fun x => absurd x (by omega), fun _ => hk⟩, fun x => absurd x (by omega)⟩
theorem kn_ints (l : List Int) : kn (l.map vint) = true := by
 simp [kn, kn1]
theorem map_get {l : List Int} {k : Nat} (hk : k < l.length) : (l.map vint)[k]? = some (vint (l.getD k 0)) := by
 simp [hk]
theorem wrapU (n : Int) : 0 ≤ IntKind.u64.wrap n ∧ IntKind.u64.wrap n < 18446744073709551616 := by
 simp only [IntKind.wrap, IntKind.bits, IntKind.signed]
 simp
 omega
theorem u_add (hk : ∀ y, 0 ≤ y → y < 18446744073709551616 → K (.int .u64 y)) : aBin P .add t (.int .u64 a) (.int .u64 b) K := ⟨rfl, hk _ (wrapU _).1 (wrapU _).2⟩
theorem u_mul (hk : ∀ y, 0 ≤ y → y < 18446744073709551616 → K (.int .u64 y)) : aBin P .mul t (.int .u64 a) (.int .u64 b) K := ⟨rfl, hk _ (wrapU _).1 (wrapU _).2⟩
theorem u_xor (hk : ∀ y, 0 ≤ y → y < 18446744073709551616 → K (.int .u64 y)) : aBin P .xor t (.int .u64 a) (.int .u64 b) K := ⟨rfl, hk _ (wrapU _).1 (wrapU _).2⟩
theorem u_shl (hb : 0 ≤ b) (hk : ∀ y, 0 ≤ y → y < 18446744073709551616 → K (.int .u64 y)) : aBin P .shl t (.int .u64 a) (.int k b) K := ⟨hb, hk _ (wrapU _).1 (wrapU _).2⟩
theorem u_shr (hb : 0 ≤ b) (ha : 0 ≤ a) {A : Int} (hA : a < A) (hk : ∀ y, 0 ≤ y → y < A → K (.int .u64 y)) : aBin P .shr t (.int .u64 a) (.int k b) K := by
 refine ⟨hb, hk _ ?_ ?_⟩
 ·exact Int.fdiv_nonneg ha (by exact Int.le_of_lt (Int.pow_pos (by decide)))
 ·refine Int.lt_of_le_of_lt ?_ hA
  rw [Int.fdiv_eq_ediv_of_nonneg _ (Int.le_of_lt (Int.pow_pos (by decide)))]
  exact Int.ediv_le_self _ ha
def moveTo (n k : Nat) : Nat → Nat := fun i => if i = n then k else i
theorem gc_one {n0 : Nat} {g : List AObj} {k : Nat} {o : AObj} (ok : heapOk h) (hn : n0 ≤ h.length) (hk : (h ++ g)[k]? = some o) (hkn : h.length ≤ k) (ho : objOk h.length o) : GC n0 (moveTo h.length k) (h ++ g) (h ++ [o]) := by
 have hsame : Same h.length (moveTo h.length k) := fun b hb => by simp [moveTo]; omega
 refine ⟨by simp; omega, fun b hb => hsame b (by omega), fun i oi hi => .inr ?_, fun i j oi oj hi hj _ _ e => ?_, fun i oi hi => ?_⟩
 ·rcases Nat.lt_or_ge i h.length with hlt | hge
  ·rw [List.getElem?_append_left hlt] at hi
   rw [hsame i hlt, List.getElem?_append_left hlt, subO_same hsame (ok i oi hi)]
   exact hi
  ·have hil : i = h.length := by
    have := (List.getElem?_eq_some_iff.1 hi).1
    simp at this
    omega
   subst hil
   have : oi = o := by simpa using hi.symm
   subst this
   rw [subO_same hsame ho]
   simpa [moveTo] using hk
 ·have hil := (List.getElem?_eq_some_iff.1 hi).1
  have hjl := (List.getElem?_eq_some_iff.1 hj).1
  simp at hil hjl
  simp only [moveTo] at e
  split at e <;> split at e <;> omega
 ·rcases Nat.lt_or_ge i h.length with hlt | hge
  ·rw [List.getElem?_append_left hlt] at hi
   exact objOk_mono (by simp) (ok i oi hi)
  ·have hil : i = h.length := by
    have := (List.getElem?_eq_some_iff.1 hi).1
    simp at this
    omega
   subst hil
   have : oi = o := by simpa using hi.symm
   subst this
   exact objOk_mono (by simp) ho
theorem retL_one {n0 : Nat} {g : List AObj} {k : Nat} {o : AObj} {m c : Nat} (ok : heapOk h) (hn : n0 ≤ h.length) (hk : (h ++ g)[k]? = some o) (hkn : h.length ≤ k) (ho : objOk h.length o)
  (hK : H (.slice (some ⟨h.length, 0, none⟩) m c) (h ++ [o])) : retL n0 H [] [.slice (some ⟨k, 0, none⟩) m c] (h ++ g) := by
 refine ⟨by simp [unk], .inr ⟨moveTo h.length k, h ++ [o], .slice (some ⟨h.length, 0, none⟩) m c, gc_one ok hn hk hkn ho, ?_, ?_, hK⟩⟩
 ·simp [pack, sub, moveTo]
 ·simp [VOk, AddrOk]
end
end Go.Proofs.Ythnccaajpdnndaa
namespace Go.Proofs.Ythnccaajpdnndaa
open Go.Conc
open Go.ConcN (sumTo upd sumTo_upd upd_ne upd_same)
def Ends (P : Program) (Post : Value → World → Prop) (m : Machine) (t : Trace) : Prop :=
 ∃ N last o w' t', runNT P (N + 1) m t = (.ended o w', t') ∧ runN P N m = .next last ∧ step P last = .ended o w' ∧ Go.Conc.Good P Post last o w' t'
structure Base (W0 w : World) : Prop where
 tape : w.tape = W0.tape
 os : w.os = W0.os
 output : w.output = W0.output
 size : W0.heap.size ≤ w.heap.size
def J1 (P : Program) (W0 : World) (Post : Value → World → Prop) (g : Goroutine) (w : World) (ft : Foot) : Prop :=
 ∀ (gs : Array Goroutine) (w₁ : World) (sl : Option (Nat × Nat)) (t : Trace) (q : Nat → Nat), (∀ b, ft.rd b → b < w₁.heap.size) → (∀ b, ft.wr b → ft.rd b) → RelyW ft w w₁ → Base W0 w₁ → gs[0]? = some g → Leavers P t gs q → Past (fun _ => False) w₁.heap.size t →
  Ends P Post (crowd gs w₁ sl) t
section
variable {P : Program} {W0 : World} {Post : Value → World → Prop} {g : Goroutine} {w w₁ : World} {ft : Foot}
theorem Ends.next {m m' : Machine} {t : Trace} {ops : Array MemOp} (hs : stepT P m = (.next m', ops)) (h : Ends P Post m' (t ++ ops)) : Ends P Post m t := by
 obtain ⟨n, last, o, w, t', h1, h2, h3, h4⟩ := h
 exact ⟨n + 1, last, o, w, t', by rw [runNT_succ_next hs]; exact h1, by rw [runN_succ_next hs]; exact h2, h3, h4⟩
theorem evL_of {e : Event} {B : Nat} (he : EvOk ft e) (hb : ∀ b, ft.rd b → b < B) : EvL (fun _ => False) B e := by
 obtain ⟨loc, wr, sync⟩ := e
 unfold EvOk at he
 refine ⟨fun x _ hs => hs.elim, ?_, ?_, ?_⟩
 ·intro hl
  simp only at hl
  subst hl
  exact he
 ·intro hl
  simp only at hl
  subst hl
  exact he
 ·cases loc with
  | cell a => exact hb _ he.2.1
  | obj r =>
   have hs : sync = false := he.1
   subst hs
   have := hb _ he.2.1
   cases wr <;> exact this
  | mark m =>
   cases m <;> first | exact he.elim | trivial
  | output => trivial
  | goroutines => trivial
theorem mem_g {i : Nat} {fn : FuncId} {pos : String} {es : Array Event} {op : MemOp} (h : op ∈ MemOp.ofEvents i fn pos es) : op.g = i := by
 rw [ofEvents_eq] at h
 obtain ⟨e, he, rfl⟩ := Array.mem_map.1 h
 rfl
theorem relyW_at (ft : Foot) (w : World) (d : Nat) : RelyW ft w (w.at d) := ⟨fun _ _ => rfl, Nat.le_refl _, rfl, rfl, rfl⟩
theorem J1.both (hrun : g.status = .running)
  (h : ∀ w₁, RelyW ft w w₁ → Base W0 w₁ → (∃ g' w' es, stepG P true g w₁ = .go g' w' es ∧ g'.status = .running ∧ GuarW ft w₁ w' es ∧ J1 P W0 Post g' w' (ft.ext w₁.heap.size w'.heap.size)) ∨
   ∃ v es, stepG P true g w₁ = .ended (.done v) w₁ es ∧ (∀ e ∈ es, EvOk ft e) ∧ Post v w₁) : J1 P W0 Post g w ft := by
 intro gs w₁ sl t q hbd hsub hrel hbase h0 hL hP
 generalize hM : sumTo gs.size q = M
 induction M using Nat.strongRecOn generalizing gs w₁ sl t q with
 | ind M ih =>
  have haw : ∀ g ∈ gs, awake g := by
   intro x hx
   obtain ⟨i, hi, rfl⟩ := Array.mem_iff_getElem.1 hx
   rcases Nat.eq_zero_or_pos i with rfl | hpos
   ·have : gs[0] = g := by simpa [Array.getElem?_eq_getElem hi] using h0
    rw [this]; exact awake_of (.inl hrun)
   ·exact awake_of ((hL.old i _ hpos (Array.getElem?_eq_getElem hi)).status.elim .inl fun x => .inr (.inr x))
  obtain ⟨i, x, d, sl', hi, hg, hst⟩ := crowd_pick (P := P) (w := w₁) (sl := sl) haw ⟨0, g, h0, hrun⟩
  rcases Nat.eq_zero_or_pos i with rfl | hpos
  ·obtain rfl : x = g := by rw [h0] at hi; exact (Option.some.inj hi).symm
   rcases h (w₁.at d) (hrel.trans (relyW_at ft w₁ d)) ⟨hbase.tape, hbase.os, hbase.output, hbase.size⟩ with ⟨g', w', es, hgo, hrun', hgu, hJ⟩ | ⟨v, es, hend, hes, hpost⟩
   ·have hrunT := runT_crowd_go (P := P) (sl := sl') (i := 0) hi (show stepG P (0 == 0) x (w₁.at d) = _ from hgo)
    have hsz : ((gs.map (woken P x g' w')).setIfInBounds 0 g').size = gs.size := by simp
    have hlt : 0 < gs.size := (Array.getElem?_eq_some_iff.1 h0).1
    have hw' : w₁.heap.size ≤ w'.heap.size := hgu.size
    refine Ends.next (hst.trans hrunT) ?_
    refine hJ _ w' sl' _ q (fun b hb => ?_) (fun b hb => ?_) (RelyW.refl _ _) ⟨hgu.tape.trans hbase.tape, hgu.os.trans hbase.os, hgu.output.trans hbase.output, Nat.le_trans hbase.size hgu.size⟩ (by simp [hlt]) ⟨fun j y hj hy => ?_, fun j hj => ?_⟩ ?_
    ·rcases hb with hb | hb
     ·exact Nat.lt_of_lt_of_le (hbd b hb) hw'
     ·exact hb.2
    ·rcases hb with hb | hb
     ·exact .inl (hsub b hb)
     ·exact .inr hb
    ·have hne : 0 ≠ j := by omega
     rw [Array.getElem?_setIfInBounds_ne hne, Array.getElem?_map] at hy
     obtain ⟨z, hz, rfl⟩ := Option.map_eq_some_iff.1 hy
     have hq := hL.old j z hj hz
     rw [woken_quitsD hq, Deaf_other t (by omega) _ (fun op hop => mem_g hop)]
     exact hq
    ·rw [Deaf_other t (g' := 0) (by simp at hj; omega) _ (fun op hop => mem_g hop)]
     exact hL.above j (by simpa using hj)
    ·exact (hP.mono hw').own fun e he => evL_of (hgu.evs e he) fun b hb => Nat.lt_of_lt_of_le (hbd b hb) hw'
   ·have hrunT := runT_many_ended (P := P) (sl := sl') (i := 0) hi (show stepG P (0 == 0) x (w₁.at d) = _ from hend)
    have hP' := hP.own (fn := x.frame.fn) (pos := x.frame.place) fun e he => evL_of (hes e he) hbd
    refine ⟨0, crowd gs w₁ sl, .done v, w₁.at d, _, by simp only [runNT, hst.trans hrunT], rfl, by simp [step, hst.trans hrunT], v, rfl, hpost, hP'.clean, hP'.over, ⟨fun y hy => ?_, rfl⟩, fun j y hy hj => ?_⟩
    ·obtain ⟨j, hj⟩ := List.mem_iff_getElem?.1 hy
     rw [List.getElem?_drop] at hj
     exact ⟨_, (hL.old (1 + j) y (by omega) (by simpa [crowd] using hj)).leaves⟩
    ·have hq := hL.old j y (by omega) hy
     refine ⟨q j, ?_⟩
     have e : (t ++ MemOp.ofEvents 0 x.frame.fn x.frame.place es).deaf j (t ++ MemOp.ofEvents 0 x.frame.fn x.frame.place es).size = Deaf t j :=
      Deaf_other t (g := j) (g' := 0) (by omega) _ (fun op hop => mem_g hop)
     rw [e]
     exact hq.hears _
  ·have hq := hL.old i x hpos hi
   have hi0 : (i == 0) = false := by simp; omega
   have hlt : i < gs.size := (Array.getElem?_eq_some_iff.1 hi).1
   cases hqi : q i with
   | zero => rw [hqi] at hq; rw [hq.1] at hg; cases hg
   | succ k =>
    rw [hqi] at hq
    rcases hq with ⟨hf, _⟩ | ⟨_, g', es, hm, hstp, hq'⟩
    ·rw [hf] at hg; cases hg
    have hrunT := runT_crowd_go (P := P) (sl := sl') (i := i) hi (by rw [hi0]; exact hstp (w₁.at d))
    have hsz : ((gs.map (woken P x g' (w₁.at d))).setIfInBounds i g').size = gs.size := by simp
    have hsum : sumTo gs.size (upd q i k) + (k + 1) = sumTo gs.size q + k := by
     have := sumTo_upd q k id hlt
     simpa [hqi] using this
    refine Ends.next (hst.trans hrunT) (ih (sumTo gs.size (upd q i k)) (by omega) _ (w₁.at d) sl' _ (upd q i k) hbd (hrel.trans (relyW_at ft w₁ d)) ⟨hbase.tape, hbase.os, hbase.output, hbase.size⟩ ?_ ⟨fun j y hj hy => ?_, fun j hj => ?_⟩ (hP.mute (by omega) hm) (by rw [hsz]))
    ·have hne : i ≠ 0 := by omega
     rw [Array.getElem?_setIfInBounds_ne hne, Array.getElem?_map, h0]
     simp [woken_run hrun]
    ·by_cases hji : i = j
     ·subst hji
      rw [Array.getElem?_setIfInBounds_self_of_lt (by simpa using hlt)] at hy
      obtain rfl := Option.some.inj hy
      rw [upd_same, Deaf_own]
      exact hq'
     ·rw [Array.getElem?_setIfInBounds_ne hji, Array.getElem?_map] at hy
      obtain ⟨z, hz, rfl⟩ := Option.map_eq_some_iff.1 hy
      have hqj := hL.old j z hj hz
      rw [woken_quitsD hqj, upd_ne q k (Ne.symm hji), Deaf_other t hji _ (fun op hop => mem_g hop)]
      exact hqj
    ·rw [Deaf_other t (g' := i) (by simp at hj; omega) _ (fun op hop => mem_g hop)]
     exact hL.above j (by simpa using hj)
theorem J1.closed (P : Program) (W0 : World) (Post : Value → World → Prop) : Closed P true (J1 P W0 Post) where
 rely := fun h hr gs w₂ sl t q hbd hsub hrel hbase h0 hL hP => h gs w₂ sl t q hbd hsub (hr.trans hrel) hbase h0 hL hP
 step := fun hrun h => J1.both hrun fun w₁ h₁ _ => by
  obtain ⟨g', w', es, a, b, c, d⟩ := h w₁ h₁
  exact .inl ⟨g', w', es, a, b, c, d⟩
end
end Go.Proofs.Ythnccaajpdnndaa
namespace Go.Proofs.Ythnccaajpdnndaa
open Go.Conc Go.RowKit
def idEnv : Env := ⟨fun b => b, fun _ => 0⟩
def startFt (w : World) : Foot := ⟨fun b => b < w.heap.size, fun _ => False, 0⟩
def startFC (w : World) : Frm := ⟨fun b => w.heap[b]?, fun _ => False⟩
def Fine (n : Nat) (v : Value) : Prop := VOk n v ∧ one v = true ∧ ren idEnv v = v
open Classical in
noncomputable def clean (n : Nat) (v : Value) : Value := if Fine n v then v else unk
noncomputable def absO (n : Nat) : Obj → AObj
 | .cells c _ _ => .cells (c.toList.map (clean n)) false 0
 | _ => .dead
noncomputable def absH (w : World) : List AObj := w.heap.toList.map (absO w.heap.size)
section
variable {w w' : World} {n : Nat}
theorem clean_fine {v : Value} (h : Fine n v) : clean n v = v := by simp [clean, h]
theorem absH_len : (absH w).length = w.heap.size := by simp [absH]
theorem absH_get {b : Nat} : (absH w)[b]? = (w.heap[b]?).map (absO w.heap.size) := by simp [absH]
theorem absO_wrt (x : Obj) : (absO n x).wrt = false := by cases x <;> rfl
theorem start_rel (w : World) : HRel idEnv (absH w) (startFC w) w (startFt w) where
 obj := fun b o hb => by
  rw [absH_get] at hb
  obtain ⟨x, hx, rfl⟩ := Option.map_eq_some_iff.1 hb
  show ORel (absH w).length idEnv b (absO w.heap.size x) w.heap[b]?
  rw [absH_len, hx]
  cases x with
  | cells c ty fr =>
   refine ⟨fun i v hv => ?_, fun _ => by simp, fun hz => absurd rfl hz, fun e => by cases e⟩
   rw [List.getElem?_map] at hv
   obtain ⟨u, hu, rfl⟩ := Option.map_eq_some_iff.1 hv
   by_cases hf : Fine w.heap.size u
   ·rw [clean_fine hf]
    exact .inr ⟨hf.1, hf.2.1, by rw [hf.2.2]; simpa using hu⟩
   ·exact .inl ⟨by simp [clean, hf], rfl⟩
  | _ => trivial
 inj := fun b b' o o' _ _ _ _ e => e
 rd := fun b o hb _ => by
  have : b < (absH w).length := (List.getElem?_eq_some_iff.1 hb).1
  rw [absH_len] at this
  exact this
 wr := fun b o hb hw => by
  rw [absH_get] at hb
  obtain ⟨x, hx, rfl⟩ := Option.map_eq_some_iff.1 hb
  rw [absO_wrt] at hw
  cases hw
 lt := fun b hb => hb
 sub := fun b hb => hb.elim
 kept := fun b o hb => by
  refine ⟨hb, ?_, fun a oa ha hw => ?_⟩
  ·exact (Array.getElem?_eq_some_iff.1 hb).1
  ·rw [absH_get] at ha
   obtain ⟨x, hx, rfl⟩ := Option.map_eq_some_iff.1 ha
   rw [absO_wrt] at hw
   cases hw
 keptW := fun b hb => hb.elim
 tag := fun b x hb => by
  rw [absH_get] at hb
  obtain ⟨y, _, e⟩ := Option.map_eq_some_iff.1 hb
  cases y <;> cases e
theorem absH_cell {b o : Nat} {v : Value} (hc : w.cell? ⟨b, o, none⟩ = some v) (hf : Fine w.heap.size v) : ∃ c, (absH w)[b]? = some (.cells c false 0) ∧ c[o]? = some v := by
 unfold World.cell? at hc
 simp only at hc
 split at hc
 ·rename_i c ty fr hx
  refine ⟨c.toList.map (clean w.heap.size), by rw [absH_get, hx]; rfl, ?_⟩
  have hc' : c[o]? = some v := by simpa using hc
  rw [List.getElem?_map, Array.getElem?_toList, hc']
  simp [clean_fine hf]
 ·cases hc
theorem below_of {ρ' : Env} {h' : List AObj} {ft' : Foot} (H : HRel ρ' h' (startFC w) w' ft') (B : Base w w') : Below w.heap.size w w' :=
 ⟨B.os, B.tape, B.output, B.size, fun k hk => by
  have : (startFC w).ob k = some w.heap[k] := by simp [startFC, hk]
  rw [(H.kept k _ this).1, Array.getElem?_eq_getElem hk]⟩
end
end Go.Proofs.Ythnccaajpdnndaa
namespace Go.Proofs.Ythnccaajpdnndaa
open Go Go.Proofs.Try
theorem mixed : prog.follows .mixedOrders = true := by kernel_rfl
end Go.Proofs.Ythnccaajpdnndaa
namespace Go.Proofs.Ythnccaajpdnndaa
open Go.Conc Go.ChangeShapes Go.WideShapes Go.ChangeAt Go.RowKit Go.Proofs.Try
set_option maxRecDepth 100000
theorem own : ownKnob prog.godebug = none := by kernel_rfl
theorem laidOut : laidOutB prog = true := by kernel_rfl
def ArgOk (W : World) (v : Value) : Prop := VOk W.heap.size v ∧ ren idEnv v = v
theorem argOk_int {W : World} {k : IntKind} {n : Int} : ArgOk W (.int k n) := ⟨by simp [VOk], by simp [ren]⟩
section
variable {H : Type} {enc : TypeId × Value → H}
theorem arg_ints {t e : TypeId} (ht : prog.underlying t = some (.slice e)) (he : prog.underlying e = some (.int .i64)) (hc : prog.cellsOf e = 1) {W : World} {base : Nat} {v : Value} {d : DataW H} {ps : List MemPlace}
  (hval : Value.okWide prog W .any base t v) (hd : DataW.Trod enc prog W 0 (fun _ => true) true t v d ps) :
  ∃ zs : List Int, Sli (absH W) v 1 zs.length (zs.map vint) ∧ ArgOk W v ∧ (zs = [] ∨ ∃ es sp, d = .slice es sp ∧ zs.length ≤ es.length + sp.length) := by
 obtain ⟨a0, len, cap, rfl⟩ := okWide_slice ht hval
 obtain ⟨fuel, hf⟩ := hd
 rcases open_ints ht he hc hf with ⟨hcs, hx⟩ | ⟨a, len', cap', zs, hcs, _, hl, hm, hz, hx, hcell, hwz⟩
 ·simp [Value.cells] at hcs
  obtain ⟨rfl, rfl, rfl⟩ := hcs
  exact ⟨[], sli_nil, ⟨by simp [VOk], by simp [ren]⟩, .inl rfl⟩
 ·simp [Value.cells] at hcs
  obtain ⟨rfl, rfl, rfl⟩ := hcs
  simp only [Prod.mk.injEq] at hx
  obtain ⟨rfl, rfl⟩ := hx
  simp only [if_true] at hz
  simp only [Value.okWide, ht, Cell.okWide, Cell.ok, World.has] at hval
  obtain ⟨_, _, _, hspot, row, cells, hshape, _⟩ := hval
  obtain ⟨b, o, spot⟩ := a
  simp only at hspot hshape
  subst hspot
  have hb : b < W.heap.size := by
   unfold World.shape? at hshape
   split at hshape
   ·rename_i h
    exact (Array.getElem?_eq_some_iff.1 h).1
   ·cases hshape
  have hlen : (zs.take len).length = len := by simp; omega
  have hcell' : ∀ i, i < zs.length → W.cell? ⟨b, o + i, none⟩ = some (vint (zs.getD i 0)) := by
   intro i hi
   have := hcell i hi
   unfold Addr.add at this
   by_cases h0 : i = 0
   ·subst h0; simpa using this
   ·simpa [h0] using this
  have hmax : cap < fz := by
   simp only [maxLen] at hm
   unfold fz
   omega
  refine ⟨zs.take len, ?_, ⟨by simp only [VOk, AddrOk]; exact ⟨hb, trivial⟩, ?_⟩, .inr ⟨_, _, rfl, ?_⟩⟩
  ·refine ⟨some ⟨b, o, none⟩, cap, by rw [hlen], ⟨by simp, kn_ints _⟩, .inr ⟨b, o, rfl, ?_⟩⟩
   rw [hlen]
   by_cases h0 : len = 0
   ·exact .inl h0
   ·right
    have fine : ∀ n : Int, Fine W.heap.size (vint n) := fun n => ⟨by simp [VOk], rfl, by simp [ren]⟩
    obtain ⟨c, hc1, hc2⟩ := absH_cell (hcell' 0 (by omega)) (fine _)
    refine ⟨c, false, 0, hc1, ?_⟩
    apply List.ext_getElem?
    intro i
    rw [Nat.mul_one]
    by_cases hi : i < len
    ·obtain ⟨c', hc1', hc2'⟩ := absH_cell (hcell' i (by omega)) (fine _)
     rw [hc1] at hc1'
     cases hc1'
     rw [List.getElem?_take, if_pos hi, List.getElem?_drop, hc2']
     have hzi : i < zs.length := by omega
     simp [hi, hzi]
    ·rw [List.getElem?_take, if_neg hi, List.getElem?_eq_none (by simp; omega)]
  ·have hnf : ¬ fz ≤ cap := by omega
   simp [ren, renAddr, renCap, idEnv, hnf]
  ·simp only [lits, List.length_map, List.length_take, List.length_drop]
   omega
end
end Go.Proofs.Ythnccaajpdnndaa
namespace Go.Proofs.Ythnccaajpdnndaa
open Go.Conc
def putAt {X : Type} (f : Nat → X) (i : Nat) (x : X) : Nat → X := fun j => if j = i then x else f j
theorem putAt_self {X : Type} (f : Nat → X) (i : Nat) (x : X) : putAt f i x i = x := by simp [putAt]
theorem putAt_ne {X : Type} (f : Nat → X) {i j : Nat} (x : X) (h : j ≠ i) : putAt f i x j = f j := by simp [putAt, h]
def Less {X : Type} (r : X → X → Prop) (n : Nat) (f' f : Nat → X) : Prop := ∃ i, i < n ∧ r (f' i) (f i) ∧ ∀ j, j ≠ i → f' j = f j
theorem less_acc {X : Type} (r : X → X → Prop) : ∀ (n : Nat) (f : Nat → X), (∀ i, i < n → Acc r (f i)) → Acc (Less r n) f
 | 0, f, _ => ⟨f, fun _ h => by obtain ⟨i, hi, _⟩ := h; omega⟩
 | n + 1, f, h => by
  have key : ∀ a, Acc r a → ∀ g : Nat → X, Acc (Less r n) g → Acc (Less r (n + 1)) (putAt g n a) := by
   intro a ha
   induction ha with
   | intro a _ iha =>
    intro g hg
    induction hg with
    | intro g hgs ihg =>
     refine ⟨_, fun y hy => ?_⟩
     obtain ⟨i, hi, hr, ho⟩ := hy
     by_cases hin : i = n
     ·subst hin
      rw [putAt_self] at hr
      have : y = putAt g i (y i) := by
       funext j
       by_cases hj : j = i
       ·subst hj; rw [putAt_self]
       ·rw [putAt_ne _ _ hj, ho j hj, putAt_ne _ _ hj]
      rw [this]
      exact iha (y i) hr g ⟨g, hgs⟩
     ·rw [putAt_ne _ _ hin] at hr
      have : y = putAt (putAt g i (y i)) n a := by
       funext j
       by_cases hj : j = n
       ·subst hj
        rw [putAt_self, ho j (fun e => hin e.symm), putAt_self]
       ·rw [putAt_ne _ _ hj]
        by_cases hji : j = i
        ·subst hji; rw [putAt_self]
        ·rw [putAt_ne _ _ hji, ho j hji, putAt_ne _ _ hj]
      rw [this]
      refine ihg _ ⟨i, by omega, by rw [putAt_self]; exact hr, fun j hj => putAt_ne _ _ hj⟩
  have e : f = putAt f n (f n) := by
   funext j
   by_cases hj : j = n
   ·subst hj; rw [putAt_self]
   ·rw [putAt_ne _ _ hj]
  rw [e]
  exact key (f n) (h n (by omega)) f (less_acc r n f fun i hi => h i (by omega))
inductive Toward (P : Program) (Stop : JT) : Goroutine → World → Foot → Prop where
 | stop {g : Goroutine} {w : World} {ft : Foot} : g.status = .running → (∀ w₁, RelyW ft w w₁ → Stop g w₁ ft) → Toward P Stop g w ft
 | step {g : Goroutine} {w : World} {ft : Foot} : g.status = .running → (∀ w₁, RelyW ft w w₁ → ∃ g' w' es, stepG P false g w₁ = .go g' w' es ∧ g'.status = .running ∧ GuarW ft w₁ w' es) →
  (∀ w₁ g' w' es, RelyW ft w w₁ → stepG P false g w₁ = .go g' w' es → Toward P Stop g' w' (ft.ext w₁.heap.size w'.heap.size)) → Toward P Stop g w ft
theorem Toward.running {P : Program} {Stop : JT} {g : Goroutine} {w : World} {ft : Foot} (h : Toward P Stop g w ft) : g.status = .running := by
 cases h with
 | stop h _ => exact h
 | step h _ _ => exact h
theorem Toward.rely {P : Program} {Stop : JT} {g : Goroutine} {w w₁ : World} {ft : Foot} (h : Toward P Stop g w ft) (hr : RelyW ft w w₁) : Toward P Stop g w₁ ft := by
 cases h with
 | stop h1 h2 => exact .stop h1 fun w₂ h₂ => h2 w₂ (hr.trans h₂)
 | step h1 h2 h3 => exact .step h1 (fun w₂ h₂ => h2 w₂ (hr.trans h₂)) fun w₂ g' w' es h₂ hs => h3 w₂ g' w' es (hr.trans h₂) hs
theorem Toward.closed (P : Program) (Stop : JT) : Closed P false (Toward P Stop) where
 rely := fun h hr => h.rely hr
 step := fun hrun h => .step hrun (fun w₁ h₁ => by
  obtain ⟨g', w', es, a, b, c, _⟩ := h w₁ h₁
  exact ⟨g', w', es, a, b, c⟩) fun w₁ g' w' es h₁ hs => by
  obtain ⟨g2, w2, es2, a, b, c, d⟩ := h w₁ h₁
  rw [hs] at a
  cases a
  exact d
inductive WS where
 | quit (n : Nat)
 | way (w : World) (ft : Foot)
 | park
def locBlk : Loc → Option Nat
 | .cell a => some a.block
 | .obj r => some r
 | _ => none
def KnowsOk (t : Trace) (x : Nat) (ft : Foot) : Prop :=
 ∀ i a, touchAt t i = some a → a.loc.isMemory = true → Knows t x i ∨ ∀ b, locBlk a.loc = some b → ¬ ft.wr b ∧ (a.write = true → ¬ ft.rd b)
theorem evOk_touch {ft : Foot} {e : Event} {a : Touch} (he : EvOk ft e) (ha : (MemAct.ofEvent e).touch? = some a) : ∃ b, locBlk a.loc = some b ∧ ft.rd b ∧ (a.write = true → ft.wr b) := by
 obtain ⟨loc, wr, sync⟩ := e
 unfold EvOk at he
 cases loc with
 | cell x =>
  simp only at he
  simp only [MemAct.ofEvent, MemAct.touch?, Option.some.injEq] at ha
  subst ha
  exact ⟨_, rfl, he.2.1, he.2.2⟩
 | obj r =>
  obtain ⟨rfl, h1, h2⟩ := he
  cases wr <;> (simp only [MemAct.ofEvent, MemAct.touch?, Option.some.injEq] at ha; subst ha; exact ⟨_, rfl, h1, h2⟩)
 | mark m => cases m <;> first | exact he.elim | (simp [MemAct.ofEvent, MemAct.touch?] at ha)
 | output => exact he.elim
 | goroutines => exact he.elim
theorem touch_low {x : MemAct} {a : Touch} {n b : Nat} (hl : x.low n) (ha : x.touch? = some a) (hb : locBlk a.loc = some b) : b < n := by
 cases x with
 | access e =>
  obtain ⟨loc, wr, sy⟩ := e
  simp only [MemAct.touch?, Option.some.injEq] at ha
  subst ha
  cases loc with
  | cell x => injection hb with hb; subst hb; exact hl
  | obj x => injection hb with hb; subst hb; exact hl
  | _ => cases hb
 | mark mk =>
  cases mk with
  | read x => injection ha with ha; subst ha; injection hb with hb; subst hb; exact hl
  | write x => injection ha with ha; subst ha; injection hb with hb; subst hb; exact hl
  | _ => cases ha
 | _ => cases ha
theorem touch_app {t u : Trace} {i : Nat} {a : Touch} (h : touchAt (t ++ u) i = some a) : (i < t.size ∧ touchAt t i = some a) ∨ ∃ op ∈ u, (t ++ u)[i]? = some op ∧ op.act.touch? = some a := by
 obtain ⟨x, hx, hxa⟩ := touch_of h
 rcases getElem?_append_cases hx with ⟨hi, hx'⟩ | ⟨_, hxu⟩
 ·exact .inl ⟨hi, by rw [touchAt_of hx']; exact hxa⟩
 ·exact .inr ⟨x, hxu, hx, hxa⟩
theorem conf_blk {said : Bool} {a b : Touch} (h : a.conflicts said b) : locBlk a.loc = locBlk b.loc ∧ a.loc.isMemory = true ∧ (a.write = true ∨ b.write = true) := ⟨by rw [h.1], h.2.1, h.2.2.1⟩
section
variable {t u : Trace} {x y : Nat} {ft fy : Foot} {fn : FuncId} {pos : String} {es : Array Event}
theorem KnowsOk.noRace {said : Bool} (hc : ¬ Race said t) (hk : KnowsOk t x ft) (he : ∀ e ∈ es, EvOk ft e) : ¬ Race said (t ++ MemOp.ofEvents x fn pos es) := by
 refine noRace_append hc (fun op hop => mem_g hop) fun i a ha op hop b hb hcf => ?_
 obtain ⟨e, hee, rfl⟩ := Go.Conc.mem_ofEvents hop
 obtain ⟨bl, h1, h2, h3⟩ := evOk_touch (he e hee) hb
 obtain ⟨c1, c2, c3⟩ := conf_blk hcf
 rcases hk i a ha c2 with h | h
 ·exact h
 ·obtain ⟨n1, n2⟩ := h bl (by rw [c1]; exact h1)
  rcases c3 with c | c
  ·exact absurd h2 (n2 c)
  ·exact absurd (h3 c) n1
theorem KnowsOk.mute (hk : KnowsOk t y fy) (hu : ∀ op ∈ u, op.act.touch? = none) : KnowsOk (t ++ u) y fy := by
 intro i a ha hm
 rcases touch_app ha with ⟨hi, h⟩ | ⟨op, hop, _, h⟩
 ·exact (hk i a h hm).imp (·.app u) id
 ·rw [hu op hop] at h; cases h
theorem KnowsOk.other (hk : KnowsOk t y fy) (he : ∀ e ∈ es, EvOk ft e) (d1 : ∀ b, ft.wr b → ¬ fy.rd b) (d2 : ∀ b, fy.wr b → ¬ ft.rd b) : KnowsOk (t ++ MemOp.ofEvents x fn pos es) y fy := by
 intro i a ha hm
 rcases touch_app ha with ⟨hi, h⟩ | ⟨op, hop, _, h⟩
 ·exact (hk i a h hm).imp (·.app _) id
 ·obtain ⟨e, hee, rfl⟩ := Go.Conc.mem_ofEvents hop
  obtain ⟨bl, h1, h2, h3⟩ := evOk_touch (he e hee) h
  refine .inr fun b hb => ?_
  rw [h1] at hb
  cases hb
  exact ⟨fun hw => d2 _ hw h2, fun hw => d1 _ (h3 hw)⟩
theorem KnowsOk.own {n m : Nat} (hk : KnowsOk t x ft) (_he : ∀ e ∈ es, EvOk ft e) (hs : ∀ op ∈ t, op.act.low n) : KnowsOk (t ++ MemOp.ofEvents x fn pos es) x (ft.ext n m) := by
 intro i a ha hm
 rcases touch_app ha with ⟨hi, h⟩ | ⟨op, hop, hg, h⟩
 ·rcases hk i a h hm with hh | hh
  ·exact .inl (hh.app _)
  ·refine .inr fun b hb => ?_
   obtain ⟨n1, n2⟩ := hh b hb
   have hlow : b < n := by
    obtain ⟨z, hz, hza⟩ := touch_of h
    exact touch_low (hs z (Array.mem_of_getElem? hz)) hza hb
   exact ⟨fun hw => hw.elim n1 (fun e => by omega), fun hw hr => hr.elim (n2 hw) fun e => by omega⟩
 ·have := knows_own hg
  rw [mem_g hop] at this
  exact .inl this
theorem KnowsOk.less {f' : Foot} (hk : KnowsOk t x ft) (h1 : ∀ b, f'.rd b → ft.rd b) (h2 : ∀ b, f'.wr b → ft.wr b) : KnowsOk t x f' := fun i a ha hm =>
 (hk i a ha hm).imp id fun hh b hb => ⟨fun hw => (hh b hb).1 (h2 b hw), fun hw hr => (hh b hb).2 hw (h1 b hr)⟩
theorem low_events {n : Nat} (he : ∀ e ∈ es, EvOk ft e) (hb : ∀ b, ft.rd b → b < n) : ∀ op ∈ MemOp.ofEvents x fn pos es, op.act.low n := fun op hop => by
 obtain ⟨e, hee, rfl⟩ := Go.Conc.mem_ofEvents hop
 exact (evL_of (he e hee) hb).2.2.2
end
structure Crew where
 ch : Nat → Option (Nat × Array Value × Bool)
 c : Nat
 pend : List Nat
 phi : Nat → Value → Prop
section
variable {P : Program} {W0 : World} {Post : Value → World → Prop} {T : Crew} {g : Goroutine} {w w₁ w' : World} {ft : Foot} {gs : Array Goroutine} {t : Trace} {st : Nat → WS} {ix : Nat → Nat} {i : Nat} {sl : Option (Nat × Nat)}
theorem moved_get {f : Goroutine → Goroutine} {g' : Goroutine} {j : Nat} {y : Goroutine} (hne : i ≠ j) (h : ((gs.map f).setIfInBounds i g')[j]? = some y) : ∃ z, gs[j]? = some z ∧ y = f z := by
 rw [Array.getElem?_setIfInBounds_ne hne, Array.getElem?_map] at h
 obtain ⟨z, hz, e⟩ := Option.map_eq_some_iff.1 h
 exact ⟨z, hz, e.symm⟩
theorem moved_put {f : Goroutine → Goroutine} {g' : Goroutine} {j : Nat} {z : Goroutine} (hne : i ≠ j) (h : gs[j]? = some z) (e : f z = z) : ((gs.map f).setIfInBounds i g')[j]? = some z := by
 rw [Array.getElem?_setIfInBounds_ne hne, Array.getElem?_map, h]
 simp [e]
theorem moved_own {f : Goroutine → Goroutine} {g g' : Goroutine} (h : gs[i]? = some g) : ((gs.map f).setIfInBounds i g')[i]? = some g' := by
 have hlt := (Array.getElem?_eq_some_iff.1 h).1
 rw [Array.getElem?_setIfInBounds_self_of_lt (by simpa using hlt)]
theorem deaf_evs {fi : Foot} {fn : FuncId} {pos : String} {es : Array Event} {n : Nat} (he : ∀ e ∈ es, EvOk fi e) (hb : ∀ b, fi.rd b → b < n) (j : Nat) : Deaf (t ++ MemOp.ofEvents i fn pos es) j = Deaf t j := by
 by_cases h : i = j
 ·subst h
  rw [Deaf_own]
  exact deafBehind_still (fun e hm => ⟨(evL_of (he e hm) hb).2.1, (evL_of (he e hm) hb).2.2.1⟩) _
 ·rw [Deaf_other t h _ (fun op hop => mem_g hop)]
theorem g_app {u : Trace} {j : Nat} {y : Nat} (h : t.g? j = some y) : (t ++ u).g? j = some y := by
 unfold Trace.g? at h ⊢
 obtain ⟨z, hz, e⟩ := Option.map_eq_some_iff.1 h
 rw [getElem?_append_old (lt_size_of_getElem? hz), hz]
 simp [e]
end
def Crew.less (T : Crew) (k : Nat) : Crew := { T with pend := T.pend.erase k }
end Go.Proofs.Ythnccaajpdnndaa
namespace Go.Proofs.Ythnccaajpdnndaa
open Go.Conc
open Go.ConcN (sumTo upd sumTo_upd upd_ne upd_same)
open Go.ConcR (Bk)
def InBlk (S : Nat → Prop) : Loc → Prop := fun l => ∃ b, locBlk l = some b ∧ S b
structure PastS (S : Nat → Prop) (ft : Foot) (B : Nat) (t : Trace) : Prop where
 past : Past (InBlk S) B t
 shun : ∀ b, S b → ¬ ft.rd b ∧ b < B
 norel : ∀ a : Addr, ft.rd a.block → NoRelease a t
theorem evS_of {S : Nat → Prop} {ft : Foot} {e : Event} {B : Nat} (he : EvOk ft e) (hs : ∀ b, S b → ¬ ft.rd b) (hb : ∀ b, ft.rd b → b < B) : EvL (InBlk S) B e := by
 obtain ⟨_, h2, h3, h4⟩ := evL_of he hb
 refine ⟨fun x hx hsx => ?_, h2, h3, h4⟩
 obtain ⟨b, e1, e2, _⟩ := evOk_touch he hx
 obtain ⟨b', e1', hb'⟩ := hsx
 rw [e1] at e1'
 cases e1'
 exact absurd e2 (hs b hb')
theorem ok_norel {ft : Foot} {es : Array Event} (he : ∀ e ∈ es, EvOk ft e) {g : Nat} {fn : FuncId} {pos : String} (a : Addr) : ∀ op ∈ MemOp.ofEvents g fn pos es, op.act ≠ .mark (.release a) := by
 intro op hop e
 obtain ⟨x, hx, rfl⟩ := Go.Conc.mem_ofEvents hop
 have := he x hx
 obtain ⟨loc, wr, sy⟩ := x
 cases loc with
 | cell y => cases e
 | obj y =>
  obtain ⟨rfl, _⟩ := this
  cases wr <;> cases e
 | mark m => cases m <;> first | exact this.elim | cases e
 | output => exact this.elim
 | goroutines => exact this.elim
theorem bk_norel {Wg : Nat} {es : Array Event} (he : ∀ e ∈ es, Bk Wg e) {g : Nat} {fn : FuncId} {pos : String} (a : Addr) : ∀ op ∈ MemOp.ofEvents g fn pos es, op.act ≠ .mark (.release a) := by
 intro op hop e
 obtain ⟨x, hx, rfl⟩ := Go.Conc.mem_ofEvents hop
 rcases he x hx with h1 | h1 | ⟨y, wr, rfl, _⟩
 ·simp only [Go.ConcR.ofEvent_loc_mark h1] at e
  cases e
 ·simp only [Go.ConcR.ofEvent_loc_mark h1] at e
  cases e
 ·cases e
theorem mute_norel {es : Array Event} (he : ∀ e ∈ es, Event.mute e = true) {g : Nat} {fn : FuncId} {pos : String} (a : Addr) : ∀ op ∈ MemOp.ofEvents g fn pos es, op.act ≠ .mark (.release a) :=
 bk_norel (Wg := 0) (fun e h => Go.ConcR.bk_of_mute (he e h)) a
theorem norel_fresh {t : Trace} {B : Nat} (hs : ∀ op ∈ t, op.act.low B) {a : Addr} (ha : B ≤ a.block) : NoRelease a t := by
 intro i e
 obtain ⟨op, ho, hoa⟩ := Option.map_eq_some_iff.1 e
 have := hs op (Array.mem_of_getElem? ho)
 rw [hoa] at this
 have : a.block < B := this
 omega
section
variable {S : Nat → Prop} {ft : Foot} {B B' : Nat} {t : Trace}
theorem PastS.own (h : PastS S ft B t) {fn : FuncId} {pos : String} {es : Array Event} (hes : ∀ e ∈ es, EvOk ft e) (hb : ∀ b, ft.rd b → b < B) (hB : B ≤ B') : PastS S (ft.ext B B') B' (t ++ MemOp.ofEvents 0 fn pos es) where
 past := (h.past.mono hB).own fun e he => evS_of (hes e he) (fun b hb => (h.shun b hb).1) fun b hr => Nat.lt_of_lt_of_le (hb b hr) hB
 shun := fun b hS => ⟨fun hr => hr.elim (h.shun b hS).1 fun e => by have := (h.shun b hS).2; omega, Nat.lt_of_lt_of_le (h.shun b hS).2 hB⟩
 norel := fun a ha => by
  refine NoRelease.app ?_ (ok_norel hes a)
  rcases ha with ha | ha
  ·exact h.norel a ha
  ·exact norel_fresh h.past.seen ha.1
theorem PastS.mute (h : PastS S ft B t) {g : Nat} (hg : g ≠ 0) {fn : FuncId} {pos : String} {es : Array Event} (hm : ∀ e ∈ es, Event.mute e = true) : PastS S ft B (t ++ MemOp.ofEvents g fn pos es) :=
 ⟨h.past.mute hg hm, h.shun, fun a ha => (h.norel a ha).app (mute_norel hm a)⟩
end
def J2 (P : Program) (W0 : World) (Post : Value → World → Prop) (g : Goroutine) (w : World) (ft : Foot) : Prop :=
 ∀ (gs : Array Goroutine) (w₁ : World) (sl : Option (Nat × Nat)) (t : Trace) (q : Nat → Nat) (S : Nat → Prop), (∀ b, ft.rd b → b < w₁.heap.size) → (∀ b, ft.wr b → ft.rd b) → RelyW ft w w₁ → Base W0 w₁ → gs[0]? = some g → Leavers P t gs q → PastS S ft w₁.heap.size t →
  Ends P Post (crowd gs w₁ sl) t
section
variable {P : Program} {W0 : World} {Post : Value → World → Prop} {g : Goroutine} {w w₁ : World} {ft : Foot}
theorem J2.both (hrun : g.status = .running)
  (h : ∀ w₁, RelyW ft w w₁ → Base W0 w₁ → (∃ g' w' es, stepG P true g w₁ = .go g' w' es ∧ g'.status = .running ∧ GuarW ft w₁ w' es ∧ J2 P W0 Post g' w' (ft.ext w₁.heap.size w'.heap.size)) ∨
   ∃ v es, stepG P true g w₁ = .ended (.done v) w₁ es ∧ (∀ e ∈ es, EvOk ft e) ∧ Post v w₁) : J2 P W0 Post g w ft := by
 intro gs w₁ sl t q S hbd hsub hrel hbase h0 hL hP
 generalize hM : sumTo gs.size q = M
 induction M using Nat.strongRecOn generalizing gs w₁ sl t q with
 | ind M ih =>
  have haw : ∀ g ∈ gs, awake g := by
   intro x hx
   obtain ⟨i, hi, rfl⟩ := Array.mem_iff_getElem.1 hx
   rcases Nat.eq_zero_or_pos i with rfl | hpos
   ·have : gs[0] = g := by simpa [Array.getElem?_eq_getElem hi] using h0
    rw [this]; exact awake_of (.inl hrun)
   ·exact awake_of ((hL.old i _ hpos (Array.getElem?_eq_getElem hi)).status.elim .inl fun x => .inr (.inr x))
  obtain ⟨i, x, d, sl', hi, hg, hst⟩ := crowd_pick (P := P) (w := w₁) (sl := sl) haw ⟨0, g, h0, hrun⟩
  rcases Nat.eq_zero_or_pos i with rfl | hpos
  ·obtain rfl : x = g := by rw [h0] at hi; exact (Option.some.inj hi).symm
   rcases h (w₁.at d) (hrel.trans (relyW_at ft w₁ d)) ⟨hbase.tape, hbase.os, hbase.output, hbase.size⟩ with ⟨g', w', es, hgo, hrun', hgu, hJ⟩ | ⟨v, es, hend, hes, hpost⟩
   ·have hrunT := runT_crowd_go (P := P) (sl := sl') (i := 0) hi (show stepG P (0 == 0) x (w₁.at d) = _ from hgo)
    have hsz : ((gs.map (woken P x g' w')).setIfInBounds 0 g').size = gs.size := by simp
    have hlt : 0 < gs.size := (Array.getElem?_eq_some_iff.1 h0).1
    have hw' : w₁.heap.size ≤ w'.heap.size := hgu.size
    refine Ends.next (hst.trans hrunT) ?_
    refine hJ _ w' sl' _ q S (fun b hb => ?_) (fun b hb => ?_) (RelyW.refl _ _) ⟨hgu.tape.trans hbase.tape, hgu.os.trans hbase.os, hgu.output.trans hbase.output, Nat.le_trans hbase.size hgu.size⟩ (by simp [hlt]) ⟨fun j y hj hy => ?_, fun j hj => ?_⟩ ?_
    ·rcases hb with hb | hb
     ·exact Nat.lt_of_lt_of_le (hbd b hb) hw'
     ·exact hb.2
    ·rcases hb with hb | hb
     ·exact .inl (hsub b hb)
     ·exact .inr hb
    ·have hne : 0 ≠ j := by omega
     rw [Array.getElem?_setIfInBounds_ne hne, Array.getElem?_map] at hy
     obtain ⟨z, hz, rfl⟩ := Option.map_eq_some_iff.1 hy
     have hq := hL.old j z hj hz
     rw [woken_quitsD hq, Deaf_other t (by omega) _ (fun op hop => mem_g hop)]
     exact hq
    ·rw [Deaf_other t (g' := 0) (by simp at hj; omega) _ (fun op hop => mem_g hop)]
     exact hL.above j (by simpa using hj)
    ·exact hP.own hgu.evs hbd hw'
   ·have hrunT := runT_many_ended (P := P) (sl := sl') (i := 0) hi (show stepG P (0 == 0) x (w₁.at d) = _ from hend)
    have hP' := (hP.own (fn := x.frame.fn) (pos := x.frame.place) hes hbd (Nat.le_refl _)).past
    refine ⟨0, crowd gs w₁ sl, .done v, w₁.at d, _, by simp only [runNT, hst.trans hrunT], rfl, by simp [step, hst.trans hrunT], v, rfl, hpost, hP'.clean, hP'.over, ⟨fun y hy => ?_, rfl⟩, fun j y hy hj => ?_⟩
    ·obtain ⟨j, hj⟩ := List.mem_iff_getElem?.1 hy
     rw [List.getElem?_drop] at hj
     exact ⟨_, (hL.old (1 + j) y (by omega) (by simpa [crowd] using hj)).leaves⟩
    ·have hq := hL.old j y (by omega) hy
     refine ⟨q j, ?_⟩
     have e : (t ++ MemOp.ofEvents 0 x.frame.fn x.frame.place es).deaf j (t ++ MemOp.ofEvents 0 x.frame.fn x.frame.place es).size = Deaf t j :=
      Deaf_other t (g := j) (g' := 0) (by omega) _ (fun op hop => mem_g hop)
     rw [e]
     exact hq.hears _
  ·have hq := hL.old i x hpos hi
   have hi0 : (i == 0) = false := by simp; omega
   have hlt : i < gs.size := (Array.getElem?_eq_some_iff.1 hi).1
   cases hqi : q i with
   | zero => rw [hqi] at hq; rw [hq.1] at hg; cases hg
   | succ k =>
    rw [hqi] at hq
    rcases hq with ⟨hf, _⟩ | ⟨_, g', es, hm, hstp, hq'⟩
    ·rw [hf] at hg; cases hg
    have hrunT := runT_crowd_go (P := P) (sl := sl') (i := i) hi (by rw [hi0]; exact hstp (w₁.at d))
    have hsz : ((gs.map (woken P x g' (w₁.at d))).setIfInBounds i g').size = gs.size := by simp
    have hsum : sumTo gs.size (upd q i k) + (k + 1) = sumTo gs.size q + k := by
     have := sumTo_upd q k id hlt
     simpa [hqi] using this
    refine Ends.next (hst.trans hrunT) (ih (sumTo gs.size (upd q i k)) (by omega) _ (w₁.at d) sl' _ (upd q i k) hbd (hrel.trans (relyW_at ft w₁ d)) ⟨hbase.tape, hbase.os, hbase.output, hbase.size⟩ ?_ ⟨fun j y hj hy => ?_, fun j hj => ?_⟩ (hP.mute (by omega) hm) (by rw [hsz]))
    ·have hne : i ≠ 0 := by omega
     rw [Array.getElem?_setIfInBounds_ne hne, Array.getElem?_map, h0]
     simp [woken_run hrun]
    ·by_cases hji : i = j
     ·subst hji
      rw [Array.getElem?_setIfInBounds_self_of_lt (by simpa using hlt)] at hy
      obtain rfl := Option.some.inj hy
      rw [upd_same, Deaf_own]
      exact hq'
     ·rw [Array.getElem?_setIfInBounds_ne hji, Array.getElem?_map] at hy
      obtain ⟨z, hz, rfl⟩ := Option.map_eq_some_iff.1 hy
      have hqj := hL.old j z hj hz
      rw [woken_quitsD hqj, upd_ne q k (Ne.symm hji), Deaf_other t hji _ (fun op hop => mem_g hop)]
      exact hqj
    ·rw [Deaf_other t (g' := i) (by simp at hj; omega) _ (fun op hop => mem_g hop)]
     exact hL.above j (by simpa using hj)
theorem J2.closed (P : Program) (W0 : World) (Post : Value → World → Prop) : Closed P true (J2 P W0 Post) where
 rely := fun h hr gs w₂ sl t q S hbd hsub hrel hbase h0 hL hP => h gs w₂ sl t q S hbd hsub (hr.trans hrel) hbase h0 hL hP
 step := fun hrun h => J2.both hrun fun w₁ h₁ _ => by
  obtain ⟨g', w', es, a, b, c, d⟩ := h w₁ h₁
  exact .inl ⟨g', w', es, a, b, c, d⟩
theorem run_of_J2 {g : Goroutine} {w : World} {ft : Foot} (h : J2 P W0 Post g w ft) (hb : ∀ b, ft.rd b → b < w.heap.size) (hs : ∀ b, ft.wr b → ft.rd b) (hw : W0 = w) : Ends P Post (solo g w) #[] := by
 rw [solo_eq_crowd]
 have hp := past_nil
 refine h #[g] w none #[] (fun _ => 0) (fun _ => False) hb hs (RelyW.refl _ _) (by subst hw; exact ⟨rfl, rfl, rfl, Nat.le_refl _⟩) rfl (leavers_one P g) ⟨⟨hp.clean, fun i a ha hm => ?_, hp.over, hp.hears, fun op hop => by simp at hop⟩, fun b hb => hb.elim, fun a _ i e => by simp [Trace.act?] at e⟩
 exact absurd ha (by simp [touchAt, Trace.act?])
end
end Go.Proofs.Ythnccaajpdnndaa
namespace Go.Proofs.Ythnccaajpdnndaa
open Go.Conc
inductive Plan where
 | fin
 | take (i : Nat) (p : Plan)
 | last (i : Nat) (s : Bool) (p : Plan)
 | alt (i : Nat) (s : Bool) (p q : Plan)
def planOk (P : Program) (ops : Array Oper) : Plan → Nat → Array Bool → Option (List Nat) → Bool
 | .fin, n, L, r => r.isNone && (Region.ready .any ops L).isEmpty && (Nat.beq n 0 || (pickN P ops L).isNone)
 | .take i p, n, L, r => r.isNone && (match n with | 0 => false | n + 1 => (match pickN P ops L with | some k => Nat.beq k i | none => false) && planOk P ops p n (L.setIfInBounds i true) none)
 | .last i s p, n, L, r => match n with
  | 0 => false
  | m + 1 => match r with
   | none => (pickN P ops L).isNone && (match Region.ready .any ops L with | [k] => Nat.beq k i | _ => false) && (match ops[i]? with | some o => sNeed P ops i o == s | none => true) && planOk P ops p m (L.setIfInBounds i true) none
   | some r => (match r with | [k] => Nat.beq k i | _ => false) && (match ops[i]? with | some o => sNeed P ops i o == s | none => true) && planOk P ops p m (L.setIfInBounds i true) none
 | .alt i s p q, n, L, r => match n with
  | 0 => false
  | m + 1 => match r with
   | none => (pickN P ops L).isNone && (match Region.ready .any ops L with | k :: j :: l => Nat.beq k i && planOk P ops q (m + 1) L (some (j :: l)) | _ => false) && (match ops[i]? with | some o => sNeed P ops i o == s | none => true) && planOk P ops p m (L.setIfInBounds i true) none
   | some r => (match r with | k :: j :: l => Nat.beq k i && planOk P ops q (m + 1) L (some (j :: l)) | _ => false) && (match ops[i]? with | some o => sNeed P ops i o == s | none => true) && planOk P ops p m (L.setIfInBounds i true) none
def oneP (P : Program) (C : CT) (N : Nat) (ops : Array Oper) (B : Option (List Nat)) (h0 : List AObj) (i : Nat) (s sok : Bool) (dec : Dec) (f : RG) (h : List AObj) (W : Bool → Dec → RG → List AObj → Prop) : Prop :=
 match ops[i]? with
 | some o => bif dstOk N o then goG ops dec o f fun w dec f =>
   bif w then opW P C o f.r h fun v h' =>
    bif s then SameB B h0 h' ∧ W true (forget ops o.dst dec) (f.putO o.dst v) h'
    else W false (forget ops o.dst dec) (f.putO o.dst v) h'
   else bif s && !sok then False else W sok (skipD ops i o.dst dec) (f.putO o.dst undef) h
  else False
 | none => False
def planW (P : Program) (C : CT) (N : Nat) (ops : Array Oper) (B : Option (List Nat)) (h0 : List AObj) : Plan → Bool → Dec → RG → List AObj → (RG → List AObj → Prop) → Prop
 | .fin, _, _, f, h, K => K f h
 | .take i p, sok, dec, f, h, K => match ops[i]? with
  | some o => bif dstOk N o && (!isRead o.op || sok) then goG ops dec o f fun w dec f =>
    bif w then opW P C o f.r h fun v _ =>
     bif isRead o.op && B.isSome then RdOk B (readOf o.op f.r) ∧ planW P C N ops B h0 p sok (forget ops o.dst dec) (f.putO o.dst v) h K
     else planW P C N ops B h0 p sok (forget ops o.dst dec) (f.putO o.dst v) h K
    else planW P C N ops B h0 p sok (skipD ops i o.dst dec) (f.putO o.dst undef) h K
   else False
  | none => False
 | .last i s p, sok, dec, f, h, K => oneP P C N ops B h0 i s sok dec f h fun sok dec f h => planW P C N ops B h0 p sok dec f h K
 | .alt i s p q, sok, dec, f, h, K => (oneP P C N ops B h0 i s sok dec f h fun sok dec f h => planW P C N ops B h0 p sok dec f h K) ∧ planW P C N ops B h0 q sok dec f h K
section
variable {P : Program} {C : CT} {N : Nat} {ops : Array Oper} {B : Option (List Nat)} {h0 : List AObj} {K : RG → List AObj → Prop}
def oneA (P : Program) (C : CT) (N : Nat) (ops : Array Oper) (B : Option (List Nat)) (h0 : List AObj) (n : Nat) (L : Array Bool) (sok : Bool) (dec : Dec) (f : RG) (h : List AObj) (K : RG → List AObj → Prop) (i : Nat) : Prop :=
 match ops[i]? with
 | some o => bif dstOk N o then goG ops dec o f fun w dec f =>
   bif w then opW P C o f.r h fun v h' =>
    bif sNeed P ops i o then SameB B h0 h' ∧ anyW P C N ops B h0 n (L.setIfInBounds i true) true (forget ops o.dst dec) (f.putO o.dst v) h' K
    else anyW P C N ops B h0 n (L.setIfInBounds i true) false (forget ops o.dst dec) (f.putO o.dst v) h' K
   else bif sNeed P ops i o && !sok then False else anyW P C N ops B h0 n (L.setIfInBounds i true) sok (skipD ops i o.dst dec) (f.putO o.dst undef) h K
  else False
 | none => False
theorem oneP_eq {n : Nat} {L : Array Bool} {i : Nat} {s sok : Bool} {dec : Dec} {f : RG} {h : List AObj} {W : Bool → Dec → RG → List AObj → Prop} (hs : (match ops[i]? with | some o => sNeed P ops i o == s | none => true) = true)
  (hW : ∀ sok dec f h, W sok dec f h = anyW P C N ops B h0 n (L.setIfInBounds i true) sok dec f h K) : oneP P C N ops B h0 i s sok dec f h W = oneA P C N ops B h0 n L sok dec f h K i := by
 unfold oneP oneA
 cases ho : ops[i]? with
 | none => rfl
 | some o =>
  rw [ho] at hs
  have hs' : sNeed P ops i o = s := by simpa using hs
  subst hs'
  simp only [hW]
def planT (P : Program) (C : CT) (N : Nat) (ops : Array Oper) (B : Option (List Nat)) (h0 : List AObj) (K : RG → List AObj → Prop) (n : Nat) (L : Array Bool) (sok : Bool) (dec : Dec) (f : RG) (h : List AObj) (r : Option (List Nat)) : Prop :=
 match r with
 | none => anyW P C N ops B h0 n L sok dec f h K
 | some r => match n with
  | 0 => False
  | m + 1 => allOf r (oneA P C N ops B h0 m L sok dec f h K)
theorem anyW_all {n : Nat} {L : Array Bool} {sok : Bool} {dec : Dec} {f : RG} {h : List AObj} (hp : (pickN P ops L).isNone = true) (hr : (Region.ready .any ops L).isEmpty = false) :
  anyW P C N ops B h0 (n + 1) L sok dec f h K = allOf (Region.ready .any ops L) (oneA P C N ops B h0 n L sok dec f h K) := by
 conv => lhs; unfold anyW
 cases hq : pickN P ops L with
 | some k => rw [hq] at hp; cases hp
 | none =>
  simp only [hr, cond_false]
  rfl
theorem planW_eq : ∀ (p : Plan) (n : Nat) (L : Array Bool) (r : Option (List Nat)) (sok : Bool) (dec : Dec) (f : RG) (h : List AObj), planOk P ops p n L r = true →
  planW P C N ops B h0 p sok dec f h K = planT P C N ops B h0 K n L sok dec f h r
 | .fin, n, L, r, sok, dec, f, h, hk => by
  unfold planOk at hk
  simp only [Bool.and_eq_true, Option.isNone_iff_eq_none] at hk
  obtain ⟨⟨rfl, he⟩, hn⟩ := hk
  simp only [planW, planT]
  cases n with
  | zero => simp only [anyW, he, cond_true]
  | succ n =>
   have hp : pickN P ops L = none := by simpa using hn
   conv => rhs; unfold anyW
   simp only [hp, he, cond_true]
 | .take i p, n, L, r, sok, dec, f, h, hk => by
  unfold planOk at hk
  simp only [Bool.and_eq_true, Option.isNone_iff_eq_none] at hk
  obtain ⟨rfl, hk⟩ := hk
  cases n with
  | zero => cases hk
  | succ n =>
   simp only [Bool.and_eq_true] at hk
   obtain ⟨h1, h2⟩ := hk
   cases hp : pickN P ops L with
   | none => rw [hp] at h1; cases h1
   | some k =>
    rw [hp] at h1
    have : k = i := Nat.eq_of_beq_eq_true h1
    subst this
    have ih := fun sok dec f h => planW_eq p n (L.setIfInBounds k true) none sok dec f h h2
    simp only [planT] at ih ⊢
    conv => rhs; unfold anyW
    simp only [planW, ih, hp] <;> rfl
 | .last i s p, n, L, r, sok, dec, f, h, hk => by
  unfold planOk at hk
  cases n with
  | zero => cases hk
  | succ n =>
   cases r with
   | none =>
    simp only [Bool.and_eq_true] at hk
    obtain ⟨⟨⟨h1, h2⟩, h3⟩, h4⟩ := hk
    have ih := fun sok dec f h => planW_eq p n (L.setIfInBounds i true) none sok dec f h h4
    split at h2
    ·rename_i k hr
     have : k = i := Nat.eq_of_beq_eq_true h2
     subst this
     simp only [planT] at ih ⊢
     rw [anyW_all h1 (by rw [hr]; rfl), hr]
     simp only [planW, allOf]
     exact oneP_eq h3 ih
    ·cases h2
   | some r =>
    simp only [Bool.and_eq_true] at hk
    obtain ⟨⟨h2, h3⟩, h4⟩ := hk
    have ih := fun sok dec f h => planW_eq p n (L.setIfInBounds i true) none sok dec f h h4
    split at h2
    ·rename_i k
     have : k = i := Nat.eq_of_beq_eq_true h2
     subst this
     simp only [planT] at ih ⊢
     simp only [planW, allOf]
     exact oneP_eq h3 ih
    ·cases h2
 | .alt i s p q, n, L, r, sok, dec, f, h, hk => by
  unfold planOk at hk
  cases n with
  | zero => cases hk
  | succ n =>
   cases r with
   | none =>
    simp only [Bool.and_eq_true] at hk
    obtain ⟨⟨⟨h1, h2⟩, h3⟩, h4⟩ := hk
    have ih := fun sok dec f h => planW_eq p n (L.setIfInBounds i true) none sok dec f h h4
    split at h2
    ·rename_i k j l hr
     simp only [Bool.and_eq_true] at h2
     have : k = i := Nat.eq_of_beq_eq_true h2.1
     subst this
     have ih2 := planW_eq q (n + 1) L (some (j :: l)) sok dec f h h2.2
     simp only [planT] at ih ih2 ⊢
     rw [anyW_all h1 (by rw [hr]; rfl), hr]
     simp only [planW, allOf]
     rw [oneP_eq h3 ih, ih2]
    ·cases h2
   | some r =>
    simp only [Bool.and_eq_true] at hk
    obtain ⟨⟨h2, h3⟩, h4⟩ := hk
    have ih := fun sok dec f h => planW_eq p n (L.setIfInBounds i true) none sok dec f h h4
    split at h2
    ·rename_i k j l
     simp only [Bool.and_eq_true] at h2
     have : k = i := Nat.eq_of_beq_eq_true h2.1
     subst this
     have ih2 := planW_eq q (n + 1) L (some (j :: l)) sok dec f h h2.2
     simp only [planT] at ih ih2 ⊢
     simp only [planW, allOf]
     rw [oneP_eq h3 ih, ih2]
    ·cases h2
end
abbrev Plans := List (Nat × Bool × Plan)
def findP (id : Nat) : Plans → Option (Bool × Plan)
 | [] => none
 | (k, x) :: l => bif Nat.beq k id then some x else findP id l
def drawP (P : Program) (C : CT) (N : Nat) (ops : Array Oper) (s : Bool) (p : Plan) (f : RG) (h : List AObj) (K : RG → List AObj → Prop) : Prop :=
 bif s then planW P C N ops none h p true [] f h K
 else ∃ B, planW P C N ops (some B) h p true [] f h K
def plansOk (P : Program) (pl : Plans) : Code → Bool
 | .seq a b => plansOk P pl a && plansOk P pl b
 | .cond _ a b => plansOk P pl a && plansOk P pl b
 | .block _ a => plansOk P pl a
 | .scope a => plansOk P pl a
 | .loop a => plansOk P pl a
 | .rangeFunc _ _ a b => plansOk P pl a && plansOk P pl b
 | .region id ops draw => !draw || (match findP id pl with
  | some (s, p) => (still P ops == s) && planOk P ops p ops.size (Array.replicate ops.size false) none
  | none => true)
 | _ => true
inductive Cuts where
 | go
 | cut (x : Cuts)
 | un (a : Cuts)
 | bin (a b : Cuts)
def Cuts.l : Cuts → Cuts
 | .bin a _ => a
 | .un a => a
 | _ => .go
def Cuts.r : Cuts → Cuts
 | .bin _ b => b
 | _ => .go
def Cuts.into : Cuts → Cuts
 | .cut x => x
 | c => c
inductive Hold (p : Prop) : Prop where
 | mk : p → Hold p
theorem hold {p : Prop} : Hold p ↔ p := ⟨fun h => by cases h with | mk h => exact h, .mk⟩
theorem hold_eq {p : Prop} : Hold p = p := propext hold
def WX (pl : Plans) (P : Program) (J : JT) (N n0 : Nat) (fn : FuncId) : Cuts → Code → RG → List AObj → QT → Prop
 | _, .skip, f, h, Q => Q .normal f h
 | _, .label _, f, h, Q => Q .normal f h
 | _, .ret, f, h, Q => Q .ret f h
 | _, .exit id, f, h, Q => Q (.exit id) f h
 | ct, .seq a b, f, h, Q => WX pl P J N n0 fn ct.l a f h (thenK (fun f h => match ct.r with
  | .cut _ => Hold (W P J N n0 fn b f h Q)
  | x => WX pl P J N n0 fn x b f h Q) Q)
 | ct, .cond c a b, f, h, Q => cnd (ev f.r c) (WX pl P J N n0 fn ct.l a f h Q) (WX pl P J N n0 fn ct.r b f h Q)
 | ct, .block id a, f, h, Q => WX pl P J N n0 fn ct.l a f h (blockK id Q)
 | ct, .scope a, f, h, Q => WX pl P J N n0 fn ct.l a f h Q
 | _, .region id ops draw, f, h, Q => bif draw then (match findP id pl with
  | some (s, p) => drawP P (Good P J) N ops s p f h (fun f h => Q .normal f h)
  | none => drawW P (Good P J) N ops f h (fun f h => Q .normal f h)) else opsW P (Good P J) N ops (List.range ops.size) [] f h (fun f h => Q .normal f h)
 | _, c, f, h, Q => Sem J N n0 fn c f h Q
def contX (pl : Plans) (P : Program) (J : JT) (N n0 : Nat) (fn : FuncId) : Cuts → List Nat → Code → List (RG → List AObj → Prop) → QT → QT
 | ct, 0 :: p, .seq a b, nx, Q => contX pl P J N n0 fn ct.l p a nx (thenK (fun f h => match ct.r with
  | .cut _ => Hold (W P J N n0 fn b f h Q)
  | x => WX pl P J N n0 fn x b f h Q) Q)
 | ct, _ :: p, .seq _ b, nx, Q => contX pl P J N n0 fn ct.r.into p b nx Q
 | ct, 0 :: p, .cond _ a _, nx, Q => contX pl P J N n0 fn ct.l p a nx Q
 | ct, _ :: p, .cond _ _ b, nx, Q => contX pl P J N n0 fn ct.r p b nx Q
 | ct, _ :: p, .block id a, nx, Q => contX pl P J N n0 fn ct.l p a nx (blockK id Q)
 | ct, _ :: p, .scope a, nx, Q => contX pl P J N n0 fn ct.l p a nx Q
 | ct, _ :: p, .loop a, n :: nx, Q => contX pl P J N n0 fn ct.l p a nx (thenK n Q)
 | _, _, _, _, Q => Q
def subT : Cuts → List Nat → Code → Cuts
 | ct, 0 :: p, .seq a _ => subT ct.l p a
 | ct, _ :: p, .seq _ b => subT ct.r.into p b
 | ct, 0 :: p, .cond _ a _ => subT ct.l p a
 | ct, _ :: p, .cond _ _ b => subT ct.r p b
 | ct, _ :: p, .block _ a => subT ct.l p a
 | ct, _ :: p, .scope a => subT ct.l p a
 | ct, _ :: p, .loop a => subT ct.l p a
 | ct, 0 :: p, .rangeFunc _ _ a _ => subT ct.l p a
 | ct, _ :: p, .rangeFunc _ _ _ b => subT ct.r p b
 | ct, _, _ => ct
section
variable {pl : Plans} {P : Program} {J : JT} {N n0 : Nat} {fn : FuncId}
theorem drawP_eq {C : CT} {ops : Array Oper} {s : Bool} {p : Plan} {f : RG} {h : List AObj} {K : RG → List AObj → Prop} (hs : (still P ops == s) = true) (hp : planOk P ops p ops.size (Array.replicate ops.size false) none = true) :
  drawW P C N ops f h K = drawP P C N ops s p f h K := by
 have hs' : still P ops = s := by simpa using hs
 subst hs'
 unfold drawW drawP
 have e := fun B => planW_eq (P := P) (C := C) (N := N) (ops := ops) (B := B) (h0 := h) (K := K) p ops.size (Array.replicate ops.size false) none true [] f h hp
 simp only [planT] at e
 simp only [e]
theorem WX_eq : ∀ (c : Code), plansOk P pl c = true → ∀ (ct : Cuts) (f : RG) (h : List AObj) (Q : QT), W P J N n0 fn c f h Q = WX pl P J N n0 fn ct c f h Q
 | .skip, _, _, _, _, _ => rfl
 | .label _, _, _, _, _, _ => rfl
 | .ret, _, _, _, _, _ => rfl
 | .exit _, _, _, _, _, _ => rfl
 | .seq a b, hk, ct, f, h, Q => by
  simp only [plansOk, Bool.and_eq_true] at hk
  simp only [W, WX]
  rw [WX_eq a hk.1 ct.l]
  congr 2
  funext f h
  split
  ·rw [hold_eq]
  ·exact WX_eq b hk.2 _ f h Q
 | .cond c a b, hk, ct, f, h, Q => by
  simp only [plansOk, Bool.and_eq_true] at hk
  simp only [W, WX]
  rw [WX_eq a hk.1 ct.l, WX_eq b hk.2 ct.r]
 | .block id a, hk, ct, f, h, Q => by
  simp only [plansOk] at hk
  simp only [W, WX]
  rw [WX_eq a hk ct.l]
 | .scope a, hk, ct, f, h, Q => by
  simp only [plansOk] at hk
  simp only [W, WX]
  rw [WX_eq a hk ct.l]
 | .region id ops draw, hk, ct, f, h, Q => by
  cases draw with
  | false => rfl
  | true =>
   simp only [plansOk, Bool.not_true, Bool.false_or] at hk
   simp only [W, WX, cond_true]
   cases hf : findP id pl with
   | none => rfl
   | some x =>
    obtain ⟨s, p⟩ := x
    rw [hf] at hk
    simp only [Bool.and_eq_true] at hk
    exact drawP_eq hk.1 hk.2
 | .loop _, _, _, _, _, _ => rfl
 | .rangeFunc .., _, _, _, _, _ => rfl
 | .goto _, _, _, _, _, _ => rfl
 | .refuse _, _, _, _, _, _ => rfl
theorem plansOk_sub : ∀ (p : List Nat) (c : Code), plansOk P pl c = true → plansOk P pl (subC p c) = true := by
 intro p
 induction p with
 | nil => intro c hk; cases c <;> exact hk
 | cons i p ih =>
  intro c hk
  cases c with
  | seq a b =>
   simp only [plansOk, Bool.and_eq_true] at hk
   cases i with
   | zero => exact ih a hk.1
   | succ i => exact ih b hk.2
  | cond c a b =>
   simp only [plansOk, Bool.and_eq_true] at hk
   cases i with
   | zero => exact ih a hk.1
   | succ i => exact ih b hk.2
  | block id a => cases i <;> exact ih a hk
  | scope a => cases i <;> exact ih a hk
  | loop a => cases i <;> exact ih a hk
  | rangeFunc x y a b =>
   simp only [plansOk, Bool.and_eq_true] at hk
   cases i with
   | zero => exact ih a hk.1
   | succ i => exact ih b hk.2
  | _ => cases i <;> exact hk
def opsAt (p : List Nat) (c : Code) : Array Oper :=
 match subC p c with
 | .region _ ops _ => ops
 | _ => #[]
def opGet (ops : Array Oper) (i : Nat) : Oper := ops.getD i default
def trunc : Nat → Code → Code
 | 0, _ => .skip
 | n + 1, .seq a b => .seq a (trunc n b)
 | _, c => c
def spineOk : Nat → Code → Bool
 | 0, _ => true
 | n + 1, .seq _ b => spineOk n b
 | _, _ => false
theorem trunc_sound {main : Bool} (hJ : Closed P main J) (hm : P.follows .mixedOrders = true) {Q : QT} : ∀ (n : Nat) (c : Code) {f : RG} {h : List AObj}, spineOk n c = true →
  W P J N n0 fn (trunc n c) f h (thenK (fun f h => Sem J N n0 fn (subC (List.replicate n 1) c) f h Q) Q) → Sem J N n0 fn c f h Q
 | 0, c, f, h, _, hw => by
  have : subC (List.replicate 0 1) c = c := by cases c <;> rfl
  rw [this] at hw
  exact hw
 | n + 1, .seq a b, f, h, hs, hw => by
  simp only [trunc, W] at hw
  refine Sem_seq hJ ((W_sound hJ hm a hw).mono fun e f h q => ?_)
  cases e with
  | normal => exact trunc_sound hJ hm n b hs q
  | _ => exact q
 | n + 1, .skip, _, _, hs, _ | n + 1, .label _, _, _, hs, _ | n + 1, .ret, _, _, hs, _ | n + 1, .exit _, _, _, hs, _ | n + 1, .cond .., _, _, hs, _ | n + 1, .block .., _, _, hs, _ | n + 1, .scope _, _, _, hs, _ | n + 1, .region .., _, _, hs, _ | n + 1, .loop _, _, _, hs, _ | n + 1, .rangeFunc .., _, _, hs, _ | n + 1, .goto _, _, _, hs, _ | n + 1, .refuse _, _, _, hs, _ => by cases hs
theorem top_eq {c : Code} (hk : plansOk P pl c = true) (ct : Cuts) {f : RG} {h : List AObj} {Q : QT} {R : Prop} (e : WX pl P J N n0 fn ct c f h Q = R) : W P J N n0 fn c f h Q = R := by
 rw [WX_eq _ hk ct]
 exact e
theorem sub_eq {c : Code} (hk : plansOk P pl c = true) (ct : Cuts) {p : List Nat} {f : RG} {h : List AObj} {Q : QT} {R : Prop} (e : WX pl P J N n0 fn (subT ct p c) (subC p c) f h Q = R) : W P J N n0 fn (subC p c) f h Q = R := by
 rw [WX_eq _ (plansOk_sub p c hk) (subT ct p c)]
 exact e
end
theorem count_set : ∀ (l : List Bool) (i : Nat), l[i]? = some false → (l.set i true).count false + 1 = l.count false
 | [], i, h => by simp at h
 | b :: l, 0, h => by
  have : b = false := by simpa using h
  subst this
  simp
 | b :: l, i + 1, h => by
  have h' : l[i]? = some false := by simpa using h
  have ih := count_set l i h'
  rw [List.set_cons_succ, List.count_cons, List.count_cons]
  omega
section
variable {P : Program} {main : Bool} {J : JT} {N n0 : Nat} {fn : FuncId} {ops : Array Oper} {f : RG} {h : List AObj} {Q : QT}
theorem AnyH_inv {C : FuncId → List Value → List AObj → (Value → List AObj → Prop) → Prop} {I : Array Bool → RG → List AObj → Prop} {K : RG → List AObj → Prop}
  (step : ∀ L f h i o, I L f h → i ∈ Region.ready .any ops L → ops[i]? = some o → (∀ t, o.dst = some t → t < N) ∧ opM P C ops o f.r h fun v h' => I (L.setIfInBounds i true) (f.putO o.dst v) h')
  (last : ∀ L f h, I L f h → Region.ready .any ops L = [] → K f h) : ∀ (n : Nat) (L : Array Bool) (f : RG) (h : List AObj), L.size = ops.size → L.toList.count false ≤ n → I L f h → AnyH P C N ops (fun _ => True) n L f h K
 | 0, L, f, h, hs, hn, hi => by
  have hr : Region.ready .any ops L = [] := by
   cases e : Region.ready .any ops L with
   | nil => rfl
   | cons i l =>
    have hm : i ∈ Region.ready .any ops L := by rw [e]; exact List.mem_cons_self
    rw [mem_ready] at hm
    obtain ⟨h1, o, ho, _⟩ := hm
    have hlt : i < L.size := by rw [hs]; exact (Array.getElem?_eq_some_iff.1 ho).1
    have h2 : L.toList[i]? = some false := by
     rw [Array.getElem?_toList, Array.getElem?_eq_getElem hlt]
     rw [Array.getD_eq_getD_getElem?, Array.getElem?_eq_getElem hlt] at h1
     exact congrArg some h1
    have := count_set _ _ h2
    omega
  exact ⟨hr, last L f h hi hr⟩
 | n + 1, L, f, h, hs, hn, hi => by
  refine ⟨last L f h hi, fun i hm o ho => ?_⟩
  obtain ⟨h1, K', h2, h3⟩ := step L f h i o hi hm ho
  refine ⟨h1, K', h2, fun v h' k => ⟨fun _ => trivial, AnyH_inv step last n _ _ _ (by simpa using hs) ?_ (h3 v h' k)⟩⟩
  rw [mem_ready] at hm
  obtain ⟨q1, o', ho', _⟩ := hm
  have hlt : i < L.size := by rw [hs]; exact (Array.getElem?_eq_some_iff.1 ho').1
  have q2 : L.toList[i]? = some false := by
   rw [Array.getElem?_toList, Array.getElem?_eq_getElem hlt]
   rw [Array.getD_eq_getD_getElem?, Array.getElem?_eq_getElem hlt] at q1
   exact congrArg some q1
  have := count_set _ _ q2
  have e : (L.setIfInBounds i true).toList = L.toList.set i true := by simp
  rw [e]
  omega
theorem Sem_region_any (hJ : Closed P main J) (hm : P.follows .mixedOrders = true) {id : Nat} {S : List AObj → Prop} (hA : AnyH P (Good P J) N ops S ops.size (Array.replicate ops.size false) f h (fun f h => Q .normal f h)) : Sem J N n0 fn (.region id ops true) f h Q := by
 intro b a k cs L ρ FC w ft h1 h2 h3 h4 h5 h6 hc
 refine hJ.step rfl fun w₁ h₁ => ⟨G (b.at a (.inRegion ops (Region.schedule (P.follows .mixedOrders) ops (w₁.tape w₁.drawn (.order b.fn id))) :: k)) cs, { w₁ with drawn := w₁.drawn + 1 }, #[], ?_, rfl, (Stays.drawn ft w₁ _).guar (by simp), ?_⟩
 ·simp [G, stepG, stepG.exec, FB.at, choose, Go.Sem.run, Question.forced, Question.cut]
 ·rw [show ({ w₁ with drawn := w₁.drawn + 1 } : World).heap = w₁.heap from rfl, Foot.ext_self]
  have H₁ := (h5.rely h₁).of_drawn (w₁.drawn + 1)
  simp only [Region.schedule, hm, Bool.true_or, if_true]
  exact SemOps_any hJ _ _ _ _ _ hA b a k cs L ρ FC _ ft h1 h2 h3 h4 H₁ h6 hc
def dstsApart (ops : Array Oper) : Bool := (List.range ops.size).all fun i => (List.range ops.size).all fun j => i == j || (match ops[i]?, ops[j]? with
 | some a, some b => match a.dst, b.dst with
  | some x, some y => x != y
  | _, _ => true
 | _, _ => true)
theorem dstsApart_spec (hd : dstsApart ops = true) {i j : Nat} {oi oj : Oper} {t : Nat} (hi : ops[i]? = some oi) (hj : ops[j]? = some oj) (h1 : oi.dst = some t) (h2 : oj.dst = some t) : i = j := by
 have li := (Array.getElem?_eq_some_iff.1 hi).1
 have lj := (Array.getElem?_eq_some_iff.1 hj).1
 have := List.all_eq_true.1 (List.all_eq_true.1 hd i (List.mem_range.2 li)) j (List.mem_range.2 lj)
 rw [hi, hj] at this
 simp only [h1, h2] at this
 simpa using this
def afterLow (ops : Array Oper) : Bool := (List.range ops.size).all fun i => match ops[i]? with
 | some o => o.after.all fun e => !Region.binds .any e || decide (e.on < i)
 | none => true
theorem afterLow_spec (ha : afterLow ops = true) {i : Nat} {o : Oper} (hi : ops[i]? = some o) : ∀ e ∈ o.after, Region.binds .any e = true → e.on < i := by
 have li := (Array.getElem?_eq_some_iff.1 hi).1
 have := List.all_eq_true.1 ha i (List.mem_range.2 li)
 rw [hi] at this
 intro e he hb
 rw [Array.all_eq_true'] at this
 have := this e he
 rw [hb] at this
 simpa using this
theorem all_done (ha : afterLow ops = true) {L : Array Bool} (hs : L.size = ops.size) (hr : Region.ready .any ops L = []) : ∀ i, i < ops.size → L.getD i false = true := by
 intro i
 induction i using Nat.strongRecOn with
 | ind i ih =>
  intro hi
  cases e : L.getD i false with
  | true => rfl
  | false =>
   exfalso
   have ho : ops[i]? = some ops[i] := Array.getElem?_eq_getElem hi
   have hm : i ∈ Region.ready .any ops L := by
    rw [mem_ready]
    refine ⟨?_, ops[i], ho, fun e' he hb' => ?_⟩
    ·rw [Array.getD_eq_getD_getElem?, Array.getElem?_eq_getElem (by omega)] at e ⊢
     exact e
    ·have := afterLow_spec ha ho e' he hb'
     exact ih _ this (by omega)
   rw [hr] at hm
   cases hm
theorem setD {L : Array Bool} {i : Nat} (hi : i < L.size) : (fun j => (L.setIfInBounds i true).getD j false) = fun j => j == i || L.getD j false := by
 funext j
 rw [Array.getD_eq_getD_getElem?, Array.getD_eq_getD_getElem?]
 by_cases e : j = i
 ·subst e
  rw [Array.getElem?_setIfInBounds_self_of_lt hi]
  simp
 ·rw [Array.getElem?_setIfInBounds_ne (Ne.symm e)]
  simp [e]
theorem Sem_vals (hJ : Closed P main J) (hm : P.follows .mixedOrders = true) {id : Nat} (hd : dstsApart ops = true) (ha : afterLow ops = true) (V : Nat → Value → List AObj → Prop) (B : (Nat → Bool) → List AObj → Prop) (St : List AObj → List AObj → Prop)
  (hV : ∀ j v h h', St h h' → V j v h → V j v h') (h0 : B (fun _ => false) h)
  (step : ∀ (d : Nat → Bool) (i : Nat) (o : Oper) (f1 : RG) (h1 : List AObj), ops[i]? = some o → d i = false → B d h1 → (∀ t, (∀ (j : Nat) oj, ops[j]? = some oj → oj.dst ≠ some t) → f1.r t = f.r t) → (∀ e ∈ o.after, Region.binds .any e = true → ∀ oe t, ops[e.on]? = some oe → oe.dst = some t → V e.on (f1.r t) h1) →
   (∀ t, o.dst = some t → t < N) ∧ opM P (Good P J) ops o f1.r h1 fun v h' => V i v h' ∧ B (fun j => j == i || d j) h' ∧ St h1 h')
  (last : ∀ (d : Nat → Bool) (f1 : RG) (h1 : List AObj), B d h1 → f1.ds = f.ds → (∀ t, (∀ (j : Nat) oj, ops[j]? = some oj → oj.dst ≠ some t) → f1.r t = f.r t) → (∀ (i : Nat) o t, ops[i]? = some o → o.dst = some t → V i (f1.r t) h1) → Q .normal f1 h1) : Sem J N n0 fn (.region id ops true) f h Q := by
 refine Sem_region_any hJ hm (AnyH_inv (I := fun L f1 h1 => L.size = ops.size ∧ Down ops L ∧ B (fun j => L.getD j false) h1 ∧ f1.ds = f.ds ∧ (∀ t, (∀ (j : Nat) oj, ops[j]? = some oj → oj.dst ≠ some t) → f1.r t = f.r t) ∧ ∀ (i : Nat) o t, ops[i]? = some o → o.dst = some t → L.getD i false = true → V i (f1.r t) h1) ?_ ?_ _ _ _ _ (by simp) (by simp) ⟨by simp, down_init, ?_, rfl, fun _ _ => rfl, fun i o t ho _ hl => by
  have hi := (Array.getElem?_eq_some_iff.1 ho).1
  rw [Array.getD_eq_getD_getElem?, Array.getElem?_replicate, if_pos hi] at hl
  cases hl⟩)
 ·rintro L f1 h1 i o ⟨hs, hD, hB, hds, hout, hin⟩ hm' ho
  have hm2 := hm'
  rw [mem_ready] at hm2
  obtain ⟨q1, o', ho', hall⟩ := hm2
  rw [ho] at ho'
  cases ho'
  have hlt : i < L.size := by rw [hs]; exact (Array.getElem?_eq_some_iff.1 ho).1
  have q2 : L.getD i false = false := by
   rw [Array.getD_eq_getD_getElem?, Array.getElem?_eq_getElem hlt] at q1 ⊢
   exact q1
  obtain ⟨g1, K', g2, g3⟩ := step _ i o f1 h1 ho q2 hB hout fun e he hb oe t hoe hte => hin e.on oe t hoe hte (hall e he hb)
  refine ⟨g1, K', g2, fun v h' k => ?_⟩
  obtain ⟨k1, k2, k3⟩ := g3 v h' k
  refine ⟨by simpa using hs, down_set hD hm', ?_, ?_, fun t ht => ?_, fun j oj t hj hjt hl => ?_⟩
  ·rw [setD hlt]
   exact k2
  ·rw [← hds]
   cases o.dst <;> rfl
  ·rw [putO_r (fun e => ht i o ho e)]
   exact hout t ht
  ·by_cases e : j = i
   ·subst e
    rw [ho] at hj
    cases hj
    have : (f1.putO o.dst v).r t = v := by
     rw [hjt]
     show (bif t == t then v else f1.r t) = v
     simp
    rw [this]
    exact k1
   ·rw [putO_r (fun e' => e (dstsApart_spec hd hj ho hjt e'))]
    refine hV _ _ _ _ k3 (hin j oj t hj hjt ?_)
    rw [Array.getD_eq_getD_getElem?] at hl ⊢
    rw [Array.getElem?_setIfInBounds_ne (Ne.symm e)] at hl
    exact hl
 ·rintro L f1 h1 ⟨hs, hD, hB, hds, hout, hin⟩ hr
  refine last _ f1 h1 hB hds hout fun i o t ho hot => hin i o t ho hot ?_
  exact all_done ha hs hr i (Array.getElem?_eq_some_iff.1 ho).1
 ·have : (fun j => (Array.replicate ops.size false).getD j false) = fun _ => false := by
   funext j
   rw [Array.getD_eq_getD_getElem?, Array.getElem?_replicate]
   split <;> rfl
  rw [this]
  exact h0
def needs (ops : Array Oper) (i j : Nat) : Bool := match ops[i]? with
 | some o => o.after.any fun e => Nat.beq e.on j && Region.binds .any e
 | none => false
theorem needs_spec {i j : Nat} (hn : needs ops i j = true) {o oj : Oper} {t : Nat} {A : Nat → Nat → Prop} (ho : ops[i]? = some o) (hoj : ops[j]? = some oj) (hjt : oj.dst = some t)
  (hdep : ∀ e ∈ o.after, Region.binds .any e = true → ∀ oe t, ops[e.on]? = some oe → oe.dst = some t → A e.on t) : A j t := by
 unfold needs at hn
 rw [ho] at hn
 simp only [Array.any_eq_true'] at hn
 obtain ⟨e, he, hb⟩ := hn
 rw [Bool.and_eq_true] at hb
 have hx : e.on = j := Nat.eq_of_beq_eq_true hb.1
 subst hx
 exact hdep e he hb.2 oj t hoj hjt
def noDst (ops : Array Oper) (t : Nat) : Bool := ops.all fun o => match o.dst with
 | some x => !Nat.beq x t
 | none => true
theorem noDst_spec {t : Nat} (hn : noDst ops t = true) (j : Nat) (oj : Oper) (hj : ops[j]? = some oj) : oj.dst ≠ some t := by
 unfold noDst at hn
 rw [Array.all_eq_true'] at hn
 intro e
 have := hn oj (Array.mem_of_getElem? hj)
 rw [e] at this
 simp at this
theorem op_step {X : RG → List AObj → (Value → List AObj → Prop) → Prop} {i d : Nat} {o p : Oper} {K : Value → List AObj → Prop}
  (e : ops[i]? = some p ∧ p.dst = some d ∧ dstOk N p = true ∧ (∀ r, gd ops p r = some true) ∧ ∀ (f : RG) (h : List AObj) (H : Value → List AObj → Prop), opW P (Good P J) p f.r h H = X f h H)
  (ho : ops[i]? = some o) (hk : X f h K) : (∀ t, o.dst = some t → t < N) ∧ opM P (Good P J) ops o f.r h K := by
 obtain ⟨e1, e2, e3, e4, e5⟩ := e
 rw [e1] at ho
 cases ho
 refine ⟨fun t ht => ?_, K, ?_, fun _ _ k => k⟩
 ·unfold dstOk at e3
  rw [ht] at e3
  simpa [Nat.blt_eq] using e3
 ·unfold opG
  rw [e4]
  show opW P (Good P J) _ f.r h K
  rw [e5]
  exact hk
end
section
variable {P : Program} {W0 : World} {Post : Value → World → Prop} {ρ : Env} {h : List AObj} {FC : Frm} {w : World} {ft : Foot} {f : RG} {a : Act} {b : FB} {K : Value → List AObj → Prop} {n0 : Nat}
theorem leave_top2 {fn : Func} (hk : b.kind = .normal) (hf : P.funcs[b.fn]? = some fn) (hin : P.inits.idxOf? b.fn = none)
  (hc : ∀ v h' ρ' w' ft' cv, K v h' → HRel ρ' h' FC w' ft' → Env.upto n0 ρ ρ' → n0 ≤ h'.length → VRel h'.length ρ' v cv → Base W0 w' → Post cv w') :
  ∀ (ds : List Nat) (h : List AObj) (w : World) (ft : Foot) (a : Act) (fr : Frame), fr.fn = b.fn → fr.kind = .normal → fr.mode = .returning → fr.tmps = a.tmps → fr.defers = ds.map (fun d => { target := .collected (ρ.blk d), args := #[] }) → RegRel h.length ρ f.r a.tmps → HRel ρ h FC w ft → n0 ≤ h.length →
   takeW ds h (fun h => resW P fn.results.toList f.r h fun vs => K (pack vs) h ∨ ∃ σ h' v, GC n0 σ h h' ∧ pack vs = sub σ v ∧ VOk h'.length v ∧ K v h') → J2 P W0 Post (G fr []) w ft
 | [], h, w, ft, a, fr, e1, e2, e3, e4, e5, hr, H, hn, hq => by
  obtain ⟨fn', tmps, todo, defers, mode, kind, ro⟩ := fr
  simp only at e1 e2 e3 e4 e5
  subst e1 e2 e3 e4 e5
  refine J2.both rfl fun w₁ h₁ hbase => .inr ?_
  have H₁ := H.rely h₁
  have hrun : RunsTo P (EvOk ft) (results fn a.tmps) w₁ fun cv w' => w' = w₁ ∧ ∃ vs, cv = ren ρ (pack vs) ∧ (∀ v ∈ vs, VOk h.length v) ∧ (K (pack vs) h ∨ ∃ σ h' v, GC n0 σ h h' ∧ pack vs = sub σ v ∧ VOk h'.length v ∧ K v h') := by
   unfold results
   have : (fn.results.mapM (resF a.tmps)) = Functor.map List.toArray (fn.results.toList.mapM (resF a.tmps)) := by
    rw [Array.mapM_eq_mapM_toList]
   show RunsTo P (EvOk ft) (do
    let vs ← fn.results.mapM (resF a.tmps)
    pure (if h : vs.size = 1 then vs[0] else .tuple vs)) w₁ _
   rw [this]
   refine RunsTo.bind (RunsTo.map (res_run (n := 0) H₁ hr fn.results.toList hq fun vs hvs hok => RunsTo.pure ⟨rfl, vs, ?_, hok, hvs⟩))
   exact pack_ren vs
  obtain ⟨cv, w', es, hr', he, rfl, vs, rfl, hvok, hvs⟩ := hrun #[] (by simp)
  have hes : ∀ e ∈ seen P b.fn es, EvOk ft e := fun e hm => he e (mem_seen hm)
  refine ⟨ren ρ (pack vs), seen P b.fn es, ?_, hes, ?_⟩
  ·simp only [G, stepG, unwind, List.map_nil, hf, hr']
   simp [doReturn, GStep.after, hin]
  ·rcases hvs with hK | ⟨σ, h', v, g, hp, hok, hK⟩
   ·exact hc _ h _ w' ft _ hK H₁ (Env.upto_refl _ _) hn (.inr ⟨pack_ok hvok, rfl⟩) hbase
   ·rw [hp, ren_sub]
    exact hc v h' _ w' ft _ hK (g.rel H₁) g.upto g.le (.inr ⟨hok, rfl⟩) hbase
 | d :: ds, h, w, ft, a, fr, e1, e2, e3, e4, e5, hr, H, hn, hq => by
  obtain ⟨fn', tmps, todo, defers, mode, kind, ro⟩ := fr
  simp only at e1 e2 e3 e4 e5
  subst e1 e2 e3 e4 e5
  obtain ⟨hd, hq⟩ := hq
  refine (J2.closed P W0 Post).step rfl fun w₁ h₁ => ?_
  have H₁ := H.rely h₁
  obtain ⟨cv, w', es, hr', he, rfl, H', hst, hsz⟩ := take_run (P := P) H₁ hd (Q := fun l w' => l = [] ∧ HRel ρ (h.set d .dead) FC w' ft ∧ Stays ft w₁ w' ∧ w'.heap.size = w₁.heap.size) (fun w' a1 a2 a3 => ⟨rfl, a1, a2, a3⟩) #[] (by simp)
  have hes : ∀ e ∈ seen P b.fn es, EvOk ft e := fun e hm => he e (mem_seen hm)
  refine ⟨G { fn := b.fn, tmps := a.tmps, todo := todo, defers := ds.map (fun d => { target := .collected (ρ.blk d), args := #[] }), mode := .returning, kind := .normal, roundOf := ro } [], w', seen P b.fn es, ?_, rfl, hst.guar hes, ?_⟩
  ·simp only [G, stepG, unwind, List.map_cons, hr']
   simp [GStep.after]
  ·rw [hsz, Foot.ext_self]
   exact leave_top2 hk hf hin hc ds _ w' ft a _ rfl rfl rfl rfl rfl (by rw [List.length_set]; exact hr) H' (by rw [List.length_set]; exact hn) hq
theorem top_of_sem2 {g : FuncId} {fn : Func} (hf : P.funcs[g]? = some fn) {c : Code} (hb : fn.body = some c) (hin : P.inits.idxOf? g = none) {args : List Value} {cargs : Array Value} (ha : args.length ≤ fn.ntmps) (hl : cargs.size = args.length)
  (hr : ∀ i : Nat, VRel h.length ρ (args.getD i unk) (cargs.toList.getD i undef)) (H : HRel ρ h FC w ft)
  (hs : Sem (J2 P W0 Post) fn.ntmps h.length g c ⟨regs args, []⟩ h (RetQ P fn.results.toList h.length K))
  (hc : ∀ v h' ρ' w' ft' cv, K v h' → HRel ρ' h' FC w' ft' → Env.upto h.length ρ ρ' → h.length ≤ h'.length → VRel h'.length ρ' v cv → Base W0 w' → Post cv w') : J2 P W0 Post (G (Frame.enter P g cargs .normal) []) w ft := by
 have hJ := J2.closed P W0 Post
 obtain ⟨cargs⟩ := cargs
 simp only at hl hr
 have he : Frame.enter P g ⟨cargs⟩ .normal = FB.at ⟨g, .normal, none, []⟩ ⟨⟨cargs⟩ ++ Array.replicate (fn.ntmps - cargs.length) undef, []⟩ [.code c] := by
  simp [Frame.enter, FB.at, hf, hb]
 rw [he]
 have A : ActRel h.length ρ fn.ntmps ⟨regs args, []⟩ ⟨⟨cargs⟩ ++ Array.replicate (fn.ntmps - cargs.length) undef, []⟩ := by
  refine ⟨fun t => ?_, by simp at hl ⊢; omega, rfl, by simp⟩
  have := hr t
  have ht : ((⟨cargs⟩ : Array Value) ++ Array.replicate (fn.ntmps - cargs.length) undef).getD t undef = cargs.getD t undef := by
   rw [Array.getD_eq_getD_getElem?, List.getD_eq_getElem?_getD]
   by_cases hx : t < cargs.length
   ·rw [Array.getElem?_append_left (by simpa using hx)]
    simp
   ·rw [Array.getElem?_append_right (by simp; omega), List.getElem?_eq_none (by omega)]
    simp only [Array.getElem?_replicate]
    split <;> rfl
  rw [ht]
  exact this
 have last : ∀ f' h' ρ' w' ft' a' todo, RetQ P fn.results.toList h.length K .ret f' h' → ActRel h'.length ρ' fn.ntmps f' a' → HRel ρ' h' FC w' ft' → Env.upto h.length ρ ρ' → h.length ≤ h'.length →
   J2 P W0 Post (G { (FB.at ⟨g, .normal, none, []⟩ a' todo) with mode := .returning } []) w' ft' := by
  intro f' h' ρ' w' ft' a' todo q A' H' hu hl
  exact leave_top2 (b := ⟨g, .normal, none, []⟩) (f := f') (n0 := h.length) (ρ := ρ') rfl hf hin (fun v h2 ρ2 w2 ft2 cv k H2 u2 l2 v2 => hc v h2 ρ2 w2 ft2 cv k H2 (Env.upto_trans hu u2) l2 v2) f'.ds h' w' ft' a' _ rfl rfl rfl rfl ((List.append_nil _).trans A'.defers) A'.regs H' hl q
 refine hs ⟨g, .normal, none, []⟩ _ [] [] (fun jump a w ft => jump = some .ret ∧ ∀ todo, J2 P W0 Post (G { (FB.at ⟨g, .normal, none, []⟩ a todo) with mode := .returning } []) w ft) ρ FC w ft rfl (by simp) ?_ A H (Nat.le_refl _) ?_
 ·rintro jump a w ft todo ⟨rfl, hj⟩ hh
  rcases hh with ⟨_, k, rfl⟩ | ⟨id, k, e, _⟩ | ⟨e, _⟩
  ·exact hJ.ctrl rfl rfl (fun w => by simp [G, stepG, stepG.exec, FB.at]) (hj (.code .ret :: k))
  ·cases e
  ·cases e
 ·intro e f' h' ρ' w' ft' a' q A' H' hu hl
  cases e with
  | normal => exact hJ.ctrl rfl rfl (fun w => by simp [G, stepG, stepG.exec, FB.at]) (last f' h' ρ' w' ft' a' [] q A' H' hu hl)
  | ret => exact ⟨rfl, fun todo => last f' h' ρ' w' ft' a' todo q A' H' hu hl⟩
  | exit id => exact q.elim
  | goto l => exact q.elim
  | panic l => exact q.elim
  | outgrown => exact q.elim
end
def putAll : (Nat → Value) → List Nat → List Value → Nat → Value
 | r, t :: ts, v :: vs => putAll (fun i => bif i == t then v else r i) ts vs
 | r, _, _ => r
def jumpQ (pend : Option Code) (Q : QT) (f : RG) (h : List AObj) : Prop :=
 match pend with
 | none => Q .normal f h
 | some .ret => Q .ret f h
 | some (.exit id) => Q (.exit id) f h
 | _ => False
def endQ (n : Nat) (f : RG) (Q : QT) : Value → List AObj → Prop := fun _ h =>
 ∃ st pend fn r size params assign body dfr, h[n + 1]? = some (.loop st pend fn r size params assign body dfr) ∧ st ≠ .busy ∧ jumpQ pend Q ⟨f.r, n :: f.ds⟩ (h.set (n + 1) .dead)
def Fin (n0 : Nat) (K : Value → List AObj → Prop) (t : Bool) (h : List AObj) : Prop := K (.bool t) h ∨ ∃ σ h', GC n0 σ h h' ∧ K (.bool t) h'
def roundQ (l n0 : Nat) (K : Value → List AObj → Prop) : QT := fun e _ h =>
 ∃ st pend fn r size params assign body dfr, h[l]? = some (.loop st pend fn r size params assign body dfr) ∧
  match e with
  | .normal => Fin n0 K true (h.set l (.loop .ready none fn r size params assign body dfr))
  | .exit id => Fin n0 K false (h.set l (.loop .done (some (.exit id)) fn r size params assign body dfr))
  | .ret => Fin n0 K false (h.set l (.loop .done (some .ret) fn r size params assign body dfr))
  | _ => False
section
variable {P : Program} {main : Bool} {J : JT} {N n0 : Nat} {ρ : Env} {h : List AObj} {FC : Frm} {w : World} {ft : Foot} {f : RG} {a : Act} {cs : List Frame} {b : FB} {fn : FuncId} {Q : QT}
theorem regs_putAll {n : Nat} : ∀ (ps : List Nat) (vs cs : List Value) {r : Nat → Value} {tmps : Array Value}, RegRel n ρ r tmps → (∀ t ∈ ps, t < tmps.size) → vs.length = cs.length → (∀ i : Nat, VRel n ρ (vs.getD i unk) (cs.getD i undef)) →
  RegRel n ρ (putAll r ps vs) ((ps.zip cs).foldl (fun tmps (t, a) => tmps.setIfInBounds t a) tmps) ∧ ((ps.zip cs).foldl (fun tmps (t, a) => tmps.setIfInBounds t a) tmps).size = tmps.size
 | [], vs, cs, r, tmps, hr, _, _, _ => by
  cases vs <;> exact ⟨hr, rfl⟩
 | t :: ps, [], cs, r, tmps, hr, _, hl, _ => by
  cases cs with
  | nil => exact ⟨hr, rfl⟩
  | cons c cs => cases hl
 | t :: ps, v :: vs, cs, r, tmps, hr, ht, hl, hv => by
  cases cs with
  | nil => cases hl
  | cons c cs =>
   have h0 := hv 0
   simp only [List.getD_cons_zero] at h0
   have := regs_putAll ps vs cs (regs_put hr (ht t (by simp)) h0) (fun x hx => by simpa using ht x (by simp [hx])) (by simpa using hl) (fun i => by simpa using hv (i + 1))
   simpa [putAll] using this
theorem zip_fold (ps : List Nat) (cs : List Value) (tmps : Array Value) : ((⟨ps⟩ : Array Tmp).zip ⟨cs⟩).foldl (fun tmps (t, a) => tmps.setIfInBounds t a) tmps = (ps.zip cs).foldl (fun tmps (t, a) => tmps.setIfInBounds t a) tmps := by
 rw [List.zip_toArray]
 simp
theorem tag_none (hb : b.tag = fn) (hf : fn < 1000000) : b.ro = none ∧ b.fn = fn := by
 unfold FB.tag at hb
 cases e : b.ro with
 | none => rw [e] at hb; exact ⟨rfl, hb⟩
 | some l =>
  rw [e] at hb
  have : (1000000 : Nat) ≤ fn := hb ▸ Nat.le_add_left _ _
  exact absurd hf (Nat.not_lt.2 this)
theorem Sem_range (hJ : Closed P main J) (hfn : fn < 1000000) {fop : Operand} {params : Array Tmp} {assign body : Code} {g : FuncId} {first cap : List Value} (hx : ev f.r fop = .func (.func g) ⟨first⟩ ⟨cap⟩) (hg : g < P.funcs.size)
  (hs : Good P J g (first ++ [.func (.yield (h.length + 1)) ⟨[]⟩ ⟨[]⟩] ++ cap) (h ++ [.deferred] ++ [.loop .ready none fn f.r N params assign body h.length]) (endQ h.length f Q)) (hcall : callable P g = true) : Sem J N n0 fn (.rangeFunc fop params assign body) f h Q := by
 intro b a k cs L ρ FC w ft h1 h2 h3 h4 h5 h6 hc
 obtain ⟨hro, hbf⟩ := tag_none h1 hfn
 have hk' : (b.kind == CallKind.early) = false := by simpa using h2
 obtain ⟨hok, hv⟩ := (ev_rel h4.regs fop).val (by rw [hx]; simp [unk])
 rw [hx] at hv hok
 simp only [ren, renFn, renA, renL_eq] at hv
 simp only [VOk, AOk] at hok
 have hs : GoodF P J g (first ++ [.func (.yield (h.length + 1)) ⟨[]⟩ ⟨[]⟩] ++ cap) (h ++ [.deferred] ++ [.loop .ready none fn f.r N params assign body h.length]) (endQ h.length f Q) := by
  rcases hs with hs | ⟨⟨_, hx⟩, _⟩
  ·exact hs
  ·rw [hcall] at hx
   cases hx
 have hcl : callable P g = true := by
  rcases hs.1 with ⟨_, x⟩ | ⟨x, _⟩
  ·exact x
  ·exact absurd hg (Nat.not_lt.2 x)
 refine hJ.step rfl fun w₁ hr => ?_
 have H₁ := h5.rely hr
 have G1 := H₁.push .deferred (.deferred (some [])) 0 trivial w₁.drawn
 have A1 := upto_act G1.upto G1.len h4
 have e1 : (h ++ [AObj.deferred]).length = h.length + 1 := by simp
 have b1 : (ρ.put h.length w₁.heap.size 0).blk h.length = w₁.heap.size := (Env.put_self ρ h.length w₁.heap.size 0).1
 have G2 := G1.rel.push (.loop .ready none fn f.r N params assign body h.length) (.loop { state := .ready, pending := none, fn, tmps := a.tmps, params, assign, body, defers := w₁.heap.size }) 0
  ⟨rfl, rfl, rfl, A1.regs.congr (Env.put_upto _ _ _ _) (by simp), A1.size, rfl, rfl, rfl, by
   have := (Env.put_upto (ρ.put h.length w₁.heap.size 0) (h ++ [AObj.deferred]).length (w₁.heap.push (.deferred (some []))).size 0) h.length (by simp)
   rw [this.1, b1], by simp; omega⟩ w₁.drawn
 have hent : RunsTo P (EvOk ft) (Instr.enterLoop fn a.tmps params assign body none) w₁ fun r w' => r = (w₁.heap.size + 1, [{ target := .collected w₁.heap.size, args := #[] }]) ∧
   w' = { w₁ with heap := (w₁.heap.push (.deferred (some []))).push (.loop { state := .ready, pending := none, fn, tmps := a.tmps, params, assign, body, defers := w₁.heap.size }) } := by
  unfold Instr.enterLoop
  refine RunsTo.bind (RunsTo.bind (RunsTo.new ?_))
  exact RunsTo.pure (P := P) (RunsTo.pure (P := P) ⟨by simp, rfl⟩)
 obtain ⟨r, w', es, hr1, he1, rfl, hw'⟩ := hent #[] (by simp)
 have hes1 : ∀ e ∈ seen P b.fn es, EvOk ft e := fun e hm => he1 e (mem_seen hm)
 have hres : RunsTo P (EvOk ft) (do let d ← resolve (b.at ⟨a.tmps, { target := .collected w₁.heap.size, args := #[] } :: a.defers⟩ (.inRangeFunc (w₁.heap.size + 1) :: k)).eval { callee := .value fop, args := #[.const (.func (.yield (w₁.heap.size + 1)) #[] #[])], argTypes := #[] } 0; invoke d.target d.args) w' fun nx w'' =>
   nx = .enter g ⟨first.map (ren ρ) ++ [.func (.yield (w₁.heap.size + 1)) #[] #[]] ++ cap.map (ren ρ)⟩ ∧ w'' = w' := by
  unfold resolve
  have hev : (b.at ⟨a.tmps, { target := .collected w₁.heap.size, args := #[] } :: a.defers⟩ (.inRangeFunc (w₁.heap.size + 1) :: k)).eval fop = .func (.func g) ⟨first.map (ren ρ)⟩ ⟨cap.map (ren ρ)⟩ := by
   rw [← hv]
   cases fop <;> rfl
  simp only [hev, Deferred.ofValue]
  refine RunsTo.bind (RunsTo.pure ?_)
  unfold invoke
  simp only
  refine callFunc_run hcl ⟨?_, rfl⟩
  congr 1
  apply Array.ext'
  simp [Frame.eval]
 obtain ⟨nx, w'', es2, hr2, he2, rfl, rfl⟩ := hres #[] (by simp)
 have hes2 : ∀ e ∈ seen P b.fn es2, EvOk ft e := fun e hm => he2 e (mem_seen hm)
 have hst : Stays ft w₁ w'' := by
  have := G1.stays.trans (w₂ := { w₁ with heap := (w₁.heap.push (.deferred (some []))).push (.loop { state := .ready, pending := none, fn, tmps := a.tmps, params, assign, body, defers := w₁.heap.size }) })
   ⟨fun y hy hn => by
    show ((w₁.heap.push _).push _)[y]? = (w₁.heap.push _)[y]?
    rw [Array.getElem?_push_lt hy, Array.getElem?_eq_getElem hy], by simp, rfl, rfl, rfl⟩
  rw [hw']
  exact this
 have hext : (ft.ext w₁.heap.size (w₁.heap.push (.deferred (some []))).size).ext (w₁.heap.push (.deferred (some []))).size w''.heap.size = ft.ext w₁.heap.size w''.heap.size := by
  have hsz : w''.heap.size = w₁.heap.size + 2 := by rw [hw']; simp
  simp only [Foot.ext, Foot.mk.injEq, hsz, Array.size_push]
  exact ⟨by funext y; by_cases hy : ft.rd y <;> simp [hy] <;> omega, by funext y; by_cases hy : ft.wr y <;> simp [hy] <;> omega, trivial⟩
 have H2 : HRel ((ρ.put h.length w₁.heap.size 0).put (h ++ [AObj.deferred]).length (w₁.heap.push (.deferred (some []))).size 0) (h ++ [.deferred] ++ [.loop .ready none fn f.r N params assign body h.length]) FC w'' (ft.ext w₁.heap.size w''.heap.size) := by
  rw [← hext, hw']
  exact G2.rel
 generalize hρ2 : ((ρ.put h.length w₁.heap.size 0).put (h ++ [AObj.deferred]).length (w₁.heap.push (.deferred (some []))).size 0) = ρ2 at H2
 have hu2 : Env.upto h.length ρ ρ2 := by
  rw [← hρ2]
  exact Env.upto_trans (Env.put_upto _ _ _ _) (Env.upto_le (Env.put_upto _ _ _ _) (by simp))
 have hbd : ρ2.blk h.length = w₁.heap.size := by
  rw [← hρ2]
  rw [((Env.put_upto (ρ.put h.length w₁.heap.size 0) (h ++ [AObj.deferred]).length (w₁.heap.push (.deferred (some []))).size 0) h.length (by simp)).1, b1]
 have hbl : ρ2.blk (h.length + 1) = w₁.heap.size + 1 := by
  rw [← hρ2]
  have := (Env.put_self (ρ.put h.length w₁.heap.size 0) (h ++ [AObj.deferred]).length (w₁.heap.push (.deferred (some []))).size 0).1
  rw [e1] at this
  rw [e1, this]
  simp
 refine ⟨G (Frame.enter P g ⟨first.map (ren ρ) ++ [.func (.yield (w₁.heap.size + 1)) #[] #[]] ++ cap.map (ren ρ)⟩ .normal) (b.at ⟨a.tmps, { target := .collected w₁.heap.size, args := #[] } :: a.defers⟩ (.inRangeFunc (w₁.heap.size + 1) :: k) :: cs), w'', seen P b.fn es ++ seen P b.fn es2, ?_, rfl, hst.guar (fun e hm => ?_), ?_⟩
 ·have hr2' := hr2
  simp only [FB.at, List.cons_append] at hr2'
  simp only [G, stepG, stepG.exec, FB.at, hro, hbf, hr1, GStep.after, stepG.apply]
  rw [hro, hbf] at hr2'
  simp only [List.cons_append, List.nil_append, hr2', if_true, hk']
  simp
 ·rcases Array.mem_append.1 hm with hm | hm
  ·exact hes1 e hm
  ·exact hes2 e hm
 ·have hargs : ∀ i : Nat, VRel (h ++ [AObj.deferred] ++ [AObj.loop .ready none fn f.r N params assign body h.length]).length ρ2 ((first ++ [Value.func (.yield (h.length + 1)) ⟨[]⟩ ⟨[]⟩] ++ cap).getD i unk) ((first.map (ren ρ) ++ [Value.func (.yield (w₁.heap.size + 1)) #[] #[]] ++ cap.map (ren ρ)).getD i undef) := by
   have hlen : h.length ≤ (h ++ [AObj.deferred] ++ [AObj.loop .ready none fn f.r N params assign body h.length]).length := by simp
   have hcg : ∀ l, LOk h.length l → l.map (ren ρ) = l.map (ren ρ2) := fun l hl => List.map_congr_left fun v hv => (ren_congr hu2 v ((LOk_iff l).1 hl v hv)).symm
   rw [hcg first hok.2.1, hcg cap hok.2.2]
   refine getD_app (by simp) (getD_app (by simp) (getD_ren (LOk.mono hlen _ hok.2.1)) fun i => ?_) (getD_ren (LOk.mono hlen _ hok.2.2))
   cases i with
   | zero => exact .inr ⟨by simp [VOk, FnOk, AOk, LOk], by simp [ren, renFn, renA, renL, hbl]⟩
   | succ i => exact .inl (by simp)
  refine hs.2 ρ2 FC w'' _ cs _ _ _ H2 hargs (by simp) (.inl ⟨hg, rfl⟩) fun v h' ρ' w3 ft3 cv hK H3 hu3 hl3 hv3 => ?_
  obtain ⟨st, pend, fn', r', size', params', assign', body', dfr', hlk, hst, hj⟩ := hK
  have hfin : (b.at ⟨a.tmps, { target := .collected w₁.heap.size, args := #[] } :: a.defers⟩ (.inRangeFunc (w₁.heap.size + 1) :: k)).finish cv = b.at ⟨a.tmps, { target := .collected w₁.heap.size, args := #[] } :: a.defers⟩ (.endRangeFunc (w₁.heap.size + 1) :: k) := rfl
  rw [hfin]
  have hlen2 : h.length + 2 = (h ++ [AObj.deferred] ++ [AObj.loop .ready none fn f.r N params assign body h.length]).length := by simp
  have hbl3 : ρ'.blk (h.length + 1) = w₁.heap.size + 1 := by rw [(hu3 _ (by omega)).1, hbl]
  have hbd3 : ρ'.blk h.length = w₁.heap.size := by rw [(hu3 _ (by omega)).1, hbd]
  have hu03 : Env.upto h.length ρ ρ' := Env.upto_trans hu2 (Env.upto_le hu3 (by omega))
  have A3 : ActRel h'.length ρ' N ⟨f.r, h.length :: f.ds⟩ ⟨a.tmps, { target := .collected w₁.heap.size, args := #[] } :: a.defers⟩ := by
   have A := upto_act (m := h'.length) hu03 (by omega) h4
   exact ⟨A.regs, A.size, by simp [A.defers, hbd3], by
    intro y hy
    rcases List.mem_cons.1 hy with rfl | hy
    ·omega
    ·exact A.ok y hy⟩
  refine hJ.step rfl fun w4 hr4 => ?_
  have H4 := H3.rely hr4
  have hobj := H4.obj _ _ hlk
  have hrd := H4.rd _ _ hlk rfl
  have hwr := H4.wr _ _ hlk rfl
  rw [hbl3] at hobj hrd hwr
  match hlo : w4.heap[w₁.heap.size + 1]?, hobj with
  | some (.loop lo), hobj =>
   obtain ⟨q1, q2, _⟩ := hobj
   have hend : RunsTo P (EvOk ft3) (Instr.endLoop (w₁.heap.size + 1)) w4 fun j w5 => j = pend ∧ w5 = { w4 with heap := w4.heap.setIfInBounds (w₁.heap.size + 1) (.loop { lo with state := .exhausted }) } := by
    unfold Instr.endLoop Instr.getLoop
    refine RunsTo.bind (RunsTo.bind (RunsTo.getObj hlo (fun _ _ _ e => by cases e) ⟨rfl, hrd, fun e => by cases e⟩ (RunsTo.pure ?_)))
    have : (lo.state == LoopState.busy) = false := by
     rw [q1]
     cases st <;> first | rfl | exact absurd rfl hst
    simp only [this]
    rw [if_neg (by simp)]
    exact RunsTo.bind (RunsTo.setObj hlo (fun _ _ _ e => by cases e) ⟨rfl, hrd, fun _ => hwr⟩ (RunsTo.pure ⟨q2, rfl⟩))
   obtain ⟨j, w5, es3, hr5, he5, rfl, hw5⟩ := hend #[] (by simp)
   have hes3 : ∀ e ∈ seen P b.fn es3, EvOk ft3 e := fun e hm => he5 e (mem_seen hm)
   have H5 := H4.clobber hlk rfl (.loop { lo with state := .exhausted })
   rw [hbl3, ← hw5] at H5
   have hst5 : Stays ft3 w4 w5 := by
    rw [hw5]
    refine ⟨fun y hy hny => ?_, by simp, rfl, rfl, rfl⟩
    show (w4.heap.setIfInBounds (w₁.heap.size + 1) _)[y]? = _
    rw [Array.getElem?_setIfInBounds, if_neg (fun e => hny (by rw [← e]; exact hwr))]
   have hsz5 : w5.heap.size = w4.heap.size := by rw [hw5]; simp
   refine ⟨G (b.at ⟨a.tmps, { target := .collected w₁.heap.size, args := #[] } :: a.defers⟩ ((j.map Item.code).toList ++ k)) cs, w5, seen P b.fn es3, ?_, rfl, hst5.guar hes3, ?_⟩
   ·simp only [G, stepG, stepG.exec, FB.at, hr5, GStep.after]
    simp
   ·rw [hsz5, Foot.ext_self]
    have hl5 : (h'.set (h.length + 1) .dead).length = h'.length := by simp
    have A5 : ActRel (h'.set (h.length + 1) .dead).length ρ' N ⟨f.r, h.length :: f.ds⟩ ⟨a.tmps, { target := .collected w₁.heap.size, args := #[] } :: a.defers⟩ := by rw [hl5]; exact A3
    have hu5 : Env.upto n0 ρ ρ' := Env.upto_le hu03 h6
    have hn5 : n0 ≤ (h'.set (h.length + 1) .dead).length := by rw [hl5]; omega
    unfold jumpQ at hj
    split at hj
    ·exact hc _ _ _ _ _ _ _ hj A5 H5 hu5 hn5
    ·have := hc _ _ _ _ _ _ _ hj A5 H5 hu5 hn5
     exact h3 _ _ _ _ _ this (.inl ⟨rfl, _, rfl⟩)
    ·rename_i id
     have := hc _ _ _ _ _ _ _ hj A5 H5 hu5 hn5
     unfold AfterJ at this
     simp only at this
     cases he : exitTo id k with
     | some k' =>
      rw [he] at this
      exact hJ.ctrl rfl rfl (g' := G (b.at _ k') cs) (fun w => by simp [G, stepG, stepG.exec, FB.at, he]) this
     | none =>
      rw [he] at this
      exact h3 _ _ _ _ _ this (.inr (.inl ⟨id, k, rfl, rfl, he⟩))
    ·exact hj.elim
theorem leave_round (hJ : Closed P main J) {l : Nat} {c : Frame} {n0 : Nat} {K : Value → List AObj → Prop} {jump : Option Code} {todo : List Item} (hro : b.ro = some (ρ.blk l)) (hk : b.kind = .normal) (hh : Heads jump todo) (H : HRel ρ h FC w ft)
  {st : LoopState} {pend : Option Code} {fn : FuncId} {r : Nat → Value} {size : Nat} {params : Array Tmp} {assign body : Code} {dfr : Nat} (hl : h[l]? = some (.loop st pend fn r size params assign body dfr))
  (hF : Fin n0 K jump.isNone (h.set l (.loop (if jump.isNone then .ready else .done) jump fn r size params assign body dfr))) (hn : n0 ≤ h.length)
  (hc : ∀ v h' ρ' w' ft' cv, K v h' → HRel ρ' h' FC w' ft' → Env.upto n0 ρ ρ' → n0 ≤ h'.length → VRel h'.length ρ' v cv → J (G (c.finish cv) cs) w' ft') : J (G (b.at a todo) (c :: cs)) w ft := by
 refine hJ.step rfl fun w₁ hr => ?_
 have H₁ := H.rely hr
 have hobj := H₁.obj _ _ hl
 have hrd := H₁.rd _ _ hl rfl
 have hwr := H₁.wr _ _ hl rfl
 match hlo : w₁.heap[ρ.blk l]?, hobj with
 | some (.loop lo), hobj =>
  have hobj' := hobj
  obtain ⟨q1, q2, q3, q4, q5, q6, q7, q8, q9, q10⟩ := hobj'
  have hend : RunsTo P (EvOk ft) (Instr.endRound (ρ.blk l) jump) w₁ fun v w5 => v = .bool jump.isNone ∧ w5 = { w₁ with heap := w₁.heap.setIfInBounds (ρ.blk l) (.loop { lo with state := if jump.isNone then .ready else .done, pending := jump }) } := by
   unfold Instr.endRound Instr.getLoop
   refine RunsTo.bind (RunsTo.bind (RunsTo.getObj hlo (fun _ _ _ e => by cases e) ⟨rfl, hrd, fun e => by cases e⟩ (RunsTo.pure ?_)))
   exact RunsTo.bind (RunsTo.setObj hlo (fun _ _ _ e => by cases e) ⟨rfl, hrd, fun _ => hwr⟩ (RunsTo.pure ⟨rfl, rfl⟩))
  obtain ⟨v, w5, es, hrun, he, rfl, hw5⟩ := hend #[] (by simp)
  have hes : ∀ e ∈ seen P b.fn es, EvOk ft e := fun e hm => he e (mem_seen hm)
  have G5 := H₁.setBlk hl rfl (o := .loop (if jump.isNone then .ready else .done) jump fn r size params assign body dfr) (x := .loop { lo with state := if jump.isNone then .ready else .done, pending := jump }) rfl
   ⟨rfl, rfl, q3, q4, q5, q6, q7, q8, q9, q10⟩
  rw [← hw5] at G5
  refine ⟨G (c.finish (.bool jump.isNone)) cs, w5, seen P b.fn es, ?_, rfl, G5.stays.guar hes, ?_⟩
  ·rcases hh with ⟨rfl, k, rfl⟩ | ⟨id, k, rfl, rfl, hex⟩ | ⟨rfl, rfl⟩
   ·simp only [G, stepG, stepG.exec, FB.at, hro, hrun]
    simp [doReturn, GStep.after, hk]
   ·simp only [G, stepG, stepG.exec, FB.at, hro, hex, Option.elim, hrun]
    simp [doReturn, GStep.after, hk]
   ·simp only [G, stepG, stepG.exec, FB.at, hro, hrun]
    simp [doReturn, GStep.after, hk]
  ·rcases hF with hK | ⟨σ, h', g, hK⟩
   ·exact hc _ _ _ _ _ _ hK G5.rel (Env.upto_refl _ _) (by rw [List.length_set]; exact hn) (.inr ⟨by simp [VOk], by simp [ren]⟩)
   ·exact hc _ _ _ _ _ _ hK (g.rel G5.rel) g.upto g.le (.inr ⟨by simp [VOk], by simp [ren]⟩)
theorem good_round (hJ : Closed P main J) {l : Nat} {args : List Value} {K : Value → List AObj → Prop} {pend : Option Code} {r : Nat → Value} {size : Nat} {params : Array Tmp} {assign body : Code} {dfr : Nat}
  (hl : h[l]? = some (.loop .ready pend fn r size params assign body dfr)) (hn : params.size = args.length) (hp : ∀ t ∈ params.toList, t < size)
  (hs : heapOk h → Sem J size h.length (fn + 1000000) assign ⟨putAll r params.toList args, []⟩ h fun e f1 h1 => e = .normal ∧ ∃ pend fn' r' size' params' assign' body' dfr', h1[l]? = some (.loop .ready pend fn' r' size' params' assign' body' dfr') ∧
   Sem J size h.length (fn + 1000000) body f1 (h1.set l (.loop .busy pend fn' r' size' params' assign' body' dfr')) (roundQ l h.length K)) : Good P J (yid P l) args h K := by
 have hge : P.funcs.size ≤ yid P l := Nat.le_add_right _ _
 have hll : yid P l - P.funcs.size = l := by simp [yid]
 have hlt : l < h.length := (List.getElem?_eq_some_iff.1 hl).1
 refine .inl ⟨.inr ⟨hge, _, _, _, _, _, _, _, _, _, by rw [hll]; exact hl, hn⟩, fun ρ FC w ft cs c cargs fr H hr hlen hent hc => ?_⟩
 rcases hent with ⟨hlt, _⟩ | ⟨_, lo, hlo, hsz, rfl⟩
 ·omega
 ·rw [hll] at hlo
  rw [hll]
  have hobj := H.obj _ _ hl
  rw [hlo] at hobj
  obtain ⟨q1, q2, q3, q4, q5, q6, q7, q8, q9, q10⟩ := hobj
  subst q3
  have hreg := regs_putAll params.toList args cargs q4 (by rw [q5]; exact hp) hlen.symm hr
  have hz : (lo.params.zip ⟨cargs⟩).foldl (fun tmps (t, a) => tmps.setIfInBounds t a) lo.tmps = (params.toList.zip cargs).foldl (fun tmps (t, a) => tmps.setIfInBounds t a) lo.tmps := by
   rw [q6]
   exact zip_fold params.toList cargs lo.tmps
  rw [hz, q7, q8]
  have hfr : Frame.round (ρ.blk l) lo.fn ((params.toList.zip cargs).foldl (fun tmps (t, a) => tmps.setIfInBounds t a) lo.tmps) assign body .normal = FB.at ⟨lo.fn, .normal, some (ρ.blk l), []⟩ ⟨(params.toList.zip cargs).foldl (fun tmps (t, a) => tmps.setIfInBounds t a) lo.tmps, []⟩ [.code assign, .beginRound, .code body] := rfl
  rw [hfr]
  refine hs H.ok ⟨lo.fn, .normal, some (ρ.blk l), []⟩ _ [.beginRound, .code body] (c :: cs) (fun _ _ _ _ => False) ρ FC w ft rfl (by simp) (fun _ _ _ _ _ x _ => x.elim) ⟨hreg.1, by rw [hreg.2, q5], rfl, by simp⟩ H (Nat.le_refl _) ?_
  intro e f1 h1 ρ1 w1 ft1 a1 q A1 H1 hu1 hn1
  obtain ⟨rfl, pend', fn', r', size', params', assign', body', dfr', hl1, hb⟩ := q
  show J (G (FB.at ⟨lo.fn, .normal, some (ρ.blk l), []⟩ a1 [.beginRound, .code body]) (c :: cs)) w1 ft1
  refine hJ.step rfl fun w2 hr2 => ?_
  have H2 := H1.rely hr2
  have hbl : ρ1.blk l = ρ.blk l := (hu1 l hlt).1
  have hobj := H2.obj _ _ hl1
  have hrd := H2.rd _ _ hl1 rfl
  have hwr := H2.wr _ _ hl1 rfl
  match hlo2 : w2.heap[ρ1.blk l]?, hobj with
  | some (.loop lo2), hobj =>
   obtain ⟨p1, p2, p3, p4, p5, p6, p7, p8, p9, p10⟩ := hobj
   have hrun : RunsTo P (EvOk ft1) (do (some (ρ.blk l)).elim (stuck "beginRound: no round") Instr.beginRound; pure Next.skip) w2 fun nx w3 => nx = .skip ∧ w3 = { w2 with heap := w2.heap.setIfInBounds (ρ1.blk l) (.loop { lo2 with state := .busy }) } := by
    simp only [Option.elim]
    rw [← hbl]
    unfold Instr.beginRound Instr.getLoop
    refine RunsTo.bind (RunsTo.bind (RunsTo.bind (RunsTo.getObj hlo2 (fun _ _ _ e => by cases e) ⟨rfl, hrd, fun e => by cases e⟩ (RunsTo.pure ?_))))
    refine RunsTo.bind (RunsTo.setObj hlo2 (fun _ _ _ e => by cases e) ⟨rfl, hrd, fun _ => hwr⟩ ?_)
    rw [p1]
    exact RunsTo.pure (RunsTo.pure ⟨rfl, rfl⟩)
   obtain ⟨nx, w3, es, hr3, he3, rfl, hw3⟩ := hrun #[] (by simp)
   have hes : ∀ e ∈ seen P lo.fn es, EvOk ft1 e := fun e hm => he3 e (mem_seen hm)
   have G3 := H2.setBlk hl1 rfl (o := .loop .busy pend' fn' r' size' params' assign' body' dfr') (x := .loop { lo2 with state := .busy }) rfl ⟨rfl, p2, p3, p4, p5, p6, p7, p8, p9, p10⟩
   rw [← hw3] at G3
   refine ⟨G (FB.at ⟨lo.fn, .normal, some (ρ.blk l), []⟩ a1 [.code body]) (c :: cs), w3, seen P lo.fn es, ?_, rfl, G3.stays.guar hes, ?_⟩
   ·simp only [G, stepG, stepG.exec, FB.at, stepG.apply, hr3, if_true]
    simp [GStep.after, Frame.finish]
   ·have A3 := upto_act G3.upto G3.len A1
    refine hb ⟨lo.fn, .normal, some (ρ.blk l), []⟩ a1 [] (c :: cs) (fun jump a w ft => ∀ todo, Heads jump todo → J (G (FB.at ⟨lo.fn, .normal, some (ρ.blk l), []⟩ a todo) (c :: cs)) w ft) ρ1 FC w3 _ rfl (by simp) (fun _ _ _ _ _ x y => x _ y) A3 G3.rel (by rw [List.length_set]; exact hn1) ?_
    intro e f4 h4 ρ4 w4 ft4 a4 q A4 H4 hu4 hn4
    obtain ⟨st, pend, fn, r, size, params, assign, body, dfr, hl4, hq⟩ := q
    have hu : Env.upto h.length ρ ρ4 := Env.upto_trans hu1 hu4
    have hro : (⟨lo.fn, .normal, some (ρ.blk l), []⟩ : FB).ro = some (ρ4.blk l) := by rw [(hu l hlt).1]
    have fin : ∀ (jump : Option Code), Fin h.length K jump.isNone (h4.set l (.loop (if jump.isNone then .ready else .done) jump fn r size params assign body dfr)) → ∀ todo, Heads jump todo → J (G (FB.at ⟨lo.fn, .normal, some (ρ.blk l), []⟩ a4 todo) (c :: cs)) w4 ft4 :=
     fun jump hF todo hh => leave_round hJ hro rfl hh H4 hl4 hF hn4 fun v h' ρ' w' ft' cv k r1 r2 r3 r4 => hc v h' ρ' w' ft' cv k r1 (Env.upto_trans hu r2) r3 r4
    cases e with
    | normal => exact fin none hq [] (.inr (.inr ⟨rfl, rfl⟩))
    | exit id => exact fin (some (.exit id)) hq
    | ret => exact fin (some .ret) hq
    | goto l => exact hq.elim
    | panic l => exact hq.elim
    | outgrown => exact hq.elim
end
end Go.Proofs.Ythnccaajpdnndaa
namespace Go.Proofs.Ythnccaajpdnndaa
open Go.Conc Go.Proofs.Try
set_option maxRecDepth 100000
set_option maxHeartbeats 4000000
set_option linter.unusedVariables false
section
variable {main : Bool} {J : JT} {n0 : Nat} {h : List AObj} {K : Value → List AObj → Prop}
theorem at67 : prog.funcs[67]? = some f67 := by kernel_rfl
theorem body67 : f67.body = some (codeOf f67) := by kernel_rfl
def pl67 : Plans := []
def ct67 : Cuts := .go
theorem pok67 : plansOk prog pl67 (codeOf f67) = true := by kernel_rfl
theorem e67 : W prog J 2 h.length 67 (codeOf f67) (RG.mk (regs []) []) h (RetQ prog [.cell 0 31] h.length K) =
(aAlloc [(vint 0), (vint 0), (vint 0), (vint 0), (vint 0), (vint 0)] h fun v1 h2 =>
 aFill [(vint 0), (vint 0), (vint 0), (vint 0), (vint 0), (vint 0)] [(0, 1, (vint 12)), (1, 1, (vint 20)), (2, 1, (vint 1)), (3, 1, (vint 4)), (4, 1, (vint 3)), (5, 1, (vint 2))] fun c3 =>
 aStore 6 v1 (Value.agg ⟨c3⟩) h2 fun h4 =>
 RetQ prog [.cell 0 31] h.length K .ret (RG.p (RG.p (RG.mk (regs []) []) 0 v1) 1 (Value.agg ⟨c3⟩)) h4) := top_eq pok67 ct67 (by kernel_rfl)
theorem g67 (hJ : Closed prog main J) (hs : heapOk h → W prog J 2 h.length 67 (codeOf f67) (RG.mk (regs []) []) h (RetQ prog [.cell 0 31] h.length K)) : Good prog J 67 [] h K :=
 good_of_W hJ mixed at67 body67 (by kernel_rfl) (Nat.le_of_ble_eq_true rfl) hs
theorem at68 : prog.funcs[68]? = some f68 := by kernel_rfl
theorem body68 : f68.body = some (codeOf f68) := by kernel_rfl
def pl68 : Plans := []
def ct68 : Cuts := .go
theorem pok68 : plansOk prog pl68 (codeOf f68) = true := by kernel_rfl
theorem e68 : W prog J 2 h.length 68 (codeOf f68) (RG.mk (regs []) []) h (RetQ prog [.cell 0 24] h.length K) =
(aAlloc [(vint 0), (vint 0), (vint 0)] h fun v1 h2 =>
 aFill [(vint 0), (vint 0), (vint 0)] [(0, 1, (vint 3)), (1, 1, (vint 2)), (2, 1, (vint 2))] fun c3 =>
 aStore 3 v1 (Value.agg ⟨c3⟩) h2 fun h4 =>
 RetQ prog [.cell 0 24] h.length K .ret (RG.p (RG.p (RG.mk (regs []) []) 0 v1) 1 (Value.agg ⟨c3⟩)) h4) := top_eq pok68 ct68 (by kernel_rfl)
theorem g68 (hJ : Closed prog main J) (hs : heapOk h → W prog J 2 h.length 68 (codeOf f68) (RG.mk (regs []) []) h (RetQ prog [.cell 0 24] h.length K)) : Good prog J 68 [] h K :=
 good_of_W hJ mixed at68 body68 (by kernel_rfl) (Nat.le_of_ble_eq_true rfl) hs
theorem at53 : prog.funcs[53]? = some f53 := by kernel_rfl
theorem body53 : f53.body = some (codeOf f53) := by kernel_rfl
def pl53 : Plans := [(6, true, .take 0 (.take 1 (.take 2 (.take 3 (.take 4 (.take 5 (.take 6 (.take 7 (.take 8 (.fin))))))))))]
def ct53 : Cuts := .go
theorem pok53 : plansOk prog pl53 (codeOf f53) = true := by kernel_rfl
theorem e53 {a0 a1 : Value} : W prog J 26 h.length 53 (codeOf f53) (RG.mk (regs [a0, a1]) []) h (RetQ prog [.tmp 4] h.length K) =
(aLenS a0 fun v1 =>
 aLenS a1 fun v2 =>
 aBin prog .neq 3 v1 v2 fun v3 =>
 cnd v3
(retL h.length K [] [(Value.bool false)] h)
(Sem J 26 h.length 53 (subC [1, 1, 0, 1, 0] (codeOf f53)) (RG.p (RG.p (RG.p (RG.p (RG.p (RG.p (RG.p (RG.mk (regs [a0, a1]) []) 4 (Value.bool false)) 6 a0) 7 v1) 8 a1) 9 v2) 10 v3) 5 (vint 0)) h (contX pl53 prog J 26 h.length 53 ct53 [1, 1, 0, 1, 0] (codeOf f53) [] (RetQ prog [.tmp 4] h.length K)))) := top_eq pok53 ct53 (by kernel_rfl)
theorem g53 (hJ : Closed prog main J) {a0 a1 : Value} (hs : heapOk h → W prog J 26 h.length 53 (codeOf f53) (RG.mk (regs [a0, a1]) []) h (RetQ prog [.tmp 4] h.length K)) : Good prog J 53 [a0, a1] h K :=
 good_of_W hJ mixed at53 body53 (by kernel_rfl) (Nat.le_of_ble_eq_true rfl) hs
theorem s53_1 {f : RG} {nx0 : RG → List AObj → Prop} : W prog J 26 n0 53 (subC [1, 1, 0, 1, 0, 0] (codeOf f53)) f h (thenK nx0 (contX pl53 prog J 26 n0 53 ct53 [1, 1, 0, 1, 0] (codeOf f53) [] (RetQ prog [.tmp 4] n0 K))) =
(aLenS (f.r 0) fun v1 =>
 aBin prog .lss 3 (f.r 5) v1 fun v2 =>
 cnd v2
(aIdx 2 (f.r 0) (f.r 5) fun v3 =>
 aLoad true 2 v3 h fun v4 =>
 aIdx 2 (f.r 1) (f.r 5) fun v5 =>
 aLoad true 2 v5 h fun v6 =>
 aBin prog .neq 61 v4 v6 fun v7 =>
 cnd v7
(retL n0 K f.ds [(Value.bool false)] h)
(aBin prog .add 3 (f.r 5) (vint 1) fun v8 =>
 nx0 (RG.p (RG.p (RG.p (RG.p (RG.p (RG.p (RG.p (RG.p (RG.p (RG.p (RG.p (RG.p (RG.p (RG.p (RG.p (RG.p f 11 (f.r 5)) 12 (f.r 0)) 13 v1) 14 v2) 17 (f.r 0)) 18 (f.r 5)) 19 v3) 20 v4) 21 (f.r 1)) 22 (f.r 5)) 23 v5) 24 v6) 25 v7) 15 (f.r 5)) 16 v8) 5 v8) h))
(retL n0 K f.ds [(Value.bool true)] h)) := sub_eq pok53 ct53 (by kernel_rfl)
theorem l53_1 (hJ : Closed prog main J) {S : Type} (μ : S → Nat) (I : S → RG → List AObj → Prop) (hI : ∀ s f h, I s f h → heapOk h → n0 ≤ h.length → W prog J 26 n0 53 (subC [1, 1, 0, 1, 0, 0] (codeOf f53)) f h (thenK (Nx n0 μ I s) (contX pl53 prog J 26 n0 53 ct53 [1, 1, 0, 1, 0] (codeOf f53) [] (RetQ prog [.tmp 4] n0 K))))
 {s : S} {f : RG} (hi : Gets n0 I s f h) : Sem J 26 n0 53 (subC [1, 1, 0, 1, 0] (codeOf f53)) f h (contX pl53 prog J 26 n0 53 ct53 [1, 1, 0, 1, 0] (codeOf f53) [] (RetQ prog [.tmp 4] n0 K)) :=
 loop_rule hJ mixed (b := subC [1, 1, 0, 1, 0, 0] (codeOf f53)) (by kernel_rfl) μ I hI hi
end
end Go.Proofs.Ythnccaajpdnndaa
