/- Parts of the proof, 2. No conditions. -/
import Derived.Test.YtdgpacdknpahnaaK1
import Derived.Laws.Sem
import Derived.Orders
import Derived.Test.YtdgpacdknpahnaaProg

/- Blocks that nobody needs any more are forgotten, others get new numbers. No conditions. -/
namespace Go.Proofs.Ytdgpacdknpahnaa
open Go.Conc

def subFn (σ : Nat → Nat) : Fn → Fn
  | .yield l => .yield (σ l)
  | f => f

mutual
/-- Block numbers replaced. -/
def sub (σ : Nat → Nat) : Value → Value
  | .pointer (some a) => .pointer (some ⟨σ a.block, a.off, a.spot⟩)
  | .slice (some a) n c => .slice (some ⟨σ a.block, a.off, a.spot⟩) n c
  | .map (some r) => .map (some (σ r))
  | .chan (some r) => .chan (some (σ r))
  | .func fn first cap => .func (subFn σ fn) (subA σ first) (subA σ cap)
  | .iface t v => .iface t (sub σ v)
  | .agg cs => .agg (subA σ cs)
  | .tuple vs => .tuple (subA σ vs)
  | .bool b => .bool b
  | .int k n => .int k n
  | .float k n => .float k n
  | .complex k a b => .complex k a b
  | .string s => .string s
  | .pointer none => .pointer none
  | .slice none n c => .slice none n c
  | .map none => .map none
  | .chan none => .chan none
  | .nilFunc => .nilFunc
  | .nilIface => .nilIface
def subA (σ : Nat → Nat) : Array Value → Array Value
  | ⟨l⟩ => ⟨subL σ l⟩
def subL (σ : Nat → Nat) : List Value → List Value
  | [] => []
  | v :: l => sub σ v :: subL σ l
end

def Env.comp (ρ : Env) (σ : Nat → Nat) : Env := ⟨fun b => ρ.blk (σ b), fun b => ρ.cap (σ b)⟩

section
variable {ρ : Env} {σ : Nat → Nat} {n m : Nat}

theorem subL_eq (l : List Value) : subL σ l = l.map (sub σ) := by
  induction l with
  | nil => simp [subL]
  | cons v l ih => simp [subL, ih]

mutual
theorem ren_sub : ∀ v : Value, ren ρ (sub σ v) = ren (ρ.comp σ) v
  | .pointer (some a) => by simp [sub, ren, renAddr, Env.comp]
  | .slice (some a) _ _ => by simp [sub, ren, renAddr, renCap, Env.comp]
  | .map (some r) => by simp [sub, ren, Env.comp]
  | .chan (some r) => by simp [sub, ren, Env.comp]
  | .func fn first cap => by
    have hf : renFn ρ (subFn σ fn) = renFn (ρ.comp σ) fn := by cases fn <;> simp [renFn, subFn, Env.comp]
    simp only [sub, ren, hf, renA_sub first, renA_sub cap]
  | .iface _ v => by simp only [sub, ren, ren_sub v]
  | .agg cs => by simp only [sub, ren, renA_sub cs]
  | .tuple vs => by simp only [sub, ren, renA_sub vs]
  | .bool _ | .int _ _ | .float _ _ | .complex _ _ _ | .string _ | .pointer none | .slice none _ _ | .map none | .chan none | .nilFunc | .nilIface => by simp only [sub, ren]
theorem renA_sub : ∀ a : Array Value, renA ρ (subA σ a) = renA (ρ.comp σ) a
  | ⟨l⟩ => by simp only [subA, renA, renL_sub l]
theorem renL_sub : ∀ l : List Value, renL ρ (subL σ l) = renL (ρ.comp σ) l
  | [] => by simp only [subL, renL]
  | v :: l => by simp only [subL, renL, ren_sub v, renL_sub l]
end

/-- Where the replacement turns nothing below n. -/
def Same (n : Nat) (σ : Nat → Nat) : Prop := ∀ b, b < n → σ b = b

mutual
theorem sub_same (h : Same n σ) : ∀ v : Value, VOk n v → sub σ v = v
  | .pointer (some a), hv => by simp only [VOk, AddrOk] at hv; simp [sub, h _ hv.1]
  | .slice (some a) _ _, hv => by simp only [VOk, AddrOk] at hv; simp [sub, h _ hv.1]
  | .map (some r), hv => by simp only [VOk] at hv; simp [sub, h _ hv]
  | .chan (some r), hv => by simp only [VOk] at hv; simp [sub, h _ hv]
  | .func fn first cap, hv => by
    simp only [VOk] at hv
    have hf : subFn σ fn = fn := by
      cases fn <;> simp only [subFn]
      have := hv.1
      simp only [FnOk] at this
      rw [h _ this]
    simp only [sub, hf, subA_same h first hv.2.1, subA_same h cap hv.2.2]
  | .iface _ v, hv => by simp only [VOk] at hv; simp only [sub, sub_same h v hv]
  | .agg cs, hv => by simp only [VOk] at hv; simp only [sub, subA_same h cs hv]
  | .tuple vs, hv => by simp only [VOk] at hv; simp only [sub, subA_same h vs hv]
  | .bool _, _ | .int _ _, _ | .float _ _, _ | .complex _ _ _, _ | .string _, _ | .pointer none, _ | .slice none _ _, _ | .map none, _ | .chan none, _ | .nilFunc, _ | .nilIface, _ => by simp only [sub]
theorem subA_same (h : Same n σ) : ∀ a : Array Value, AOk n a → subA σ a = a
  | ⟨l⟩, hv => by simp only [AOk] at hv; simp only [subA, subL_same h l hv]
theorem subL_same (h : Same n σ) : ∀ l : List Value, LOk n l → subL σ l = l
  | [], _ => by simp only [subL]
  | v :: l, hv => by simp only [LOk] at hv; simp only [subL, sub_same h v hv.1, subL_same h l hv.2]
end

theorem one_sub (v : Value) : one (sub σ v) = one v := by
  cases v with
  | pointer a => cases a <;> rfl
  | slice a _ _ => cases a <;> rfl
  | map a => cases a <;> rfl
  | chan a => cases a <;> rfl
  | _ => rfl

theorem sub_undef : sub σ unk = unk := by simp [unk, sub, subA, subL]
end

def ROk (n : Nat) (r : Nat → Value) : Prop := ∀ t, r t = unk ∨ VOk n (r t)

def objOk (n : Nat) : AObj → Prop
  | .dead => True
  | .cells c _ _ => LOk n c
  | .map es _ => ∀ e ∈ es, VOk 0 e.1 ∧ VOk n e.2
  | .loop _ _ _ r _ _ _ _ dfr => ROk n r ∧ dfr < n
  | .deferred => True

def heapOk (h : List AObj) : Prop := ∀ (i : Nat) (o : AObj), h[i]? = some o → objOk h.length o

def subO (σ : Nat → Nat) : AObj → AObj
  | .dead => .dead
  | .cells c wr sz => .cells (c.map (sub σ)) wr sz
  | .map es wr => .map (es.map fun e => (e.1, sub σ e.2)) wr
  | .loop st pend fn r size params assign body dfr => .loop st pend fn (fun t => sub σ (r t)) size params assign body (σ dfr)
  | .deferred => .deferred

theorem subO_live {σ : Nat → Nat} (o : AObj) : (subO σ o).live = o.live := by cases o <;> rfl
theorem subO_wrt {σ : Nat → Nat} (o : AObj) : (subO σ o).wrt = o.wrt := by cases o <;> rfl

theorem subO_same {n : Nat} {σ : Nat → Nat} (h : Same n σ) {o : AObj} (ho : objOk n o) : subO σ o = o := by
  cases o with
  | dead => rfl
  | deferred => rfl
  | cells c wr sz =>
    simp only [objOk, LOk_iff] at ho
    simp only [subO]
    congr 1
    exact (List.map_congr_left fun v hv => sub_same h v (ho v hv)).trans (List.map_id _)
  | map es wr =>
    simp only [objOk] at ho
    simp only [subO]
    congr 1
    refine (List.map_congr_left fun e he => ?_).trans (List.map_id _)
    rw [sub_same h _ (ho e he).2]
    rfl
  | loop st pend fn r size params assign body dfr =>
    simp only [objOk] at ho
    simp only [subO]
    congr 1
    · funext t
      rcases ho.1 t with e | e
      · rw [e, sub_undef]
      · exact sub_same h _ e
    · exact h _ ho.2

/-- The heap h₂ with other numbers, and without some blocks. -/
structure GC (n0 : Nat) (σ : Nat → Nat) (h₂ h' : List AObj) : Prop where
  le : n0 ≤ h'.length
  same : Same n0 σ
  obj : ∀ (i : Nat) (o : AObj), h'[i]? = some o → o = .dead ∨ h₂[σ i]? = some (subO σ o)
  inj : ∀ (i j : Nat) (o o' : AObj), h'[i]? = some o → h'[j]? = some o' → o.live = true → o'.live = true → σ i = σ j → i = j
  ok : heapOk h'

section
variable {ρ : Env} {σ : Nat → Nat} {n0 n n' : Nat} {h h₂ h' : List AObj} {FC : Frm} {w : World} {ft : Foot} {f f' : RG} {a : Act} {N : Nat}

theorem sub_inv0 {v : Value} (u : sub σ v = .tuple ⟨[]⟩) : v = .tuple ⟨[]⟩ := by
  cases v with
  | tuple vs =>
    obtain ⟨l⟩ := vs
    simp only [sub, subA, subL_eq, Value.tuple.injEq] at u ⊢
    have := congrArg Array.toList u
    simp only [List.map_eq_nil_iff] at this
    rw [this]
  | pointer a => cases a <;> simp [sub] at u
  | slice a _ _ => cases a <;> simp [sub] at u
  | map a => cases a <;> simp [sub] at u
  | chan a => cases a <;> simp [sub] at u
  | _ => simp [sub] at u
theorem sub_inv {v : Value} (u : sub σ v = unk) : v = unk := by
  cases v with
  | tuple vs =>
    obtain ⟨l⟩ := vs
    simp only [sub, subA, subL_eq, unk, Value.tuple.injEq] at u ⊢
    have := congrArg Array.toList u
    simp only at this
    obtain ⟨x, rfl, hx⟩ := List.map_eq_singleton_iff.1 this
    rw [sub_inv0 hx]
  | pointer a => cases a <;> simp [sub, unk] at u
  | slice a _ _ => cases a <;> simp [sub, unk] at u
  | map a => cases a <;> simp [sub, unk] at u
  | chan a => cases a <;> simp [sub, unk] at u
  | _ => simp [sub, unk] at u

theorem RegRel.sub {r r' : Nat → Value} {tmps : Array Value} (hr : RegRel n ρ r tmps) (h : ∀ t, r' t = unk ∨ (r t = sub σ (r' t) ∧ VOk n' (r' t))) : RegRel n' (ρ.comp σ) r' tmps := by
  intro t
  rcases h t with e | ⟨e, ok⟩
  · exact .inl e
  · rcases hr t with u | ⟨_, u⟩
    · rw [e] at u
      have hu : r' t = unk := sub_inv u
      exact .inl hu
    · exact .inr ⟨ok, by rw [u, e, ren_sub]⟩

theorem ORel.sub {b : Nat} {o : AObj} {x : Option Obj} (ho : ORel n ρ (σ b) (subO σ o) x) (hok : objOk n' o) : ORel n' (ρ.comp σ) b o x := by
  cases o with
  | dead => trivial
  | cells c wr sz =>
    match x, ho with
    | some (.cells c' ty fr), ho =>
      obtain ⟨h1, h2, h3, h4⟩ := ho
      simp only [objOk, LOk_iff] at hok
      refine ⟨fun i v hv => ?_, fun hz => by simpa using h2 hz, fun hz => by simpa [Env.comp] using h3 hz, h4⟩
      rcases h1 i (Go.Proofs.Ytdgpacdknpahnaa.sub σ v) (by rw [List.getElem?_map, hv]; rfl) with u | ⟨a1, a2, a3⟩
      · exact .inl ⟨sub_inv u.1, u.2⟩
      · exact .inr ⟨hok v (List.mem_of_getElem? hv), by rw [one_sub] at a2; exact a2, by rw [a3, ren_sub]⟩
  | map es wr =>
    match x, ho with
    | some (.map es' _), ho =>
      simp only [objOk] at hok
      refine ⟨by simpa using ho.1, fun i k v hv => ?_⟩
      obtain ⟨a1, a2, e, a3, a4, a5⟩ := ho.2 i k (Go.Proofs.Ytdgpacdknpahnaa.sub σ v) (by rw [List.getElem?_map, hv]; rfl)
      exact ⟨a1, (hok _ (List.mem_of_getElem? hv)).2, e, a3, a4, by rw [a5, ren_sub]⟩
  | loop st pend fn r size params assign body dfr =>
    match x, ho with
    | some (.loop l), ho =>
      obtain ⟨a1, a2, a3, a4, a5, a6, a7, a8, a9, a10⟩ := ho
      refine ⟨a1, a2, a3, a4.sub fun t => ?_, a5, a6, a7, a8, a9, hok.2⟩
      rcases hok.1 t with e | e
      · exact .inl e
      · exact .inr ⟨rfl, e⟩
  | deferred =>
    match x, ho with
    | some (.deferred (some [])), _ => trivial

theorem GC.rel (g : GC n0 σ h₂ h') (H : HRel ρ h₂ FC w ft) : HRel (ρ.comp σ) h' FC w ft where
  obj := fun b o hb => by
    rcases g.obj b o hb with rfl | e
    · trivial
    · exact (H.obj _ _ e).sub (g.ok b o hb)
  inj := fun b b' o o' hb hb' l l' e => by
    have e1 := (g.obj b o hb).resolve_left (fun x => by rw [x] at l; cases l)
    have e2 := (g.obj b' o' hb').resolve_left (fun x => by rw [x] at l'; cases l')
    exact g.inj b b' o o' hb hb' l l' (H.inj _ _ _ _ e1 e2 (by rw [subO_live]; exact l) (by rw [subO_live]; exact l') e)
  rd := fun b o hb l => by
    have e1 := (g.obj b o hb).resolve_left (fun x => by rw [x] at l; cases l)
    exact H.rd _ _ e1 (by rw [subO_live]; exact l)
  wr := fun b o hb l => by
    have e1 := (g.obj b o hb).resolve_left (fun x => by rw [x] at l; cases l)
    exact H.wr _ _ e1 (by rw [subO_wrt]; exact l)
  lt := H.lt
  sub := H.sub
  kept := fun b o hb => by
    obtain ⟨a1, a2, a3⟩ := H.kept b o hb
    refine ⟨a1, a2, fun i oi hi l => ?_⟩
    have e1 := (g.obj i oi hi).resolve_left (fun x => by rw [x] at l; cases l)
    exact a3 _ _ e1 (by rw [subO_wrt]; exact l)
  keptW := H.keptW

theorem GC.upto (g : GC n0 σ h₂ h') : Env.upto n0 ρ (ρ.comp σ) := fun b hb => by simp [Env.comp, g.same b hb]

theorem HRel.ok (H : HRel ρ h FC w ft) : heapOk h := by
  intro i o hi
  have := H.obj i o hi
  cases o with
  | dead => trivial
  | deferred => trivial
  | cells c wr sz =>
    match hx : w.heap[ρ.blk i]?, this with
    | some (.cells c' ty fr), ho =>
      simp only [objOk, LOk_iff]
      intro v hv
      obtain ⟨j, hj⟩ := List.getElem?_of_mem hv
      exact H.cellOk hi hj
  | map es wr =>
    match hx : w.heap[ρ.blk i]?, this with
    | some (.map es' _), ho =>
      intro e he
      obtain ⟨j, hj⟩ := List.getElem?_of_mem he
      obtain ⟨a1, a2, _⟩ := ho.2 j e.1 e.2 hj
      exact ⟨a1, a2⟩
  | loop st pend fn r size params assign body dfr =>
    match hx : w.heap[ρ.blk i]?, this with
    | some (.loop l), ho =>
      obtain ⟨a1, a2, a3, a4, a5, a6, a7, a8, a9, a10⟩ := ho
      refine ⟨fun t => ?_, a10⟩
      rcases a4 t with e | ⟨e, _⟩
      · exact .inl e
      · exact .inr e

/-- .. and the registers with them. -/
structure GCR (n0 : Nat) (σ : Nat → Nat) (f₂ : RG) (h₂ : List AObj) (f' : RG) (h' : List AObj) : Prop where
  gc : GC n0 σ h₂ h'
  regs : ∀ t, f'.r t = unk ∨ (f₂.r t = sub σ (f'.r t) ∧ VOk h'.length (f'.r t))
  ds : f₂.ds = f'.ds.map σ
  dok : ∀ b ∈ f'.ds, b < h'.length

theorem GCR.act {f₂ : RG} (g : GCR n0 σ f₂ h₂ f' h') (A : ActRel h₂.length ρ N f₂ a) : ActRel h'.length (ρ.comp σ) N f' a :=
  ⟨A.regs.sub g.regs, A.size, by rw [A.defers, g.ds, List.map_map]; rfl, g.dok⟩

variable {P : Program} {main : Bool} {J : JT} {fn : FuncId} {Q : QT}

theorem Sem.gc {c : Code} {f₂ : RG} (g : GCR n0 σ f₂ h₂ f' h') (hs : Sem J N n0 fn c f' h' Q) : Sem J N n0 fn c f₂ h₂ Q := by
  intro b a k cs L ρ FC w ft h1 h2 h3 h4 h5 h6 hc
  exact hs b a k cs L _ FC w ft h1 h2 h3 (g.act h4) (g.gc.rel h5) g.gc.le fun e f3 h3' ρ3 w3 ft3 a3 q r1 r2 r3 r4 => hc e f3 h3' ρ3 w3 ft3 a3 q r1 r2 (Env.upto_trans g.gc.upto r3) r4

theorem Sem.ok {c : Code} (hs : heapOk h → n0 ≤ h.length → Sem J N n0 fn c f h Q) : Sem J N n0 fn c f h Q := by
  intro b a k cs L ρ FC w ft h1 h2 h3 h4 h5 h6 hc
  exact hs h5.ok h6 b a k cs L ρ FC w ft h1 h2 h3 h4 h5 h6 hc

/-- A loop: whoever stands at its head with measure m comes out of the body with a lesser one, or leaves. -/
theorem Sem_loop (hJ : Closed P main J) {c : Code} (I : Nat → RG → List AObj → Prop)
    (hI : ∀ m f h, I m f h → Sem J N n0 fn c f h (thenK (fun f h => ∃ m', m' < m ∧ I m' f h) Q))
    {m : Nat} (h0 : I m f h) : Sem J N n0 fn (.loop c) f h Q := by
  have main : ∀ (m : Nat) (f : RG) (h : List AObj), I m f h → ∀ (b : FB) (a : Act) (k : List Item) (cs : List Frame) (L : Option Code → Act → World → Foot → Prop) (ρ : Env) (FC : Frm) (w : World) (ft : Foot), b.tag = fn → b.kind ≠ .early → LeaveOk J b cs L →
      ActRel h.length ρ N f a → HRel ρ h FC w ft → n0 ≤ h.length → Cont J N n0 b k cs L ρ FC Q → J (G (b.at a (.code c :: .inLoop c :: k)) cs) w ft := by
    intro m
    induction m using Nat.strongRecOn with
    | ind m ih =>
      intro f h hi b a k cs L ρ FC w ft h1 h2 h3 h4 h5 h6 hc
      refine hI m f h hi b a (.inLoop c :: k) cs L ρ FC w ft h1 h2 h3 h4 h5 h6 fun e f' h' ρ' w' ft' a' q g1 g2 g3 g4 => ?_
      cases e with
      | normal =>
        obtain ⟨m', hm, hi'⟩ := q
        refine hJ.ctrl rfl rfl (g' := G (b.at a' (.code c :: .inLoop c :: k)) cs) (fun w => by simp [G, stepG, stepG.exec, FB.at]) ?_
        exact ih m' hm f' h' hi' b a' k cs L _ FC w' ft' h1 h2 h3 g1 g2 g4 fun e f3 h3' ρ3 w3 ft3 a3 q r1 r2 r3 r4 => hc e f3 h3' ρ3 w3 ft3 a3 q r1 r2 (Env.upto_trans g3 r3) r4
      | exit id => exact AfterJ.push (fun _ => rfl) (by simp) (hc _ _ _ _ _ _ _ q g1 g2 g3 g4)
      | ret => exact AfterJ.push (fun _ => rfl) (by simp) (hc _ _ _ _ _ _ _ q g1 g2 g3 g4)
      | goto l => exact hc _ _ _ _ _ _ _ q g1 g2 g3 g4
      | panic l => exact hc _ _ _ _ _ _ _ q g1 g2 g3 g4
      | outgrown => exact hc _ _ _ _ _ _ _ q g1 g2 g3 g4
  intro b a k cs L ρ FC w ft h1 h2 h3 h4 h5 h6 hc
  refine hJ.ctrl rfl rfl (g' := G (b.at a (.code c :: .inLoop c :: k)) cs) (fun w => by simp [G, stepG, stepG.exec, FB.at]) ?_
  exact main m f h h0 b a k cs L ρ FC w ft h1 h2 h3 h4 h5 h6 hc
end
end Go.Proofs.Ytdgpacdknpahnaa

/- A function's beginning and its end; what a piece of code asks, reckoned from its text. No conditions. -/
namespace Go.Proofs.Ytdgpacdknpahnaa
open Go.Conc

/-- The results of a function, in its last state. -/
def resW (P : Program) : List ResultVar → (Nat → Value) → List AObj → (List Value → Prop) → Prop
  | [], _, _, K => K []
  | .tmp t :: rs, r, h, K => r t ≠ unk ∧ resW P rs r h fun vs => K (r t :: vs)
  | .cell a t :: rs, r, h, K => match tk P t with
    | some (g, s) => aLoad g s (r a) h fun v => resW P rs r h fun vs => K (v :: vs)
    | none => False

def pack (vs : List Value) : Value :=
  match vs with
  | [v] => v
  | vs => .tuple ⟨vs⟩

/-- The blocks of deferred calls are taken. -/
def takeW : List Nat → List AObj → (List AObj → Prop) → Prop
  | [], h, K => K h
  | d :: ds, h, K => h[d]? = some .deferred ∧ takeW ds (h.set d .dead) K

/-- What is asked where a function is left. -/
def RetQ (P : Program) (rs : List ResultVar) (n0 : Nat) (K : Value → List AObj → Prop) : QT := fun e f h =>
  match e with
  | .normal | .ret => takeW f.ds h fun h => resW P rs f.r h fun vs => K (pack vs) h ∨ ∃ σ h' v, GC n0 σ h h' ∧ pack vs = sub σ v ∧ VOk h'.length v ∧ K v h'
  | _ => False

section
variable {P : Program} {main : Bool} {J : JT} {N : Nat} {ρ : Env} {h : List AObj} {FC : Frm} {w : World} {ft : Foot} {f : RG} {a : Act} {cs : List Frame} {b : FB}

theorem HRel.clobber (H : HRel ρ h FC w ft) {d : Nat} {o₀ : AObj} (hd : h[d]? = some o₀) (hw : o₀.wrt = true) (x : Obj) : HRel ρ (h.set d .dead) FC { w with heap := w.heap.setIfInBounds (ρ.blk d) x } ft := by
  have hl0 : o₀.live = true := by cases o₀ <;> first | rfl | cases hw
  have hoth : ∀ y, y ≠ ρ.blk d → (w.heap.setIfInBounds (ρ.blk d) x)[y]? = w.heap[y]? := fun y hy => by
    rw [Array.getElem?_setIfInBounds, if_neg (fun e => hy e.symm)]
  refine ⟨fun i o hi => ?_, fun i j o o' hi hj l1 l2 e => ?_, fun i o hi hl => ?_, fun i o hi hl => ?_, fun y hy => ?_, H.sub, fun y o hy => ?_, H.keptW⟩
  · rw [List.length_set]
    rcases set_get hi with ⟨rfl, rfl, _⟩ | ⟨hne, hi⟩
    · trivial
    · cases hl : o.live with
      | false => cases o <;> first | trivial | cases hl
      | true =>
        show ORel h.length ρ i o (w.heap.setIfInBounds (ρ.blk d) x)[ρ.blk i]?
        rw [hoth _ (fun e => hne (H.inj _ _ _ _ hi hd hl hl0 e))]
        exact H.obj _ _ hi
  · rcases set_get hi with ⟨rfl, rfl, _⟩ | ⟨hne, hi⟩
    · cases l1
    · rcases set_get hj with ⟨rfl, rfl, _⟩ | ⟨hne', hj⟩
      · cases l2
      · exact H.inj _ _ _ _ hi hj l1 l2 e
  · rcases set_get hi with ⟨rfl, rfl, _⟩ | ⟨hne, hi⟩
    · cases hl
    · exact H.rd _ _ hi hl
  · rcases set_get hi with ⟨rfl, rfl, _⟩ | ⟨hne, hi⟩
    · cases hl
    · exact H.wr _ _ hi hl
  · simpa using H.lt y hy
  · obtain ⟨a1, a2, a3⟩ := H.kept y o hy
    refine ⟨?_, a2, fun i oi hi hl => ?_⟩
    · show (w.heap.setIfInBounds (ρ.blk d) x)[y]? = some o
      rw [hoth _ (fun e => a3 _ _ hd hw e.symm)]
      exact a1
    · rcases set_get hi with ⟨rfl, rfl, _⟩ | ⟨hne, hi⟩
      · cases hl
      · exact a3 _ _ hi hl

theorem evOk_objW {r : Nat} {x : Obj} (hr : ft.rd r) (hw : ft.wr r) (hx : x.isChan = false) : EvOk ft ⟨.obj r, true, x.isChan⟩ := ⟨hx, hr, fun _ => hw⟩
theorem evOk_objR {r : Nat} {x : Obj} (hr : ft.rd r) (hx : x.isChan = false) : EvOk ft ⟨.obj r, false, x.isChan⟩ := ⟨hx, hr, fun e => by cases e⟩

theorem take_run (H : HRel ρ h FC w ft) {d : Nat} (hd : h[d]? = some .deferred) {Q : List Deferred → World → Prop} (hQ : ∀ w', HRel ρ (h.set d .dead) FC w' ft → Stays ft w w' → w'.heap.size = w.heap.size → Q [] w') : RunsTo P (EvOk ft) (Instr.takeDeferred (ρ.blk d)) w Q := by
  have ho := H.obj d _ hd
  have hrd := H.rd d _ hd rfl
  have hwr := H.wr d _ hd rfl
  match hw : w.heap[ρ.blk d]?, ho with
  | some (.deferred (some [])), _ =>
    unfold Instr.takeDeferred
    refine RunsTo.bind (RunsTo.getObj hw (fun _ _ _ e => by cases e) (evOk_objR hrd rfl) ?_)
    simp only
    refine RunsTo.bind (RunsTo.setObj hw (fun _ _ _ e => by cases e) (evOk_objW hrd hwr rfl) (RunsTo.pure ?_))
    refine hQ _ (H.clobber hd rfl _) ⟨fun y hy hny => ?_, by simp, rfl, rfl, rfl⟩ (by simp)
    show (w.heap.setIfInBounds (ρ.blk d) _)[y]? = _
    have hne : ρ.blk d ≠ y := fun e => hny (by rw [← e]; exact hwr)
    rw [Array.getElem?_setIfInBounds, if_neg hne]

def resF (tmps : Array Value) : ResultVar → Go.Sem Value
  | .tmp t => pure (tmps.getD t undef)
  | .cell x t => do loadVar t (← asAddr (tmps.getD x undef))

theorem res_run (H : HRel ρ h FC w ft) {n : Nat} (hr : RegRel h.length ρ f.r a.tmps) {Q : List Value → World → Prop} : ∀ (rs : List ResultVar) {K : List Value → Prop}, resW P rs f.r h K →
    (∀ vs, K vs → (∀ v ∈ vs, VOk h.length v) → Q (vs.map (ren ρ)) w) →
    RunsTo P (EvOk ft) (rs.mapM (resF a.tmps)) w Q
  | [], K, hK, hQ => by
    rw [List.mapM_nil]
    exact RunsTo.pure (hQ [] hK (by simp))
  | .tmp t :: rs, K, hK, hQ => by
    rw [List.mapM_cons]
    have hv := (hr t).resolve_left hK.1
    refine RunsTo.bind (RunsTo.pure (RunsTo.bind (res_run (n := n) H hr rs hK.2 fun vs hvs hok => RunsTo.pure ?_)))
    rw [hv.2]
    exact hQ (f.r t :: vs) hvs (by simpa using ⟨hv.1, hok⟩)
  | .cell x t :: rs, K, hK, hQ => by
    rw [List.mapM_cons]
    simp only [resW] at hK
    split at hK
    · rename_i g s ht
      have hx : f.r x ≠ unk := by
        intro e
        rw [e] at hK
        exact hK
      have hv := (hr x).resolve_left hx
      have hl : resF a.tmps (.cell x t) = Instr.loadAt t (ren ρ (f.r x)) := by
        unfold resF
        simp only
        rw [hv.2]
        unfold aLoad at hK
        split at hK
        · rename_i e
          rw [e]
          rfl
        · exact hK.elim
      rw [hl]
      refine RunsTo.bind (sound_load H ht hK fun v hk hok => ?_)
      refine RunsTo.bind (res_run (n := n) H hr rs hk fun vs hvs hoks => RunsTo.pure ?_)
      exact hQ (v :: vs) hvs (by simpa using ⟨hok, hoks⟩)
    · exact hK.elim

theorem pack_ren (vs : List Value) : (if h : (vs.map (ren ρ)).toArray.size = 1 then (vs.map (ren ρ)).toArray[0] else .tuple (vs.map (ren ρ)).toArray) = ren ρ (pack vs) := by
  match vs with
  | [] => simp [pack, ren, renA, renL]
  | [v] => simp [pack]
  | v :: u :: vs => simp [pack, ren, renA, renL_eq]

theorem pack_ok {n : Nat} {vs : List Value} (h : ∀ v ∈ vs, VOk n v) : VOk n (pack vs) := by
  match vs with
  | [] => simp [pack, VOk, AOk, LOk]
  | [v] => exact h v (by simp)
  | v :: u :: vs =>
    simp only [pack, VOk, AOk]
    exact (LOk_iff _).2 h

/-- A frame that is on its way out. -/
theorem leave_run (hJ : Closed P main J) {fn : Func} (hk : b.kind = .normal) (hf : P.funcs[b.fn]? = some fn) {c : Frame} {n0 : Nat} {K : Value → List AObj → Prop}
    (hc : ∀ v h' ρ' w' ft' cv, K v h' → HRel ρ' h' FC w' ft' → Env.upto n0 ρ ρ' → n0 ≤ h'.length → VRel h'.length ρ' v cv → J (G (c.finish cv) cs) w' ft') :
    ∀ (ds : List Nat) (h : List AObj) (w : World) (ft : Foot) (a : Act) (fr : Frame), fr.fn = b.fn → fr.kind = .normal → fr.mode = .returning → fr.tmps = a.tmps → fr.defers = ds.map (fun d => { target := .collected (ρ.blk d), args := #[] }) → RegRel h.length ρ f.r a.tmps → HRel ρ h FC w ft → n0 ≤ h.length →
      takeW ds h (fun h => resW P fn.results.toList f.r h fun vs => K (pack vs) h ∨ ∃ σ h' v, GC n0 σ h h' ∧ pack vs = sub σ v ∧ VOk h'.length v ∧ K v h') → J (G fr (c :: cs)) w ft
  | [], h, w, ft, a, fr, e1, e2, e3, e4, e5, hr, H, hn, hq => by
    obtain ⟨fn', tmps, todo, defers, mode, kind, ro⟩ := fr
    simp only at e1 e2 e3 e4 e5
    subst e1 e2 e3 e4 e5
    refine hJ.step rfl fun w₁ h₁ => ?_
    have H₁ := H.rely h₁
    have hrun : RunsTo P (EvOk ft) (results fn a.tmps) w₁ fun cv w' => w' = w₁ ∧ ∃ vs, cv = ren ρ (pack vs) ∧ (∀ v ∈ vs, VOk h.length v) ∧ (K (pack vs) h ∨ ∃ σ h' v, GC n0 σ h h' ∧ pack vs = sub σ v ∧ VOk h'.length v ∧ K v h') := by
      unfold results
      have : (fn.results.mapM (resF a.tmps)) = List.toArray <$> fn.results.toList.mapM (resF a.tmps) := by
        rw [Array.mapM_eq_mapM_toList]
      show RunsTo P (EvOk ft) (do
        let vs ← fn.results.mapM (resF a.tmps)
        pure (if h : vs.size = 1 then vs[0] else .tuple vs)) w₁ _
      rw [this]
      refine RunsTo.bind (RunsTo.map (res_run (n := 0) H₁ hr fn.results.toList hq fun vs hvs hok => RunsTo.pure ⟨rfl, vs, ?_, hok, hvs⟩))
      exact pack_ren vs
    obtain ⟨cv, w', es, hr', he, rfl, vs, rfl, hvok, hvs⟩ := hrun #[] (by simp)
    have hes : ∀ e ∈ seen P b.fn es, EvOk ft e := fun e hm => he e (mem_seen hm)
    refine ⟨G (c.finish (ren ρ (pack vs))) cs, w', seen P b.fn es, ?_, rfl, (Stays.refl ft w').guar hes, ?_⟩
    · simp only [G, stepG, unwind, List.map_nil, hf, hr']
      simp [doReturn, GStep.after]
    · rw [Foot.ext_self]
      rcases hvs with hK | ⟨σ, h', v, g, hp, hok, hK⟩
      · exact hc _ h _ w' ft _ hK H₁ (Env.upto_refl _ _) hn (.inr ⟨pack_ok hvok, rfl⟩)
      · rw [hp, ren_sub]
        exact hc v h' _ w' ft _ hK (g.rel H₁) g.upto g.le (.inr ⟨hok, rfl⟩)
  | d :: ds, h, w, ft, a, fr, e1, e2, e3, e4, e5, hr, H, hn, hq => by
    obtain ⟨fn', tmps, todo, defers, mode, kind, ro⟩ := fr
    simp only at e1 e2 e3 e4 e5
    subst e1 e2 e3 e4 e5
    obtain ⟨hd, hq⟩ := hq
    refine hJ.step rfl fun w₁ h₁ => ?_
    have H₁ := H.rely h₁
    obtain ⟨cv, w', es, hr', he, rfl, H', hst, hsz⟩ := take_run (P := P) H₁ hd (Q := fun l w' => l = [] ∧ HRel ρ (h.set d .dead) FC w' ft ∧ Stays ft w₁ w' ∧ w'.heap.size = w₁.heap.size) (fun w' a1 a2 a3 => ⟨rfl, a1, a2, a3⟩) #[] (by simp)
    have hes : ∀ e ∈ seen P b.fn es, EvOk ft e := fun e hm => he e (mem_seen hm)
    refine ⟨G { fn := b.fn, tmps := a.tmps, todo := todo, defers := ds.map (fun d => { target := .collected (ρ.blk d), args := #[] }), mode := .returning, kind := .normal, roundOf := ro } (c :: cs), w', seen P b.fn es, ?_, rfl, hst.guar hes, ?_⟩
    · simp only [G, stepG, unwind, List.map_cons, hr']
      simp [GStep.after]
    · rw [hsz, Foot.ext_self]
      exact leave_run hJ hk hf hc ds _ w' ft a _ rfl rfl rfl rfl rfl (by rw [List.length_set]; exact hr) H' (by rw [List.length_set]; exact hn) hq
end
end Go.Proofs.Ytdgpacdknpahnaa

/- From a body to a function's contract; what a piece of code asks, reckoned from its text. No conditions. -/
namespace Go.Proofs.Ytdgpacdknpahnaa
open Go.Conc

def regs (args : List Value) : Nat → Value := fun t => args.getD t unk

section
variable {P : Program} {main : Bool} {J : JT} {g : FuncId} {args : List Value} {h : List AObj} {K : Value → List AObj → Prop}

theorem Good.mono {K' : Value → List AObj → Prop} (hg : Good P J g args h K) (hk : ∀ v h, K v h → K' v h) : Good P J g args h K' :=
  ⟨hg.1, fun ρ FC w ft cs c cargs fr h1 h2 h3 he h4 => hg.2 ρ FC w ft cs c cargs fr h1 h2 h3 he fun v h' ρ' w' ft' cv k => h4 v h' ρ' w' ft' cv (hk _ _ k)⟩

theorem good_of_sem (hJ : Closed P main J) {fn : Func} (hf : P.funcs[g]? = some fn) {c : Code} (hb : fn.body = some c) (hn : (fn.name == "runtime.NumGoroutine") = false) (ha : args.length ≤ fn.ntmps)
    (hs : heapOk h → Sem J fn.ntmps h.length g c ⟨regs args, []⟩ h (RetQ P fn.results.toList h.length K)) : Good P J g args h K := by
  have hlt : g < P.funcs.size := (Array.getElem?_eq_some_iff.1 hf).1
  refine ⟨.inl ⟨hlt, by simp [callable, hf, hb, hn]⟩, fun ρ FC w ft cs c' cargs fr H hr hl hent hc => ?_⟩
  obtain rfl : fr = Frame.enter P g ⟨cargs⟩ .normal := by
    rcases hent with ⟨_, e⟩ | ⟨hge, _⟩
    · exact e
    · exact absurd hlt (Nat.not_lt.2 hge)
  have he : Frame.enter P g ⟨cargs⟩ .normal = FB.at ⟨g, .normal, none⟩ ⟨⟨cargs⟩ ++ Array.replicate (fn.ntmps - cargs.length) undef, []⟩ [.code c] := by
    simp [Frame.enter, FB.at, hf, hb]
  rw [he]
  have A : ActRel h.length ρ fn.ntmps ⟨regs args, []⟩ ⟨⟨cargs⟩ ++ Array.replicate (fn.ntmps - cargs.length) undef, []⟩ := by
    refine ⟨fun t => ?_, by simp; omega, rfl, by simp⟩
    have := hr t
    have ht : ((⟨cargs⟩ : Array Value) ++ Array.replicate (fn.ntmps - cargs.length) undef).getD t undef = cargs.getD t undef := by
      rw [Array.getD_eq_getD_getElem?, List.getD_eq_getElem?_getD]
      by_cases hx : t < cargs.length
      · rw [Array.getElem?_append_left (by simpa using hx)]
        simp
      · rw [Array.getElem?_append_right (by simp; omega), List.getElem?_eq_none (by omega)]
        simp only [Array.getElem?_replicate]
        split <;> rfl
    rw [ht]
    exact this
  have last : ∀ f' h' ρ' w' ft' a' todo, RetQ P fn.results.toList h.length K .ret f' h' → ActRel h'.length ρ' fn.ntmps f' a' → HRel ρ' h' FC w' ft' → Env.upto h.length ρ ρ' → h.length ≤ h'.length →
      J (G { (FB.at ⟨g, .normal, none⟩ a' todo) with mode := .returning } (c' :: cs)) w' ft' := by
    intro f' h' ρ' w' ft' a' todo q A' H' hu hl
    exact leave_run (b := ⟨g, .normal, none⟩) (f := f') (n0 := h.length) (ρ := ρ') hJ rfl hf (fun v h2 ρ2 w2 ft2 cv k H2 u2 l2 v2 => hc v h2 ρ2 w2 ft2 cv k H2 (Env.upto_trans hu u2) l2 v2) f'.ds h' w' ft' a' _ rfl rfl rfl rfl A'.defers A'.regs H' hl q
  refine hs H.ok ⟨g, .normal, none⟩ _ [] (c' :: cs) (fun jump a w ft => jump = some .ret ∧ ∀ todo, J (G { (FB.at ⟨g, .normal, none⟩ a todo) with mode := .returning } (c' :: cs)) w ft) ρ FC w ft rfl (by simp) ?_ A H (Nat.le_refl _) ?_
  · rintro jump a w ft todo ⟨rfl, hj⟩ hh
    rcases hh with ⟨_, k, rfl⟩ | ⟨id, k, e, _⟩ | ⟨e, _⟩
    · exact hJ.ctrl rfl rfl (fun w => by simp [G, stepG, stepG.exec, FB.at]) (hj (.code .ret :: k))
    · cases e
    · cases e
  · intro e f' h' ρ' w' ft' a' q A' H' hu hl
    cases e with
    | normal => exact hJ.ctrl rfl rfl (fun w => by simp [G, stepG, stepG.exec, FB.at]) (last f' h' ρ' w' ft' a' [] q A' H' hu hl)
    | ret => exact ⟨rfl, fun todo => last f' h' ρ' w' ft' a' todo q A' H' hu hl⟩
    | exit id => exact q.elim
    | goto l => exact q.elim
    | panic l => exact q.elim
    | outgrown => exact q.elim

end
end Go.Proofs.Ytdgpacdknpahnaa

/- Operations that leave the heap alone: what they hand on hangs on their operands, and on one block that they read. No conditions. -/
namespace Go.Proofs.Ytdgpacdknpahnaa
open Go.Conc

/-- Such an operation hands on one value, whatever is asked of it. -/
def Pin (F : (Value → Prop) → Prop) : Prop := ∀ K, F K → ∃ v, K v ∧ ∀ K1 : Value → Prop, K1 v → F K1

section
variable {P : Program}

theorem pin_const (v : Value) : Pin fun K => K v := fun _ h => ⟨v, h, fun _ h => h⟩
theorem pin_no : Pin fun _ => False := fun _ h => h.elim
theorem pin_and {p : Prop} {F : (Value → Prop) → Prop} (h : Pin F) : Pin fun K => p ∧ F K := fun K hk => by
  obtain ⟨v, a, b⟩ := h K hk.2
  exact ⟨v, a, fun K1 k => ⟨hk.1, b K1 k⟩⟩

theorem pin_aLoad {g : Bool} {s : Nat} {p : Value} {h : List AObj} : Pin (aLoad g s p h) := by
  intro K hK
  unfold aLoad at hK ⊢
  split at hK
  · split at hK
    · rename_i hb
      cases g with
      | true => exact ⟨_, hK.2.2, fun K1 k => ⟨hK.1, hK.2.1, k⟩⟩
      | false =>
        simp only [cond_false] at hK
        split at hK
        · rename_i hv
          exact ⟨_, hK.2, fun K1 k => by first | exact ⟨hK.1, k⟩ | (simp only [cond_false]; exact ⟨hK.1, k⟩) | (simp only [cond_false, hv]; exact ⟨hK.1, k⟩)⟩
        · exact hK.elim
    · exact hK.elim
  · exact hK.elim
theorem pin_aField {g : Bool} {s o : Nat} {x : Value} : Pin (aField g s o x) := by
  intro K hK
  unfold aField at hK ⊢
  split at hK
  · cases g with
    | true => exact ⟨_, hK.2, fun K1 k => ⟨hK.1, k⟩⟩
    | false =>
      simp only [cond_false] at hK
      split at hK
      · rename_i hv
        exact ⟨_, hK, fun K1 k => by first | exact k | (simp only [cond_false]; exact k) | (simp only [cond_false, hv]; exact k)⟩
      · exact hK.elim
  · exact hK.elim
theorem pin_aOff {p : Value} {o : Nat} : Pin (aOff p o) := by
  intro K hK
  unfold aOff at hK ⊢
  split at hK
  · exact ⟨_, hK, fun K1 k => k⟩
  · exact hK.elim
theorem pin_aIdx {s : Nat} {x i : Value} : Pin (aIdx s x i) := by
  intro K hK
  unfold aIdx at hK ⊢
  split at hK
  · exact ⟨_, hK.2, fun K1 k => ⟨hK.1, k⟩⟩
  · exact hK.elim
theorem pin_aIdxA {l s : Nat} {x i : Value} : Pin (aIdxA l s x i) := by
  intro K hK
  unfold aIdxA at hK ⊢
  split at hK
  · exact ⟨_, hK.2, fun K1 k => ⟨hK.1, k⟩⟩
  · exact hK.elim
theorem pin_aInt {op : BinOp} {k : IntKind} {a b : Int} : Pin (aInt op k a b) := by
  cases op <;> first | exact pin_no | exact pin_const _ | exact pin_and (pin_const _)
theorem pin_aShift {op : BinOp} {k : IntKind} {a b : Int} : Pin (aShift op k a b) := by
  unfold aShift
  refine pin_and ?_
  cases op <;> first | exact pin_no | exact pin_const _
theorem pin_aEq {n : Bool} {t : TypeId} {x y : Value} : Pin (aEq P n t x y) := by
  intro K hK
  unfold aEq at hK ⊢
  split at hK
  · rename_i hb
    exact ⟨_, hK.2, fun K1 k => by first | exact ⟨hK.1, k⟩ | (simp only [hb]; exact ⟨hK.1, k⟩)⟩
  · exact hK.elim
theorem pin_aStr {op : BinOp} {a b : ByteArray} : Pin (aStr op a b) := by
  cases op <;> first | exact pin_no | exact pin_const _ | exact pin_and (pin_const _)
theorem pin_aBin {op : BinOp} {t : TypeId} {x y : Value} : Pin (aBin P op t x y) := by
  intro K hK
  have hh := hK
  unfold aBin at hK
  split at hK
  · split at hK
    · obtain ⟨v, a, b⟩ := pin_aShift K hK
      exact ⟨v, a, fun K1 k => by unfold aBin; exact b K1 k⟩
    · obtain ⟨v, a, b⟩ := pin_aShift K hK
      exact ⟨v, a, fun K1 k => by unfold aBin; exact b K1 k⟩
    · rename_i n1 n2
      obtain ⟨v, a, b⟩ := pin_aInt K hK.2
      refine ⟨v, a, fun K1 k => ?_⟩
      unfold aBin
      cases op <;> first | exact ⟨hK.1, b K1 k⟩ | exact absurd rfl n1 | exact absurd rfl n2
  · obtain ⟨v, a, b⟩ := pin_aStr K hK
    exact ⟨v, a, fun K1 k => by unfold aBin; exact b K1 k⟩
  · rename_i n1 n2
    cases op <;> first | exact hK.elim | skip
    · obtain ⟨v, a, b⟩ := pin_aEq K hK
      refine ⟨v, a, fun K1 k => ?_⟩
      unfold aBin
      split
      · exact absurd rfl (n1 _ _ _ _ rfl)
      · exact absurd rfl (n2 _ _ rfl)
      · exact b K1 k
    · obtain ⟨v, a, b⟩ := pin_aEq K hK
      refine ⟨v, a, fun K1 k => ?_⟩
      unfold aBin
      split
      · exact absurd rfl (n1 _ _ _ _ rfl)
      · exact absurd rfl (n2 _ _ rfl)
      · exact b K1 k
theorem pin_aUn {op : UnOp} {x : Value} : Pin (aUn op x) := by
  intro K hK
  unfold aUn at hK ⊢
  split at hK
  · exact ⟨_, hK, fun K1 k => k⟩
  · exact ⟨_, hK, fun K1 k => k⟩
  · exact hK.elim
theorem pin_aConv {t : TypeId} {x : Value} : Pin (aConv P t x) := by
  intro K hK
  unfold aConv at hK ⊢
  split at hK
  · rename_i hb
    exact ⟨_, hK, fun K1 k => by first | exact k | (simp only [hb]; exact k)⟩
  · exact hK.elim
theorem pin_aExt {x : Value} {i : Nat} : Pin (aExt x i) := by
  intro K hK
  unfold aExt at hK ⊢
  split at hK
  · split at hK
    · rename_i hb
      exact ⟨_, hK, fun K1 k => by first | exact k | (simp only [hb]; exact k)⟩
    · exact hK.elim
  · exact hK.elim
theorem pin_aNil {x : Value} : Pin (aNil x) := by
  intro K hK
  unfold aNil at hK ⊢
  split at hK
  · exact ⟨_, hK, fun K1 k => k⟩
  · exact ⟨_, hK, fun K1 k => k⟩
  · exact ⟨_, hK, fun K1 k => k⟩
  · exact hK.elim
theorem pin_aLenS {x : Value} : Pin (aLenS x) := by
  intro K hK
  unfold aLenS at hK ⊢
  split at hK
  · exact ⟨_, hK, fun K1 k => k⟩
  · exact hK.elim
theorem pin_aLenStr {x : Value} : Pin (aLenStr x) := by
  intro K hK
  unfold aLenStr at hK ⊢
  split at hK
  · exact ⟨_, hK, fun K1 k => k⟩
  · exact hK.elim
theorem pin_aMin : ∀ (l : List Value) (x : Value), Pin (aMin x l)
  | [], x => fun K hK => ⟨x, hK, fun K1 k => k⟩
  | y :: l, x => by
    intro K hK
    unfold aMin at hK ⊢
    split at hK
    · obtain ⟨v, a, b⟩ := pin_aMin l _ K hK
      exact ⟨v, a, fun K1 k => b K1 k⟩
    · exact hK.elim
theorem pin_aMax : ∀ (l : List Value) (x : Value), Pin (aMax x l)
  | [], x => fun K hK => ⟨x, hK, fun K1 k => k⟩
  | y :: l, x => by
    intro K hK
    unfold aMax at hK ⊢
    split at hK
    · obtain ⟨v, a, b⟩ := pin_aMax l _ K hK
      exact ⟨v, a, fun K1 k => b K1 k⟩
    · exact hK.elim
theorem pin_aFill : ∀ (ps : List (Nat × Nat × Value)) (c : List Value) (K : List Value → Prop), aFill c ps K → ∃ c', K c' ∧ ∀ K1 : List Value → Prop, K1 c' → aFill c ps K1
  | [], c, K, hK => ⟨c, hK, fun K1 k => k⟩
  | (off, s, v) :: ps, c, K, hK => by
    obtain ⟨a1, a2, a3, hK⟩ := hK
    obtain ⟨c', b1, b2⟩ := pin_aFill ps _ K hK
    exact ⟨c', b1, fun K1 k => ⟨a1, a2, a3, b2 K1 k⟩⟩

def ptrBlk : Value → Option Nat
  | .pointer (some a) => some a.block
  | _ => none
def mapBlk : Value → Option Nat
  | .map b => b
  | _ => none

/-- The block that an operation reads. -/
def readOf (o : Op) (r : Nat → Value) : Option Nat :=
  match o with
  | .load _ x => ptrBlk (ev r x)
  | .lookup _ m _ _ => mapBlk (ev r m)
  | .call { callee := .builtin .len, args, .. } => match args.toList with
    | [x] => mapBlk (ev r x)
    | _ => none
  | _ => none

/-- Operations that leave the heap as it is, and cannot do anything else. -/
def freeOp : Op → Bool
  | .move _ | .assign _ | .pick .. | .load .. | .nilCheck _ | .binOp .. | .unOp .. | .convert .. | .fieldAddr .. | .field .. | .indexAddr .. | .lookup .. | .extract .. | .build .. => true
  | .makeFunc .. => true
  | .call { callee := .builtin b, .. } => match b with
    | .len | .min | .max => true
    | _ => false
  | _ => false

theorem aLoad_same {g : Bool} {s : Nat} {p : Value} {h h1 : List AObj} {K : Value → Prop} (e : ∀ b, ptrBlk p = some b → h1[b]? = h[b]?) (hK : aLoad g s p h K) : aLoad g s p h1 K := by
  unfold aLoad at hK ⊢
  split at hK
  · rename_i b off
    rw [e b rfl]
    exact hK
  · exact hK.elim

theorem aop_free {o : Op} {r : Nat → Value} {h : List AObj} {K : Value → List AObj → Prop} (hf : freeOp o = true) (hK : aop P o r h K) :
    ∃ v, K v h ∧ ∀ (h1 : List AObj) (K1 : Value → List AObj → Prop), (∀ b, readOf o r = some b → h1[b]? = h[b]?) → K1 v h1 → aop P o r h1 K1 := by
  have use : ∀ {F : (Value → Prop) → Prop}, Pin F → F (fun v => K v h) → (∀ h1 (K1 : Value → List AObj → Prop), (∀ b, readOf o r = some b → h1[b]? = h[b]?) → F (fun v => K1 v h1) → aop P o r h1 K1) →
      ∃ v, K v h ∧ ∀ (h1 : List AObj) (K1 : Value → List AObj → Prop), (∀ b, readOf o r = some b → h1[b]? = h[b]?) → K1 v h1 → aop P o r h1 K1 := by
    intro F pf hF hh
    obtain ⟨v, a, b⟩ := pf _ hF
    exact ⟨v, a, fun h1 K1 e k => hh h1 K1 e (b _ k)⟩
  cases o <;> simp only [freeOp, Bool.false_eq_true] at hf <;> simp only [aop] at hK
  case move x => exact ⟨_, hK, fun h1 K1 _ k => k⟩
  case assign x => exact ⟨_, hK, fun h1 K1 _ k => k⟩
  case pick c a b =>
    split at hK
    · rename_i hb
      exact ⟨_, hK, fun h1 K1 _ k => by simp only [aop, hb]; exact k⟩
    · exact hK.elim
  case build t ps =>
    split at hK
    · rename_i z l hz hl
      cases hg : aggT P t with
      | true =>
        rw [hg] at hK
        obtain ⟨c', b1, b2⟩ := pin_aFill _ _ _ hK
        exact ⟨_, b1, fun h1 K1 _ k => by simp only [aop, hz, hl, hg, cond_true]; exact b2 _ k⟩
      | false => rw [hg] at hK; exact hK.elim
    · exact hK.elim
  case load t x =>
    split at hK
    · rename_i g s ht
      obtain ⟨v, a, b⟩ := pin_aLoad _ hK
      refine ⟨v, a, fun h1 K1 e k => ?_⟩
      simp only [aop, ht]
      exact aLoad_same e (b (fun v => K1 v h1) k)
    · exact hK.elim
  case nilCheck x => exact use pin_aNil hK fun h1 K1 _ k => k
  case binOp op t x y _ => exact use pin_aBin hK fun h1 K1 _ k => k
  case unOp op _ x => exact use pin_aUn hK fun h1 K1 _ k => k
  case convert s d x =>
    split at hK
    · rename_i hs
      exact use pin_aConv hK fun h1 K1 _ k => by simp only [aop, hs]; exact k
    · exact hK.elim
  case makeFunc fn first cap =>
    cases fn <;> simp only at hK
    exact ⟨_, hK.2, fun h1 K1 _ k => ⟨hK.1, k⟩⟩
  case fieldAddr t x f =>
    split at hK
    · rename_i hs
      exact use pin_aOff hK fun h1 K1 _ k => by simp only [aop, hs]; exact k
    · exact hK.elim
  case field t x f =>
    split at hK
    · rename_i h1
      split at hK
      · rename_i h2
        split at hK
        · rename_i h3
          exact use pin_aField hK fun _ K1 _ k => by simp only [aop, h1, h2, h3]; exact k
        · exact hK.elim
      · exact hK.elim
    · exact hK.elim
  case indexAddr t x i =>
    split at hK
    · rename_i h1
      split at hK
      · rename_i h2
        exact use pin_aIdx hK fun _ K1 _ k => by simp only [aop, h1, h2]; exact k
      · exact hK.elim
    · rename_i h1
      split at hK
      · rename_i h2
        exact use pin_aIdxA hK fun _ K1 _ k => by simp only [aop, h1, h2]; exact k
      · exact hK.elim
    · exact hK.elim
  case lookup t m k ok =>
    unfold aLook at hK
    split at hK
    · rename_i kt vt b hu hm
      split at hK
      · rename_i es wr z hb hz
        obtain ⟨hk, hK⟩ := hK
        split at hK
        · rename_i v hv
          refine ⟨_, hK, fun h1 K1 e k1 => ?_⟩
          simp only [aop, aLook, hu, hm]
          rw [e b (by simp [readOf, mapBlk, hm]), hb, hz]
          simp only [hv]
          exact ⟨hk, k1⟩
        · rename_i hv
          refine ⟨_, hK, fun h1 K1 e k1 => ?_⟩
          simp only [aop, aLook, hu, hm]
          rw [e b (by simp [readOf, mapBlk, hm]), hb, hz]
          simp only [hv]
          exact ⟨hk, k1⟩
        · exact hK.elim
      · exact hK.elim
    · exact hK.elim
  case extract t i => exact use pin_aExt hK fun h1 K1 _ k => k
  case call c =>
    obtain ⟨callee, args, argTypes⟩ := c
    cases callee with
    | value f => cases hf
    | invoke x m => cases hf
    | builtin b =>
      obtain ⟨args⟩ := args
      obtain ⟨argTypes⟩ := argTypes
      simp only at hK
      split at hK
      · rename_i x t
        split at hK
        · rename_i hu
          exact use pin_aLenStr hK fun h1 K1 _ k => by simp only [aop, hu]; exact k
        · rename_i hu
          exact use pin_aLenS hK fun h1 K1 _ k => by simp only [aop, hu]; exact k
        · rename_i hu
          unfold aLenM at hK
          split at hK
          · rename_i hm
            exact ⟨_, hK, fun h1 K1 _ k => by simp only [aop, hu, aLenM, hm]; exact k⟩
          · rename_i bb hm
            split at hK
            · rename_i hb
              refine ⟨_, hK, fun h1 K1 e k => ?_⟩
              simp only [aop, hu, aLenM, hm]
              rw [e bb (by simp [readOf, mapBlk, hm]), hb]
              exact k
            · exact hK.elim
          · exact hK.elim
        · rename_i hu
          exact ⟨_, hK, fun h1 K1 _ k => by simp only [aop, hu]; exact k⟩
        · exact hK.elim
      · exact use (pin_aMin _ _) hK fun h1 K1 _ k => k
      · exact use (pin_aMax _ _) hK fun h1 K1 _ k => k
      · simp at hf
      · exact hK.elim
end
end Go.Proofs.Ytdgpacdknpahnaa

/- A region that asks for its order: operations that only read may be taken first. No conditions. -/
namespace Go.Proofs.Ytdgpacdknpahnaa
open Go.Conc

section
variable {P : Program} {C : FuncId → List Value → List AObj → (Value → List AObj → Prop) → Prop} {N : Nat} {ops : Array Oper}

theorem aop_congr {o : Op} {r r' : Nat → Value} {h : List AObj} {K : Value → List AObj → Prop} (e : ∀ x ∈ o.operands, ev r x = ev r' x) (hK : aop P o r h K) : aop P o r' h K := by
  have lst : ∀ l : Array Operand, (∀ x ∈ l, ev r x = ev r' x) → l.toList.map (ev r) = l.toList.map (ev r') := fun l hl => List.map_congr_left fun x hx => hl x (by simpa using hx)
  have prs : ∀ ps : Array (Nat × Operand), (∀ x ∈ (ps.toList.map (·.2)).toArray, ev r x = ev r' x) → (ps.toList.map fun (i, x) => (i, ev r x)) = ps.toList.map fun (i, x) => (i, ev r' x) := fun ps hp =>
    List.map_congr_left fun p hm => by
      obtain ⟨i, x⟩ := p
      simp only [hp x (by simp only [List.mem_toArray, List.mem_map]; exact ⟨(i, x), hm, rfl⟩)]
  cases o <;> simp only [Op.operands] at e
  case build t ps => simp only [aop] at hK ⊢; rw [← prs ps e]; exact hK
  case buildSlice t n ps => simp only [aop] at hK ⊢; rw [← prs ps e]; exact hK
  case makeFunc fn first cap =>
    cases fn <;> simp only [aop] at hK ⊢
    have e1 : ∀ x ∈ first, ev r x = ev r' x := fun x hx => e x (by simp [hx])
    have e2 : ∀ x ∈ cap, ev r x = ev r' x := fun x hx => e x (by simp [hx])
    rw [← lst first e1, ← lst cap e2]
    refine ⟨?_, hK.2⟩
    rw [List.all_eq_true] at *
    intro x hx
    rw [← e x (by simpa using hx)]
    exact hK.1 x hx
  case slice t x lo hi mx => cases lo <;> cases hi <;> cases mx <;> simp_all [aop]
  case makeMap t x => cases x <;> simp_all [aop]
  case call c =>
    obtain ⟨callee, args, argTypes⟩ := c
    cases callee with
    | value f => exact hK.elim
    | invoke x m => exact hK.elim
    | builtin b =>
      have e1 := lst args fun x hx => e x (by simp [Call.operands, hx])
      obtain ⟨args⟩ := args
      simp only at e1
      obtain ⟨argTypes⟩ := argTypes
      simp only [aop] at hK
      split at hK
      · rename_i x t
        have hx : ev r x = ev r' x := by simpa using e1
        simp only [aop]
        rw [← hx]
        exact hK
      · rename_i x l tys
        simp only [List.map_cons, List.cons.injEq] at e1
        simp only [aop]
        rw [← e1.1, ← e1.2]
        exact hK
      · rename_i x l tys
        simp only [List.map_cons, List.cons.injEq] at e1
        simp only [aop]
        rw [← e1.1, ← e1.2]
        exact hK
      · rename_i x y t u
        simp only [List.map_cons, List.cons.injEq] at e1
        simp only [aop]
        rw [← e1.1, ← e1.2.1]
        exact hK
      · exact hK.elim
  all_goals (first | exact hK | (simp_all [aop]; done))

/-- One operation with its guard. -/
def opG (P : Program) (C : FuncId → List Value → List AObj → (Value → List AObj → Prop) → Prop) (ops : Array Oper) (o : Oper) (r : Nat → Value) (h : List AObj) (K : Value → List AObj → Prop) : Prop :=
  match gd ops o r with
  | some true => opW P C o r h K
  | some false => K undef h
  | none => False

def opM (P : Program) (C : FuncId → List Value → List AObj → (Value → List AObj → Prop) → Prop) (ops : Array Oper) (o : Oper) (r : Nat → Value) (h : List AObj) (K : Value → List AObj → Prop) : Prop :=
  ∃ K', opG P C ops o r h K' ∧ ∀ v h', K' v h' → K v h'

theorem gd_congr {o : Oper} {r r' : Nat → Value} (e : ∀ t ∈ o.looksAt ops, r t = r' t) : gd ops o r = gd ops o r' := by
  unfold gd
  cases hg : o.guard with
  | none => rfl
  | some jw =>
    obtain ⟨j, want⟩ := jw
    simp only
    cases hd : (ops[j]?).bind (·.dst) with
    | none => rfl
    | some t =>
      simp only
      rw [e t (by simp [Oper.looksAt, hg, hd])]

theorem ev_looks {o : Oper} {r r' : Nat → Value} (e : ∀ t ∈ o.looksAt ops, r t = r' t) : ∀ x ∈ o.op.operands, ev r x = ev r' x := by
  intro x hx
  cases x with
  | tmp t => exact e t (by
      simp only [Oper.looksAt, List.mem_append, List.mem_filterMap]
      exact .inl ⟨.tmp t, by simpa using hx, rfl⟩)
  | _ => rfl

theorem opG_congr {o : Oper} {r r' : Nat → Value} {h : List AObj} {K : Value → List AObj → Prop} (e : ∀ t ∈ o.looksAt ops, r t = r' t) (hK : opG P C ops o r h K) : opG P C ops o r' h K := by
  unfold opG at hK ⊢
  rw [← gd_congr e]
  split at hK
  · have eo := ev_looks e
    unfold opW at hK ⊢
    split at hK
    · rename_i x args ats hop
      rw [hop] at eo
      have ex := eo x (by simp [Op.operands, Call.operands])
      have ea : args.toList.map (ev r) = args.toList.map (ev r') := List.map_congr_left fun y hy => eo y (by simp [Op.operands, Call.operands]; exact .inr (by simpa using hy))
      try simp only [hop]
      rw [← ex, ← ea]
      exact hK
    · rename_i hn
      exact aop_congr eo hK
  · exact hK
  · exact hK.elim

/-- Has this operation no way but to hand on a value. -/
def isFree (o : Oper) : Bool := freeOp o.op

theorem opG_free {o : Oper} {r : Nat → Value} {h : List AObj} {K : Value → List AObj → Prop} (hf : isFree o = true) (hK : opG P C ops o r h K) :
    ∃ v, K v h ∧ ∀ (h1 : List AObj) (K1 : Value → List AObj → Prop), (∀ b, readOf o.op r = some b → h1[b]? = h[b]?) → K1 v h1 → opG P C ops o r h1 K1 := by
  unfold opG at hK ⊢
  split at hK
  · have hw : opW P C o r h K = aop P o.op r h K := by
      unfold opW
      unfold isFree at hf
      split
      · rename_i e
        rw [e] at hf
        cases hf
      · rfl
    rw [hw] at hK
    obtain ⟨v, a, b⟩ := aop_free hf hK
    refine ⟨v, a, fun h1 K1 e k => ?_⟩
    have hw1 : opW P C o r h1 K1 = aop P o.op r h1 K1 := by
      unfold opW
      unfold isFree at hf
      split
      · rename_i e
        rw [e] at hf
        cases hf
      · rfl
    simp only [hw1]
    exact b h1 K1 e k
  · exact ⟨_, hK, fun h1 K1 _ k => k⟩
  · exact hK.elim

/-- Does it read a block. -/
def isRead : Op → Bool
  | .load .. | .lookup .. => true
  | .call { callee := .builtin .len, .. } => true
  | _ => false

theorem readOf_none {o : Op} {r : Nat → Value} (h : isRead o = false) : readOf o r = none := by
  unfold isRead at h
  split at h
  · cases h
  · cases h
  · cases h
  · rename_i n1 n2 n3
    unfold readOf
    split
    · exact absurd rfl (n1 _ _)
    · exact absurd rfl (n2 _ _ _ _)
    · exact absurd rfl (n3 _ _)
    · rfl

/-- Must what is read stand behind operation j as it was: is there one that reads and need not come first. -/
def sNeed (ops : Array Oper) (j : Nat) (o : Oper) : Bool :=
  !isFree o && (List.range ops.size).any fun i => i != j && (match ops[i]? with
    | some oi => isRead oi.op && !(o.after.any fun e => Region.binds .any e && e.on == i)
    | none => false)

/-- The operations that are still to come, in every order. -/
def AnyH (P : Program) (C : FuncId → List Value → List AObj → (Value → List AObj → Prop) → Prop) (N : Nat) (ops : Array Oper) (S : List AObj → Prop) : Nat → Array Bool → RG → List AObj → (RG → List AObj → Prop) → Prop
  | 0, L, f, h, K => Region.ready .any ops L = [] ∧ K f h
  | n + 1, L, f, h, K => (Region.ready .any ops L = [] → K f h) ∧ ∀ i ∈ Region.ready .any ops L, ∀ o, ops[i]? = some o → (∀ t, o.dst = some t → t < N) ∧
      opM P C ops o f.r h fun v h' => (sNeed ops i o = true → S h') ∧ AnyH P C N ops S n (L.setIfInBounds i true) (f.putO o.dst v) h' K

def Apart (ops : Array Oper) (i : Nat) (oi : Oper) (L : Array Bool) : Prop :=
  ∀ j oj, ops[j]? = some oj → j ≠ i → L.getD j true = false → (∀ e ∈ oj.after, Region.binds .any e = true → e.on ≠ i) → oi.apart ops oj = true

theorem putO_r {f : RG} {d : Option Nat} {v : Value} {t : Nat} (h : d ≠ some t) : (f.putO d v).r t = f.r t := by
  cases d with
  | none => rfl
  | some d =>
    have : (t == d) = false := by
      have : t ≠ d := fun e => h (by rw [e])
      simpa using this
    simp [RG.putO, RG.put, this]

theorem putO_comm (f : RG) {x y : Option Nat} (v u : Value) (h : ∀ d, x = some d → y ≠ some d) : (f.putO x v).putO y u = (f.putO y u).putO x v := by
  cases x with
  | none => rfl
  | some d =>
    cases y with
    | none => rfl
    | some e =>
      have hde : d ≠ e := fun he => h d rfl (by rw [he])
      simp only [RG.putO, RG.put]
      congr 1
      funext t
      by_cases h1 : t = d
      · subst h1
        have : (t == e) = false := by simpa using hde
        simp [this]
      · have : (t == d) = false := by simpa using h1
        simp [this]

theorem set_comm {L : Array Bool} {i j : Nat} : (L.setIfInBounds i true).setIfInBounds j true = (L.setIfInBounds j true).setIfInBounds i true := by
  by_cases h : i = j
  · rw [h]
  · exact Array.setIfInBounds_comm _ _ h

theorem AnyH_take {S : List AObj → Prop} {i : Nat} {oi : Oper} {v : Value} {K : RG → List AObj → Prop} (hi : ops[i]? = some oi) (hN : ∀ t, oi.dst = some t → t < N) (hfr : isFree oi = true) :
    ∀ (n : Nat) (L : Array Bool) (f : RG) (h : List AObj), Apart ops i oi L → i ∈ Region.ready .any ops L → (isRead oi.op = true → S h) →
      (∀ h1 (K1 : Value → List AObj → Prop), (isRead oi.op = true → S h1) → K1 v h1 → opG P C ops oi f.r h1 K1) → AnyH P C N ops S n (L.setIfInBounds i true) (f.putO oi.dst v) h K → AnyH P C N ops S (n + 1) L f h K := by
  intro n
  induction n with
  | zero =>
    intro L f h hap hir hS hY hA
    refine ⟨fun e => (by rw [e] at hir; cases hir), fun j hj oj hoj => ?_⟩
    by_cases hji : j = i
    · subst hji
      rw [hi] at hoj
      cases hoj
      refine ⟨hN, fun u h' => u = v ∧ h' = h, hY h _ hS ⟨rfl, rfl⟩, ?_⟩
      rintro u h' ⟨rfl, rfl⟩
      exact ⟨fun e => by simp [sNeed, hfr] at e, hA⟩
    · have := ready_mono hj hji
      rw [hA.1] at this
      cases this
  | succ n ih =>
    intro L f h hap hir hS hY hA
    refine ⟨fun e => (by rw [e] at hir; cases hir), fun j hj oj hoj => ?_⟩
    by_cases hji : j = i
    · subst hji
      rw [hi] at hoj
      cases hoj
      refine ⟨hN, fun u h' => u = v ∧ h' = h, hY h _ hS ⟨rfl, rfl⟩, ?_⟩
      rintro u h' ⟨rfl, rfl⟩
      exact ⟨fun e => by simp [sNeed, hfr] at e, hA⟩
    · obtain ⟨hjN, K', hK', hsub⟩ := hA.2 j (ready_mono hj hji) oj hoj
      have hnl : L.getD j true = false := by
        rw [mem_ready] at hj
        exact hj.1
      have hil : L.getD i true = false := by
        rw [mem_ready] at hir
        exact hir.1
      have haft : ∀ e ∈ oj.after, Region.binds .any e = true → e.on ≠ i := by
        intro e he hb hei
        rw [mem_ready] at hj
        obtain ⟨_, o, ho, hall⟩ := hj
        rw [hoj] at ho
        cases ho
        have h1 := hall e he hb
        rw [hei] at h1
        rw [Array.getD_eq_getD_getElem?] at h1 hil
        cases hx : L[i]? with
        | none => rw [hx] at hil; cases hil
        | some b => rw [hx] at h1 hil; simp at h1 hil; rw [h1] at hil; cases hil
      obtain ⟨ap1, ap2, ap3⟩ := Oper.apart_spec (hap j oj hoj hji hnl haft)
      have back : ∀ t ∈ oj.looksAt ops, (f.putO oi.dst v).r t = f.r t := fun t ht => putO_r fun e => ap1 t e ht
      have hKj := opG_congr back hK'
      refine ⟨hjN, ?_⟩
      have fin : ∀ u h', (isRead oi.op = true → S h') → ((sNeed ops j oj = true → S h') ∧ AnyH P C N ops S n ((L.setIfInBounds i true).setIfInBounds j true) ((f.putO oi.dst v).putO oj.dst u) h' K) →
          (sNeed ops j oj = true → S h') ∧ AnyH P C N ops S (n + 1) (L.setIfInBounds j true) (f.putO oj.dst u) h' K := by
        rintro u h' hS' ⟨hs, hA'⟩
        refine ⟨hs, ih (L.setIfInBounds j true) (f.putO oj.dst u) h' ?_ (ready_mono hir (fun e => hji e.symm)) hS' (fun h1 K1 hs1 k1 => ?_) ?_⟩
        · intro x ox hx hxi hxl hxa
          refine hap x ox hx hxi ?_ hxa
          by_cases hxj : x = j
          · rw [hxj]; exact hnl
          · rw [getD_set_ne true (Ne.symm hxj)] at hxl
            exact hxl
        · refine opG_congr (fun t ht => ?_) (hY h1 K1 hs1 k1)
          exact (putO_r fun e => ap3 t e ht).symm
        · rw [set_comm, ← putO_comm f v u ap2]
          exact hA'
      cases hfj : isFree oj with
      | true =>
        obtain ⟨u, a, b⟩ := opG_free hfj hKj
        refine ⟨fun u' h' => u' = u ∧ h' = h, b h _ (fun _ _ => rfl) ⟨rfl, rfl⟩, ?_⟩
        rintro u' h' ⟨rfl, rfl⟩
        exact fin _ _ hS (hsub _ _ a)
      | false =>
        refine ⟨K', hKj, fun u h' k => fin u h' (fun hr => ?_) (hsub _ _ k)⟩
        refine (hsub _ _ k).1 ?_
        unfold sNeed
        rw [hfj]
        simp only [Bool.not_false, Bool.true_and, List.any_eq_true]
        refine ⟨i, ?_, ?_⟩
        · rw [List.mem_range]
          rcases Nat.lt_or_ge i ops.size with hlt | hlt
          · exact hlt
          · rw [Array.getElem?_eq_none hlt] at hi
            cases hi
        · have hij : (i != j) = true := by simpa using fun e => hji e.symm
          rw [hij, hi]
          simp only [hr, Bool.true_and, Bool.not_eq_true', Array.any_eq_false]
          intro x hx hh
          simp only [Bool.and_eq_true, beq_iff_eq] at hh
          exact haft _ (Array.getElem_mem hx) hh.1 hh.2
end
end Go.Proofs.Ytdgpacdknpahnaa

/- Regions, reckoned: in the text's order, or in one order that stands for all. No conditions. -/
namespace Go.Proofs.Ytdgpacdknpahnaa
open Go.Conc

def cnd (v : Value) (A B : Prop) : Prop :=
  match v with
  | .bool b => (b = true → A) ∧ (b = false → B)
  | _ => False

abbrev Dec := List (Nat × Option Bool)

def dfind (j : Nat) : Dec → Option (Option Bool)
  | [] => none
  | (i, b) :: l => bif i == j then some b else dfind j l

def dstOf (ops : Array Oper) (j : Nat) : Option Nat :=
  match ops[j]? with
  | some o => o.dst
  | none => none

/-- The guard of an operation: what is told of it, and what is known of it from then on. -/
def goG (ops : Array Oper) (dec : Dec) (o : Oper) (f : RG) (A : Bool → Dec → RG → Prop) : Prop :=
  match o.guard with
  | none => A true dec f
  | some (j, want) => match dfind j dec with
    | some (some b) => A (b == want) dec f
    | some none => A false dec f
    | none => match dstOf ops j with
      | some t => cnd (f.r t) (A (true == want) ((j, some true) :: dec) (f.put t (.bool true))) (A (false == want) ((j, some false) :: dec) (f.put t (.bool false)))
      | none => False

def forget (ops : Array Oper) (d : Option Nat) (dec : Dec) : Dec :=
  match d with
  | none => dec
  | some d => dec.filter fun x => !(dstOf ops x.1 == some d)

/-- An operation has been passed over. -/
def skipD (ops : Array Oper) (i : Nat) (d : Option Nat) (dec : Dec) : Dec :=
  match d with
  | none => dec
  | some d => (i, none) :: forget ops (some d) dec

def dstOk (N : Nat) (o : Oper) : Bool :=
  match o.dst with
  | some d => Nat.blt d N
  | none => true

abbrev CT := FuncId → List Value → List AObj → (Value → List AObj → Prop) → Prop

def opsW (P : Program) (C : CT) (N : Nat) (ops : Array Oper) : List Nat → Dec → RG → List AObj → (RG → List AObj → Prop) → Prop
  | [], _, f, h, K => K f h
  | i :: l, dec, f, h, K => match ops[i]? with
    | some o => bif dstOk N o then goG ops dec o f fun w dec f =>
        bif w then opW P C o f.r h fun v h' => opsW P C N ops l (forget ops o.dst dec) (f.putO o.dst v) h' K
        else opsW P C N ops l (skipD ops i o.dst dec) (f.putO o.dst undef) h K
      else False
    | none => False

/-- These blocks are as they were. -/
def SameB (B : Option (List Nat)) (h0 h1 : List AObj) : Prop :=
  match B with
  | none => h1 = h0
  | some B => ∀ b ∈ B, h1[b]? = h0[b]?

def RdOk (B : Option (List Nat)) (x : Option Nat) : Prop :=
  match B, x with
  | some B, some b => b ∈ B
  | _, _ => True

def apartB (ops : Array Oper) (i : Nat) (oi : Oper) (L : Array Bool) : Bool :=
  (List.range ops.size).all fun j => match ops[j]? with
    | none => true
    | some oj => j == i || L.getD j true || (oj.after.any fun e => Region.binds .any e && e.on == i) || oi.apart ops oj

def pickN (ops : Array Oper) (L : Array Bool) : Option Nat :=
  (Region.ready .any ops L).find? fun i => match ops[i]? with
    | some o => isFree o && apartB ops i o L
    | none => false

def allOf : List Nat → (Nat → Prop) → Prop
  | [], _ => True
  | [i], A => A i
  | i :: l, A => A i ∧ allOf l A

def anyW (P : Program) (C : CT) (N : Nat) (ops : Array Oper) (B : Option (List Nat)) (h0 : List AObj) : Nat → Array Bool → Bool → Dec → RG → List AObj → (RG → List AObj → Prop) → Prop
  | 0, L, _, _, f, h, K => bif (Region.ready .any ops L).isEmpty then K f h else False
  | n + 1, L, sok, dec, f, h, K => match pickN ops L with
    | some i => match ops[i]? with
      | some o => bif dstOk N o && (!isRead o.op || sok) then goG ops dec o f fun w dec f =>
          bif w then opW P C o f.r h fun v _ =>
            bif isRead o.op && B.isSome then RdOk B (readOf o.op f.r) ∧ anyW P C N ops B h0 n (L.setIfInBounds i true) sok (forget ops o.dst dec) (f.putO o.dst v) h K
            else anyW P C N ops B h0 n (L.setIfInBounds i true) sok (forget ops o.dst dec) (f.putO o.dst v) h K
          else anyW P C N ops B h0 n (L.setIfInBounds i true) sok (skipD ops i o.dst dec) (f.putO o.dst undef) h K
        else False
      | none => False
    | none => bif (Region.ready .any ops L).isEmpty then K f h else allOf (Region.ready .any ops L) fun i => match ops[i]? with
      | some o => bif dstOk N o then goG ops dec o f fun w dec f =>
          bif w then opW P C o f.r h fun v h' =>
            bif sNeed ops i o then SameB B h0 h' ∧ anyW P C N ops B h0 n (L.setIfInBounds i true) true (forget ops o.dst dec) (f.putO o.dst v) h' K
            else anyW P C N ops B h0 n (L.setIfInBounds i true) false (forget ops o.dst dec) (f.putO o.dst v) h' K
          else bif sNeed ops i o && !sok then False else anyW P C N ops B h0 n (L.setIfInBounds i true) sok (skipD ops i o.dst dec) (f.putO o.dst undef) h K
        else False
      | none => False

/-- Does nothing in the region turn what is still to be read. -/
def still (ops : Array Oper) : Bool := (List.range ops.size).all fun i => match ops[i]? with
  | some o => !sNeed ops i o
  | none => true

def drawW (P : Program) (C : CT) (N : Nat) (ops : Array Oper) (f : RG) (h : List AObj) (K : RG → List AObj → Prop) : Prop :=
  bif still ops then anyW P C N ops none h ops.size (Array.replicate ops.size false) true [] f h K
  else ∃ B, anyW P C N ops (some B) h ops.size (Array.replicate ops.size false) true [] f h K

section
variable {P : Program} {C : CT} {N : Nat} {ops : Array Oper} {f : RG} {h : List AObj}

def dval : Option Bool → Value
  | some b => .bool b
  | none => undef
def decOk (ops : Array Oper) (dec : Dec) (f : RG) : Prop := ∀ j b, dfind j dec = some b → ∃ t, dstOf ops j = some t ∧ f.r t = dval b

theorem bind_dst (j : Nat) : (ops[j]?).bind (·.dst) = dstOf ops j := by
  unfold dstOf
  cases ops[j]? <;> rfl

theorem put_self {t : Nat} {v : Value} (e : f.r t = v) : f.put t v = f := by
  obtain ⟨r, ds⟩ := f
  simp only [RG.put, RG.mk.injEq, and_true]
  funext x
  by_cases hx : x = t
  · subst hx
    simp only [BEq.rfl, cond_true]
    exact e.symm
  · have : (x == t) = false := by simpa using hx
    simp [this]

theorem goG_out {dec : Dec} {o : Oper} {A : Bool → Dec → RG → Prop} (hd : decOk ops dec f) (hg : goG ops dec o f A) : ∃ w dec', decOk ops dec' f ∧ gd ops o f.r = some w ∧ A w dec' f := by
  unfold goG at hg
  unfold gd
  split at hg
  · rename_i e
    rw [e]
    exact ⟨true, dec, hd, rfl, hg⟩
  · rename_i j want e
    rw [e]
    simp only [bind_dst]
    split at hg
    · rename_i b hb
      obtain ⟨t, h1, h2⟩ := hd j _ hb
      exact ⟨_, dec, hd, by rw [h1]; simp only [h2, dval], hg⟩
    · rename_i hb
      obtain ⟨t, h1, h2⟩ := hd j _ hb
      exact ⟨_, dec, hd, by rw [h1]; simp only [h2, dval, undef], hg⟩
    · split at hg
      · rename_i t ht
        unfold cnd at hg
        split at hg
        · rename_i b hb
          have nd : ∀ b', f.r t = .bool b' → decOk ops ((j, some b') :: dec) f := by
            intro b' hb' i c hc
            unfold dfind at hc
            cases hij : j == i with
            | true =>
              rw [hij] at hc
              simp only [cond_true, Option.some.injEq] at hc
              have : j = i := by simpa using hij
              subst this
              subst hc
              exact ⟨t, ht, hb'⟩
            | false =>
              rw [hij] at hc
              exact hd i c hc
          cases b with
          | true =>
            have := hg.1 rfl
            rw [put_self hb] at this
            exact ⟨_, _, nd _ hb, by rw [ht]; simp only [hb], this⟩
          | false =>
            have := hg.2 rfl
            rw [put_self hb] at this
            exact ⟨_, _, nd _ hb, by rw [ht]; simp only [hb], this⟩
        · exact hg.elim
      · exact hg.elim

theorem dfind_filter {p : Nat × Option Bool → Bool} : ∀ {dec : Dec} {j : Nat} {b : Option Bool}, dfind j (dec.filter p) = some b → (∀ x y y', p (x, y) = p (x, y')) → dfind j dec = some b ∧ p (j, b) = true
  | [], j, b, h, _ => by cases h
  | (i, c) :: l, j, b, h, hp => by
    rw [List.filter_cons] at h
    unfold dfind
    split at h
    · rename_i hpc
      unfold dfind at h
      cases hij : i == j with
      | true =>
        rw [hij] at h
        simp only [cond_true, Option.some.injEq] at h
        have : i = j := by simpa using hij
        subst this
        subst h
        exact ⟨rfl, hpc⟩
      | false =>
        rw [hij] at h
        exact dfind_filter h hp
    · rename_i hpc
      obtain ⟨h1, h2⟩ := dfind_filter h hp
      cases hij : i == j with
      | true =>
        have : i = j := by simpa using hij
        subst this
        exfalso
        apply hpc
        rw [hp i c b]
        exact h2
      | false => exact ⟨h1, h2⟩

theorem decOk_put {dec : Dec} {d : Option Nat} {v : Value} (hd : decOk ops dec f) : decOk ops (forget ops d dec) (f.putO d v) := by
  intro j b hj
  cases d with
  | none => exact hd j b hj
  | some d =>
    obtain ⟨h1, h2⟩ := dfind_filter hj (fun _ _ _ => rfl)
    obtain ⟨t, ht, hv⟩ := hd j b h1
    refine ⟨t, ht, ?_⟩
    rw [putO_r]
    · exact hv
    · intro e
      cases e
      simp [ht] at h2

theorem decOk_skip {dec : Dec} {i : Nat} {o : Oper} (ho : ops[i]? = some o) (hd : decOk ops dec f) : decOk ops (skipD ops i o.dst dec) (f.putO o.dst undef) := by
  unfold skipD
  cases hdst : o.dst with
  | none => exact hd
  | some d =>
    intro j b hj
    unfold dfind at hj
    cases hij : i == j with
    | true =>
      rw [hij] at hj
      simp only [cond_true, Option.some.injEq] at hj
      have : i = j := by simpa using hij
      subst this
      subst hj
      refine ⟨d, by simp [dstOf, ho, hdst], ?_⟩
      simp [RG.putO, RG.put, dval]
    | false =>
      rw [hij] at hj
      exact decOk_put (d := some d) hd j b hj

theorem dstOk_lt {o : Oper} (h : dstOk N o = true) : ∀ t, o.dst = some t → t < N := by
  intro t ht
  unfold dstOk at h
  rw [ht] at h
  simpa using h

theorem allOf_mem {A : Nat → Prop} : ∀ {l : List Nat} {i : Nat}, allOf l A → i ∈ l → A i
  | [i], j, h, hm => by
    simp only [List.mem_singleton] at hm
    subst hm
    exact h
  | i :: k :: l, j, h, hm => by
    rcases List.mem_cons.1 hm with rfl | hm
    · exact h.1
    · exact allOf_mem h.2 hm

theorem opG_of {o : Oper} {r : Nat → Value} {K : Value → List AObj → Prop} {w : Bool} (hg : gd ops o r = some w) (hk : bif w then opW P C o r h K else K undef h) : opG P C ops o r h K := by
  unfold opG
  rw [hg]
  cases w <;> exact hk

theorem opG_split {o : Oper} {r : Nat → Value} {K : Value → List AObj → Prop} {w : Bool} (hg : gd ops o r = some w) (hk : opG P C ops o r h K) : bif w then opW P C o r h K else K undef h := by
  unfold opG at hk
  rw [hg] at hk
  cases w <;> exact hk

theorem anyW_sound {B : Option (List Nat)} {h0 : List AObj} {K : RG → List AObj → Prop} : ∀ (n : Nat) (L : Array Bool) (sok : Bool) (dec : Dec) (f : RG) (h : List AObj), decOk ops dec f → (sok = true → SameB B h0 h) →
    anyW P C N ops B h0 n L sok dec f h K → AnyH P C N ops (SameB B h0) n L f h K := by
  intro n
  induction n with
  | zero =>
    intro L sok dec f h hd hs hw
    unfold anyW at hw
    cases he : (Region.ready .any ops L).isEmpty with
    | true =>
      rw [he] at hw
      exact ⟨List.isEmpty_iff.1 he, hw⟩
    | false => rw [he] at hw; exact hw.elim
  | succ n ih =>
    intro L sok dec f h hd hs hw
    unfold anyW at hw
    split at hw
    · rename_i i hp
      have hir : i ∈ Region.ready .any ops L := List.mem_of_find?_eq_some hp
      have hpi := List.find?_some hp
      split at hw
      · rename_i o ho
        simp only [ho, Bool.and_eq_true] at hpi
        cases hc : dstOk N o && (!isRead o.op || sok) with
        | false => rw [hc] at hw; exact hw.elim
        | true =>
          rw [hc] at hw
          rw [cond_true] at hw
          simp only [Bool.and_eq_true, Bool.or_eq_true, Bool.not_eq_true'] at hc
          obtain ⟨w, dec', hd', hg, hw⟩ := goG_out hd hw
          have hap : Apart ops i o L := by
            intro j oj hoj hji hl ha
            have hall := hpi.2
            unfold apartB at hall
            rw [List.all_eq_true] at hall
            have hlt : j < ops.size := by
              rcases Nat.lt_or_ge j ops.size with hlt | hlt
              · exact hlt
              · rw [Array.getElem?_eq_none hlt] at hoj
                cases hoj
            have := hall j (List.mem_range.2 hlt)
            rw [hoj] at this
            simp only [hl, Bool.or_false, Bool.or_eq_true, beq_iff_eq, hji, false_or] at this
            rcases this with this | this
            · rw [Array.any_eq_true] at this
              obtain ⟨x, hx, he⟩ := this
              simp only [Bool.and_eq_true, beq_iff_eq] at he
              exact absurd he.2 (ha _ (Array.getElem_mem hx) he.1)
            · exact this
          have hSr : isRead o.op = true → SameB B h0 h := by
            intro hr
            rcases hc.2 with x | x
            · rw [hr] at x; cases x
            · exact hs x
          cases w with
          | false =>
            exact AnyH_take ho (dstOk_lt hc.1) hpi.1 n L f h hap hir hSr (fun h1 K1 _ k1 => opG_of hg k1) (ih _ sok _ _ h (decOk_skip ho hd') hs hw)
          | true =>
            have hop : opG P C ops o f.r h fun v _ => (isRead o.op = true → RdOk B (readOf o.op f.r)) ∧ anyW P C N ops B h0 n (L.setIfInBounds i true) sok (forget ops o.dst dec') (f.putO o.dst v) h K := by
              refine opG_of hg ?_
              simp only [cond_true] at hw ⊢
              cases hr : isRead o.op && B.isSome with
              | true =>
                simp only [hr, cond_true] at hw
                simp only [Bool.and_eq_true] at hr
                simp only [hr.1, true_implies]
                exact hw
              | false =>
                simp only [hr, cond_false] at hw
                have hrd : isRead o.op = true → RdOk B (readOf o.op f.r) := by
                  intro hx
                  cases B with
                  | none => exact trivial
                  | some B => simp [hx] at hr
                have e := eq_true hrd
                simp only [e, true_and]
                exact hw
            obtain ⟨v, ⟨hrd, hv⟩, hrep⟩ := opG_free hpi.1 hop
            refine AnyH_take ho (dstOk_lt hc.1) hpi.1 n L f h hap hir hSr (fun h1 K1 hs1 k1 => hrep h1 K1 (fun b hb => ?_) k1) (ih _ sok _ _ h (decOk_put hd') hs hv)
            have hr : isRead o.op = true := by
              cases hx : isRead o.op with
              | true => rfl
              | false => rw [readOf_none hx] at hb; cases hb
            have sh := hSr hr
            have sh1 := hs1 hr
            have hrd := hrd hr
            cases B with
            | none =>
              simp only [SameB] at sh sh1
              rw [sh, sh1]
            | some B =>
              rw [hb] at hrd
              rw [sh1 b hrd, sh b hrd]
      · exact hw.elim
    · cases he : (Region.ready .any ops L).isEmpty with
      | true =>
        rw [he] at hw
        have hnil := List.isEmpty_iff.1 he
        exact ⟨fun _ => hw, fun i hi => (by rw [hnil] at hi; cases hi)⟩
      | false =>
        rw [he] at hw
        rw [cond_false] at hw
        refine ⟨fun e => (by rw [e] at he; cases he), fun i hi o ho => ?_⟩
        have hx := allOf_mem hw hi
        simp only [ho] at hx
        cases hc : dstOk N o with
        | false => rw [hc] at hx; exact hx.elim
        | true =>
          rw [hc, cond_true] at hx
          refine ⟨dstOk_lt hc, ?_⟩
          obtain ⟨w, dec', hd', hg, hx⟩ := goG_out hd hx
          cases w with
          | true =>
            rw [cond_true] at hx
            refine ⟨_, opG_of hg hx, fun v h' k => ?_⟩
            cases hn : sNeed ops i o with
            | true =>
              rw [hn, cond_true] at k
              exact ⟨fun _ => k.1, ih _ true _ _ h' (decOk_put hd') (fun _ => k.1) k.2⟩
            | false =>
              rw [hn, cond_false] at k
              exact ⟨fun e => (by cases e), ih _ false _ _ h' (decOk_put hd') (fun e => by cases e) k⟩
          | false =>
            rw [cond_false] at hx
            cases hn : sNeed ops i o && !sok with
            | true => rw [hn] at hx; exact hx.elim
            | false =>
              rw [hn, cond_false] at hx
              refine ⟨fun v h' => v = undef ∧ h' = h, opG_of hg ⟨rfl, rfl⟩, ?_⟩
              rintro v h' ⟨rfl, rfl⟩
              refine ⟨fun e => ?_, ih _ sok _ _ h' (decOk_skip ho hd') hs hx⟩
              rw [e] at hn
              simp only [Bool.true_and, Bool.not_eq_false'] at hn
              exact hs hn
end
end Go.Proofs.Ytdgpacdknpahnaa

/- What a piece of code asks, reckoned from its text. No conditions. -/
namespace Go.Proofs.Ytdgpacdknpahnaa
open Go.Conc

section
variable {P : Program} {main : Bool} {J : JT} {N n0 : Nat} {ops : Array Oper} {f : RG} {h : List AObj} {fn : FuncId} {Q : QT} {i : Nat} {rest : List Nat} {o : Oper}

theorem SemOps_cons (hJ : Closed P main J) (ho : ops[i]? = some o) (hd : ∀ t, o.dst = some t → t < N) {K : Value → List AObj → Prop} (hop : opG P (Good P J) ops o f.r h K) (hs : ∀ v h', K v h' → SemOps J N n0 fn ops rest (f.putO o.dst v) h' Q) : SemOps J N n0 fn ops (i :: rest) f h Q := by
  intro b a k cs L ρ FC w ft h1 h2 h3 h4 h5 h6 hc
  unfold opG at hop
  split at hop
  · rename_i hg
    refine step_any hJ h2 ho hg hd h4 h5 hop fun v h' ρ' w' ft' a' hK A' H' hu hl => ?_
    exact hs v h' hK b a' k cs L ρ' FC w' ft' h1 h2 h3 A' H' (Nat.le_trans h6 hl) fun e f2 h2' ρ2 w2 ft2 a2 q r1 r2 r3 r4 => hc e f2 h2' ρ2 w2 ft2 a2 q r1 r2 (Env.upto_trans (Env.upto_le hu h6) r3) r4
  · rename_i hg
    refine step_skip hJ ho hg h4 ?_
    exact hs _ _ hop b _ k cs L ρ FC w ft h1 h2 h3 (act_put h4 hd (vrel_undef _ _)) h5 h6 hc
  · exact hop.elim

theorem SemOps_of (hJ : Closed P main J) : ∀ (todo : List Nat) {dec : Dec} {f : RG} {h : List AObj}, decOk ops dec f → opsW P (Good P J) N ops todo dec f h (fun f h => Q .normal f h) → SemOps J N n0 fn ops todo f h Q
  | [], _, f, h, _, hq => SemOps_nil hJ hq
  | i :: todo, dec, f, h, hdec, hq => by
    unfold opsW at hq
    cases ho : ops[i]? with
    | none => rw [ho] at hq; exact hq.elim
    | some o =>
      rw [ho] at hq
      simp only at hq
      cases hc : dstOk N o with
      | false => rw [hc] at hq; exact hq.elim
      | true =>
        rw [hc, cond_true] at hq
        obtain ⟨w, dec', hd', hg, hq⟩ := goG_out hdec hq
        cases w with
        | true =>
          rw [cond_true] at hq
          exact SemOps_cons hJ ho (dstOk_lt hc) (opG_of hg hq) fun v h' k => SemOps_of hJ todo (decOk_put hd') k
        | false =>
          rw [cond_false] at hq
          refine SemOps_cons hJ ho (dstOk_lt hc) (K := fun v h' => v = undef ∧ h' = h) (opG_of hg ⟨rfl, rfl⟩) ?_
          rintro v h' ⟨rfl, rfl⟩
          exact SemOps_of hJ todo (decOk_skip ho hd') hq

theorem Sem_region_text (hJ : Closed P main J) {id : Nat} (hq : opsW P (Good P J) N ops (List.range ops.size) [] f h (fun f h => Q .normal f h)) : Sem J N n0 fn (.region id ops false) f h Q :=
  Sem_region hJ (SemOps_of hJ _ (fun j b e => by cases e) hq)

theorem SemOps_any (hJ : Closed P main J) {S : List AObj → Prop} : ∀ (n t : Nat) (L : Array Bool) (f : RG) (h : List AObj), AnyH P (Good P J) N ops S n L f h (fun f h => Q .normal f h) → SemOps J N n0 fn ops (Region.linearise.go .any ops n t L []) f h Q := by
  intro n
  induction n with
  | zero =>
    intro t L f h hA
    simp only [Region.linearise.go, List.reverse_nil]
    exact SemOps_nil hJ hA.2
  | succ n ih =>
    intro t L f h hA
    obtain ⟨h₀, h₁⟩ := hA
    simp only [Region.linearise.go]
    change SemOps J N n0 fn ops (match (Region.ready .any ops L)[t % (Region.ready .any ops L).length]? with
      | some i => Region.linearise.go .any ops n (t / (Region.ready .any ops L).length) (L.setIfInBounds i true) [i]
      | none => [].reverse) f h Q
    cases hi : (Region.ready .any ops L)[t % (Region.ready .any ops L).length]? with
    | none =>
      have hnil : Region.ready .any ops L = [] := by
        cases hr : Region.ready .any ops L with
        | nil => rfl
        | cons x xs =>
          rw [hr] at hi
          have hlt : t % (x :: xs).length < (x :: xs).length := Nat.mod_lt _ (by simp)
          simp at hi
          simp at hlt
          omega
      exact SemOps_nil hJ (h₀ hnil)
    | some i =>
      simp only []
      rw [linearise_go_acc, List.reverse_singleton, List.singleton_append]
      have hm := List.mem_of_getElem? hi
      have hm' := hm
      rw [mem_ready] at hm'
      obtain ⟨_, o, ho, _⟩ := hm'
      obtain ⟨hN, K', hK', hsub⟩ := h₁ i hm o ho
      exact SemOps_cons hJ ho hN hK' fun v h' k => ih _ _ _ _ (hsub v h' k).2

theorem Sem_region_draw (hJ : Closed P main J) (hm : P.follows .mixedOrders = true) {id : Nat} (hq : drawW P (Good P J) N ops f h (fun f h => Q .normal f h)) : Sem J N n0 fn (.region id ops true) f h Q := by
  have hA : ∃ S, AnyH P (Good P J) N ops S ops.size (Array.replicate ops.size false) f h (fun f h => Q .normal f h) := by
    unfold drawW at hq
    cases hs : still ops with
    | true =>
      rw [hs] at hq
      exact ⟨_, anyW_sound (B := none) (h0 := h) _ _ true [] f h (fun j b e => by cases e) (fun _ => rfl) hq⟩
    | false =>
      rw [hs] at hq
      obtain ⟨B, hq⟩ := hq
      exact ⟨_, anyW_sound (B := some B) (h0 := h) _ _ true [] f h (fun j b e => by cases e) (fun _ b _ => rfl) hq⟩
  obtain ⟨S, hA⟩ := hA
  intro b a k cs L ρ FC w ft h1 h2 h3 h4 h5 h6 hc
  refine hJ.step rfl fun w₁ h₁ => ⟨G (b.at a (.inRegion ops (Region.schedule (P.follows .mixedOrders) ops (w₁.tape w₁.drawn (.order b.fn id))) :: k)) cs, { w₁ with drawn := w₁.drawn + 1 }, #[], ?_, rfl, (Stays.drawn ft w₁ _).guar (by simp), ?_⟩
  · simp [G, stepG, stepG.exec, FB.at, choose, Go.Sem.run, Question.forced, Question.cut]
  · rw [show ({ w₁ with drawn := w₁.drawn + 1 } : World).heap = w₁.heap from rfl, Foot.ext_self]
    have H₁ := (h5.rely h₁).of_drawn (w₁.drawn + 1)
    simp only [Region.schedule, hm, Bool.true_or, if_true]
    exact SemOps_any hJ _ _ _ _ _ hA b a k cs L ρ FC _ ft h1 h2 h3 h4 H₁ h6 hc

/-- What a piece of code asks of the state ahead of it, that it may come to an end that fits Q. (Loops: by their own rule.) -/
def W (P : Program) (J : JT) (N n0 : Nat) (fn : FuncId) : Code → RG → List AObj → QT → Prop
  | .skip, f, h, Q => Q .normal f h
  | .label _, f, h, Q => Q .normal f h
  | .ret, f, h, Q => Q .ret f h
  | .exit id, f, h, Q => Q (.exit id) f h
  | .seq a b, f, h, Q => W P J N n0 fn a f h (thenK (fun f h => W P J N n0 fn b f h Q) Q)
  | .cond c a b, f, h, Q => cnd (ev f.r c) (W P J N n0 fn a f h Q) (W P J N n0 fn b f h Q)
  | .block id a, f, h, Q => W P J N n0 fn a f h (blockK id Q)
  | .scope a, f, h, Q => W P J N n0 fn a f h Q
  | .region _ ops draw, f, h, Q => bif draw then drawW P (Good P J) N ops f h (fun f h => Q .normal f h) else opsW P (Good P J) N ops (List.range ops.size) [] f h (fun f h => Q .normal f h)
  | c, f, h, Q => Sem J N n0 fn c f h Q

theorem W_sound (hJ : Closed P main J) (hm : P.follows .mixedOrders = true) : ∀ (c : Code) {f : RG} {h : List AObj} {Q : QT}, W P J N n0 fn c f h Q → Sem J N n0 fn c f h Q
  | .skip, f, h, Q, hw => Sem_skip hJ hw
  | .label _, f, h, Q, hw => Sem_label hJ hw
  | .ret, f, h, Q, hw => Sem_ret hw
  | .exit id, f, h, Q, hw => Sem_exit hJ hw
  | .seq a b, f, h, Q, hw => by
    refine Sem_seq hJ ((W_sound hJ hm a hw).mono fun e f h q => ?_)
    cases e with
    | normal => exact W_sound hJ hm b q
    | _ => exact q
  | .cond c a b, f, h, Q, hw => by
    simp only [W, cnd] at hw
    split at hw
    · rename_i t ht
      refine Sem_cond hJ ht ?_
      cases t with
      | true => exact W_sound hJ hm a (hw.1 rfl)
      | false => exact W_sound hJ hm b (hw.2 rfl)
    · exact hw.elim
  | .block id a, f, h, Q, hw => Sem_block hJ (W_sound hJ hm a hw)
  | .scope a, f, h, Q, hw => Sem_scope hJ (W_sound hJ hm a hw)
  | .region id ops draw, f, h, Q, hw => by
    cases draw with
    | true => exact Sem_region_draw hJ hm hw
    | false => exact Sem_region_text hJ hw
  | .loop _, f, h, Q, hw => hw
  | .rangeFunc .., f, h, Q, hw => hw
  | .goto _, f, h, Q, hw => hw
  | .refuse _, f, h, Q, hw => hw

def codeOf (fn : Func) : Code := fn.body.getD .skip

theorem good_of_W (hJ : Closed P main J) (hm : P.follows .mixedOrders = true) {g : FuncId} {args : List Value} {K : Value → List AObj → Prop} {fn : Func} (hf : P.funcs[g]? = some fn) {c : Code} (hb : fn.body = some c) (hn : (fn.name == "runtime.NumGoroutine") = false) (ha : args.length ≤ fn.ntmps)
    (hs : heapOk h → W P J fn.ntmps h.length g c ⟨regs args, []⟩ h (RetQ P fn.results.toList h.length K)) : Good P J g args h K :=
  good_of_sem hJ hf hb hn ha fun ok => W_sound hJ hm c (hs ok)
end
end Go.Proofs.Ytdgpacdknpahnaa

/- Pieces of a function's text by their place; loops by an invariant. No conditions. -/
namespace Go.Proofs.Ytdgpacdknpahnaa
open Go.Conc

def subC : List Nat → Code → Code
  | [], c => c
  | 0 :: p, .seq a _ => subC p a
  | _ :: p, .seq _ b => subC p b
  | 0 :: p, .cond _ a _ => subC p a
  | _ :: p, .cond _ _ b => subC p b
  | _ :: p, .block _ a => subC p a
  | _ :: p, .scope a => subC p a
  | _ :: p, .loop a => subC p a
  | 0 :: p, .rangeFunc _ _ a _ => subC p a
  | _ :: p, .rangeFunc _ _ _ b => subC p b
  | _, c => c

/-- What is asked behind a piece. 'nx': where the bodies of the loops around it end. -/
def contQ (P : Program) (J : JT) (N n0 : Nat) (fn : FuncId) : List Nat → Code → List (RG → List AObj → Prop) → QT → QT
  | 0 :: p, .seq a b, nx, Q => contQ P J N n0 fn p a nx (thenK (fun f h => W P J N n0 fn b f h Q) Q)
  | _ :: p, .seq _ b, nx, Q => contQ P J N n0 fn p b nx Q
  | 0 :: p, .cond _ a _, nx, Q => contQ P J N n0 fn p a nx Q
  | _ :: p, .cond _ _ b, nx, Q => contQ P J N n0 fn p b nx Q
  | _ :: p, .block id a, nx, Q => contQ P J N n0 fn p a nx (blockK id Q)
  | _ :: p, .scope a, nx, Q => contQ P J N n0 fn p a nx Q
  | _ :: p, .loop a, n :: nx, Q => contQ P J N n0 fn p a nx (thenK n Q)
  | _, _, _, Q => Q

/-- The invariant, here or where some blocks are forgotten. -/
def Gets {S : Type} (n0 : Nat) (I : S → RG → List AObj → Prop) (s : S) (f : RG) (h : List AObj) : Prop :=
  I s f h ∨ ∃ σ f' h', GCR n0 σ f h f' h' ∧ I s f' h'

/-- The end of a loop's body: the invariant again, with a lesser measure. -/
def Nx {S : Type} (n0 : Nat) (μ : S → Nat) (I : S → RG → List AObj → Prop) (s : S) : RG → List AObj → Prop := fun f h =>
  ∃ s', μ s' < μ s ∧ Gets n0 I s' f h

section
variable {P : Program} {main : Bool} {J : JT} {N n0 : Nat} {f : RG} {h : List AObj} {fn : FuncId} {Q : QT}

theorem loop_rule (hJ : Closed P main J) (hm : P.follows .mixedOrders = true) {c b : Code} (hc : c = .loop b) {S : Type} (μ : S → Nat) (I : S → RG → List AObj → Prop)
    (hI : ∀ s f h, I s f h → heapOk h → n0 ≤ h.length → W P J N n0 fn b f h (thenK (Nx n0 μ I s) Q))
    {s : S} (hi : Gets n0 I s f h) : Sem J N n0 fn c f h Q := by
  subst hc
  have body : ∀ s f h, I s f h → Sem J N n0 fn b f h (thenK (fun f h => ∃ m', m' < μ s ∧ ∃ s, m' = μ s ∧ Gets n0 I s f h) Q) := by
    intro s f h hi
    refine Sem.ok fun ok hn => (W_sound hJ hm b (hI s f h hi ok hn)).mono fun e f h q => ?_
    cases e with
    | normal =>
      obtain ⟨s', hlt, g⟩ := q
      exact ⟨μ s', hlt, s', rfl, g⟩
    | _ => exact q
  refine Sem_loop hJ (fun m f h => ∃ s, m = μ s ∧ Gets n0 I s f h) ?_ (m := μ s) ⟨s, rfl, hi⟩
  rintro m f h ⟨s, rfl, hi | ⟨σ, f', h', g, hi⟩⟩
  · exact body s f h hi
  · exact Sem.gc g (body s f' h' hi)
end

/-! ### words of the printed forms -/
def nuK : List Value → Prop → Prop
  | [], p => p
  | v :: vs, p => v ≠ unk ∧ nuK vs p

def retL (n0 : Nat) (K : Value → List AObj → Prop) (ds : List Nat) (vs : List Value) (h : List AObj) : Prop :=
  takeW ds h fun h => nuK vs (K (pack vs) h ∨ ∃ σ h' v, GC n0 σ h h' ∧ pack vs = sub σ v ∧ VOk h'.length v ∧ K v h')

def aNewS (n : Nat) (c : List Value) (h : List AObj) (K : Value → List AObj → Prop) : Prop := K (.slice (some ⟨h.length, 0, none⟩) n n) (h ++ [.cells c true 0])
def aNewM (h : List AObj) (K : Value → List AObj → Prop) : Prop := K (.map (some h.length)) (h ++ [.map [] true])
def aPick (c a b : Value) (K : Value → Prop) : Prop :=
  match c with
  | .bool t => K (bif t then a else b)
  | _ => False
def aConvI (k : IntKind) (x : Value) (K : Value → Prop) : Prop :=
  match x with
  | .int _ n => K (.int k (k.wrap n))
  | _ => False
def aMkF (f : FuncId) (first cap : List Value) (K : Value → Prop) : Prop := ((first ++ cap).all one) = true ∧ K (.func (.func f) ⟨first⟩ ⟨cap⟩)
end Go.Proofs.Ytdgpacdknpahnaa

/- The program follows the model's own orders. No conditions. -/
namespace Go.Proofs.Ytdgpacdknpahnaa
open Go Go.Proofs.Try
theorem mixed : prog.follows .mixedOrders = true := by kernel_rfl
end Go.Proofs.Ytdgpacdknpahnaa

/- Printed by program: the forms to which the bodies of some functions come down. No conditions. -/
namespace Go.Proofs.Ytdgpacdknpahnaa
open Go.Conc Go.Proofs.Try
set_option maxRecDepth 100000
set_option linter.unusedVariables false
section
variable {main : Bool} {J : JT} {n0 : Nat} {h : List AObj} {K : Value → List AObj → Prop}
theorem at8 : prog.funcs[8]? = some f8 := by kernel_rfl
theorem body8 : f8.body = some (codeOf f8) := by kernel_rfl
theorem e8 {a0 : Value} : W prog J 100 h.length 8 (codeOf f8) (RG.mk (regs [a0]) []) h (RetQ prog [.tmp 2] h.length K) =
(Good prog J 19 [a0] h fun v1 h2 =>
Good prog J 22 [v1, (vint 4)] h2 fun v3 h4 =>
Good prog J 20 [v1, (vint 1), (vint 9)] h4 fun v5 h6 =>
Good prog J 22 [v1, (vint 9)] h6 fun v7 h8 =>
Good prog J 22 [v1, (vint 300)] h8 fun v9 h10 =>
((2 * 1 ≤ 16777216 ∧ 2 ≤ 16777216 ∧ List.length [(vint 0)] = 1) ∧ aFill (zrep [(vint 0)] 2) [(0, 1, v7), (1, 1, v9)] fun c11 =>
aNewS 2 c11 h10 fun v12 h13 =>
Good prog J 21 [v1, (vint 0), v12] h13 fun v14 h15 =>
Good prog J 22 [v1, (vint 20)] h15 fun v16 h17 =>
((1 * 1 ≤ 16777216 ∧ 1 ≤ 16777216 ∧ List.length [(vint 0)] = 1) ∧ aFill (zrep [(vint 0)] 1) [(0, 1, v16)] fun c18 =>
aNewS 1 c18 h17 fun v19 h20 =>
Good prog J 21 [v1, (vint 0), v19] h20 fun v21 h22 =>
aFill [(vint 0), (vint 0), (vint 0), (vint 0)] [(0, 1, v3), (1, 1, v5), (2, 1, v14), (3, 1, v21)] fun c23 =>
aAlloc [(vint 0), (vint 0), (vint 0), (vint 0)] h22 fun v24 h25 =>
aStore 4 v24 (Value.agg ⟨c23⟩) h25 fun h26 =>
aLoad true 4 v24 h26 fun v27 =>
Good prog J 40 [v27] h26 fun v28 h29 =>
aExt v28 0 fun v30 =>
aExt v28 1 fun v31 =>
aAlloc [(vint 0), (vint 0)] h29 fun v32 h33 =>
aStore 2 v32 v30 h33 fun h34 =>
aBin prog .neq 32 v31 (vint 0) fun v35 =>
cnd v35
(cnd (Value.bool true)
(cnd (Value.bool true)
(cnd (Value.bool true)
(cnd (Value.bool true)
(retL h.length K [] [(Value.bool false)] h34)
(Sem J 100 h.length 8 (subC [1, 1, 1, 1, 1, 0, 1, 0] (codeOf f8)) (((((((((((((((((((((((((((((((((((((((((((((((((((((((((((((RG.mk (regs [a0]) []).put 2 (Value.bool false)).put 9 a0).put 10 v1).put 3 v1).put 11 v1).put 12 v3).put 13 v1).put 14 v5).put 15 v1).put 16 v1).put 17 v7).put 18 v1).put 19 v9).put 20 v12).put 21 v14).put 22 v1).put 23 v1).put 24 v16).put 25 v19).put 26 v21).put 27 (Value.agg ⟨c23⟩)).put 4 v24).put 29 v27).put 30 v28).put 28 v28).put 31 v30).put 32 v31).put 5 v32).put 6 v31).put 33 v31).put 34 v35).put 35 v35).put 35 (Value.bool true)).put 36 undef).put 37 undef).put 38 undef).put 39 undef).put 40 undef).put 41 (Value.bool true)).put 42 (Value.bool true)).put 42 (Value.bool true)).put 43 undef).put 44 undef).put 45 undef).put 46 undef).put 47 undef).put 48 (Value.bool true)).put 49 (Value.bool true)).put 49 (Value.bool true)).put 50 undef).put 51 undef).put 52 undef).put 53 (Value.bool true)).put 54 (Value.bool true)).put 54 (Value.bool true)).put 55 undef).put 56 undef).put 57 undef).put 58 (Value.bool true)).put 7 (vint 0)) h34 (contQ prog J 100 h.length 8 [1, 1, 1, 1, 1, 0, 1, 0] (codeOf f8) [] (RetQ prog [.tmp 2] h.length K))))
(aOff v32 1 fun v36 =>
aLoad false 1 v36 h34 fun v37 =>
aBin prog .geq 3 v37 (vint 400) fun v38 =>
cnd v38
(retL h.length K [] [(Value.bool false)] h34)
(Sem J 100 h.length 8 (subC [1, 1, 1, 1, 1, 0, 1, 0] (codeOf f8)) (((((((((((((((((((((((((((((((((((((((((((((((((((((((((((((RG.mk (regs [a0]) []).put 2 (Value.bool false)).put 9 a0).put 10 v1).put 3 v1).put 11 v1).put 12 v3).put 13 v1).put 14 v5).put 15 v1).put 16 v1).put 17 v7).put 18 v1).put 19 v9).put 20 v12).put 21 v14).put 22 v1).put 23 v1).put 24 v16).put 25 v19).put 26 v21).put 27 (Value.agg ⟨c23⟩)).put 4 v24).put 29 v27).put 30 v28).put 28 v28).put 31 v30).put 32 v31).put 5 v32).put 6 v31).put 33 v31).put 34 v35).put 35 v35).put 35 (Value.bool true)).put 36 undef).put 37 undef).put 38 undef).put 39 undef).put 40 undef).put 41 (Value.bool true)).put 42 (Value.bool true)).put 42 (Value.bool true)).put 43 undef).put 44 undef).put 45 undef).put 46 undef).put 47 undef).put 48 (Value.bool true)).put 49 (Value.bool true)).put 49 (Value.bool true)).put 50 undef).put 51 undef).put 52 undef).put 53 (Value.bool true)).put 54 (Value.bool true)).put 54 (Value.bool false)).put 55 v36).put 56 v37).put 57 v38).put 58 v38).put 7 (vint 0)) h34 (contQ prog J 100 h.length 8 [1, 1, 1, 1, 1, 0, 1, 0] (codeOf f8) [] (RetQ prog [.tmp 2] h.length K)))))
(aOff v32 0 fun v39 =>
aLoad false 1 v39 h34 fun v40 =>
aBin prog .lss 3 v40 (vint 0) fun v41 =>
cnd v41
(cnd (Value.bool true)
(retL h.length K [] [(Value.bool false)] h34)
(Sem J 100 h.length 8 (subC [1, 1, 1, 1, 1, 0, 1, 0] (codeOf f8)) (((((((((((((((((((((((((((((((((((((((((((((((((((((((((((((RG.mk (regs [a0]) []).put 2 (Value.bool false)).put 9 a0).put 10 v1).put 3 v1).put 11 v1).put 12 v3).put 13 v1).put 14 v5).put 15 v1).put 16 v1).put 17 v7).put 18 v1).put 19 v9).put 20 v12).put 21 v14).put 22 v1).put 23 v1).put 24 v16).put 25 v19).put 26 v21).put 27 (Value.agg ⟨c23⟩)).put 4 v24).put 29 v27).put 30 v28).put 28 v28).put 31 v30).put 32 v31).put 5 v32).put 6 v31).put 33 v31).put 34 v35).put 35 v35).put 35 (Value.bool true)).put 36 undef).put 37 undef).put 38 undef).put 39 undef).put 40 undef).put 41 (Value.bool true)).put 42 (Value.bool true)).put 42 (Value.bool true)).put 43 undef).put 44 undef).put 45 undef).put 46 undef).put 47 undef).put 48 (Value.bool true)).put 49 (Value.bool true)).put 49 (Value.bool false)).put 50 v39).put 51 v40).put 52 v41).put 53 v41).put 54 v41).put 54 (Value.bool true)).put 55 undef).put 56 undef).put 57 undef).put 58 (Value.bool true)).put 7 (vint 0)) h34 (contQ prog J 100 h.length 8 [1, 1, 1, 1, 1, 0, 1, 0] (codeOf f8) [] (RetQ prog [.tmp 2] h.length K))))
(aOff v32 1 fun v42 =>
aLoad false 1 v42 h34 fun v43 =>
aBin prog .geq 3 v43 (vint 400) fun v44 =>
cnd v44
(retL h.length K [] [(Value.bool false)] h34)
(Sem J 100 h.length 8 (subC [1, 1, 1, 1, 1, 0, 1, 0] (codeOf f8)) (((((((((((((((((((((((((((((((((((((((((((((((((((((((((((((RG.mk (regs [a0]) []).put 2 (Value.bool false)).put 9 a0).put 10 v1).put 3 v1).put 11 v1).put 12 v3).put 13 v1).put 14 v5).put 15 v1).put 16 v1).put 17 v7).put 18 v1).put 19 v9).put 20 v12).put 21 v14).put 22 v1).put 23 v1).put 24 v16).put 25 v19).put 26 v21).put 27 (Value.agg ⟨c23⟩)).put 4 v24).put 29 v27).put 30 v28).put 28 v28).put 31 v30).put 32 v31).put 5 v32).put 6 v31).put 33 v31).put 34 v35).put 35 v35).put 35 (Value.bool true)).put 36 undef).put 37 undef).put 38 undef).put 39 undef).put 40 undef).put 41 (Value.bool true)).put 42 (Value.bool true)).put 42 (Value.bool true)).put 43 undef).put 44 undef).put 45 undef).put 46 undef).put 47 undef).put 48 (Value.bool true)).put 49 (Value.bool true)).put 49 (Value.bool false)).put 50 v39).put 51 v40).put 52 v41).put 53 v41).put 54 v41).put 54 (Value.bool false)).put 55 v42).put 56 v43).put 57 v44).put 58 v44).put 7 (vint 0)) h34 (contQ prog J 100 h.length 8 [1, 1, 1, 1, 1, 0, 1, 0] (codeOf f8) [] (RetQ prog [.tmp 2] h.length K))))))
(aOff v32 1 fun v45 =>
aLoad false 1 v45 h34 fun v46 =>
aOff v24 2 fun v47 =>
aLoad false 1 v47 h34 fun v48 =>
aBin prog .lss 3 v46 v48 fun v49 =>
cnd v49
(cnd (Value.bool true)
(cnd (Value.bool true)
(retL h.length K [] [(Value.bool false)] h34)
(Sem J 100 h.length 8 (subC [1, 1, 1, 1, 1, 0, 1, 0] (codeOf f8)) (((((((((((((((((((((((((((((((((((((((((((((((((((((((((((((RG.mk (regs [a0]) []).put 2 (Value.bool false)).put 9 a0).put 10 v1).put 3 v1).put 11 v1).put 12 v3).put 13 v1).put 14 v5).put 15 v1).put 16 v1).put 17 v7).put 18 v1).put 19 v9).put 20 v12).put 21 v14).put 22 v1).put 23 v1).put 24 v16).put 25 v19).put 26 v21).put 27 (Value.agg ⟨c23⟩)).put 4 v24).put 29 v27).put 30 v28).put 28 v28).put 31 v30).put 32 v31).put 5 v32).put 6 v31).put 33 v31).put 34 v35).put 35 v35).put 35 (Value.bool true)).put 36 undef).put 37 undef).put 38 undef).put 39 undef).put 40 undef).put 41 (Value.bool true)).put 42 (Value.bool true)).put 42 (Value.bool false)).put 43 v45).put 44 v46).put 45 v47).put 46 v48).put 47 v49).put 48 v49).put 49 v49).put 49 (Value.bool true)).put 50 undef).put 51 undef).put 52 undef).put 53 (Value.bool true)).put 54 (Value.bool true)).put 54 (Value.bool true)).put 55 undef).put 56 undef).put 57 undef).put 58 (Value.bool true)).put 7 (vint 0)) h34 (contQ prog J 100 h.length 8 [1, 1, 1, 1, 1, 0, 1, 0] (codeOf f8) [] (RetQ prog [.tmp 2] h.length K))))
(aOff v32 1 fun v50 =>
aLoad false 1 v50 h34 fun v51 =>
aBin prog .geq 3 v51 (vint 400) fun v52 =>
cnd v52
(retL h.length K [] [(Value.bool false)] h34)
(Sem J 100 h.length 8 (subC [1, 1, 1, 1, 1, 0, 1, 0] (codeOf f8)) (((((((((((((((((((((((((((((((((((((((((((((((((((((((((((((RG.mk (regs [a0]) []).put 2 (Value.bool false)).put 9 a0).put 10 v1).put 3 v1).put 11 v1).put 12 v3).put 13 v1).put 14 v5).put 15 v1).put 16 v1).put 17 v7).put 18 v1).put 19 v9).put 20 v12).put 21 v14).put 22 v1).put 23 v1).put 24 v16).put 25 v19).put 26 v21).put 27 (Value.agg ⟨c23⟩)).put 4 v24).put 29 v27).put 30 v28).put 28 v28).put 31 v30).put 32 v31).put 5 v32).put 6 v31).put 33 v31).put 34 v35).put 35 v35).put 35 (Value.bool true)).put 36 undef).put 37 undef).put 38 undef).put 39 undef).put 40 undef).put 41 (Value.bool true)).put 42 (Value.bool true)).put 42 (Value.bool false)).put 43 v45).put 44 v46).put 45 v47).put 46 v48).put 47 v49).put 48 v49).put 49 v49).put 49 (Value.bool true)).put 50 undef).put 51 undef).put 52 undef).put 53 (Value.bool true)).put 54 (Value.bool true)).put 54 (Value.bool false)).put 55 v50).put 56 v51).put 57 v52).put 58 v52).put 7 (vint 0)) h34 (contQ prog J 100 h.length 8 [1, 1, 1, 1, 1, 0, 1, 0] (codeOf f8) [] (RetQ prog [.tmp 2] h.length K)))))
(aOff v32 0 fun v53 =>
aLoad false 1 v53 h34 fun v54 =>
aBin prog .lss 3 v54 (vint 0) fun v55 =>
cnd v55
(cnd (Value.bool true)
(retL h.length K [] [(Value.bool false)] h34)
(Sem J 100 h.length 8 (subC [1, 1, 1, 1, 1, 0, 1, 0] (codeOf f8)) (((((((((((((((((((((((((((((((((((((((((((((((((((((((((((((RG.mk (regs [a0]) []).put 2 (Value.bool false)).put 9 a0).put 10 v1).put 3 v1).put 11 v1).put 12 v3).put 13 v1).put 14 v5).put 15 v1).put 16 v1).put 17 v7).put 18 v1).put 19 v9).put 20 v12).put 21 v14).put 22 v1).put 23 v1).put 24 v16).put 25 v19).put 26 v21).put 27 (Value.agg ⟨c23⟩)).put 4 v24).put 29 v27).put 30 v28).put 28 v28).put 31 v30).put 32 v31).put 5 v32).put 6 v31).put 33 v31).put 34 v35).put 35 v35).put 35 (Value.bool true)).put 36 undef).put 37 undef).put 38 undef).put 39 undef).put 40 undef).put 41 (Value.bool true)).put 42 (Value.bool true)).put 42 (Value.bool false)).put 43 v45).put 44 v46).put 45 v47).put 46 v48).put 47 v49).put 48 v49).put 49 v49).put 49 (Value.bool false)).put 50 v53).put 51 v54).put 52 v55).put 53 v55).put 54 v55).put 54 (Value.bool true)).put 55 undef).put 56 undef).put 57 undef).put 58 (Value.bool true)).put 7 (vint 0)) h34 (contQ prog J 100 h.length 8 [1, 1, 1, 1, 1, 0, 1, 0] (codeOf f8) [] (RetQ prog [.tmp 2] h.length K))))
(aOff v32 1 fun v56 =>
aLoad false 1 v56 h34 fun v57 =>
aBin prog .geq 3 v57 (vint 400) fun v58 =>
cnd v58
(retL h.length K [] [(Value.bool false)] h34)
(Sem J 100 h.length 8 (subC [1, 1, 1, 1, 1, 0, 1, 0] (codeOf f8)) (((((((((((((((((((((((((((((((((((((((((((((((((((((((((((((RG.mk (regs [a0]) []).put 2 (Value.bool false)).put 9 a0).put 10 v1).put 3 v1).put 11 v1).put 12 v3).put 13 v1).put 14 v5).put 15 v1).put 16 v1).put 17 v7).put 18 v1).put 19 v9).put 20 v12).put 21 v14).put 22 v1).put 23 v1).put 24 v16).put 25 v19).put 26 v21).put 27 (Value.agg ⟨c23⟩)).put 4 v24).put 29 v27).put 30 v28).put 28 v28).put 31 v30).put 32 v31).put 5 v32).put 6 v31).put 33 v31).put 34 v35).put 35 v35).put 35 (Value.bool true)).put 36 undef).put 37 undef).put 38 undef).put 39 undef).put 40 undef).put 41 (Value.bool true)).put 42 (Value.bool true)).put 42 (Value.bool false)).put 43 v45).put 44 v46).put 45 v47).put 46 v48).put 47 v49).put 48 v49).put 49 v49).put 49 (Value.bool false)).put 50 v53).put 51 v54).put 52 v55).put 53 v55).put 54 v55).put 54 (Value.bool false)).put 55 v56).put 56 v57).put 57 v58).put 58 v58).put 7 (vint 0)) h34 (contQ prog J 100 h.length 8 [1, 1, 1, 1, 1, 0, 1, 0] (codeOf f8) [] (RetQ prog [.tmp 2] h.length K)))))))
(aOff v32 0 fun v59 =>
aLoad false 1 v59 h34 fun v60 =>
aOff v24 2 fun v61 =>
aLoad false 1 v61 h34 fun v62 =>
aBin prog .gtr 3 v60 v62 fun v63 =>
cnd v63
(cnd (Value.bool true)
(cnd (Value.bool true)
(cnd (Value.bool true)
(retL h.length K [] [(Value.bool false)] h34)
(Sem J 100 h.length 8 (subC [1, 1, 1, 1, 1, 0, 1, 0] (codeOf f8)) (((((((((((((((((((((((((((((((((((((((((((((((((((((((((((((RG.mk (regs [a0]) []).put 2 (Value.bool false)).put 9 a0).put 10 v1).put 3 v1).put 11 v1).put 12 v3).put 13 v1).put 14 v5).put 15 v1).put 16 v1).put 17 v7).put 18 v1).put 19 v9).put 20 v12).put 21 v14).put 22 v1).put 23 v1).put 24 v16).put 25 v19).put 26 v21).put 27 (Value.agg ⟨c23⟩)).put 4 v24).put 29 v27).put 30 v28).put 28 v28).put 31 v30).put 32 v31).put 5 v32).put 6 v31).put 33 v31).put 34 v35).put 35 v35).put 35 (Value.bool false)).put 36 v59).put 37 v60).put 38 v61).put 39 v62).put 40 v63).put 41 v63).put 42 v63).put 42 (Value.bool true)).put 43 undef).put 44 undef).put 45 undef).put 46 undef).put 47 undef).put 48 (Value.bool true)).put 49 (Value.bool true)).put 49 (Value.bool true)).put 50 undef).put 51 undef).put 52 undef).put 53 (Value.bool true)).put 54 (Value.bool true)).put 54 (Value.bool true)).put 55 undef).put 56 undef).put 57 undef).put 58 (Value.bool true)).put 7 (vint 0)) h34 (contQ prog J 100 h.length 8 [1, 1, 1, 1, 1, 0, 1, 0] (codeOf f8) [] (RetQ prog [.tmp 2] h.length K))))
(aOff v32 1 fun v64 =>
aLoad false 1 v64 h34 fun v65 =>
aBin prog .geq 3 v65 (vint 400) fun v66 =>
cnd v66
(retL h.length K [] [(Value.bool false)] h34)
(Sem J 100 h.length 8 (subC [1, 1, 1, 1, 1, 0, 1, 0] (codeOf f8)) (((((((((((((((((((((((((((((((((((((((((((((((((((((((((((((RG.mk (regs [a0]) []).put 2 (Value.bool false)).put 9 a0).put 10 v1).put 3 v1).put 11 v1).put 12 v3).put 13 v1).put 14 v5).put 15 v1).put 16 v1).put 17 v7).put 18 v1).put 19 v9).put 20 v12).put 21 v14).put 22 v1).put 23 v1).put 24 v16).put 25 v19).put 26 v21).put 27 (Value.agg ⟨c23⟩)).put 4 v24).put 29 v27).put 30 v28).put 28 v28).put 31 v30).put 32 v31).put 5 v32).put 6 v31).put 33 v31).put 34 v35).put 35 v35).put 35 (Value.bool false)).put 36 v59).put 37 v60).put 38 v61).put 39 v62).put 40 v63).put 41 v63).put 42 v63).put 42 (Value.bool true)).put 43 undef).put 44 undef).put 45 undef).put 46 undef).put 47 undef).put 48 (Value.bool true)).put 49 (Value.bool true)).put 49 (Value.bool true)).put 50 undef).put 51 undef).put 52 undef).put 53 (Value.bool true)).put 54 (Value.bool true)).put 54 (Value.bool false)).put 55 v64).put 56 v65).put 57 v66).put 58 v66).put 7 (vint 0)) h34 (contQ prog J 100 h.length 8 [1, 1, 1, 1, 1, 0, 1, 0] (codeOf f8) [] (RetQ prog [.tmp 2] h.length K)))))
(aOff v32 0 fun v67 =>
aLoad false 1 v67 h34 fun v68 =>
aBin prog .lss 3 v68 (vint 0) fun v69 =>
cnd v69
(cnd (Value.bool true)
(retL h.length K [] [(Value.bool false)] h34)
(Sem J 100 h.length 8 (subC [1, 1, 1, 1, 1, 0, 1, 0] (codeOf f8)) (((((((((((((((((((((((((((((((((((((((((((((((((((((((((((((RG.mk (regs [a0]) []).put 2 (Value.bool false)).put 9 a0).put 10 v1).put 3 v1).put 11 v1).put 12 v3).put 13 v1).put 14 v5).put 15 v1).put 16 v1).put 17 v7).put 18 v1).put 19 v9).put 20 v12).put 21 v14).put 22 v1).put 23 v1).put 24 v16).put 25 v19).put 26 v21).put 27 (Value.agg ⟨c23⟩)).put 4 v24).put 29 v27).put 30 v28).put 28 v28).put 31 v30).put 32 v31).put 5 v32).put 6 v31).put 33 v31).put 34 v35).put 35 v35).put 35 (Value.bool false)).put 36 v59).put 37 v60).put 38 v61).put 39 v62).put 40 v63).put 41 v63).put 42 v63).put 42 (Value.bool true)).put 43 undef).put 44 undef).put 45 undef).put 46 undef).put 47 undef).put 48 (Value.bool true)).put 49 (Value.bool true)).put 49 (Value.bool false)).put 50 v67).put 51 v68).put 52 v69).put 53 v69).put 54 v69).put 54 (Value.bool true)).put 55 undef).put 56 undef).put 57 undef).put 58 (Value.bool true)).put 7 (vint 0)) h34 (contQ prog J 100 h.length 8 [1, 1, 1, 1, 1, 0, 1, 0] (codeOf f8) [] (RetQ prog [.tmp 2] h.length K))))
(aOff v32 1 fun v70 =>
aLoad false 1 v70 h34 fun v71 =>
aBin prog .geq 3 v71 (vint 400) fun v72 =>
cnd v72
(retL h.length K [] [(Value.bool false)] h34)
(Sem J 100 h.length 8 (subC [1, 1, 1, 1, 1, 0, 1, 0] (codeOf f8)) (((((((((((((((((((((((((((((((((((((((((((((((((((((((((((((RG.mk (regs [a0]) []).put 2 (Value.bool false)).put 9 a0).put 10 v1).put 3 v1).put 11 v1).put 12 v3).put 13 v1).put 14 v5).put 15 v1).put 16 v1).put 17 v7).put 18 v1).put 19 v9).put 20 v12).put 21 v14).put 22 v1).put 23 v1).put 24 v16).put 25 v19).put 26 v21).put 27 (Value.agg ⟨c23⟩)).put 4 v24).put 29 v27).put 30 v28).put 28 v28).put 31 v30).put 32 v31).put 5 v32).put 6 v31).put 33 v31).put 34 v35).put 35 v35).put 35 (Value.bool false)).put 36 v59).put 37 v60).put 38 v61).put 39 v62).put 40 v63).put 41 v63).put 42 v63).put 42 (Value.bool true)).put 43 undef).put 44 undef).put 45 undef).put 46 undef).put 47 undef).put 48 (Value.bool true)).put 49 (Value.bool true)).put 49 (Value.bool false)).put 50 v67).put 51 v68).put 52 v69).put 53 v69).put 54 v69).put 54 (Value.bool false)).put 55 v70).put 56 v71).put 57 v72).put 58 v72).put 7 (vint 0)) h34 (contQ prog J 100 h.length 8 [1, 1, 1, 1, 1, 0, 1, 0] (codeOf f8) [] (RetQ prog [.tmp 2] h.length K))))))
(aOff v32 1 fun v73 =>
aLoad false 1 v73 h34 fun v74 =>
aOff v24 2 fun v75 =>
aLoad false 1 v75 h34 fun v76 =>
aBin prog .lss 3 v74 v76 fun v77 =>
cnd v77
(cnd (Value.bool true)
(cnd (Value.bool true)
(retL h.length K [] [(Value.bool false)] h34)
(Sem J 100 h.length 8 (subC [1, 1, 1, 1, 1, 0, 1, 0] (codeOf f8)) (((((((((((((((((((((((((((((((((((((((((((((((((((((((((((((RG.mk (regs [a0]) []).put 2 (Value.bool false)).put 9 a0).put 10 v1).put 3 v1).put 11 v1).put 12 v3).put 13 v1).put 14 v5).put 15 v1).put 16 v1).put 17 v7).put 18 v1).put 19 v9).put 20 v12).put 21 v14).put 22 v1).put 23 v1).put 24 v16).put 25 v19).put 26 v21).put 27 (Value.agg ⟨c23⟩)).put 4 v24).put 29 v27).put 30 v28).put 28 v28).put 31 v30).put 32 v31).put 5 v32).put 6 v31).put 33 v31).put 34 v35).put 35 v35).put 35 (Value.bool false)).put 36 v59).put 37 v60).put 38 v61).put 39 v62).put 40 v63).put 41 v63).put 42 v63).put 42 (Value.bool false)).put 43 v73).put 44 v74).put 45 v75).put 46 v76).put 47 v77).put 48 v77).put 49 v77).put 49 (Value.bool true)).put 50 undef).put 51 undef).put 52 undef).put 53 (Value.bool true)).put 54 (Value.bool true)).put 54 (Value.bool true)).put 55 undef).put 56 undef).put 57 undef).put 58 (Value.bool true)).put 7 (vint 0)) h34 (contQ prog J 100 h.length 8 [1, 1, 1, 1, 1, 0, 1, 0] (codeOf f8) [] (RetQ prog [.tmp 2] h.length K))))
(aOff v32 1 fun v78 =>
aLoad false 1 v78 h34 fun v79 =>
aBin prog .geq 3 v79 (vint 400) fun v80 =>
cnd v80
(retL h.length K [] [(Value.bool false)] h34)
(Sem J 100 h.length 8 (subC [1, 1, 1, 1, 1, 0, 1, 0] (codeOf f8)) (((((((((((((((((((((((((((((((((((((((((((((((((((((((((((((RG.mk (regs [a0]) []).put 2 (Value.bool false)).put 9 a0).put 10 v1).put 3 v1).put 11 v1).put 12 v3).put 13 v1).put 14 v5).put 15 v1).put 16 v1).put 17 v7).put 18 v1).put 19 v9).put 20 v12).put 21 v14).put 22 v1).put 23 v1).put 24 v16).put 25 v19).put 26 v21).put 27 (Value.agg ⟨c23⟩)).put 4 v24).put 29 v27).put 30 v28).put 28 v28).put 31 v30).put 32 v31).put 5 v32).put 6 v31).put 33 v31).put 34 v35).put 35 v35).put 35 (Value.bool false)).put 36 v59).put 37 v60).put 38 v61).put 39 v62).put 40 v63).put 41 v63).put 42 v63).put 42 (Value.bool false)).put 43 v73).put 44 v74).put 45 v75).put 46 v76).put 47 v77).put 48 v77).put 49 v77).put 49 (Value.bool true)).put 50 undef).put 51 undef).put 52 undef).put 53 (Value.bool true)).put 54 (Value.bool true)).put 54 (Value.bool false)).put 55 v78).put 56 v79).put 57 v80).put 58 v80).put 7 (vint 0)) h34 (contQ prog J 100 h.length 8 [1, 1, 1, 1, 1, 0, 1, 0] (codeOf f8) [] (RetQ prog [.tmp 2] h.length K)))))
(aOff v32 0 fun v81 =>
aLoad false 1 v81 h34 fun v82 =>
aBin prog .lss 3 v82 (vint 0) fun v83 =>
cnd v83
(cnd (Value.bool true)
(retL h.length K [] [(Value.bool false)] h34)
(Sem J 100 h.length 8 (subC [1, 1, 1, 1, 1, 0, 1, 0] (codeOf f8)) (((((((((((((((((((((((((((((((((((((((((((((((((((((((((((((RG.mk (regs [a0]) []).put 2 (Value.bool false)).put 9 a0).put 10 v1).put 3 v1).put 11 v1).put 12 v3).put 13 v1).put 14 v5).put 15 v1).put 16 v1).put 17 v7).put 18 v1).put 19 v9).put 20 v12).put 21 v14).put 22 v1).put 23 v1).put 24 v16).put 25 v19).put 26 v21).put 27 (Value.agg ⟨c23⟩)).put 4 v24).put 29 v27).put 30 v28).put 28 v28).put 31 v30).put 32 v31).put 5 v32).put 6 v31).put 33 v31).put 34 v35).put 35 v35).put 35 (Value.bool false)).put 36 v59).put 37 v60).put 38 v61).put 39 v62).put 40 v63).put 41 v63).put 42 v63).put 42 (Value.bool false)).put 43 v73).put 44 v74).put 45 v75).put 46 v76).put 47 v77).put 48 v77).put 49 v77).put 49 (Value.bool false)).put 50 v81).put 51 v82).put 52 v83).put 53 v83).put 54 v83).put 54 (Value.bool true)).put 55 undef).put 56 undef).put 57 undef).put 58 (Value.bool true)).put 7 (vint 0)) h34 (contQ prog J 100 h.length 8 [1, 1, 1, 1, 1, 0, 1, 0] (codeOf f8) [] (RetQ prog [.tmp 2] h.length K))))
(aOff v32 1 fun v84 =>
aLoad false 1 v84 h34 fun v85 =>
aBin prog .geq 3 v85 (vint 400) fun v86 =>
cnd v86
(retL h.length K [] [(Value.bool false)] h34)
(Sem J 100 h.length 8 (subC [1, 1, 1, 1, 1, 0, 1, 0] (codeOf f8)) (((((((((((((((((((((((((((((((((((((((((((((((((((((((((((((RG.mk (regs [a0]) []).put 2 (Value.bool false)).put 9 a0).put 10 v1).put 3 v1).put 11 v1).put 12 v3).put 13 v1).put 14 v5).put 15 v1).put 16 v1).put 17 v7).put 18 v1).put 19 v9).put 20 v12).put 21 v14).put 22 v1).put 23 v1).put 24 v16).put 25 v19).put 26 v21).put 27 (Value.agg ⟨c23⟩)).put 4 v24).put 29 v27).put 30 v28).put 28 v28).put 31 v30).put 32 v31).put 5 v32).put 6 v31).put 33 v31).put 34 v35).put 35 v35).put 35 (Value.bool false)).put 36 v59).put 37 v60).put 38 v61).put 39 v62).put 40 v63).put 41 v63).put 42 v63).put 42 (Value.bool false)).put 43 v73).put 44 v74).put 45 v75).put 46 v76).put 47 v77).put 48 v77).put 49 v77).put 49 (Value.bool false)).put 50 v81).put 51 v82).put 52 v83).put 53 v83).put 54 v83).put 54 (Value.bool false)).put 55 v84).put 56 v85).put 57 v86).put 58 v86).put 7 (vint 0)) h34 (contQ prog J 100 h.length 8 [1, 1, 1, 1, 1, 0, 1, 0] (codeOf f8) [] (RetQ prog [.tmp 2] h.length K)))))))))) := by kernel_rfl
theorem g8 (hJ : Closed prog main J) {a0 : Value} (hs : heapOk h → W prog J 100 h.length 8 (codeOf f8) (RG.mk (regs [a0]) []) h (RetQ prog [.tmp 2] h.length K)) : Good prog J 8 [a0] h K :=
  good_of_W hJ mixed at8 body8 (by kernel_rfl) (Nat.le_of_ble_eq_true rfl) hs
-- loop [1, 1, 1, 1, 1, 0, 1, 0, 0]
theorem s8_1 {f : RG} {nx0 : RG → List AObj → Prop} : W prog J 100 n0 8 (subC [1, 1, 1, 1, 1, 0, 1, 0, 0] (codeOf f8)) f h (thenK nx0 (contQ prog J 100 n0 8 [1, 1, 1, 1, 1, 0, 1, 0] (codeOf f8) [] (RetQ prog [.tmp 2] n0 K))) =
(aBin prog .lss 3 (f.r 7) (vint 400) fun v1 =>
cnd v1
(aOff (f.r 4) 2 fun v2 =>
aLoad false 1 v2 h fun v3 =>
aBin prog .mul 3 (vint 100) v3 fun v4 =>
aBin prog .mul 3 (vint 100) (f.r 7) fun v5 =>
aOff (f.r 4) 3 fun v6 =>
aLoad false 1 v6 h fun v7 =>
aBin prog .mul 3 v7 (f.r 7) fun v8 =>
aBin prog .add 3 v5 v8 fun v9 =>
aBin prog .leq 3 v4 v9 fun v10 =>
cnd v10
(aOff (f.r 4) 2 fun v11 =>
aLoad false 1 v11 h fun v12 =>
aBin prog .mul 3 (vint 100) v12 fun v13 =>
aBin prog .mul 3 (vint 100) (f.r 7) fun v14 =>
aOff (f.r 4) 3 fun v15 =>
aLoad false 1 v15 h fun v16 =>
aBin prog .mul 3 v16 (f.r 7) fun v17 =>
aBin prog .sub 3 v14 v17 fun v18 =>
aBin prog .geq 3 v13 v18 fun v19 =>
aOff (f.r 5) 0 fun v20 =>
aLoad false 1 v20 h fun v21 =>
aBin prog .leq 3 v21 (f.r 7) fun v22 =>
cnd v22
(aOff (f.r 5) 1 fun v23 =>
aLoad false 1 v23 h fun v24 =>
aBin prog .leq 3 (f.r 7) v24 fun v25 =>
aBin prog .neq 4 v19 v25 fun v26 =>
cnd v26
(retL n0 K f.ds [(Value.bool false)] h)
(aBin prog .add 3 (f.r 7) (vint 1) fun v27 =>
nx0 ((((((((((((((((((((((((((((((((((((((((((((f.put 59 (f.r 7)).put 60 v1).put 63 v2).put 64 v3).put 65 v4).put 66 (f.r 7)).put 67 v5).put 68 v6).put 69 v7).put 70 (f.r 7)).put 71 v8).put 72 v9).put 73 v10).put 74 v10).put 74 (Value.bool true)).put 75 v11).put 76 v12).put 77 v13).put 78 (f.r 7)).put 79 v14).put 80 v15).put 81 v16).put 82 (f.r 7)).put 83 v17).put 84 v18).put 85 v19).put 86 v19).put 8 v19).put 87 v19).put 88 v20).put 89 v21).put 90 (f.r 7)).put 91 v22).put 92 v22).put 92 (Value.bool true)).put 93 (f.r 7)).put 94 v23).put 95 v24).put 96 v25).put 97 v25).put 98 v26).put 61 (f.r 7)).put 62 v27).put 7 v27) h))
(aBin prog .neq 4 v19 (Value.bool false) fun v28 =>
cnd v28
(retL n0 K f.ds [(Value.bool false)] h)
(aBin prog .add 3 (f.r 7) (vint 1) fun v29 =>
nx0 ((((((((((((((((((((((((((((((((((((((((((((f.put 59 (f.r 7)).put 60 v1).put 63 v2).put 64 v3).put 65 v4).put 66 (f.r 7)).put 67 v5).put 68 v6).put 69 v7).put 70 (f.r 7)).put 71 v8).put 72 v9).put 73 v10).put 74 v10).put 74 (Value.bool true)).put 75 v11).put 76 v12).put 77 v13).put 78 (f.r 7)).put 79 v14).put 80 v15).put 81 v16).put 82 (f.r 7)).put 83 v17).put 84 v18).put 85 v19).put 86 v19).put 8 v19).put 87 v19).put 88 v20).put 89 v21).put 90 (f.r 7)).put 91 v22).put 92 v22).put 92 (Value.bool false)).put 93 undef).put 94 undef).put 95 undef).put 96 undef).put 97 (Value.bool false)).put 98 v28).put 61 (f.r 7)).put 62 v29).put 7 v29) h)))
(aOff (f.r 5) 0 fun v30 =>
aLoad false 1 v30 h fun v31 =>
aBin prog .leq 3 v31 (f.r 7) fun v32 =>
cnd v32
(aOff (f.r 5) 1 fun v33 =>
aLoad false 1 v33 h fun v34 =>
aBin prog .leq 3 (f.r 7) v34 fun v35 =>
aBin prog .neq 4 (Value.bool false) v35 fun v36 =>
cnd v36
(retL n0 K f.ds [(Value.bool false)] h)
(aBin prog .add 3 (f.r 7) (vint 1) fun v37 =>
nx0 ((((((((((((((((((((((((((((((((((((((((((((f.put 59 (f.r 7)).put 60 v1).put 63 v2).put 64 v3).put 65 v4).put 66 (f.r 7)).put 67 v5).put 68 v6).put 69 v7).put 70 (f.r 7)).put 71 v8).put 72 v9).put 73 v10).put 74 v10).put 74 (Value.bool false)).put 75 undef).put 76 undef).put 77 undef).put 78 undef).put 79 undef).put 80 undef).put 81 undef).put 82 undef).put 83 undef).put 84 undef).put 85 undef).put 86 (Value.bool false)).put 8 (Value.bool false)).put 87 (Value.bool false)).put 88 v30).put 89 v31).put 90 (f.r 7)).put 91 v32).put 92 v32).put 92 (Value.bool true)).put 93 (f.r 7)).put 94 v33).put 95 v34).put 96 v35).put 97 v35).put 98 v36).put 61 (f.r 7)).put 62 v37).put 7 v37) h))
(aBin prog .neq 4 (Value.bool false) (Value.bool false) fun v38 =>
cnd v38
(retL n0 K f.ds [(Value.bool false)] h)
(aBin prog .add 3 (f.r 7) (vint 1) fun v39 =>
nx0 ((((((((((((((((((((((((((((((((((((((((((((f.put 59 (f.r 7)).put 60 v1).put 63 v2).put 64 v3).put 65 v4).put 66 (f.r 7)).put 67 v5).put 68 v6).put 69 v7).put 70 (f.r 7)).put 71 v8).put 72 v9).put 73 v10).put 74 v10).put 74 (Value.bool false)).put 75 undef).put 76 undef).put 77 undef).put 78 undef).put 79 undef).put 80 undef).put 81 undef).put 82 undef).put 83 undef).put 84 undef).put 85 undef).put 86 (Value.bool false)).put 8 (Value.bool false)).put 87 (Value.bool false)).put 88 v30).put 89 v31).put 90 (f.r 7)).put 91 v32).put 92 v32).put 92 (Value.bool false)).put 93 undef).put 94 undef).put 95 undef).put 96 undef).put 97 (Value.bool false)).put 98 v38).put 61 (f.r 7)).put 62 v39).put 7 v39) h))))
(Good prog J 18 [] h fun v40 h41 =>
retL n0 K f.ds [v40] h41)) := by kernel_rfl
theorem l8_1 (hJ : Closed prog main J) {S : Type} (μ : S → Nat) (I : S → RG → List AObj → Prop) (hI : ∀ s f h, I s f h → heapOk h → n0 ≤ h.length → W prog J 100 n0 8 (subC [1, 1, 1, 1, 1, 0, 1, 0, 0] (codeOf f8)) f h (thenK (Nx n0 μ I s) (contQ prog J 100 n0 8 [1, 1, 1, 1, 1, 0, 1, 0] (codeOf f8) [] (RetQ prog [.tmp 2] n0 K))))
  {s : S} {f : RG} (hi : Gets n0 I s f h) : Sem J 100 n0 8 (subC [1, 1, 1, 1, 1, 0, 1, 0] (codeOf f8)) f h (contQ prog J 100 n0 8 [1, 1, 1, 1, 1, 0, 1, 0] (codeOf f8) [] (RetQ prog [.tmp 2] n0 K)) :=
  loop_rule hJ mixed (b := subC [1, 1, 1, 1, 1, 0, 1, 0, 0] (codeOf f8)) (by kernel_rfl) μ I hI hi
end
end Go.Proofs.Ytdgpacdknpahnaa

/- Printed by program: the forms to which the bodies of some functions come down. No conditions. -/
namespace Go.Proofs.Ytdgpacdknpahnaa
open Go.Conc Go.Proofs.Try
set_option maxRecDepth 100000
set_option linter.unusedVariables false
section
variable {main : Bool} {J : JT} {n0 : Nat} {h : List AObj} {K : Value → List AObj → Prop}
theorem at77 : prog.funcs[77]? = some f77 := by kernel_rfl
theorem body77 : f77.body = some (codeOf f77) := by kernel_rfl
theorem e77 {a0 a1 : Value} : W prog J 25 h.length 77 (codeOf f77) (RG.mk (regs [a0, a1]) []) h (RetQ prog [.tmp 4] h.length K) =
(aBox a0 h fun v1 h2 =>
aOff v1 0 fun v3 =>
aLoad false 1 v3 h2 fun v4 =>
aBin prog .sub 3 a1 (vint 1) fun v5 =>
Good prog J 67 [v4, (vint 0), v5] h2 fun v6 h7 =>
aUn .not v6 fun v8 =>
cnd v8
(retL h.length K [] [(vint 3)] h7)
(aOff v1 1 fun v9 =>
aLoad false 1 v9 h7 fun v10 =>
Good prog J 67 [v10, (vint 1), (vint 9)] h7 fun v11 h12 =>
aUn .not v11 fun v13 =>
cnd v13
(W prog J 25 h.length 77 (subC [1, 0, 0, 1, 1, 1] (codeOf f77)) (((((((((((((((RG.mk (regs [a0, a1]) []).put 2 v1).put 4 (vint 0)).put 6 v3).put 7 v4).put 8 a1).put 9 v5).put 10 v6).put 11 v8).put 5 v8).put 13 v9).put 14 v10).put 15 v11).put 16 v13).put 12 v13) h12 (contQ prog J 25 h.length 77 [1, 0, 0, 1, 1, 1] (codeOf f77) [] (RetQ prog [.tmp 4] h.length K)))
(aOff v1 2 fun v14 =>
aLoad false 1 v14 h12 fun v15 =>
Good prog J 67 [v15, (vint 0), (vint 300)] h12 fun v16 h17 =>
aUn .not v16 fun v18 =>
cnd v18
(W prog J 25 h.length 77 (subC [1, 0, 0, 1, 1, 1] (codeOf f77)) ((((((((((((((((((((RG.mk (regs [a0, a1]) []).put 2 v1).put 4 (vint 0)).put 6 v3).put 7 v4).put 8 a1).put 9 v5).put 10 v6).put 11 v8).put 5 v8).put 13 v9).put 14 v10).put 15 v11).put 16 v13).put 12 v13).put 17 v14).put 18 v15).put 19 v16).put 20 v18).put 12 v18) h17 (contQ prog J 25 h.length 77 [1, 0, 0, 1, 1, 1] (codeOf f77) [] (RetQ prog [.tmp 4] h.length K)))
(aOff v1 3 fun v19 =>
aLoad false 1 v19 h17 fun v20 =>
Good prog J 67 [v20, (vint 0), (vint 20)] h17 fun v21 h22 =>
aUn .not v21 fun v23 =>
W prog J 25 h.length 77 (subC [1, 0, 0, 1, 1, 1] (codeOf f77)) (((((((((((((((((((((((((RG.mk (regs [a0, a1]) []).put 2 v1).put 4 (vint 0)).put 6 v3).put 7 v4).put 8 a1).put 9 v5).put 10 v6).put 11 v8).put 5 v8).put 13 v9).put 14 v10).put 15 v11).put 16 v13).put 12 v13).put 17 v14).put 18 v15).put 19 v16).put 20 v18).put 12 v18).put 21 v19).put 22 v20).put 23 v21).put 24 v23).put 12 v23) h22 (contQ prog J 25 h.length 77 [1, 0, 0, 1, 1, 1] (codeOf f77) [] (RetQ prog [.tmp 4] h.length K)))))) := by kernel_rfl
theorem g77 (hJ : Closed prog main J) {a0 a1 : Value} (hs : heapOk h → W prog J 25 h.length 77 (codeOf f77) (RG.mk (regs [a0, a1]) []) h (RetQ prog [.tmp 4] h.length K)) : Good prog J 77 [a0, a1] h K :=
  good_of_W hJ mixed at77 body77 (by kernel_rfl) (Nat.le_of_ble_eq_true rfl) hs
-- join [1, 0, 0, 1, 1, 1]
theorem s77_1 {f : RG} : W prog J 25 n0 77 (subC [1, 0, 0, 1, 1, 1] (codeOf f77)) f h (contQ prog J 25 n0 77 [1, 0, 0, 1, 1, 1] (codeOf f77) [] (RetQ prog [.tmp 4] n0 K)) =
(cnd (f.r 12)
(retL n0 K f.ds [(vint 1)] h)
(retL n0 K f.ds [(vint 0)] h)) := by kernel_rfl
theorem at78 : prog.funcs[78]? = some f78 := by kernel_rfl
theorem body78 : f78.body = some (codeOf f78) := by kernel_rfl
theorem e78 {a0 : Value} : W prog J 22 h.length 78 (codeOf f78) (RG.mk (regs [a0]) []) h (RetQ prog [.cell 2 98] h.length K) =
(aBox a0 h fun v1 h2 =>
aAlloc [(vint 0), (vint 0)] h2 fun v3 h4 =>
aOff v1 2 fun v5 =>
aLoad false 1 v5 h4 fun v6 =>
aBin prog .mul 3 (vint 100) v6 fun v7 =>
aBin prog .add 3 v7 (vint 99) fun v8 =>
aOff v1 3 fun v9 =>
aLoad false 1 v9 h4 fun v10 =>
aBin prog .add 3 v8 v10 fun v11 =>
aOff v1 3 fun v12 =>
aLoad false 1 v12 h4 fun v13 =>
aBin prog .add 3 (vint 100) v13 fun v14 =>
aBin prog .quo 3 v11 v14 fun v15 =>
aOff v1 2 fun v16 =>
aLoad false 1 v16 h4 fun v17 =>
aBin prog .mul 3 (vint 100) v17 fun v18 =>
aOff v1 3 fun v19 =>
aLoad false 1 v19 h4 fun v20 =>
aBin prog .sub 3 (vint 100) v20 fun v21 =>
aBin prog .quo 3 v18 v21 fun v22 =>
aFill [(vint 0), (vint 0)] [(0, 1, v15), (1, 1, v22)] fun c23 =>
aStore 2 v3 (Value.agg ⟨c23⟩) h4 fun h24 =>
RetQ prog [.cell 2 98] h.length K .ret ((((((((((((((((((((((RG.mk (regs [a0]) []).put 1 v1).put 2 v3).put 3 v5).put 4 v6).put 5 v7).put 6 v8).put 7 v9).put 8 v10).put 9 v11).put 10 v12).put 11 v13).put 12 v14).put 13 v15).put 14 v16).put 15 v17).put 16 v18).put 17 v19).put 18 v20).put 19 v21).put 20 v22).put 21 (Value.agg ⟨c23⟩)) h24) := by kernel_rfl
theorem g78 (hJ : Closed prog main J) {a0 : Value} (hs : heapOk h → W prog J 22 h.length 78 (codeOf f78) (RG.mk (regs [a0]) []) h (RetQ prog [.cell 2 98] h.length K)) : Good prog J 78 [a0] h K :=
  good_of_W hJ mixed at78 body78 (by kernel_rfl) (Nat.le_of_ble_eq_true rfl) hs
theorem at40 : prog.funcs[40]? = some f40 := by kernel_rfl
theorem body40 : f40.body = some (codeOf f40) := by kernel_rfl
theorem e40 {a0 : Value} : W prog J 13 h.length 40 (codeOf f40) (RG.mk (regs [a0]) []) h (RetQ prog [.cell 2 38, .tmp 3] h.length K) =
(aBox a0 h fun v1 h2 =>
aAlloc [(vint 0), (vint 0)] h2 fun v3 h4 =>
aLoad true 4 v1 h4 fun v5 =>
Good prog J 77 [v5, (vint 5)] h4 fun v6 h7 =>
aBin prog .neq 32 v6 (vint 0) fun v8 =>
cnd v8
(aFill [(vint 0), (vint 0)] [] fun c9 =>
aStore 2 v3 (Value.agg ⟨c9⟩) h7 fun h10 =>
RetQ prog [.cell 2 38, .tmp 3] h.length K .ret ((((((((((((RG.mk (regs [a0]) []).put 1 v1).put 2 v3).put 3 (vint 0)).put 5 v5).put 6 v6).put 4 v6).put 7 v6).put 8 v8).put 9 (Value.agg ⟨c9⟩)).put 10 v6).put 3 v6) h10)
(aLoad true 4 v1 h7 fun v11 =>
Good prog J 78 [v11] h7 fun v12 h13 =>
aStore 2 v3 v12 h13 fun h14 =>
RetQ prog [.cell 2 38, .tmp 3] h.length K .ret ((((((((((((RG.mk (regs [a0]) []).put 1 v1).put 2 v3).put 3 (vint 0)).put 5 v5).put 6 v6).put 4 v6).put 7 v6).put 8 v8).put 11 v11).put 12 v12).put 3 (vint 0)) h14)) := by kernel_rfl
theorem g40 (hJ : Closed prog main J) {a0 : Value} (hs : heapOk h → W prog J 13 h.length 40 (codeOf f40) (RG.mk (regs [a0]) []) h (RetQ prog [.cell 2 38, .tmp 3] h.length K)) : Good prog J 40 [a0] h K :=
  good_of_W hJ mixed at40 body40 (by kernel_rfl) (Nat.le_of_ble_eq_true rfl) hs
end
end Go.Proofs.Ytdgpacdknpahnaa

/- Laws of the operations on plain values. No conditions. -/
namespace Go.Proofs.Ytdgpacdknpahnaa
open Go.Conc

section
variable {P : Program} {t : TypeId} {K : Value → Prop} {H : Value → List AObj → Prop} {k : IntKind} {a b : Int} {p : Prop} [Decidable p] {A B : Prop} {h : List AObj}

theorem cnd_dec : cnd (.bool (decide p)) A B ↔ (p → A) ∧ (¬p → B) := by simp [cnd]
theorem cnd_ndec : cnd (.bool (!decide p)) A B ↔ (¬p → A) ∧ (p → B) := by simp [cnd]
theorem cnd_bool {b : Bool} : cnd (.bool b) A B ↔ (b = true → A) ∧ (b = false → B) := Iff.rfl
theorem cnd_true : cnd (.bool true) A B ↔ A := by simp [cnd]
theorem cnd_false : cnd (.bool false) A B ↔ B := by simp [cnd]

theorem b_lss : aBin P .lss t (.int k a) (.int k b) K = K (.bool (decide (a < b))) := by simp [aBin, aInt]
theorem b_leq : aBin P .leq t (.int k a) (.int k b) K = K (.bool (decide (a ≤ b))) := by simp [aBin, aInt]
theorem b_gtr : aBin P .gtr t (.int k a) (.int k b) K = K (.bool (decide (a > b))) := by simp [aBin, aInt]
theorem b_geq : aBin P .geq t (.int k a) (.int k b) K = K (.bool (decide (a ≥ b))) := by simp [aBin, aInt]
theorem b_eql : aBin P .eql t (.int k a) (.int k b) K = K (.bool (decide (a = b))) := by simp [aBin, aInt]; rfl
theorem b_neq : aBin P .neq t (.int k a) (.int k b) K = K (.bool (decide (a ≠ b))) := by simp [aBin, aInt]; rfl

theorem wrap64 {n : Int} (h1 : -9223372036854775808 ≤ n) (h2 : n < 9223372036854775808) : IntKind.i64.wrap n = n := by
  simp only [IntKind.wrap, IntKind.bits, IntKind.signed]
  simp
  split <;> omega
theorem b_add (h : -9223372036854775808 ≤ a + b ∧ a + b < 9223372036854775808) : aBin P .add t (vint a) (vint b) K = K (vint (a + b)) := by simp [aBin, aInt, vint, wrap64 h.1 h.2]
theorem b_sub (h : -9223372036854775808 ≤ a - b ∧ a - b < 9223372036854775808) : aBin P .sub t (vint a) (vint b) K = K (vint (a - b)) := by simp [aBin, aInt, vint, wrap64 h.1 h.2]
theorem b_mul (h : -9223372036854775808 ≤ a * b ∧ a * b < 9223372036854775808) : aBin P .mul t (vint a) (vint b) K = K (vint (a * b)) := by simp [aBin, aInt, vint, wrap64 h.1 h.2]
theorem u_not {b : Bool} : aUn .not (.bool b) K = K (.bool (!b)) := rfl

theorem lenS {x : Option Addr} {n c : Nat} : aLenS (.slice x n c) K = K (vint n) := rfl
theorem idx_ok {s b o n c : Nat} {j : Int} : aIdx s (.slice (some ⟨b, o, none⟩) n c) (vint j) K = ((0 ≤ j ∧ j < n) ∧ K (ptr b (o + j.toNat * s))) := rfl
theorem load_cell {b o s : Nat} {c : List Value} {wr : Bool} {sz : Nat} {v : Value} (hb : h[b]? = some (.cells c wr sz)) (hv : c[o]? = some v) (hn : kn1 v = true) {K : Value → Prop} : aLoad false s (ptr b o) h K = K v := by
  simp [aLoad, hb, hv, hn]
theorem store_cell {b o : Nat} {c : List Value} {sz : Nat} {v : Value} (hb : h[b]? = some (.cells c true sz)) (ho : o < c.length) (h1 : v.cells = #[v]) (h2 : one v = true) {K : List AObj → Prop} (hk : K (h.set b (.cells (c.set o v) true sz))) : aStore 1 (ptr b o) v h K := by
  simp [aStore, ptr, hb, h1, h2, wrAt]
  exact ⟨ho, hk⟩

theorem sub_id {n : Nat} {v : Value} (h : VOk n v) : sub id v = v := sub_same (n := n) (fun _ _ => rfl) v h

theorem gc_id {n0 : Nat} (ok : heapOk h) (hn : n0 ≤ h.length) : GC n0 id h h :=
  ⟨hn, fun _ _ => rfl, fun i o hi => .inr (by rw [subO_same (σ := id) (n := h.length) (fun _ _ => rfl) (ok i o hi)]; exact hi), fun i j _ _ _ _ _ _ e => e, ok⟩

/-- Blocks at the end are forgotten. -/
theorem gc_drop {n0 : Nat} {g : List AObj} (ok : heapOk h) (hn : n0 ≤ h.length) : GC n0 id (h ++ g) h :=
  ⟨hn, fun _ _ => rfl, fun i o hi => .inr (by
    rw [subO_same (σ := id) (n := h.length) (fun _ _ => rfl) (ok i o hi)]
    have : i < h.length := by
      rcases Nat.lt_or_ge i h.length with x | x
      · exact x
      · rw [List.getElem?_eq_none x] at hi; cases hi
    simp only [id]
    rw [List.getElem?_append_left this]
    exact hi), fun i j _ _ _ _ _ _ e => e, ok⟩

theorem objOk_mono {n m : Nat} (hn : n ≤ m) {o : AObj} (ho : objOk n o) : objOk m o := by
  cases o with
  | dead => trivial
  | deferred => trivial
  | cells c wr sz => exact LOk.mono hn c ho
  | map es wr => exact fun e he => ⟨(ho e he).1, VOk.mono hn _ (ho e he).2⟩
  | loop st pend fn r size params assign body dfr => exact ⟨fun t => (ho.1 t).imp id (VOk.mono hn _), Nat.lt_of_lt_of_le ho.2 hn⟩

theorem retL_same {n0 : Nat} {vs : List Value} (hv : ∀ v ∈ vs, v ≠ unk) (hk : H (pack vs) h) : retL n0 H [] vs h := by
  unfold retL takeW
  have : ∀ (l : List Value) (p : Prop), (∀ v ∈ l, v ≠ unk) → p → nuK l p := by
    intro l
    induction l with
    | nil => intro p _ hp; exact hp
    | cons v l ih => intro p h hp; exact ⟨h v (by simp), ih p (fun u hu => h u (by simp [hu])) hp⟩
  exact this vs _ hv (.inl hk)
theorem retL_drop {n0 : Nat} {g : List AObj} {vs : List Value} (ok : heapOk h) (hn : n0 ≤ h.length) (hv : ∀ v ∈ vs, v ≠ unk) (hw : VOk h.length (pack vs)) (hk : H (pack vs) h) : retL n0 H [] vs (h ++ g) := by
  unfold retL takeW
  have : ∀ (l : List Value) (p : Prop), (∀ v ∈ l, v ≠ unk) → p → nuK l p := by
    intro l
    induction l with
    | nil => intro p _ hp; exact hp
    | cons v l ih => intro p h hp; exact ⟨h v (by simp), ih p (fun u hu => h u (by simp [hu])) hp⟩
  exact this vs _ hv (.inr ⟨id, h, pack vs, gc_drop ok hn, (sub_id hw).symm, hw, hk⟩)

/-! ### slices -/
/-- The slice v has n elements of s cells each, and these are its cells. -/
def Sli (h : List AObj) (v : Value) (s n : Nat) (cells : List Value) : Prop :=
  ∃ base c, v = .slice base n c ∧ (cells.length = n * s ∧ kn cells = true) ∧ ((base = none ∧ n = 0) ∨ ∃ b o, base = some ⟨b, o, none⟩ ∧ (n = 0 ∨ ∃ cs wr sz, h[b]? = some (.cells cs wr sz) ∧ (cs.drop o).take (n * s) = cells))

theorem sli_len {v : Value} {s n : Nat} {cells : List Value} (hs : Sli h v s n cells) : aLenS v K = K (vint n) := by
  obtain ⟨base, c, rfl, _⟩ := hs
  rfl

theorem sli_get {v : Value} {s n : Nat} {cells : List Value} (hs : Sli h v s n cells) {i : Int} (hi : 0 ≤ i ∧ i < n) :
    ∃ b o cs wr sz c, v = .slice (some ⟨b, o, none⟩) n c ∧ h[b]? = some (.cells cs wr sz) ∧ ∀ j x, cells[j]? = some x → cs[o + j]? = some x := by
  obtain ⟨base, c, rfl, ⟨hl, hkn⟩, hc⟩ := hs
  rcases hc with ⟨_, h0⟩ | ⟨b, o, rfl, h0 | ⟨cs, wr, sz, hb, rfl⟩⟩
  · omega
  · omega
  · refine ⟨b, o, cs, wr, sz, c, rfl, hb, fun j x hx => ?_⟩
    rw [List.getElem?_take] at hx
    split at hx
    · rw [List.getElem?_drop] at hx
      exact hx
    · cases hx

/-- An element of one cell is read. -/
theorem idx_load {v : Value} {n : Nat} {cells : List Value} {i : Int} {x : Value} {K : Value → Value → Prop} (hs : Sli h v 1 n cells) (hi : 0 ≤ i ∧ i < n) (hx : cells[i.toNat]? = some x) (hk : ∀ p, K p x) :
    aIdx 1 v (vint i) fun p => aLoad false 1 p h (K p) := by
  obtain ⟨b, o, cs, wr, sz, c, rfl, hb, hg⟩ := sli_get hs hi
  rw [idx_ok]
  refine ⟨hi, ?_⟩
  rw [load_cell hb (by simpa using hg _ _ hx) (by
    obtain ⟨_, _, _, ⟨_, hkn⟩, _⟩ := hs
    exact kn_get hkn hx)]
  exact hk _

theorem sli_app {v : Value} {s n : Nat} {cells : List Value} {g : List AObj} (hs : Sli h v s n cells) : Sli (h ++ g) v s n cells := by
  obtain ⟨base, c, rfl, ⟨hl, hkn⟩, hc⟩ := hs
  refine ⟨base, c, rfl, ⟨hl, hkn⟩, ?_⟩
  rcases hc with h0 | ⟨b, o, rfl, h0 | ⟨cs, wr, sz, hb, hx⟩⟩
  · exact .inl h0
  · exact .inr ⟨b, o, rfl, .inl h0⟩
  · refine .inr ⟨b, o, rfl, .inr ⟨cs, wr, sz, ?_, hx⟩⟩
    have : b < h.length := by
      rcases Nat.lt_or_ge b h.length with x | x
      · exact x
      · rw [List.getElem?_eq_none x] at hb; cases hb
    rw [List.getElem?_append_left this]
    exact hb

theorem sli_new {b n c : Nat} {cells : List Value} {wr : Bool} {sz : Nat} (hb : h[b]? = some (.cells cells wr sz)) (hl : cells.length = n) (hk : kn cells = true) : Sli h (.slice (some ⟨b, 0, none⟩) n c) 1 n cells :=
  ⟨_, c, rfl, ⟨by omega, hk⟩, .inr ⟨b, 0, rfl, .inr ⟨cells, wr, sz, hb, by simp [← hl]⟩⟩⟩

theorem sli_nil {s : Nat} : Sli h (.slice none 0 0) s 0 [] := ⟨none, 0, rfl, ⟨by simp, rfl⟩, .inl ⟨rfl, rfl⟩⟩

theorem sli_vlen {v : Value} {s n : Nat} {cells : List Value} (hs : Sli h v s n cells) : cells.length = n * s := by
  obtain ⟨_, _, _, ⟨hl, _⟩, _⟩ := hs
  exact hl

theorem src_sli {v : Value} {s n : Nat} {cells : List Value} {K : List Value → Prop} (hs : Sli h v s n cells) (hsp : 0 < s) (hk : K cells) : srcCells s n v h K := by
  obtain ⟨base, c, rfl, ⟨hl, hkn⟩, hc⟩ := hs
  rcases hc with ⟨rfl, rfl⟩ | ⟨b, o, rfl, h0 | ⟨cs, wr, sz, hb, rfl⟩⟩
  · have : cells = [] := List.length_eq_zero_iff.1 (by omega)
    subst this
    exact ⟨rfl, hk⟩
  · subst h0
    have : cells = [] := List.length_eq_zero_iff.1 (by omega)
    subst this
    exact ⟨fun _ => hk, fun x => absurd rfl x⟩
  · by_cases h0 : n = 0
    · subst h0
      exact ⟨fun _ => by simpa using hk, fun x => absurd rfl x⟩
    · refine ⟨fun x => absurd x h0, fun _ => ?_⟩
      simp only [hb]
      refine ⟨?_, hkn, hk⟩
      rw [List.length_take, List.length_drop] at hl
      have := Nat.mul_pos (Nat.pos_of_ne_zero h0) hsp
      omega

/-- Something is appended to the nil slice. -/
theorem app_nil {s m : Nat} {y : Value} {ys : List Value} (hsp : 0 < s) (hy : Sli h y s m ys) (hm : m ≤ room) (h0 : m = 0 → H (.slice none 0 0) h) (h1 : m ≠ 0 → H (.slice (some ⟨h.length, 0, none⟩) m fz) (h ++ [.cells ys true s])) : aApp s (.slice none 0 0) y h H := by
  have hy' := hy
  obtain ⟨yb, yc, rfl, _⟩ := hy
  exact ⟨by omega, src_sli hy' hsp ⟨⟨rfl, rfl⟩, h0, h1⟩⟩

/-- .. to a slice that was grown by append before: its block is given up. -/
theorem app_own {s n m b : Nat} {y : Value} {cs ys : List Value} (hb : h[b]? = some (.cells cs true s)) (hcs : n * s ≤ cs.length) (hkn : kn (cs.take (n * s)) = true) (hsp : 0 < s) (hy : Sli h y s m ys) (hm : n + m ≤ room)
    (hk : H (.slice (some ⟨h.length, 0, none⟩) (n + m) fz) (h.set b .dead ++ [.cells (cs.take (n * s) ++ ys) true s])) : aApp s (.slice (some ⟨b, 0, none⟩) n fz) y h H := by
  have hy' := hy
  obtain ⟨yb, yc, rfl, _⟩ := hy
  refine ⟨hm, src_sli hy' hsp ?_⟩
  simp only [hb, List.drop_zero, Nat.zero_add]
  have : s ≠ 0 := by omega
  exact ⟨⟨hcs, hkn⟩, fun x => absurd x (Nat.lt_irrefl _), fun _ => ⟨trivial, trivial, trivial, trivial, hk⟩⟩

/-- .. to a slice without room. -/
theorem app_copy {s n m b o c : Nat} {y : Value} {cs ys : List Value} {wr : Bool} {sz : Nat} (hb : h[b]? = some (.cells cs wr sz)) (hcs : o + n * s ≤ cs.length) (hkn : kn ((cs.drop o).take (n * s)) = true) (hc : c < n + m) (hsp : 0 < s) (hy : Sli h y s m ys) (hm : n + m ≤ room)
    (hk : H (.slice (some ⟨h.length, 0, none⟩) (n + m) fz) (h ++ [.cells ((cs.drop o).take (n * s) ++ ys) true s])) : aApp s (.slice (some ⟨b, o, none⟩) n c) y h H := by
  have hy' := hy
  obtain ⟨yb, yc, rfl, _⟩ := hy
  refine ⟨hm, src_sli hy' hsp ?_⟩
  simp only [hb]
  have hr : room = 1073741824 := rfl
  have hf : fz = 1180591620717411303424 := rfl
  exact ⟨⟨hcs, hkn⟩, fun _ => ⟨fun x => absurd x (by omega), fun _ => hk⟩, fun x => absurd x (by omega)⟩

theorem zrep_one {z : Value} (n : Nat) : zrep [z] n = List.replicate n z := by
  induction n with
  | zero => rfl
  | succ n ih => simp [zrep, ih, List.replicate_succ]

theorem mkS_one {z : Value} {n : Nat} (hn : n ≤ room) (hk : H (.slice (some ⟨h.length, 0, none⟩) n n) (h ++ [.cells (List.replicate n z) true 0])) : aMkS [z] (vint n) (vint n) h H := by
  have hr : room = 1073741824 := rfl
  simp only [aMkS, Int.toNat_natCast, zrep_one]
  exact ⟨by omega, by omega, by omega, hk⟩

theorem kn_ints (l : List Int) : kn (l.map vint) = true := by
  simp [kn, kn1]

theorem map_get {l : List Int} {k : Nat} (hk : k < l.length) : (l.map vint)[k]? = some (vint (l.getD k 0)) := by
  simp [hk]

theorem mul_bd {a b A B : Int} (h1 : 0 ≤ a) (h2 : a ≤ A) (h3 : 0 ≤ b) (h4 : b ≤ B) : 0 ≤ a * b ∧ a * b ≤ A * B :=
  ⟨Int.mul_nonneg h1 h3, Int.mul_le_mul h2 h4 h3 (by omega)⟩

/-! ### numbers of 64 bits without sign, of which no more is asked than that they are such -/
theorem wrapU (n : Int) : 0 ≤ IntKind.u64.wrap n ∧ IntKind.u64.wrap n < 18446744073709551616 := by
  simp only [IntKind.wrap, IntKind.bits, IntKind.signed]
  simp
  omega
theorem u_add (hk : ∀ y, 0 ≤ y → y < 18446744073709551616 → K (.int .u64 y)) : aBin P .add t (.int .u64 a) (.int .u64 b) K := ⟨rfl, hk _ (wrapU _).1 (wrapU _).2⟩
theorem u_mul (hk : ∀ y, 0 ≤ y → y < 18446744073709551616 → K (.int .u64 y)) : aBin P .mul t (.int .u64 a) (.int .u64 b) K := ⟨rfl, hk _ (wrapU _).1 (wrapU _).2⟩
theorem u_xor (hk : ∀ y, 0 ≤ y → y < 18446744073709551616 → K (.int .u64 y)) : aBin P .xor t (.int .u64 a) (.int .u64 b) K := ⟨rfl, hk _ (wrapU _).1 (wrapU _).2⟩
theorem u_shl (hb : 0 ≤ b) (hk : ∀ y, 0 ≤ y → y < 18446744073709551616 → K (.int .u64 y)) : aBin P .shl t (.int .u64 a) (.int k b) K := ⟨hb, hk _ (wrapU _).1 (wrapU _).2⟩
theorem u_shr (hb : 0 ≤ b) (ha : 0 ≤ a) {A : Int} (hA : a < A) (hk : ∀ y, 0 ≤ y → y < A → K (.int .u64 y)) : aBin P .shr t (.int .u64 a) (.int k b) K := by
  refine ⟨hb, hk _ ?_ ?_⟩
  · exact Int.fdiv_nonneg ha (by exact Int.le_of_lt (Int.pow_pos (by decide)))
  · refine Int.lt_of_le_of_lt ?_ hA
    rw [Int.fdiv_eq_ediv_of_nonneg _ (Int.le_of_lt (Int.pow_pos (by decide)))]
    exact Int.ediv_le_self _ ha

/-! ### of the new blocks only one is kept -/
def moveTo (n k : Nat) : Nat → Nat := fun i => if i = n then k else i

theorem gc_one {n0 : Nat} {g : List AObj} {k : Nat} {o : AObj} (ok : heapOk h) (hn : n0 ≤ h.length) (hk : (h ++ g)[k]? = some o) (hkn : h.length ≤ k) (ho : objOk h.length o) : GC n0 (moveTo h.length k) (h ++ g) (h ++ [o]) := by
  have hsame : Same h.length (moveTo h.length k) := fun b hb => by simp [moveTo]; omega
  refine ⟨by simp; omega, fun b hb => hsame b (by omega), fun i oi hi => .inr ?_, fun i j oi oj hi hj _ _ e => ?_, fun i oi hi => ?_⟩
  · rcases Nat.lt_or_ge i h.length with hlt | hge
    · rw [List.getElem?_append_left hlt] at hi
      rw [hsame i hlt, List.getElem?_append_left hlt, subO_same hsame (ok i oi hi)]
      exact hi
    · have hil : i = h.length := by
        have := (List.getElem?_eq_some_iff.1 hi).1
        simp at this
        omega
      subst hil
      have : oi = o := by simpa using hi.symm
      subst this
      rw [subO_same hsame ho]
      simpa [moveTo] using hk
  · have hil := (List.getElem?_eq_some_iff.1 hi).1
    have hjl := (List.getElem?_eq_some_iff.1 hj).1
    simp at hil hjl
    simp only [moveTo] at e
    split at e <;> split at e <;> omega
  · rcases Nat.lt_or_ge i h.length with hlt | hge
    · rw [List.getElem?_append_left hlt] at hi
      exact objOk_mono (by simp) (ok i oi hi)
    · have hil : i = h.length := by
        have := (List.getElem?_eq_some_iff.1 hi).1
        simp at this
        omega
      subst hil
      have : oi = o := by simpa using hi.symm
      subst this
      exact objOk_mono (by simp) ho

/-- A function that hands on a fresh slice: of its new blocks only that one is kept. -/
theorem retL_one {n0 : Nat} {g : List AObj} {k : Nat} {o : AObj} {m c : Nat} (ok : heapOk h) (hn : n0 ≤ h.length) (hk : (h ++ g)[k]? = some o) (hkn : h.length ≤ k) (ho : objOk h.length o)
    (hK : H (.slice (some ⟨h.length, 0, none⟩) m c) (h ++ [o])) : retL n0 H [] [.slice (some ⟨k, 0, none⟩) m c] (h ++ g) := by
  refine ⟨by simp [unk], .inr ⟨moveTo h.length k, h ++ [o], .slice (some ⟨h.length, 0, none⟩) m c, gc_one ok hn hk hkn ho, ?_, ?_, hK⟩⟩
  · simp [pack, sub, moveTo]
  · simp [VOk, AddrOk]
end
end Go.Proofs.Ytdgpacdknpahnaa

/- More laws of the operations. No conditions. -/
namespace Go.Proofs.Ytdgpacdknpahnaa
open Go.Conc

section
variable {P : Program} {t : TypeId} {K : Value → Prop} {H : Value → List AObj → Prop} {HL : List AObj → Prop} {a b : Int} {h g : List AObj} {A B : Prop}

theorem nil_okp {b o : Nat} : aNil (ptr b o) K = K (ptr b o) := rfl
theorem off_okp {b o d : Nat} : aOff (ptr b o) d K = K (ptr b (o + d)) := rfl
theorem ext_two {a b : Value} : (aExt (.tuple ⟨[a, b]⟩) 0 K = K a) ∧ (aExt (.tuple ⟨[a, b]⟩) 1 K = K b) := ⟨rfl, rfl⟩
theorem ext_three {a b c : Value} : (aExt (.tuple ⟨[a, b, c]⟩) 0 K = K a) ∧ (aExt (.tuple ⟨[a, b, c]⟩) 1 K = K b) ∧ (aExt (.tuple ⟨[a, b, c]⟩) 2 K = K c) := ⟨rfl, rfl, rfl⟩

theorem b_quo (h0 : 0 ≤ a) (h1 : 0 < b) (h2 : a < 9223372036854775808) (hk : K (vint (a / b))) : aBin P .quo t (vint a) (vint b) K := by
  have e : a.tdiv b = a / b := Int.tdiv_eq_ediv_of_nonneg h0
  have l1 : 0 ≤ a / b := Int.ediv_nonneg h0 (by omega)
  have l2 : a / b ≤ a := Int.ediv_le_self _ h0
  refine ⟨rfl, by omega, ?_⟩
  rw [e, wrap64 (by omega) (by omega)]
  exact hk

/-- A box with a struct of plain parts. -/
theorem box_agg {cs : List Value} (h1 : cs.all one = true) (hk : H (ptr h.length 0) (h ++ [.cells cs true 0])) : aBox (.agg ⟨cs⟩) h H := ⟨h1, hk⟩
theorem box_one {v : Value} (hc : v.cells = #[v]) (h1 : one v = true) (hk : H (ptr h.length 0) (h ++ [.cells [v] true 0])) : aBox v h H := by
  unfold aBox
  rw [hc]
  exact ⟨by simpa using h1, hk⟩

theorem load_part {b o s : Nat} {cs c : List Value} {wr : Bool} {sz : Nat} (hb : h[b]? = some (.cells cs wr sz)) (hl : o + s ≤ cs.length) (hc : (cs.drop o).take s = c) (hn : kn c = true) (hk : K (.agg ⟨c⟩)) : aLoad true s (ptr b o) h K := by
  simp only [aLoad, ptr, hb, cond_true, hc]
  exact ⟨hl, hn, hk⟩

theorem wrAt_all {s : List Value} : ∀ {cs : List Value} {o : Nat}, wrAt cs o s = (wrAt cs o s) := rfl

theorem store_agg {b : Nat} {cs c : List Value} {s : Nat} {sz : Nat} (hb : h[b]? = some (.cells cs true sz)) (hl : c.length = s) (hs : cs.length = s) (h1 : c.all one = true) (hk : HL (h.set b (.cells c true sz))) : aStore s (ptr b 0) (.agg ⟨c⟩) h HL := by
  have e : ∀ (c cs : List Value) (pre : List Value), cs.length = c.length → wrAt (pre ++ cs) pre.length c = pre ++ c := by
    intro c
    induction c with
    | nil =>
      intro cs pre h
      have : cs = [] := List.length_eq_zero_iff.1 (by simpa using h)
      subst this
      rfl
    | cons x c ih =>
      intro cs pre h
      cases cs with
      | nil => simp at h
      | cons y cs =>
        unfold wrAt
        have := ih cs (pre ++ [x]) (by simpa using h)
        simp only [List.length_append, List.length_cons, List.length_nil, List.append_assoc, List.cons_append, List.nil_append] at this
        simp only [List.set_append_right _ _ (Nat.le_refl _), Nat.sub_self, List.set_cons_zero]
        exact this
  simp only [aStore, ptr, hb, Value.cells]
  refine ⟨by simpa using hl, h1, by omega, ?_⟩
  have := e c cs [] (by omega)
  simp only [List.nil_append, List.length_nil] at this
  rw [this]
  exact hk

theorem fill1 {c : List Value} {off : Nat} {v : Value} {ps : List (Nat × Nat × Value)} {K : List Value → Prop} (h1 : v.cells = #[v]) (h2 : one v = true) (ho : off < c.length) (hk : aFill (c.set off v) ps K) : aFill c ((off, 1, v) :: ps) K := by
  refine ⟨by rw [h1]; rfl, by rw [h1]; simpa using h2, by omega, ?_⟩
  rw [h1]
  exact hk

theorem fill0 {c : List Value} {K : List Value → Prop} : aFill c [] K = K c := rfl

theorem resW_cell {rs : List ResultVar} {r : Nat → Value} {x : Nat} {gg : Bool} {s : Nat} {KL : List Value → Prop} (ht : tk P t = some (gg, s)) (hk : aLoad gg s (r x) h fun v => resW P rs r h fun vs => KL (v :: vs)) : resW P (.cell x t :: rs) r h KL := by
  unfold resW
  rw [ht]
  exact hk
theorem resW_tmp {rs : List ResultVar} {r : Nat → Value} {x : Nat} {KL : List Value → Prop} (hn : r x ≠ unk) (hk : resW P rs r h fun vs => KL (r x :: vs)) : resW P (.tmp x :: rs) r h KL := ⟨hn, hk⟩
theorem resW_nil {r : Nat → Value} {KL : List Value → Prop} (hk : KL []) : resW P [] r h KL := hk

theorem resW_imp : ∀ (rs : List ResultVar) {r : Nat → Value} {h : List AObj} {K K' : List Value → Prop}, resW P rs r h K → (∀ vs, K vs → K' vs) → resW P rs r h K'
  | [], r, h, K, K', hx, hk => hk _ hx
  | .tmp t :: rs, r, h, K, K', hx, hk => ⟨hx.1, resW_imp rs hx.2 fun vs => hk _⟩
  | .cell a t :: rs, r, h, K, K', hx, hk => by
    unfold resW at hx ⊢
    split at hx
    · obtain ⟨v, k1, k2⟩ := pin_aLoad _ hx
      exact k2 (fun v => resW P rs r h fun vs => K' (v :: vs)) (resW_imp rs k1 fun vs => hk _)
    · exact hx.elim

/-- A function that hands on values without blocks of its own; what it has made is forgotten. -/
theorem retQ_drop {rs : List ResultVar} {n0 : Nat} {f : RG} (ds : f.ds = []) (ok : heapOk h) (hn : n0 ≤ h.length) (hr : resW P rs f.r (h ++ g) fun vs => VOk h.length (pack vs) ∧ H (pack vs) h) : RetQ P rs n0 H .ret f (h ++ g) := by
  unfold RetQ
  rw [ds]
  exact resW_imp rs hr fun vs hv => .inr ⟨id, h, pack vs, gc_drop ok hn, (sub_id hv.1).symm, hv.1, hv.2⟩
end
end Go.Proofs.Ytdgpacdknpahnaa

/- Printed by program: the forms to which the bodies of some functions come down. No conditions. -/
namespace Go.Proofs.Ytdgpacdknpahnaa
open Go.Conc Go.Proofs.Try
set_option maxRecDepth 100000
set_option linter.unusedVariables false
section
variable {main : Bool} {J : JT} {n0 : Nat} {h : List AObj} {K : Value → List AObj → Prop}
theorem at67 : prog.funcs[67]? = some f67 := by kernel_rfl
theorem body67 : f67.body = some (codeOf f67) := by kernel_rfl
theorem e67 {a0 a1 a2 : Value} : W prog J 15 h.length 67 (codeOf f67) (RG.mk (regs [a0, a1, a2]) []) h (RetQ prog [.tmp 6] h.length K) =
(aBin prog .leq 3 a1 a0 fun v1 =>
cnd v1
(aBin prog .leq 3 a0 a2 fun v2 =>
retL h.length K [] [v2] h)
(retL h.length K [] [(Value.bool false)] h)) := by kernel_rfl
theorem g67 (hJ : Closed prog main J) {a0 a1 a2 : Value} (hs : heapOk h → W prog J 15 h.length 67 (codeOf f67) (RG.mk (regs [a0, a1, a2]) []) h (RetQ prog [.tmp 6] h.length K)) : Good prog J 67 [a0, a1, a2] h K :=
  good_of_W hJ mixed at67 body67 (by kernel_rfl) (Nat.le_of_ble_eq_true rfl) hs
theorem at25 : prog.funcs[25]? = some f25 := by kernel_rfl
theorem body25 : f25.body = some (codeOf f25) := by kernel_rfl
theorem e25 {a0 a1 : Value} : W prog J 79 h.length 25 (codeOf f25) (RG.mk (regs [a0, a1]) []) h (RetQ prog [.tmp 4, .tmp 5] h.length K) =
(aLenS a1 fun v1 =>
aBin prog .eql 3 v1 (vint 0) fun v2 =>
cnd v2
(retL h.length K [] [(Value.slice none 0 0), (vint 7)] h)
(aLenS a1 fun v3 =>
aBin prog .gtr 3 v3 (vint 5) fun v4 =>
cnd v4
(retL h.length K [] [(Value.slice none 0 0), (vint 6)] h)
(aLenS a1 fun v5 =>
Sem J 79 h.length 25 (subC [1, 1, 1, 0, 1, 0] (codeOf f25)) (((((((((((((((RG.mk (regs [a0, a1]) []).put 4 (Value.slice none 0 0)).put 5 (vint 0)).put 14 a1).put 15 v1).put 16 v2).put 13 v2).put 18 a1).put 19 v3).put 20 v4).put 17 v4).put 6 (vint 0)).put 21 a1).put 22 v5).put 23 (vint 0)) h (contQ prog J 79 h.length 25 [1, 1, 1, 0, 1, 0] (codeOf f25) [] (RetQ prog [.tmp 4, .tmp 5] h.length K))))) := by kernel_rfl
theorem g25 (hJ : Closed prog main J) {a0 a1 : Value} (hs : heapOk h → W prog J 79 h.length 25 (codeOf f25) (RG.mk (regs [a0, a1]) []) h (RetQ prog [.tmp 4, .tmp 5] h.length K)) : Good prog J 25 [a0, a1] h K :=
  good_of_W hJ mixed at25 body25 (by kernel_rfl) (Nat.le_of_ble_eq_true rfl) hs
-- loop [1, 1, 1, 0, 1, 0, 0]
theorem s25_1 {f : RG} {nx0 : RG → List AObj → Prop} : W prog J 79 n0 25 (subC [1, 1, 1, 0, 1, 0, 0] (codeOf f25)) f h (thenK nx0 (contQ prog J 79 n0 25 [1, 1, 1, 0, 1, 0] (codeOf f25) [] (RetQ prog [.tmp 4, .tmp 5] n0 K))) =
(aBin prog .lss 3 (f.r 23) (f.r 22) fun v1 =>
cnd v1
(aIdx 1 (f.r 21) (f.r 23) fun v2 =>
aLoad false 1 v2 h fun v3 =>
Good prog J 67 [v3, (vint 0), (vint 300)] h fun v4 h5 =>
aUn .not v4 fun v6 =>
cnd v6
(retL n0 K f.ds [(Value.slice none 0 0), (vint 1)] h5)
(aBin prog .add 3 (f.r 6) v3 fun v7 =>
aBin prog .add 3 (f.r 23) (vint 1) fun v8 =>
nx0 (((((((((((((f.put 24 v1).put 25 v2).put 26 v3).put 8 v3).put 27 v3).put 28 v4).put 29 v6).put 30 (f.r 6)).put 31 v3).put 32 v7).put 6 v7).put 33 v8).put 23 v8) h5))
(Good prog J 67 [(f.r 0), (vint 0), (f.r 6)] h fun v9 h10 =>
aUn .not v9 fun v11 =>
cnd v11
(retL n0 K f.ds [(Value.slice none 0 0), (vint 1)] h10)
(aLenS (f.r 1) fun v12 =>
((List.length [(vint 0)] = 1 ∧ 8 ≤ 1024) ∧ aMkS [(vint 0)] v12 v12 h10 fun v13 h14 =>
Sem J 79 n0 25 (subC [1, 1, 1, 1, 1, 1, 0, 1, 0] (codeOf f25)) (((((((((((f.put 24 v1).put 34 (f.r 0)).put 35 (f.r 6)).put 36 v9).put 37 v11).put 38 (f.r 1)).put 39 v12).put 40 v13).put 9 v13).put 41 (f.r 0)).put 42 (vint 0)) h14 (contQ prog J 79 n0 25 [1, 1, 1, 1, 1, 1, 0, 1, 0] (codeOf f25) [] (RetQ prog [.tmp 4, .tmp 5] n0 K)))))) := by kernel_rfl
theorem l25_1 (hJ : Closed prog main J) {S : Type} (μ : S → Nat) (I : S → RG → List AObj → Prop) (hI : ∀ s f h, I s f h → heapOk h → n0 ≤ h.length → W prog J 79 n0 25 (subC [1, 1, 1, 0, 1, 0, 0] (codeOf f25)) f h (thenK (Nx n0 μ I s) (contQ prog J 79 n0 25 [1, 1, 1, 0, 1, 0] (codeOf f25) [] (RetQ prog [.tmp 4, .tmp 5] n0 K))))
  {s : S} {f : RG} (hi : Gets n0 I s f h) : Sem J 79 n0 25 (subC [1, 1, 1, 0, 1, 0] (codeOf f25)) f h (contQ prog J 79 n0 25 [1, 1, 1, 0, 1, 0] (codeOf f25) [] (RetQ prog [.tmp 4, .tmp 5] n0 K)) :=
  loop_rule hJ mixed (b := subC [1, 1, 1, 0, 1, 0, 0] (codeOf f25)) (by kernel_rfl) μ I hI hi
-- loop [1, 1, 1, 1, 1, 1, 0, 1, 0, 0]
theorem s25_2 {f : RG} {nx0 : RG → List AObj → Prop} : W prog J 79 n0 25 (subC [1, 1, 1, 1, 1, 1, 0, 1, 0, 0] (codeOf f25)) f h (thenK nx0 (contQ prog J 79 n0 25 [1, 1, 1, 1, 1, 1, 0, 1, 0] (codeOf f25) [] (RetQ prog [.tmp 4, .tmp 5] n0 K))) =
(aBin prog .lss 3 (f.r 42) (f.r 41) fun v1 =>
cnd v1
(aLenS (f.r 1) fun v2 =>
Sem J 79 n0 25 (subC [1, 1, 1, 1, 1, 1, 0, 1, 0, 0, 1, 1, 0, 0, 1, 0, 1, 0] (codeOf f25)) (((((f.put 43 v1).put 10 (vint 0)).put 44 (f.r 1)).put 45 v2).put 46 (vint 0)) h (contQ prog J 79 n0 25 [1, 1, 1, 1, 1, 1, 0, 1, 0, 0, 1, 1, 0, 0, 1, 0, 1, 0] (codeOf f25) [nx0] (RetQ prog [.tmp 4, .tmp 5] n0 K)))
(retL n0 K f.ds [(f.r 9), (vint 0)] h)) := by kernel_rfl
theorem l25_2 (hJ : Closed prog main J) {S : Type} (μ : S → Nat) (I : S → RG → List AObj → Prop) (hI : ∀ s f h, I s f h → heapOk h → n0 ≤ h.length → W prog J 79 n0 25 (subC [1, 1, 1, 1, 1, 1, 0, 1, 0, 0] (codeOf f25)) f h (thenK (Nx n0 μ I s) (contQ prog J 79 n0 25 [1, 1, 1, 1, 1, 1, 0, 1, 0] (codeOf f25) [] (RetQ prog [.tmp 4, .tmp 5] n0 K))))
  {s : S} {f : RG} (hi : Gets n0 I s f h) : Sem J 79 n0 25 (subC [1, 1, 1, 1, 1, 1, 0, 1, 0] (codeOf f25)) f h (contQ prog J 79 n0 25 [1, 1, 1, 1, 1, 1, 0, 1, 0] (codeOf f25) [] (RetQ prog [.tmp 4, .tmp 5] n0 K)) :=
  loop_rule hJ mixed (b := subC [1, 1, 1, 1, 1, 1, 0, 1, 0, 0] (codeOf f25)) (by kernel_rfl) μ I hI hi
-- loop [1, 1, 1, 1, 1, 1, 0, 1, 0, 0, 1, 1, 0, 0, 1, 0, 1, 0, 0]
theorem s25_3 {f : RG} {nx0 nx1 : RG → List AObj → Prop} : W prog J 79 n0 25 (subC [1, 1, 1, 1, 1, 1, 0, 1, 0, 0, 1, 1, 0, 0, 1, 0, 1, 0, 0] (codeOf f25)) f h (thenK nx1 (contQ prog J 79 n0 25 [1, 1, 1, 1, 1, 1, 0, 1, 0, 0, 1, 1, 0, 0, 1, 0, 1, 0] (codeOf f25) [nx0] (RetQ prog [.tmp 4, .tmp 5] n0 K))) =
(aBin prog .lss 3 (f.r 46) (f.r 45) fun v1 =>
cnd v1
(aIdx 1 (f.r 44) (f.r 46) fun v2 =>
aLoad false 1 v2 h fun v3 =>
aIdx 1 (f.r 9) (f.r 10) fun v4 =>
aLoad false 1 v4 h fun v5 =>
aBin prog .add 3 v5 (vint 1) fun v6 =>
aBin prog .mul 3 v3 v6 fun v7 =>
aIdx 1 (f.r 1) (f.r 10) fun v8 =>
aLoad false 1 v8 h fun v9 =>
aIdx 1 (f.r 9) (f.r 46) fun v10 =>
aLoad false 1 v10 h fun v11 =>
aBin prog .add 3 v11 (vint 1) fun v12 =>
aBin prog .mul 3 v9 v12 fun v13 =>
aBin prog .gtr 3 v7 v13 fun v14 =>
cnd v14
(aBin prog .add 3 (f.r 46) (vint 1) fun v15 =>
nx1 ((((((((((((((((((((((((((((f.put 47 v1).put 48 (f.r 46)).put 49 v2).put 50 v3).put 11 (f.r 46)).put 12 v3).put 51 v3).put 52 (f.r 9)).put 53 (f.r 10)).put 54 v4).put 55 v5).put 56 v6).put 57 v7).put 58 (f.r 1)).put 59 (f.r 10)).put 60 v8).put 61 v9).put 62 (f.r 9)).put 63 (f.r 46)).put 64 v10).put 65 v11).put 66 v12).put 67 v13).put 68 v14).put 69 (f.r 46)).put 10 (f.r 46)).put 70 v15).put 46 v15) h)
(aBin prog .add 3 (f.r 46) (vint 1) fun v16 =>
nx1 ((((((((((((((((((((((((((f.put 47 v1).put 48 (f.r 46)).put 49 v2).put 50 v3).put 11 (f.r 46)).put 12 v3).put 51 v3).put 52 (f.r 9)).put 53 (f.r 10)).put 54 v4).put 55 v5).put 56 v6).put 57 v7).put 58 (f.r 1)).put 59 (f.r 10)).put 60 v8).put 61 v9).put 62 (f.r 9)).put 63 (f.r 46)).put 64 v10).put 65 v11).put 66 v12).put 67 v13).put 68 v14).put 70 v16).put 46 v16) h))
(aIdx 1 (f.r 9) (f.r 10) fun v17 =>
aLoad false 1 v17 h fun v18 =>
aBin prog .add 3 v18 (vint 1) fun v19 =>
aIdx 1 (f.r 9) (f.r 10) fun v20 =>
aStore 1 v20 v19 h fun h21 =>
aBin prog .add 3 (f.r 42) (vint 1) fun v22 =>
nx0 (((((((((f.put 47 v1).put 71 (f.r 9)).put 72 (f.r 10)).put 73 v17).put 74 v18).put 75 v19).put 76 v20).put 77 v22).put 42 v22) h21)) := by kernel_rfl
theorem l25_3 (hJ : Closed prog main J) {nx0 : RG → List AObj → Prop} {S : Type} (μ : S → Nat) (I : S → RG → List AObj → Prop) (hI : ∀ s f h, I s f h → heapOk h → n0 ≤ h.length → W prog J 79 n0 25 (subC [1, 1, 1, 1, 1, 1, 0, 1, 0, 0, 1, 1, 0, 0, 1, 0, 1, 0, 0] (codeOf f25)) f h (thenK (Nx n0 μ I s) (contQ prog J 79 n0 25 [1, 1, 1, 1, 1, 1, 0, 1, 0, 0, 1, 1, 0, 0, 1, 0, 1, 0] (codeOf f25) [nx0] (RetQ prog [.tmp 4, .tmp 5] n0 K))))
  {s : S} {f : RG} (hi : Gets n0 I s f h) : Sem J 79 n0 25 (subC [1, 1, 1, 1, 1, 1, 0, 1, 0, 0, 1, 1, 0, 0, 1, 0, 1, 0] (codeOf f25)) f h (contQ prog J 79 n0 25 [1, 1, 1, 1, 1, 1, 0, 1, 0, 0, 1, 1, 0, 0, 1, 0, 1, 0] (codeOf f25) [nx0] (RetQ prog [.tmp 4, .tmp 5] n0 K)) :=
  loop_rule hJ mixed (b := subC [1, 1, 1, 1, 1, 1, 0, 1, 0, 0, 1, 1, 0, 0, 1, 0, 1, 0, 0] (codeOf f25)) (by kernel_rfl) μ I hI hi
theorem at19 : prog.funcs[19]? = some f19 := by kernel_rfl
theorem body19 : f19.body = some (codeOf f19) := by kernel_rfl
theorem e19 {a0 : Value} : W prog J 6 h.length 19 (codeOf f19) (RG.mk (regs [a0]) []) h (RetQ prog [.tmp 2] h.length K) =
(aFill [(Value.slice none 0 0), (vint 0), (Value.int .u64 0)] [(0, 1, a0), (2, 1, (Value.int .u64 88172645463325252))] fun c1 =>
aBox (Value.agg ⟨c1⟩) h fun v2 h3 =>
retL h.length K [] [v2] h3) := by kernel_rfl
theorem g19 (hJ : Closed prog main J) {a0 : Value} (hs : heapOk h → W prog J 6 h.length 19 (codeOf f19) (RG.mk (regs [a0]) []) h (RetQ prog [.tmp 2] h.length K)) : Good prog J 19 [a0] h K :=
  good_of_W hJ mixed at19 body19 (by kernel_rfl) (Nat.le_of_ble_eq_true rfl) hs
theorem at20 : prog.funcs[20]? = some f20 := by kernel_rfl
theorem body20 : f20.body = some (codeOf f20) := by kernel_rfl
theorem e20 {a0 a1 a2 : Value} : W prog J 14 h.length 20 (codeOf f20) (RG.mk (regs [a0, a1, a2]) []) h (RetQ prog [.tmp 6] h.length K) =
(aBin prog .sub 3 a2 a1 fun v1 =>
Good prog J 22 [a0, v1] h fun v2 h3 =>
aBin prog .add 3 a1 v2 fun v4 =>
retL h.length K [] [v4] h3) := by kernel_rfl
theorem g20 (hJ : Closed prog main J) {a0 a1 a2 : Value} (hs : heapOk h → W prog J 14 h.length 20 (codeOf f20) (RG.mk (regs [a0, a1, a2]) []) h (RetQ prog [.tmp 6] h.length K)) : Good prog J 20 [a0, a1, a2] h K :=
  good_of_W hJ mixed at20 body20 (by kernel_rfl) (Nat.le_of_ble_eq_true rfl) hs
theorem at21 : prog.funcs[21]? = some f21 := by kernel_rfl
theorem body21 : f21.body = some (codeOf f21) := by kernel_rfl
theorem e21 {a0 a1 a2 : Value} : W prog J 20 h.length 21 (codeOf f21) (RG.mk (regs [a0, a1, a2]) []) h (RetQ prog [.tmp 6] h.length K) =
(aLenS a2 fun v1 =>
Good prog J 22 [a0, v1] h fun v2 h3 =>
aBin prog .gtr 3 v2 (vint 0) fun v4 =>
cnd v4
(aBin prog .sub 3 v2 (vint 1) fun v5 =>
aIdx 1 a2 v5 fun v6 =>
aLoad false 1 v6 h3 fun v7 =>
retL h.length K [] [v7] h3)
(retL h.length K [] [a1] h3)) := by kernel_rfl
theorem g21 (hJ : Closed prog main J) {a0 a1 a2 : Value} (hs : heapOk h → W prog J 20 h.length 21 (codeOf f21) (RG.mk (regs [a0, a1, a2]) []) h (RetQ prog [.tmp 6] h.length K)) : Good prog J 21 [a0, a1, a2] h K :=
  good_of_W hJ mixed at21 body21 (by kernel_rfl) (Nat.le_of_ble_eq_true rfl) hs
theorem at22 : prog.funcs[22]? = some f22 := by kernel_rfl
theorem body22 : f22.body = some (codeOf f22) := by kernel_rfl
theorem e22 {a0 a1 : Value} : W prog J 14 h.length 22 (codeOf f22) (RG.mk (regs [a0, a1]) []) h (RetQ prog [.tmp 4] h.length K) =
(aBin prog .leq 3 a1 (vint 0) fun v1 =>
cnd v1
(retL h.length K [] [(vint 0)] h)
(Good prog J 66 [a0] h fun v2 h3 =>
aBin prog .add 3 a1 (vint 1) fun v4 =>
aConvI .u64 v4 fun v5 =>
aBin prog .rem 85 v2 v5 fun v6 =>
aConvI .i64 v6 fun v7 =>
retL h.length K [] [v7] h3)) := by kernel_rfl
theorem g22 (hJ : Closed prog main J) {a0 a1 : Value} (hs : heapOk h → W prog J 14 h.length 22 (codeOf f22) (RG.mk (regs [a0, a1]) []) h (RetQ prog [.tmp 4] h.length K)) : Good prog J 22 [a0, a1] h K :=
  good_of_W hJ mixed at22 body22 (by kernel_rfl) (Nat.le_of_ble_eq_true rfl) hs
theorem at23 : prog.funcs[23]? = some f23 := by kernel_rfl
theorem body23 : f23.body = some (codeOf f23) := by kernel_rfl
theorem e23 {a0 : Value} : W prog J 18 h.length 23 (codeOf f23) (RG.mk (regs [a0]) []) h (RetQ prog [.tmp 2] h.length K) =
(Sem J 18 h.length 23 (subC [1, 1, 0, 1, 0] (codeOf f23)) ((((RG.mk (regs [a0]) []).put 2 (vint 0)).put 3 (vint 0)).put 4 (vint 0)) h (contQ prog J 18 h.length 23 [1, 1, 0, 1, 0] (codeOf f23) [] (RetQ prog [.tmp 2] h.length K))) := by kernel_rfl
theorem g23 (hJ : Closed prog main J) {a0 : Value} (hs : heapOk h → W prog J 18 h.length 23 (codeOf f23) (RG.mk (regs [a0]) []) h (RetQ prog [.tmp 2] h.length K)) : Good prog J 23 [a0] h K :=
  good_of_W hJ mixed at23 body23 (by kernel_rfl) (Nat.le_of_ble_eq_true rfl) hs
-- loop [1, 1, 0, 1, 0, 0]
theorem s23_1 {f : RG} {nx0 : RG → List AObj → Prop} : W prog J 18 n0 23 (subC [1, 1, 0, 1, 0, 0] (codeOf f23)) f h (thenK nx0 (contQ prog J 18 n0 23 [1, 1, 0, 1, 0] (codeOf f23) [] (RetQ prog [.tmp 2] n0 K))) =
(aLenS (f.r 0) fun v1 =>
aBin prog .lss 3 (f.r 4) v1 fun v2 =>
cnd v2
(aIdx 1 (f.r 0) (f.r 4) fun v3 =>
aLoad false 1 v3 h fun v4 =>
aBin prog .add 3 (f.r 3) v4 fun v5 =>
aBin prog .add 3 (f.r 4) (vint 1) fun v6 =>
nx0 ((((((((((((((f.put 5 (f.r 4)).put 6 (f.r 0)).put 7 v1).put 8 v2).put 11 (f.r 3)).put 12 (f.r 0)).put 13 (f.r 4)).put 14 v3).put 15 v4).put 16 v5).put 3 v5).put 9 (f.r 4)).put 10 v6).put 4 v6) h)
(retL n0 K f.ds [(f.r 3)] h)) := by kernel_rfl
theorem l23_1 (hJ : Closed prog main J) {S : Type} (μ : S → Nat) (I : S → RG → List AObj → Prop) (hI : ∀ s f h, I s f h → heapOk h → n0 ≤ h.length → W prog J 18 n0 23 (subC [1, 1, 0, 1, 0, 0] (codeOf f23)) f h (thenK (Nx n0 μ I s) (contQ prog J 18 n0 23 [1, 1, 0, 1, 0] (codeOf f23) [] (RetQ prog [.tmp 2] n0 K))))
  {s : S} {f : RG} (hi : Gets n0 I s f h) : Sem J 18 n0 23 (subC [1, 1, 0, 1, 0] (codeOf f23)) f h (contQ prog J 18 n0 23 [1, 1, 0, 1, 0] (codeOf f23) [] (RetQ prog [.tmp 2] n0 K)) :=
  loop_rule hJ mixed (b := subC [1, 1, 0, 1, 0, 0] (codeOf f23)) (by kernel_rfl) μ I hI hi
theorem at24 : prog.funcs[24]? = some f24 := by kernel_rfl
theorem body24 : f24.body = some (codeOf f24) := by kernel_rfl
theorem e24 {a0 : Value} : W prog J 6 h.length 24 (codeOf f24) (RG.mk (regs [a0]) []) h (RetQ prog [.tmp 2] h.length K) =
(((0 * 1 ≤ 16777216 ∧ 0 ≤ 16777216 ∧ List.length [(vint 0)] = 1) ∧ aFill (zrep [(vint 0)] 0) [] fun c1 =>
aNewS 0 c1 h fun v2 h3 =>
((List.length [(vint 0)] = 1 ∧ 0 < 1 ∧ 0 < 8 ∧ 8 ≤ 1024) ∧ aApp 1 v2 a0 h3 fun v4 h5 =>
retL h.length K [] [v4] h5))) := by kernel_rfl
theorem g24 (hJ : Closed prog main J) {a0 : Value} (hs : heapOk h → W prog J 6 h.length 24 (codeOf f24) (RG.mk (regs [a0]) []) h (RetQ prog [.tmp 2] h.length K)) : Good prog J 24 [a0] h K :=
  good_of_W hJ mixed at24 body24 (by kernel_rfl) (Nat.le_of_ble_eq_true rfl) hs
theorem at26 : prog.funcs[26]? = some f26 := by kernel_rfl
theorem body26 : f26.body = some (codeOf f26) := by kernel_rfl
theorem e26 {a0 a1 : Value} : W prog J 81 h.length 26 (codeOf f26) (RG.mk (regs [a0, a1]) []) h (RetQ prog [.tmp 4, .tmp 5] h.length K) =
(aLenS a1 fun v1 =>
aBin prog .eql 3 v1 (vint 0) fun v2 =>
cnd v2
(retL h.length K [] [(Value.slice none 0 0), (vint 7)] h)
(aLenS a1 fun v3 =>
aBin prog .gtr 3 v3 (vint 5) fun v4 =>
cnd v4
(retL h.length K [] [(Value.slice none 0 0), (vint 6)] h)
(Sem J 81 h.length 26 (subC [1, 1, 1, 1, 0, 1, 0] (codeOf f26)) (((((((((((RG.mk (regs [a0, a1]) []).put 4 (Value.slice none 0 0)).put 5 (vint 0)).put 11 a1).put 12 v1).put 13 v2).put 14 a1).put 15 v3).put 16 v4).put 6 (vint 0)).put 7 (vint 0)) h (contQ prog J 81 h.length 26 [1, 1, 1, 1, 0, 1, 0] (codeOf f26) [] (RetQ prog [.tmp 4, .tmp 5] h.length K))))) := by kernel_rfl
theorem g26 (hJ : Closed prog main J) {a0 a1 : Value} (hs : heapOk h → W prog J 81 h.length 26 (codeOf f26) (RG.mk (regs [a0, a1]) []) h (RetQ prog [.tmp 4, .tmp 5] h.length K)) : Good prog J 26 [a0, a1] h K :=
  good_of_W hJ mixed at26 body26 (by kernel_rfl) (Nat.le_of_ble_eq_true rfl) hs
-- loop [1, 1, 1, 1, 0, 1, 0, 0]
theorem s26_1 {f : RG} {nx0 : RG → List AObj → Prop} : W prog J 81 n0 26 (subC [1, 1, 1, 1, 0, 1, 0, 0] (codeOf f26)) f h (thenK nx0 (contQ prog J 81 n0 26 [1, 1, 1, 1, 0, 1, 0] (codeOf f26) [] (RetQ prog [.tmp 4, .tmp 5] n0 K))) =
(aLenS (f.r 1) fun v1 =>
aBin prog .lss 3 (f.r 7) v1 fun v2 =>
cnd v2
(aIdx 1 (f.r 1) (f.r 7) fun v3 =>
aLoad false 1 v3 h fun v4 =>
Good prog J 68 [v4, (vint 0), (vint 300)] h fun v5 h6 =>
aUn .not v5 fun v7 =>
cnd v7
(retL n0 K f.ds [(Value.slice none 0 0), (vint 1)] h6)
(aIdx 1 (f.r 1) (f.r 7) fun v8 =>
aLoad false 1 v8 h6 fun v9 =>
aBin prog .add 3 (f.r 6) v9 fun v10 =>
aBin prog .add 3 (f.r 7) (vint 1) fun v11 =>
nx0 ((((((((((((((((((((f.put 17 (f.r 7)).put 18 (f.r 1)).put 19 v1).put 20 v2).put 23 (f.r 1)).put 24 (f.r 7)).put 25 v3).put 26 v4).put 27 v5).put 28 v7).put 29 (f.r 6)).put 30 (f.r 1)).put 31 (f.r 7)).put 32 v8).put 33 v9).put 34 v10).put 6 v10).put 21 (f.r 7)).put 22 v11).put 7 v11) h6))
(Good prog J 68 [(f.r 0), (vint 0), (f.r 6)] h fun v12 h13 =>
aUn .not v12 fun v14 =>
cnd v14
(retL n0 K f.ds [(Value.slice none 0 0), (vint 1)] h13)
(aLenS (f.r 1) fun v15 =>
((List.length [(vint 0)] = 1 ∧ 8 ≤ 1024) ∧ aMkS [(vint 0)] v15 v15 h13 fun v16 h17 =>
Sem J 81 n0 26 (subC [1, 1, 1, 1, 1, 1, 1, 0, 0] (codeOf f26)) ((((((((((((f.put 17 (f.r 7)).put 18 (f.r 1)).put 19 v1).put 20 v2).put 35 (f.r 0)).put 36 (f.r 6)).put 37 v12).put 38 v14).put 39 (f.r 1)).put 40 v15).put 41 v16).put 8 v16) h17 (contQ prog J 81 n0 26 [1, 1, 1, 1, 1, 1, 1, 0, 0] (codeOf f26) [] (RetQ prog [.tmp 4, .tmp 5] n0 K)))))) := by kernel_rfl
theorem l26_1 (hJ : Closed prog main J) {S : Type} (μ : S → Nat) (I : S → RG → List AObj → Prop) (hI : ∀ s f h, I s f h → heapOk h → n0 ≤ h.length → W prog J 81 n0 26 (subC [1, 1, 1, 1, 0, 1, 0, 0] (codeOf f26)) f h (thenK (Nx n0 μ I s) (contQ prog J 81 n0 26 [1, 1, 1, 1, 0, 1, 0] (codeOf f26) [] (RetQ prog [.tmp 4, .tmp 5] n0 K))))
  {s : S} {f : RG} (hi : Gets n0 I s f h) : Sem J 81 n0 26 (subC [1, 1, 1, 1, 0, 1, 0] (codeOf f26)) f h (contQ prog J 81 n0 26 [1, 1, 1, 1, 0, 1, 0] (codeOf f26) [] (RetQ prog [.tmp 4, .tmp 5] n0 K)) :=
  loop_rule hJ mixed (b := subC [1, 1, 1, 1, 0, 1, 0, 0] (codeOf f26)) (by kernel_rfl) μ I hI hi
-- loop [1, 1, 1, 1, 1, 1, 1, 0, 0, 0]
theorem s26_2 {f : RG} {nx0 : RG → List AObj → Prop} : W prog J 81 n0 26 (subC [1, 1, 1, 1, 1, 1, 1, 0, 0, 0] (codeOf f26)) f h (thenK nx0 (contQ prog J 81 n0 26 [1, 1, 1, 1, 1, 1, 1, 0, 0] (codeOf f26) [] (RetQ prog [.tmp 4, .tmp 5] n0 K))) =
(aBin prog .gtr 3 (f.r 0) (vint 0) fun v1 =>
cnd v1
(Sem J 81 n0 26 (subC [1, 1, 1, 1, 1, 1, 1, 0, 0, 0, 1, 0, 0, 1, 0, 1, 0] (codeOf f26)) ((((f.put 42 (f.r 0)).put 43 v1).put 9 (vint 0)).put 10 (vint 0)) h (contQ prog J 81 n0 26 [1, 1, 1, 1, 1, 1, 1, 0, 0, 0, 1, 0, 0, 1, 0, 1, 0] (codeOf f26) [nx0] (RetQ prog [.tmp 4, .tmp 5] n0 K)))
(retL n0 K f.ds [(f.r 8), (vint 0)] h)) := by kernel_rfl
theorem l26_2 (hJ : Closed prog main J) {S : Type} (μ : S → Nat) (I : S → RG → List AObj → Prop) (hI : ∀ s f h, I s f h → heapOk h → n0 ≤ h.length → W prog J 81 n0 26 (subC [1, 1, 1, 1, 1, 1, 1, 0, 0, 0] (codeOf f26)) f h (thenK (Nx n0 μ I s) (contQ prog J 81 n0 26 [1, 1, 1, 1, 1, 1, 1, 0, 0] (codeOf f26) [] (RetQ prog [.tmp 4, .tmp 5] n0 K))))
  {s : S} {f : RG} (hi : Gets n0 I s f h) : Sem J 81 n0 26 (subC [1, 1, 1, 1, 1, 1, 1, 0, 0] (codeOf f26)) f h (contQ prog J 81 n0 26 [1, 1, 1, 1, 1, 1, 1, 0, 0] (codeOf f26) [] (RetQ prog [.tmp 4, .tmp 5] n0 K)) :=
  loop_rule hJ mixed (b := subC [1, 1, 1, 1, 1, 1, 1, 0, 0, 0] (codeOf f26)) (by kernel_rfl) μ I hI hi
-- loop [1, 1, 1, 1, 1, 1, 1, 0, 0, 0, 1, 0, 0, 1, 0, 1, 0, 0]
theorem s26_3 {f : RG} {nx0 nx1 : RG → List AObj → Prop} : W prog J 81 n0 26 (subC [1, 1, 1, 1, 1, 1, 1, 0, 0, 0, 1, 0, 0, 1, 0, 1, 0, 0] (codeOf f26)) f h (thenK nx1 (contQ prog J 81 n0 26 [1, 1, 1, 1, 1, 1, 1, 0, 0, 0, 1, 0, 0, 1, 0, 1, 0] (codeOf f26) [nx0] (RetQ prog [.tmp 4, .tmp 5] n0 K))) =
(aLenS (f.r 1) fun v1 =>
aBin prog .lss 3 (f.r 10) v1 fun v2 =>
cnd v2
(aIdx 1 (f.r 1) (f.r 10) fun v3 =>
aLoad false 1 v3 h fun v4 =>
aIdx 1 (f.r 8) (f.r 9) fun v5 =>
aLoad false 1 v5 h fun v6 =>
aBin prog .add 3 v6 (vint 1) fun v7 =>
aBin prog .mul 3 v4 v7 fun v8 =>
aIdx 1 (f.r 1) (f.r 9) fun v9 =>
aLoad false 1 v9 h fun v10 =>
aIdx 1 (f.r 8) (f.r 10) fun v11 =>
aLoad false 1 v11 h fun v12 =>
aBin prog .add 3 v12 (vint 1) fun v13 =>
aBin prog .mul 3 v10 v13 fun v14 =>
aBin prog .gtr 3 v8 v14 fun v15 =>
cnd v15
(aBin prog .add 3 (f.r 10) (vint 1) fun v16 =>
nx1 ((((((((((((((((((((((((((((((f.put 46 (f.r 10)).put 47 (f.r 1)).put 48 v1).put 49 v2).put 52 (f.r 1)).put 53 (f.r 10)).put 54 v3).put 55 v4).put 56 (f.r 8)).put 57 (f.r 9)).put 58 v5).put 59 v6).put 60 v7).put 61 v8).put 62 (f.r 1)).put 63 (f.r 9)).put 64 v9).put 65 v10).put 66 (f.r 8)).put 67 (f.r 10)).put 68 v11).put 69 v12).put 70 v13).put 71 v14).put 72 v15).put 73 (f.r 10)).put 9 (f.r 10)).put 50 (f.r 10)).put 51 v16).put 10 v16) h)
(aBin prog .add 3 (f.r 10) (vint 1) fun v17 =>
nx1 ((((((((((((((((((((((((((((f.put 46 (f.r 10)).put 47 (f.r 1)).put 48 v1).put 49 v2).put 52 (f.r 1)).put 53 (f.r 10)).put 54 v3).put 55 v4).put 56 (f.r 8)).put 57 (f.r 9)).put 58 v5).put 59 v6).put 60 v7).put 61 v8).put 62 (f.r 1)).put 63 (f.r 9)).put 64 v9).put 65 v10).put 66 (f.r 8)).put 67 (f.r 10)).put 68 v11).put 69 v12).put 70 v13).put 71 v14).put 72 v15).put 50 (f.r 10)).put 51 v17).put 10 v17) h))
(aIdx 1 (f.r 8) (f.r 9) fun v18 =>
aLoad false 1 v18 h fun v19 =>
aBin prog .add 3 v19 (vint 1) fun v20 =>
aIdx 1 (f.r 8) (f.r 9) fun v21 =>
aStore 1 v21 v20 h fun h22 =>
aBin prog .sub 3 (f.r 0) (vint 1) fun v23 =>
nx0 (((((((((((((f.put 46 (f.r 10)).put 47 (f.r 1)).put 48 v1).put 49 v2).put 74 (f.r 8)).put 75 (f.r 9)).put 76 v18).put 77 v19).put 78 v20).put 79 v21).put 44 (f.r 0)).put 45 v23).put 0 v23) h22)) := by kernel_rfl
theorem l26_3 (hJ : Closed prog main J) {nx0 : RG → List AObj → Prop} {S : Type} (μ : S → Nat) (I : S → RG → List AObj → Prop) (hI : ∀ s f h, I s f h → heapOk h → n0 ≤ h.length → W prog J 81 n0 26 (subC [1, 1, 1, 1, 1, 1, 1, 0, 0, 0, 1, 0, 0, 1, 0, 1, 0, 0] (codeOf f26)) f h (thenK (Nx n0 μ I s) (contQ prog J 81 n0 26 [1, 1, 1, 1, 1, 1, 1, 0, 0, 0, 1, 0, 0, 1, 0, 1, 0] (codeOf f26) [nx0] (RetQ prog [.tmp 4, .tmp 5] n0 K))))
  {s : S} {f : RG} (hi : Gets n0 I s f h) : Sem J 81 n0 26 (subC [1, 1, 1, 1, 1, 1, 1, 0, 0, 0, 1, 0, 0, 1, 0, 1, 0] (codeOf f26)) f h (contQ prog J 81 n0 26 [1, 1, 1, 1, 1, 1, 1, 0, 0, 0, 1, 0, 0, 1, 0, 1, 0] (codeOf f26) [nx0] (RetQ prog [.tmp 4, .tmp 5] n0 K)) :=
  loop_rule hJ mixed (b := subC [1, 1, 1, 1, 1, 1, 1, 0, 0, 0, 1, 0, 0, 1, 0, 1, 0, 0] (codeOf f26)) (by kernel_rfl) μ I hI hi
theorem at27 : prog.funcs[27]? = some f27 := by kernel_rfl
theorem body27 : f27.body = some (codeOf f27) := by kernel_rfl
theorem e27 {a0 a1 : Value} : W prog J 26 h.length 27 (codeOf f27) (RG.mk (regs [a0, a1]) []) h (RetQ prog [.tmp 4] h.length K) =
(aLenS a0 fun v1 =>
aLenS a1 fun v2 =>
aBin prog .neq 3 v1 v2 fun v3 =>
cnd v3
(retL h.length K [] [(Value.bool false)] h)
(Sem J 26 h.length 27 (subC [1, 1, 0, 1, 0] (codeOf f27)) ((((((((RG.mk (regs [a0, a1]) []).put 4 (Value.bool false)).put 6 a0).put 7 v1).put 8 a1).put 9 v2).put 10 v3).put 5 (vint 0)) h (contQ prog J 26 h.length 27 [1, 1, 0, 1, 0] (codeOf f27) [] (RetQ prog [.tmp 4] h.length K)))) := by kernel_rfl
theorem g27 (hJ : Closed prog main J) {a0 a1 : Value} (hs : heapOk h → W prog J 26 h.length 27 (codeOf f27) (RG.mk (regs [a0, a1]) []) h (RetQ prog [.tmp 4] h.length K)) : Good prog J 27 [a0, a1] h K :=
  good_of_W hJ mixed at27 body27 (by kernel_rfl) (Nat.le_of_ble_eq_true rfl) hs
-- loop [1, 1, 0, 1, 0, 0]
theorem s27_1 {f : RG} {nx0 : RG → List AObj → Prop} : W prog J 26 n0 27 (subC [1, 1, 0, 1, 0, 0] (codeOf f27)) f h (thenK nx0 (contQ prog J 26 n0 27 [1, 1, 0, 1, 0] (codeOf f27) [] (RetQ prog [.tmp 4] n0 K))) =
(aLenS (f.r 0) fun v1 =>
aBin prog .lss 3 (f.r 5) v1 fun v2 =>
cnd v2
(aIdx 1 (f.r 0) (f.r 5) fun v3 =>
aLoad false 1 v3 h fun v4 =>
aIdx 1 (f.r 1) (f.r 5) fun v5 =>
aLoad false 1 v5 h fun v6 =>
aBin prog .neq 3 v4 v6 fun v7 =>
cnd v7
(retL n0 K f.ds [(Value.bool false)] h)
(aBin prog .add 3 (f.r 5) (vint 1) fun v8 =>
nx0 ((((((((((((((((f.put 11 (f.r 5)).put 12 (f.r 0)).put 13 v1).put 14 v2).put 17 (f.r 0)).put 18 (f.r 5)).put 19 v3).put 20 v4).put 21 (f.r 1)).put 22 (f.r 5)).put 23 v5).put 24 v6).put 25 v7).put 15 (f.r 5)).put 16 v8).put 5 v8) h))
(retL n0 K f.ds [(Value.bool true)] h)) := by kernel_rfl
theorem l27_1 (hJ : Closed prog main J) {S : Type} (μ : S → Nat) (I : S → RG → List AObj → Prop) (hI : ∀ s f h, I s f h → heapOk h → n0 ≤ h.length → W prog J 26 n0 27 (subC [1, 1, 0, 1, 0, 0] (codeOf f27)) f h (thenK (Nx n0 μ I s) (contQ prog J 26 n0 27 [1, 1, 0, 1, 0] (codeOf f27) [] (RetQ prog [.tmp 4] n0 K))))
  {s : S} {f : RG} (hi : Gets n0 I s f h) : Sem J 26 n0 27 (subC [1, 1, 0, 1, 0] (codeOf f27)) f h (contQ prog J 26 n0 27 [1, 1, 0, 1, 0] (codeOf f27) [] (RetQ prog [.tmp 4] n0 K)) :=
  loop_rule hJ mixed (b := subC [1, 1, 0, 1, 0, 0] (codeOf f27)) (by kernel_rfl) μ I hI hi
theorem at66 : prog.funcs[66]? = some f66 := by kernel_rfl
theorem body66 : f66.body = some (codeOf f66) := by kernel_rfl
theorem e66 {a0 : Value} : W prog J 72 h.length 66 (codeOf f66) (RG.mk (regs [a0]) []) h (RetQ prog [.tmp 2] h.length K) =
(aNil a0 fun v1 =>
aOff v1 1 fun v2 =>
aLoad false 1 v2 h fun v3 =>
aConvI .u64 v3 fun v4 =>
aNil a0 fun v5 =>
aOff v5 1 fun v6 =>
aLoad false 1 v6 h fun v7 =>
aNil a0 fun v8 =>
aOff v8 0 fun v9 =>
aLoad false 1 v9 h fun v10 =>
aLenS v10 fun v11 =>
aBin prog .lss 3 v7 v11 fun v12 =>
cnd v12
(aNil a0 fun v13 =>
aOff v13 0 fun v14 =>
aLoad false 1 v14 h fun v15 =>
aNil a0 fun v16 =>
aOff v16 1 fun v17 =>
aLoad false 1 v17 h fun v18 =>
aIdx 1 v15 v18 fun v19 =>
aLoad false 1 v19 h fun v20 =>
aConvI .u64 v20 fun v21 =>
aNil a0 fun v22 =>
aOff v22 1 fun v23 =>
aLoad false 1 v23 h fun v24 =>
aBin prog .add 3 v24 (vint 1) fun v25 =>
aNil a0 fun v26 =>
aOff v26 1 fun v27 =>
aStore 1 v27 v25 h fun h28 =>
aNil a0 fun v29 =>
aOff v29 2 fun v30 =>
aLoad false 1 v30 h28 fun v31 =>
aBin prog .mul 85 v21 (Value.int .u64 11400714819323198485) fun v32 =>
aBin prog .xor 85 v31 v32 fun v33 =>
aBin prog .shl 85 v33 (Value.int .u64 13) fun v34 =>
aBin prog .xor 85 v33 v34 fun v35 =>
aBin prog .shr 85 v35 (Value.int .u64 7) fun v36 =>
aBin prog .xor 85 v35 v36 fun v37 =>
aBin prog .shl 85 v37 (Value.int .u64 17) fun v38 =>
aBin prog .xor 85 v37 v38 fun v39 =>
aBin prog .add 85 v39 (Value.int .u64 7146057691288625177) fun v40 =>
aNil a0 fun v41 =>
aOff v41 2 fun v42 =>
aStore 1 v42 v40 h28 fun h43 =>
aBin prog .shr 85 v39 (Value.int .u64 31) fun v44 =>
aBin prog .xor 85 v39 v44 fun v45 =>
aBin prog .mul 85 v45 (Value.int .u64 13787848793156543929) fun v46 =>
aBin prog .shr 85 v46 (Value.int .u64 29) fun v47 =>
aBin prog .xor 85 v46 v47 fun v48 =>
aBin prog .shr 85 v48 (Value.int .u64 11) fun v49 =>
retL h.length K [] [v49] h43)
(aNil a0 fun v50 =>
aOff v50 1 fun v51 =>
aLoad false 1 v51 h fun v52 =>
aBin prog .add 3 v52 (vint 1) fun v53 =>
aNil a0 fun v54 =>
aOff v54 1 fun v55 =>
aStore 1 v55 v53 h fun h56 =>
aNil a0 fun v57 =>
aOff v57 2 fun v58 =>
aLoad false 1 v58 h56 fun v59 =>
aBin prog .mul 85 v4 (Value.int .u64 11400714819323198485) fun v60 =>
aBin prog .xor 85 v59 v60 fun v61 =>
aBin prog .shl 85 v61 (Value.int .u64 13) fun v62 =>
aBin prog .xor 85 v61 v62 fun v63 =>
aBin prog .shr 85 v63 (Value.int .u64 7) fun v64 =>
aBin prog .xor 85 v63 v64 fun v65 =>
aBin prog .shl 85 v65 (Value.int .u64 17) fun v66 =>
aBin prog .xor 85 v65 v66 fun v67 =>
aBin prog .add 85 v67 (Value.int .u64 7146057691288625177) fun v68 =>
aNil a0 fun v69 =>
aOff v69 2 fun v70 =>
aStore 1 v70 v68 h56 fun h71 =>
aBin prog .shr 85 v67 (Value.int .u64 31) fun v72 =>
aBin prog .xor 85 v67 v72 fun v73 =>
aBin prog .mul 85 v73 (Value.int .u64 13787848793156543929) fun v74 =>
aBin prog .shr 85 v74 (Value.int .u64 29) fun v75 =>
aBin prog .xor 85 v74 v75 fun v76 =>
aBin prog .shr 85 v76 (Value.int .u64 11) fun v77 =>
retL h.length K [] [v77] h71)) := by kernel_rfl
theorem g66 (hJ : Closed prog main J) {a0 : Value} (hs : heapOk h → W prog J 72 h.length 66 (codeOf f66) (RG.mk (regs [a0]) []) h (RetQ prog [.tmp 2] h.length K)) : Good prog J 66 [a0] h K :=
  good_of_W hJ mixed at66 body66 (by kernel_rfl) (Nat.le_of_ble_eq_true rfl) hs
theorem at68 : prog.funcs[68]? = some f68 := by kernel_rfl
theorem body68 : f68.body = some (codeOf f68) := by kernel_rfl
theorem e68 {a0 a1 a2 : Value} : W prog J 15 h.length 68 (codeOf f68) (RG.mk (regs [a0, a1, a2]) []) h (RetQ prog [.tmp 6] h.length K) =
(aBin prog .geq 3 a0 a1 fun v1 =>
cnd v1
(aBin prog .leq 3 a0 a2 fun v2 =>
retL h.length K [] [v2] h)
(retL h.length K [] [(Value.bool false)] h)) := by kernel_rfl
theorem g68 (hJ : Closed prog main J) {a0 a1 a2 : Value} (hs : heapOk h → W prog J 15 h.length 68 (codeOf f68) (RG.mk (regs [a0, a1, a2]) []) h (RetQ prog [.tmp 6] h.length K)) : Good prog J 68 [a0, a1, a2] h K :=
  good_of_W hJ mixed at68 body68 (by kernel_rfl) (Nat.le_of_ble_eq_true rfl) hs
theorem at3 : prog.funcs[3]? = some f3 := by kernel_rfl
theorem body3 : f3.body = some (codeOf f3) := by kernel_rfl
theorem e3 {a0 a1 a2 : Value} : W prog J 102 h.length 3 (codeOf f3) (RG.mk (regs [a0, a1, a2]) []) h (RetQ prog [.tmp 6] h.length K) =
(aLenS a1 fun v1 =>
aBin prog .gtr 3 v1 (vint 20) fun v2 =>
cnd v2
(Good prog J 18 [] h fun v3 h4 =>
retL h.length K [] [v3] h4)
(Good prog J 19 [a2] h fun v5 h6 =>
Good prog J 20 [v5, (vint 1), (vint 5)] h6 fun v7 h8 =>
Sem J 102 h.length 3 (subC [1, 1, 1, 1, 0, 1, 0] (codeOf f3)) ((((((((((((RG.mk (regs [a0, a1, a2]) []).put 6 (Value.bool false)).put 18 a1).put 19 v1).put 20 v2).put 22 a2).put 23 v5).put 7 v5).put 8 (Value.slice none 0 0)).put 24 v5).put 25 v7).put 9 v7) h8 (contQ prog J 102 h.length 3 [1, 1, 1, 1, 0, 1, 0] (codeOf f3) [] (RetQ prog [.tmp 6] h.length K)))) := by kernel_rfl
theorem g3 (hJ : Closed prog main J) {a0 a1 a2 : Value} (hs : heapOk h → W prog J 102 h.length 3 (codeOf f3) (RG.mk (regs [a0, a1, a2]) []) h (RetQ prog [.tmp 6] h.length K)) : Good prog J 3 [a0, a1, a2] h K :=
  good_of_W hJ mixed at3 body3 (by kernel_rfl) (Nat.le_of_ble_eq_true rfl) hs
-- loop [1, 1, 1, 1, 0, 1, 0, 0]
theorem s3_1 {f : RG} {nx0 : RG → List AObj → Prop} : W prog J 102 n0 3 (subC [1, 1, 1, 1, 0, 1, 0, 0] (codeOf f3)) f h (thenK nx0 (contQ prog J 102 n0 3 [1, 1, 1, 1, 0, 1, 0] (codeOf f3) [] (RetQ prog [.tmp 6] n0 K))) =
(aBin prog .gtr 3 (f.r 9) (vint 0) fun v1 =>
cnd v1
(Good prog J 22 [(f.r 7), (vint 4)] h fun v2 h3 =>
Good prog J 22 [(f.r 7), (vint 40)] h3 fun v4 h5 =>
((2 * 1 ≤ 16777216 ∧ 2 ≤ 16777216 ∧ List.length [(vint 0)] = 1) ∧ aFill (zrep [(vint 0)] 2) [(0, 1, v2), (1, 1, v4)] fun c6 =>
aNewS 2 c6 h5 fun v7 h8 =>
Good prog J 21 [(f.r 7), (vint 0), v7] h8 fun v9 h10 =>
((1 * 1 ≤ 16777216 ∧ 1 ≤ 16777216 ∧ List.length [(vint 0)] = 1) ∧ aFill (zrep [(vint 0)] 1) [(0, 1, v9)] fun c11 =>
aNewS 1 c11 h10 fun v12 h13 =>
((List.length [(vint 0)] = 1 ∧ 0 < 1 ∧ 0 < 8 ∧ 8 ≤ 1024) ∧ aApp 1 (f.r 8) v12 h13 fun v14 h15 =>
aBin prog .sub 3 (f.r 9) (vint 1) fun v16 =>
nx0 ((((((((((((((((f.put 26 (f.r 9)).put 27 v1).put 30 (f.r 8)).put 31 (f.r 7)).put 32 (f.r 7)).put 33 v2).put 34 (f.r 7)).put 35 v4).put 36 v7).put 37 v9).put 38 v12).put 39 v14).put 8 v14).put 28 (f.r 9)).put 29 v16).put 9 v16) h15))))
(Good prog J 23 [(f.r 8)] h fun v17 h18 =>
Good prog J 22 [(f.r 7), v17] h18 fun v19 h20 =>
((3 * 1 ≤ 16777216 ∧ 3 ≤ 16777216 ∧ List.length [(vint 0)] = 1) ∧ aFill (zrep [(vint 0)] 3) [(0, 1, (f.r 0)), (1, 1, v19), (2, 1, (f.r 0))] fun c21 =>
aNewS 3 c21 h20 fun v22 h23 =>
((3 * 1 ≤ 16777216 ∧ 3 ≤ 16777216 ∧ List.length [(Value.slice none 0 0)] = 1) ∧ aFill (zrep [(Value.slice none 0 0)] 3) [(0, 1, (f.r 1)), (1, 1, (f.r 8)), (2, 1, (f.r 8))] fun c24 =>
aNewS 3 c24 h23 fun v25 h26 =>
Sem J 102 n0 3 (subC [1, 1, 1, 1, 1, 1, 0, 1, 0] (codeOf f3)) ((((((((((((((((f.put 26 (f.r 9)).put 27 v1).put 40 (f.r 0)).put 41 (f.r 7)).put 42 (f.r 8)).put 43 v17).put 44 v19).put 45 (f.r 0)).put 46 v22).put 47 (f.r 1)).put 48 (f.r 8)).put 49 (f.r 8)).put 50 v25).put 10 v22).put 11 v25).put 12 (vint 0)) h26 (contQ prog J 102 n0 3 [1, 1, 1, 1, 1, 1, 0, 1, 0] (codeOf f3) [] (RetQ prog [.tmp 6] n0 K)))))) := by kernel_rfl
theorem l3_1 (hJ : Closed prog main J) {S : Type} (μ : S → Nat) (I : S → RG → List AObj → Prop) (hI : ∀ s f h, I s f h → heapOk h → n0 ≤ h.length → W prog J 102 n0 3 (subC [1, 1, 1, 1, 0, 1, 0, 0] (codeOf f3)) f h (thenK (Nx n0 μ I s) (contQ prog J 102 n0 3 [1, 1, 1, 1, 0, 1, 0] (codeOf f3) [] (RetQ prog [.tmp 6] n0 K))))
  {s : S} {f : RG} (hi : Gets n0 I s f h) : Sem J 102 n0 3 (subC [1, 1, 1, 1, 0, 1, 0] (codeOf f3)) f h (contQ prog J 102 n0 3 [1, 1, 1, 1, 0, 1, 0] (codeOf f3) [] (RetQ prog [.tmp 6] n0 K)) :=
  loop_rule hJ mixed (b := subC [1, 1, 1, 1, 0, 1, 0, 0] (codeOf f3)) (by kernel_rfl) μ I hI hi
-- loop [1, 1, 1, 1, 1, 1, 0, 1, 0, 0]
theorem s3_2 {f : RG} {nx0 : RG → List AObj → Prop} : W prog J 102 n0 3 (subC [1, 1, 1, 1, 1, 1, 0, 1, 0, 0] (codeOf f3)) f h (thenK nx0 (contQ prog J 102 n0 3 [1, 1, 1, 1, 1, 1, 0, 1, 0] (codeOf f3) [] (RetQ prog [.tmp 6] n0 K))) =
(aLenS (f.r 10) fun v1 =>
aBin prog .lss 3 (f.r 12) v1 fun v2 =>
cnd v2
(aIdx 1 (f.r 11) (f.r 12) fun v3 =>
aLoad false 1 v3 h fun v4 =>
Good prog J 24 [v4] h fun v5 h6 =>
aIdx 1 (f.r 10) (f.r 12) fun v7 =>
aLoad false 1 v7 h6 fun v8 =>
Good prog J 25 [v8, v5] h6 fun v9 h10 =>
aExt v9 0 fun v11 =>
aExt v9 1 fun v12 =>
aIdx 1 (f.r 10) (f.r 12) fun v13 =>
aLoad false 1 v13 h10 fun v14 =>
aIdx 1 (f.r 11) (f.r 12) fun v15 =>
aLoad false 1 v15 h10 fun v16 =>
Good prog J 26 [v14, v16] h10 fun v17 h18 =>
aExt v17 0 fun v19 =>
aExt v17 1 fun v20 =>
aBin prog .neq 32 v12 v20 fun v21 =>
cnd v21
(cnd (Value.bool true)
(W prog J 102 n0 3 (subC [1, 1, 1, 1, 1, 1, 0, 1, 0, 0, 1, 0, 0, 1, 1, 1, 1] (codeOf f3)) (((((((((((((((((((((((((((((((((((((((((((((((((((((((f.put 51 (f.r 12)).put 52 (f.r 10)).put 53 v1).put 54 v2).put 57 (f.r 11)).put 58 (f.r 12)).put 59 v3).put 60 v4).put 61 v5).put 13 v5).put 63 (f.r 10)).put 64 (f.r 12)).put 65 v7).put 66 v8).put 67 v5).put 68 v9).put 62 v9).put 69 v11).put 70 v12).put 14 v11).put 15 v12).put 72 (f.r 10)).put 73 (f.r 12)).put 74 v13).put 75 v14).put 76 (f.r 11)).put 77 (f.r 12)).put 78 v15).put 79 v16).put 80 v17).put 71 v17).put 81 v19).put 82 v20).put 16 v19).put 17 v20).put 83 v12).put 84 v20).put 85 v21).put 86 v21).put 86 (Value.bool true)).put 87 undef).put 88 undef).put 89 undef).put 90 undef).put 91 (Value.bool true)).put 92 (Value.bool true)).put 92 (Value.bool true)).put 93 undef).put 94 undef).put 95 undef).put 96 undef).put 97 undef).put 98 undef).put 99 undef).put 100 (Value.bool true)) h18 (contQ prog J 102 n0 3 [1, 1, 1, 1, 1, 1, 0, 1, 0, 0, 1, 0, 0, 1, 1, 1, 1] (codeOf f3) [nx0] (RetQ prog [.tmp 6] n0 K)))
(aIdx 1 (f.r 11) (f.r 12) fun v22 =>
aLoad false 1 v22 h18 fun v23 =>
Good prog J 27 [v5, v23] h18 fun v24 h25 =>
aUn .not v24 fun v26 =>
W prog J 102 n0 3 (subC [1, 1, 1, 1, 1, 1, 0, 1, 0, 0, 1, 0, 0, 1, 1, 1, 1] (codeOf f3)) (((((((((((((((((((((((((((((((((((((((((((((((((((((((f.put 51 (f.r 12)).put 52 (f.r 10)).put 53 v1).put 54 v2).put 57 (f.r 11)).put 58 (f.r 12)).put 59 v3).put 60 v4).put 61 v5).put 13 v5).put 63 (f.r 10)).put 64 (f.r 12)).put 65 v7).put 66 v8).put 67 v5).put 68 v9).put 62 v9).put 69 v11).put 70 v12).put 14 v11).put 15 v12).put 72 (f.r 10)).put 73 (f.r 12)).put 74 v13).put 75 v14).put 76 (f.r 11)).put 77 (f.r 12)).put 78 v15).put 79 v16).put 80 v17).put 71 v17).put 81 v19).put 82 v20).put 16 v19).put 17 v20).put 83 v12).put 84 v20).put 85 v21).put 86 v21).put 86 (Value.bool true)).put 87 undef).put 88 undef).put 89 undef).put 90 undef).put 91 (Value.bool true)).put 92 (Value.bool true)).put 92 (Value.bool false)).put 93 v5).put 94 (f.r 11)).put 95 (f.r 12)).put 96 v22).put 97 v23).put 98 v24).put 99 v26).put 100 v26) h25 (contQ prog J 102 n0 3 [1, 1, 1, 1, 1, 1, 0, 1, 0, 0, 1, 0, 0, 1, 1, 1, 1] (codeOf f3) [nx0] (RetQ prog [.tmp 6] n0 K))))
(Good prog J 27 [v11, v19] h18 fun v27 h28 =>
aUn .not v27 fun v29 =>
cnd v29
(W prog J 102 n0 3 (subC [1, 1, 1, 1, 1, 1, 0, 1, 0, 0, 1, 0, 0, 1, 1, 1, 1] (codeOf f3)) (((((((((((((((((((((((((((((((((((((((((((((((((((((((f.put 51 (f.r 12)).put 52 (f.r 10)).put 53 v1).put 54 v2).put 57 (f.r 11)).put 58 (f.r 12)).put 59 v3).put 60 v4).put 61 v5).put 13 v5).put 63 (f.r 10)).put 64 (f.r 12)).put 65 v7).put 66 v8).put 67 v5).put 68 v9).put 62 v9).put 69 v11).put 70 v12).put 14 v11).put 15 v12).put 72 (f.r 10)).put 73 (f.r 12)).put 74 v13).put 75 v14).put 76 (f.r 11)).put 77 (f.r 12)).put 78 v15).put 79 v16).put 80 v17).put 71 v17).put 81 v19).put 82 v20).put 16 v19).put 17 v20).put 83 v12).put 84 v20).put 85 v21).put 86 v21).put 86 (Value.bool false)).put 87 v11).put 88 v19).put 89 v27).put 90 v29).put 91 v29).put 92 v29).put 92 (Value.bool true)).put 93 undef).put 94 undef).put 95 undef).put 96 undef).put 97 undef).put 98 undef).put 99 undef).put 100 (Value.bool true)) h28 (contQ prog J 102 n0 3 [1, 1, 1, 1, 1, 1, 0, 1, 0, 0, 1, 0, 0, 1, 1, 1, 1] (codeOf f3) [nx0] (RetQ prog [.tmp 6] n0 K)))
(aIdx 1 (f.r 11) (f.r 12) fun v30 =>
aLoad false 1 v30 h28 fun v31 =>
Good prog J 27 [v5, v31] h28 fun v32 h33 =>
aUn .not v32 fun v34 =>
W prog J 102 n0 3 (subC [1, 1, 1, 1, 1, 1, 0, 1, 0, 0, 1, 0, 0, 1, 1, 1, 1] (codeOf f3)) (((((((((((((((((((((((((((((((((((((((((((((((((((((((f.put 51 (f.r 12)).put 52 (f.r 10)).put 53 v1).put 54 v2).put 57 (f.r 11)).put 58 (f.r 12)).put 59 v3).put 60 v4).put 61 v5).put 13 v5).put 63 (f.r 10)).put 64 (f.r 12)).put 65 v7).put 66 v8).put 67 v5).put 68 v9).put 62 v9).put 69 v11).put 70 v12).put 14 v11).put 15 v12).put 72 (f.r 10)).put 73 (f.r 12)).put 74 v13).put 75 v14).put 76 (f.r 11)).put 77 (f.r 12)).put 78 v15).put 79 v16).put 80 v17).put 71 v17).put 81 v19).put 82 v20).put 16 v19).put 17 v20).put 83 v12).put 84 v20).put 85 v21).put 86 v21).put 86 (Value.bool false)).put 87 v11).put 88 v19).put 89 v27).put 90 v29).put 91 v29).put 92 v29).put 92 (Value.bool false)).put 93 v5).put 94 (f.r 11)).put 95 (f.r 12)).put 96 v30).put 97 v31).put 98 v32).put 99 v34).put 100 v34) h33 (contQ prog J 102 n0 3 [1, 1, 1, 1, 1, 1, 0, 1, 0, 0, 1, 0, 0, 1, 1, 1, 1] (codeOf f3) [nx0] (RetQ prog [.tmp 6] n0 K)))))
(Good prog J 18 [] h fun v35 h36 =>
retL n0 K f.ds [v35] h36)) := by kernel_rfl
theorem l3_2 (hJ : Closed prog main J) {S : Type} (μ : S → Nat) (I : S → RG → List AObj → Prop) (hI : ∀ s f h, I s f h → heapOk h → n0 ≤ h.length → W prog J 102 n0 3 (subC [1, 1, 1, 1, 1, 1, 0, 1, 0, 0] (codeOf f3)) f h (thenK (Nx n0 μ I s) (contQ prog J 102 n0 3 [1, 1, 1, 1, 1, 1, 0, 1, 0] (codeOf f3) [] (RetQ prog [.tmp 6] n0 K))))
  {s : S} {f : RG} (hi : Gets n0 I s f h) : Sem J 102 n0 3 (subC [1, 1, 1, 1, 1, 1, 0, 1, 0] (codeOf f3)) f h (contQ prog J 102 n0 3 [1, 1, 1, 1, 1, 1, 0, 1, 0] (codeOf f3) [] (RetQ prog [.tmp 6] n0 K)) :=
  loop_rule hJ mixed (b := subC [1, 1, 1, 1, 1, 1, 0, 1, 0, 0] (codeOf f3)) (by kernel_rfl) μ I hI hi
-- join [1, 1, 1, 1, 1, 1, 0, 1, 0, 0, 1, 0, 0, 1, 1, 1, 1]
theorem s3_3 {f : RG} {nx0 : RG → List AObj → Prop} : W prog J 102 n0 3 (subC [1, 1, 1, 1, 1, 1, 0, 1, 0, 0, 1, 0, 0, 1, 1, 1, 1] (codeOf f3)) f h (contQ prog J 102 n0 3 [1, 1, 1, 1, 1, 1, 0, 1, 0, 0, 1, 0, 0, 1, 1, 1, 1] (codeOf f3) [nx0] (RetQ prog [.tmp 6] n0 K)) =
(cnd (f.r 100)
(retL n0 K f.ds [(Value.bool false)] h)
(aBin prog .add 3 (f.r 12) (vint 1) fun v1 =>
nx0 (((f.put 55 (f.r 12)).put 56 v1).put 12 v1) h)) := by kernel_rfl
theorem at7 : prog.funcs[7]? = some f7 := by kernel_rfl
theorem body7 : f7.body = some (codeOf f7) := by kernel_rfl
theorem e7 {a0 : Value} : W prog J 163 h.length 7 (codeOf f7) (RG.mk (regs [a0]) []) h (RetQ prog [.tmp 2] h.length K) =
(Good prog J 19 [a0] h fun v1 h2 =>
Good prog J 20 [v1, (vint 1), (vint 5)] h2 fun v3 h4 =>
Sem J 163 h.length 7 (subC [1, 1, 1, 0, 1, 0] (codeOf f7)) (((((((((RG.mk (regs [a0]) []).put 2 (Value.bool false)).put 17 a0).put 18 v1).put 3 v1).put 4 (Value.slice none 0 0)).put 19 v1).put 20 v3).put 5 v3) h4 (contQ prog J 163 h.length 7 [1, 1, 1, 0, 1, 0] (codeOf f7) [] (RetQ prog [.tmp 2] h.length K))) := by kernel_rfl
theorem g7 (hJ : Closed prog main J) {a0 : Value} (hs : heapOk h → W prog J 163 h.length 7 (codeOf f7) (RG.mk (regs [a0]) []) h (RetQ prog [.tmp 2] h.length K)) : Good prog J 7 [a0] h K :=
  good_of_W hJ mixed at7 body7 (by kernel_rfl) (Nat.le_of_ble_eq_true rfl) hs
-- loop [1, 1, 1, 0, 1, 0, 0]
theorem s7_1 {f : RG} {nx0 : RG → List AObj → Prop} : W prog J 163 n0 7 (subC [1, 1, 1, 0, 1, 0, 0] (codeOf f7)) f h (thenK nx0 (contQ prog J 163 n0 7 [1, 1, 1, 0, 1, 0] (codeOf f7) [] (RetQ prog [.tmp 2] n0 K))) =
(aBin prog .gtr 3 (f.r 5) (vint 0) fun v1 =>
cnd v1
(Good prog J 22 [(f.r 3), (vint 5)] h fun v2 h3 =>
Good prog J 22 [(f.r 3), (vint 60)] h3 fun v4 h5 =>
((2 * 1 ≤ 16777216 ∧ 2 ≤ 16777216 ∧ List.length [(vint 0)] = 1) ∧ aFill (zrep [(vint 0)] 2) [(0, 1, v2), (1, 1, v4)] fun c6 =>
aNewS 2 c6 h5 fun v7 h8 =>
Good prog J 21 [(f.r 3), (vint 0), v7] h8 fun v9 h10 =>
((1 * 1 ≤ 16777216 ∧ 1 ≤ 16777216 ∧ List.length [(vint 0)] = 1) ∧ aFill (zrep [(vint 0)] 1) [(0, 1, v9)] fun c11 =>
aNewS 1 c11 h10 fun v12 h13 =>
((List.length [(vint 0)] = 1 ∧ 0 < 1 ∧ 0 < 8 ∧ 8 ≤ 1024) ∧ aApp 1 (f.r 4) v12 h13 fun v14 h15 =>
aBin prog .sub 3 (f.r 5) (vint 1) fun v16 =>
nx0 ((((((((((((((((f.put 21 (f.r 5)).put 22 v1).put 25 (f.r 4)).put 26 (f.r 3)).put 27 (f.r 3)).put 28 v2).put 29 (f.r 3)).put 30 v4).put 31 v7).put 32 v9).put 33 v12).put 34 v14).put 4 v14).put 23 (f.r 5)).put 24 v16).put 5 v16) h15))))
(Good prog J 23 [(f.r 4)] h fun v17 h18 =>
Good prog J 22 [(f.r 3), v17] h18 fun v19 h20 =>
Good prog J 25 [v19, (f.r 4)] h20 fun v21 h22 =>
aExt v21 0 fun v23 =>
aExt v21 1 fun v24 =>
aBin prog .neq 32 v24 (vint 0) fun v25 =>
cnd v25
(cnd (Value.bool true)
(W prog J 163 n0 7 (subC [1, 1, 1, 1, 1, 1, 1, 0, 1] (codeOf f7)) ((((((((((((((((((((((((((((((((((f.put 21 (f.r 5)).put 22 v1).put 35 (f.r 4)).put 36 v17).put 6 v17).put 37 (f.r 3)).put 38 v17).put 39 v19).put 7 v19).put 41 v19).put 42 (f.r 4)).put 43 v21).put 40 v21).put 44 v23).put 45 v24).put 8 v23).put 9 v24).put 46 v24).put 47 v25).put 48 v25).put 48 (Value.bool true)).put 49 undef).put 50 undef).put 51 undef).put 52 undef).put 53 undef).put 54 (Value.bool true)).put 55 (Value.bool true)).put 55 (Value.bool true)).put 56 undef).put 57 undef).put 58 undef).put 59 undef).put 60 (Value.bool true)) h22 (contQ prog J 163 n0 7 [1, 1, 1, 1, 1, 1, 1, 0, 1] (codeOf f7) [] (RetQ prog [.tmp 2] n0 K)))
(Good prog J 23 [v23] h22 fun v26 h27 =>
aBin prog .neq 3 v26 v19 fun v28 =>
W prog J 163 n0 7 (subC [1, 1, 1, 1, 1, 1, 1, 0, 1] (codeOf f7)) ((((((((((((((((((((((((((((((((((f.put 21 (f.r 5)).put 22 v1).put 35 (f.r 4)).put 36 v17).put 6 v17).put 37 (f.r 3)).put 38 v17).put 39 v19).put 7 v19).put 41 v19).put 42 (f.r 4)).put 43 v21).put 40 v21).put 44 v23).put 45 v24).put 8 v23).put 9 v24).put 46 v24).put 47 v25).put 48 v25).put 48 (Value.bool true)).put 49 undef).put 50 undef).put 51 undef).put 52 undef).put 53 undef).put 54 (Value.bool true)).put 55 (Value.bool true)).put 55 (Value.bool false)).put 56 v23).put 57 v26).put 58 v19).put 59 v28).put 60 v28) h27 (contQ prog J 163 n0 7 [1, 1, 1, 1, 1, 1, 1, 0, 1] (codeOf f7) [] (RetQ prog [.tmp 2] n0 K))))
(aLenS v23 fun v29 =>
aLenS (f.r 4) fun v30 =>
aBin prog .neq 3 v29 v30 fun v31 =>
cnd v31
(W prog J 163 n0 7 (subC [1, 1, 1, 1, 1, 1, 1, 0, 1] (codeOf f7)) ((((((((((((((((((((((((((((((((((f.put 21 (f.r 5)).put 22 v1).put 35 (f.r 4)).put 36 v17).put 6 v17).put 37 (f.r 3)).put 38 v17).put 39 v19).put 7 v19).put 41 v19).put 42 (f.r 4)).put 43 v21).put 40 v21).put 44 v23).put 45 v24).put 8 v23).put 9 v24).put 46 v24).put 47 v25).put 48 v25).put 48 (Value.bool false)).put 49 v23).put 50 v29).put 51 (f.r 4)).put 52 v30).put 53 v31).put 54 v31).put 55 v31).put 55 (Value.bool true)).put 56 undef).put 57 undef).put 58 undef).put 59 undef).put 60 (Value.bool true)) h22 (contQ prog J 163 n0 7 [1, 1, 1, 1, 1, 1, 1, 0, 1] (codeOf f7) [] (RetQ prog [.tmp 2] n0 K)))
(Good prog J 23 [v23] h22 fun v32 h33 =>
aBin prog .neq 3 v32 v19 fun v34 =>
W prog J 163 n0 7 (subC [1, 1, 1, 1, 1, 1, 1, 0, 1] (codeOf f7)) ((((((((((((((((((((((((((((((((((f.put 21 (f.r 5)).put 22 v1).put 35 (f.r 4)).put 36 v17).put 6 v17).put 37 (f.r 3)).put 38 v17).put 39 v19).put 7 v19).put 41 v19).put 42 (f.r 4)).put 43 v21).put 40 v21).put 44 v23).put 45 v24).put 8 v23).put 9 v24).put 46 v24).put 47 v25).put 48 v25).put 48 (Value.bool false)).put 49 v23).put 50 v29).put 51 (f.r 4)).put 52 v30).put 53 v31).put 54 v31).put 55 v31).put 55 (Value.bool false)).put 56 v23).put 57 v32).put 58 v19).put 59 v34).put 60 v34) h33 (contQ prog J 163 n0 7 [1, 1, 1, 1, 1, 1, 1, 0, 1] (codeOf f7) [] (RetQ prog [.tmp 2] n0 K)))))) := by kernel_rfl
theorem l7_1 (hJ : Closed prog main J) {S : Type} (μ : S → Nat) (I : S → RG → List AObj → Prop) (hI : ∀ s f h, I s f h → heapOk h → n0 ≤ h.length → W prog J 163 n0 7 (subC [1, 1, 1, 0, 1, 0, 0] (codeOf f7)) f h (thenK (Nx n0 μ I s) (contQ prog J 163 n0 7 [1, 1, 1, 0, 1, 0] (codeOf f7) [] (RetQ prog [.tmp 2] n0 K))))
  {s : S} {f : RG} (hi : Gets n0 I s f h) : Sem J 163 n0 7 (subC [1, 1, 1, 0, 1, 0] (codeOf f7)) f h (contQ prog J 163 n0 7 [1, 1, 1, 0, 1, 0] (codeOf f7) [] (RetQ prog [.tmp 2] n0 K)) :=
  loop_rule hJ mixed (b := subC [1, 1, 1, 0, 1, 0, 0] (codeOf f7)) (by kernel_rfl) μ I hI hi
-- join [1, 1, 1, 1, 1, 1, 1, 0, 1]
theorem s7_2 {f : RG} : W prog J 163 n0 7 (subC [1, 1, 1, 1, 1, 1, 1, 0, 1] (codeOf f7)) f h (contQ prog J 163 n0 7 [1, 1, 1, 1, 1, 1, 1, 0, 1] (codeOf f7) [] (RetQ prog [.tmp 2] n0 K)) =
(cnd (f.r 60)
(retL n0 K f.ds [(Value.bool false)] h)
(Sem J 163 n0 7 (subC [1, 1, 1, 1, 1, 1, 1, 1, 0, 1, 0] (codeOf f7)) (f.put 10 (vint 0)) h (contQ prog J 163 n0 7 [1, 1, 1, 1, 1, 1, 1, 1, 0, 1, 0] (codeOf f7) [] (RetQ prog [.tmp 2] n0 K)))) := by kernel_rfl
-- loop [1, 1, 1, 1, 1, 1, 1, 1, 0, 1, 0, 0]
theorem s7_3 {f : RG} {nx0 : RG → List AObj → Prop} : W prog J 163 n0 7 (subC [1, 1, 1, 1, 1, 1, 1, 1, 0, 1, 0, 0] (codeOf f7)) f h (thenK nx0 (contQ prog J 163 n0 7 [1, 1, 1, 1, 1, 1, 1, 1, 0, 1, 0] (codeOf f7) [] (RetQ prog [.tmp 2] n0 K))) =
(aLenS (f.r 8) fun v1 =>
aBin prog .lss 3 (f.r 10) v1 fun v2 =>
cnd v2
(aIdx 1 (f.r 8) (f.r 10) fun v3 =>
aLoad false 1 v3 h fun v4 =>
aBin prog .lss 3 v4 (vint 0) fun v5 =>
cnd v5
(W prog J 163 n0 7 (subC [1, 1, 1, 1, 1, 1, 1, 1, 0, 1, 0, 0, 1, 0, 0, 0, 1] (codeOf f7)) (((((((((((((((((((((f.put 61 (f.r 10)).put 62 (f.r 8)).put 63 v1).put 64 v2).put 67 (f.r 8)).put 68 (f.r 10)).put 69 v3).put 70 v4).put 71 v5).put 72 v5).put 72 (Value.bool true)).put 73 undef).put 74 undef).put 75 undef).put 76 undef).put 77 undef).put 78 undef).put 79 undef).put 80 undef).put 81 undef).put 82 (Value.bool true)) h (contQ prog J 163 n0 7 [1, 1, 1, 1, 1, 1, 1, 1, 0, 1, 0, 0, 1, 0, 0, 0, 1] (codeOf f7) [nx0] (RetQ prog [.tmp 2] n0 K)))
(aIdx 1 (f.r 8) (f.r 10) fun v6 =>
aLoad false 1 v6 h fun v7 =>
aIdx 1 (f.r 4) (f.r 10) fun v8 =>
aLoad false 1 v8 h fun v9 =>
aBin prog .gtr 3 v7 v9 fun v10 =>
W prog J 163 n0 7 (subC [1, 1, 1, 1, 1, 1, 1, 1, 0, 1, 0, 0, 1, 0, 0, 0, 1] (codeOf f7)) (((((((((((((((((((((f.put 61 (f.r 10)).put 62 (f.r 8)).put 63 v1).put 64 v2).put 67 (f.r 8)).put 68 (f.r 10)).put 69 v3).put 70 v4).put 71 v5).put 72 v5).put 72 (Value.bool false)).put 73 (f.r 8)).put 74 (f.r 10)).put 75 v6).put 76 v7).put 77 (f.r 4)).put 78 (f.r 10)).put 79 v8).put 80 v9).put 81 v10).put 82 v10) h (contQ prog J 163 n0 7 [1, 1, 1, 1, 1, 1, 1, 1, 0, 1, 0, 0, 1, 0, 0, 0, 1] (codeOf f7) [nx0] (RetQ prog [.tmp 2] n0 K))))
(aBin prog .lss 3 (f.r 7) (f.r 6) fun v11 =>
cnd v11
(aBin prog .add 3 (f.r 7) (vint 1) fun v12 =>
Good prog J 25 [v12, (f.r 4)] h fun v13 h14 =>
aExt v13 0 fun v15 =>
aExt v13 1 fun v16 =>
aBin prog .neq 32 v16 (vint 0) fun v17 =>
cnd v17
(W prog J 163 n0 7 (subC [1, 1, 1, 1, 1, 1, 1, 1, 1, 0, 1, 0, 1, 0, 1] (codeOf f7)) ((((((((((((((((((((((((((f.put 61 (f.r 10)).put 62 (f.r 8)).put 63 v1).put 64 v2).put 128 (f.r 7)).put 129 (f.r 6)).put 130 v11).put 132 (f.r 7)).put 133 v12).put 134 (f.r 4)).put 135 v13).put 131 v13).put 136 v15).put 137 v16).put 14 v15).put 15 v16).put 138 v16).put 139 v17).put 140 v17).put 140 (Value.bool true)).put 141 undef).put 142 undef).put 143 undef).put 144 undef).put 145 undef).put 146 (Value.bool true)) h14 (contQ prog J 163 n0 7 [1, 1, 1, 1, 1, 1, 1, 1, 1, 0, 1, 0, 1, 0, 1] (codeOf f7) [] (RetQ prog [.tmp 2] n0 K)))
(aLenS v15 fun v18 =>
aLenS (f.r 8) fun v19 =>
aBin prog .neq 3 v18 v19 fun v20 =>
W prog J 163 n0 7 (subC [1, 1, 1, 1, 1, 1, 1, 1, 1, 0, 1, 0, 1, 0, 1] (codeOf f7)) ((((((((((((((((((((((((((f.put 61 (f.r 10)).put 62 (f.r 8)).put 63 v1).put 64 v2).put 128 (f.r 7)).put 129 (f.r 6)).put 130 v11).put 132 (f.r 7)).put 133 v12).put 134 (f.r 4)).put 135 v13).put 131 v13).put 136 v15).put 137 v16).put 14 v15).put 15 v16).put 138 v16).put 139 v17).put 140 v17).put 140 (Value.bool false)).put 141 v15).put 142 v18).put 143 (f.r 8)).put 144 v19).put 145 v20).put 146 v20) h14 (contQ prog J 163 n0 7 [1, 1, 1, 1, 1, 1, 1, 1, 1, 0, 1, 0, 1, 0, 1] (codeOf f7) [] (RetQ prog [.tmp 2] n0 K))))
(Good prog J 18 [] h fun v21 h22 =>
retL n0 K f.ds [v21] h22))) := by kernel_rfl
theorem l7_3 (hJ : Closed prog main J) {S : Type} (μ : S → Nat) (I : S → RG → List AObj → Prop) (hI : ∀ s f h, I s f h → heapOk h → n0 ≤ h.length → W prog J 163 n0 7 (subC [1, 1, 1, 1, 1, 1, 1, 1, 0, 1, 0, 0] (codeOf f7)) f h (thenK (Nx n0 μ I s) (contQ prog J 163 n0 7 [1, 1, 1, 1, 1, 1, 1, 1, 0, 1, 0] (codeOf f7) [] (RetQ prog [.tmp 2] n0 K))))
  {s : S} {f : RG} (hi : Gets n0 I s f h) : Sem J 163 n0 7 (subC [1, 1, 1, 1, 1, 1, 1, 1, 0, 1, 0] (codeOf f7)) f h (contQ prog J 163 n0 7 [1, 1, 1, 1, 1, 1, 1, 1, 0, 1, 0] (codeOf f7) [] (RetQ prog [.tmp 2] n0 K)) :=
  loop_rule hJ mixed (b := subC [1, 1, 1, 1, 1, 1, 1, 1, 0, 1, 0, 0] (codeOf f7)) (by kernel_rfl) μ I hI hi
-- join [1, 1, 1, 1, 1, 1, 1, 1, 0, 1, 0, 0, 1, 0, 0, 0, 1]
theorem s7_4 {f : RG} {nx0 : RG → List AObj → Prop} : W prog J 163 n0 7 (subC [1, 1, 1, 1, 1, 1, 1, 1, 0, 1, 0, 0, 1, 0, 0, 0, 1] (codeOf f7)) f h (contQ prog J 163 n0 7 [1, 1, 1, 1, 1, 1, 1, 1, 0, 1, 0, 0, 1, 0, 0, 0, 1] (codeOf f7) [nx0] (RetQ prog [.tmp 2] n0 K)) =
(cnd (f.r 82)
(retL n0 K f.ds [(Value.bool false)] h)
(Sem J 163 n0 7 (subC [1, 1, 1, 1, 1, 1, 1, 1, 0, 1, 0, 0, 1, 0, 0, 1, 1, 0] (codeOf f7)) (f.put 11 (vint 0)) h (contQ prog J 163 n0 7 [1, 1, 1, 1, 1, 1, 1, 1, 0, 1, 0, 0, 1, 0, 0, 1, 1, 0] (codeOf f7) [nx0] (RetQ prog [.tmp 2] n0 K)))) := by kernel_rfl
-- join [1, 1, 1, 1, 1, 1, 1, 1, 1, 0, 1, 0, 1, 0, 1]
theorem s7_5 {f : RG} : W prog J 163 n0 7 (subC [1, 1, 1, 1, 1, 1, 1, 1, 1, 0, 1, 0, 1, 0, 1] (codeOf f7)) f h (contQ prog J 163 n0 7 [1, 1, 1, 1, 1, 1, 1, 1, 1, 0, 1, 0, 1, 0, 1] (codeOf f7) [] (RetQ prog [.tmp 2] n0 K)) =
(cnd (f.r 146)
(retL n0 K f.ds [(Value.bool false)] h)
(Sem J 163 n0 7 (subC [1, 1, 1, 1, 1, 1, 1, 1, 1, 0, 1, 0, 1, 1, 1, 0] (codeOf f7)) (f.put 16 (vint 0)) h (contQ prog J 163 n0 7 [1, 1, 1, 1, 1, 1, 1, 1, 1, 0, 1, 0, 1, 1, 1, 0] (codeOf f7) [] (RetQ prog [.tmp 2] n0 K)))) := by kernel_rfl
-- loop [1, 1, 1, 1, 1, 1, 1, 1, 0, 1, 0, 0, 1, 0, 0, 1, 1, 0, 0]
theorem s7_6 {f : RG} {nx0 nx1 : RG → List AObj → Prop} : W prog J 163 n0 7 (subC [1, 1, 1, 1, 1, 1, 1, 1, 0, 1, 0, 0, 1, 0, 0, 1, 1, 0, 0] (codeOf f7)) f h (thenK nx1 (contQ prog J 163 n0 7 [1, 1, 1, 1, 1, 1, 1, 1, 0, 1, 0, 0, 1, 0, 0, 1, 1, 0] (codeOf f7) [nx0] (RetQ prog [.tmp 2] n0 K))) =
(aLenS (f.r 8) fun v1 =>
aBin prog .lss 3 (f.r 11) v1 fun v2 =>
cnd v2
(aIdx 1 (f.r 4) (f.r 10) fun v3 =>
aLoad false 1 v3 h fun v4 =>
aIdx 1 (f.r 8) (f.r 11) fun v5 =>
aLoad false 1 v5 h fun v6 =>
aBin prog .add 3 v6 (vint 1) fun v7 =>
aBin prog .mul 3 v4 v7 fun v8 =>
aIdx 1 (f.r 4) (f.r 11) fun v9 =>
aLoad false 1 v9 h fun v10 =>
aIdx 1 (f.r 8) (f.r 10) fun v11 =>
aLoad false 1 v11 h fun v12 =>
aBin prog .mul 3 v10 v12 fun v13 =>
aIdx 1 (f.r 8) (f.r 10) fun v14 =>
aLoad false 1 v14 h fun v15 =>
aBin prog .gtr 3 v15 (vint 0) fun v16 =>
cnd v16
(aBin prog .lss 3 v8 v13 fun v17 =>
cnd v17
(W prog J 163 n0 7 (subC [1, 1, 1, 1, 1, 1, 1, 1, 0, 1, 0, 0, 1, 0, 0, 1, 1, 0, 0, 1, 0, 0, 1, 1] (codeOf f7)) (((((((((((((((((((((((((((((((((((((((((((((((f.put 83 (f.r 11)).put 84 (f.r 8)).put 85 v1).put 86 v2).put 89 (f.r 4)).put 90 (f.r 10)).put 91 v3).put 92 v4).put 93 (f.r 8)).put 94 (f.r 11)).put 95 v5).put 96 v6).put 97 v7).put 98 v8).put 99 (f.r 4)).put 100 (f.r 11)).put 101 v9).put 102 v10).put 103 (f.r 8)).put 104 (f.r 10)).put 105 v11).put 106 v12).put 107 v13).put 12 v8).put 13 v13).put 108 (f.r 8)).put 109 (f.r 10)).put 110 v14).put 111 v15).put 112 v16).put 113 v16).put 113 (Value.bool true)).put 114 v8).put 115 v13).put 116 v17).put 117 v17).put 117 (Value.bool true)).put 118 undef).put 119 undef).put 120 undef).put 121 undef).put 122 undef).put 123 undef).put 124 undef).put 125 undef).put 126 (Value.bool true)).put 127 (Value.bool true)) h (contQ prog J 163 n0 7 [1, 1, 1, 1, 1, 1, 1, 1, 0, 1, 0, 0, 1, 0, 0, 1, 1, 0, 0, 1, 0, 0, 1, 1] (codeOf f7) [nx0, nx1] (RetQ prog [.tmp 2] n0 K)))
(aBin prog .eql 3 v8 v13 fun v18 =>
cnd v18
(aBin prog .lss 3 (f.r 11) (f.r 10) fun v19 =>
W prog J 163 n0 7 (subC [1, 1, 1, 1, 1, 1, 1, 1, 0, 1, 0, 0, 1, 0, 0, 1, 1, 0, 0, 1, 0, 0, 1, 1] (codeOf f7)) ((((((((((((((((((((((((((((((((((((((((((((((((f.put 83 (f.r 11)).put 84 (f.r 8)).put 85 v1).put 86 v2).put 89 (f.r 4)).put 90 (f.r 10)).put 91 v3).put 92 v4).put 93 (f.r 8)).put 94 (f.r 11)).put 95 v5).put 96 v6).put 97 v7).put 98 v8).put 99 (f.r 4)).put 100 (f.r 11)).put 101 v9).put 102 v10).put 103 (f.r 8)).put 104 (f.r 10)).put 105 v11).put 106 v12).put 107 v13).put 12 v8).put 13 v13).put 108 (f.r 8)).put 109 (f.r 10)).put 110 v14).put 111 v15).put 112 v16).put 113 v16).put 113 (Value.bool true)).put 114 v8).put 115 v13).put 116 v17).put 117 v17).put 117 (Value.bool false)).put 118 v8).put 119 v13).put 120 v18).put 121 v18).put 121 (Value.bool true)).put 122 (f.r 11)).put 123 (f.r 10)).put 124 v19).put 125 v19).put 126 v19).put 127 v19) h (contQ prog J 163 n0 7 [1, 1, 1, 1, 1, 1, 1, 1, 0, 1, 0, 0, 1, 0, 0, 1, 1, 0, 0, 1, 0, 0, 1, 1] (codeOf f7) [nx0, nx1] (RetQ prog [.tmp 2] n0 K)))
(W prog J 163 n0 7 (subC [1, 1, 1, 1, 1, 1, 1, 1, 0, 1, 0, 0, 1, 0, 0, 1, 1, 0, 0, 1, 0, 0, 1, 1] (codeOf f7)) ((((((((((((((((((((((((((((((((((((((((((((((((f.put 83 (f.r 11)).put 84 (f.r 8)).put 85 v1).put 86 v2).put 89 (f.r 4)).put 90 (f.r 10)).put 91 v3).put 92 v4).put 93 (f.r 8)).put 94 (f.r 11)).put 95 v5).put 96 v6).put 97 v7).put 98 v8).put 99 (f.r 4)).put 100 (f.r 11)).put 101 v9).put 102 v10).put 103 (f.r 8)).put 104 (f.r 10)).put 105 v11).put 106 v12).put 107 v13).put 12 v8).put 13 v13).put 108 (f.r 8)).put 109 (f.r 10)).put 110 v14).put 111 v15).put 112 v16).put 113 v16).put 113 (Value.bool true)).put 114 v8).put 115 v13).put 116 v17).put 117 v17).put 117 (Value.bool false)).put 118 v8).put 119 v13).put 120 v18).put 121 v18).put 121 (Value.bool false)).put 122 undef).put 123 undef).put 124 undef).put 125 (Value.bool false)).put 126 (Value.bool false)).put 127 (Value.bool false)) h (contQ prog J 163 n0 7 [1, 1, 1, 1, 1, 1, 1, 1, 0, 1, 0, 0, 1, 0, 0, 1, 1, 0, 0, 1, 0, 0, 1, 1] (codeOf f7) [nx0, nx1] (RetQ prog [.tmp 2] n0 K)))))
(W prog J 163 n0 7 (subC [1, 1, 1, 1, 1, 1, 1, 1, 0, 1, 0, 0, 1, 0, 0, 1, 1, 0, 0, 1, 0, 0, 1, 1] (codeOf f7)) ((((((((((((((((((((((((((((((((((((((((((((((f.put 83 (f.r 11)).put 84 (f.r 8)).put 85 v1).put 86 v2).put 89 (f.r 4)).put 90 (f.r 10)).put 91 v3).put 92 v4).put 93 (f.r 8)).put 94 (f.r 11)).put 95 v5).put 96 v6).put 97 v7).put 98 v8).put 99 (f.r 4)).put 100 (f.r 11)).put 101 v9).put 102 v10).put 103 (f.r 8)).put 104 (f.r 10)).put 105 v11).put 106 v12).put 107 v13).put 12 v8).put 13 v13).put 108 (f.r 8)).put 109 (f.r 10)).put 110 v14).put 111 v15).put 112 v16).put 113 v16).put 113 (Value.bool false)).put 114 undef).put 115 undef).put 116 undef).put 117 undef).put 118 undef).put 119 undef).put 120 undef).put 121 undef).put 122 undef).put 123 undef).put 124 undef).put 125 undef).put 126 undef).put 127 (Value.bool false)) h (contQ prog J 163 n0 7 [1, 1, 1, 1, 1, 1, 1, 1, 0, 1, 0, 0, 1, 0, 0, 1, 1, 0, 0, 1, 0, 0, 1, 1] (codeOf f7) [nx0, nx1] (RetQ prog [.tmp 2] n0 K))))
(aBin prog .add 3 (f.r 10) (vint 1) fun v20 =>
nx0 (((((((f.put 83 (f.r 11)).put 84 (f.r 8)).put 85 v1).put 86 v2).put 65 (f.r 10)).put 66 v20).put 10 v20) h)) := by kernel_rfl
theorem l7_6 (hJ : Closed prog main J) {nx0 : RG → List AObj → Prop} {S : Type} (μ : S → Nat) (I : S → RG → List AObj → Prop) (hI : ∀ s f h, I s f h → heapOk h → n0 ≤ h.length → W prog J 163 n0 7 (subC [1, 1, 1, 1, 1, 1, 1, 1, 0, 1, 0, 0, 1, 0, 0, 1, 1, 0, 0] (codeOf f7)) f h (thenK (Nx n0 μ I s) (contQ prog J 163 n0 7 [1, 1, 1, 1, 1, 1, 1, 1, 0, 1, 0, 0, 1, 0, 0, 1, 1, 0] (codeOf f7) [nx0] (RetQ prog [.tmp 2] n0 K))))
  {s : S} {f : RG} (hi : Gets n0 I s f h) : Sem J 163 n0 7 (subC [1, 1, 1, 1, 1, 1, 1, 1, 0, 1, 0, 0, 1, 0, 0, 1, 1, 0] (codeOf f7)) f h (contQ prog J 163 n0 7 [1, 1, 1, 1, 1, 1, 1, 1, 0, 1, 0, 0, 1, 0, 0, 1, 1, 0] (codeOf f7) [nx0] (RetQ prog [.tmp 2] n0 K)) :=
  loop_rule hJ mixed (b := subC [1, 1, 1, 1, 1, 1, 1, 1, 0, 1, 0, 0, 1, 0, 0, 1, 1, 0, 0] (codeOf f7)) (by kernel_rfl) μ I hI hi
-- loop [1, 1, 1, 1, 1, 1, 1, 1, 1, 0, 1, 0, 1, 1, 1, 0, 0]
theorem s7_7 {f : RG} {nx0 : RG → List AObj → Prop} : W prog J 163 n0 7 (subC [1, 1, 1, 1, 1, 1, 1, 1, 1, 0, 1, 0, 1, 1, 1, 0, 0] (codeOf f7)) f h (thenK nx0 (contQ prog J 163 n0 7 [1, 1, 1, 1, 1, 1, 1, 1, 1, 0, 1, 0, 1, 1, 1, 0] (codeOf f7) [] (RetQ prog [.tmp 2] n0 K))) =
(aLenS (f.r 8) fun v1 =>
aBin prog .lss 3 (f.r 16) v1 fun v2 =>
cnd v2
(aIdx 1 (f.r 14) (f.r 16) fun v3 =>
aLoad false 1 v3 h fun v4 =>
aIdx 1 (f.r 8) (f.r 16) fun v5 =>
aLoad false 1 v5 h fun v6 =>
aBin prog .lss 3 v4 v6 fun v7 =>
cnd v7
(retL n0 K f.ds [(Value.bool false)] h)
(aBin prog .add 3 (f.r 16) (vint 1) fun v8 =>
nx0 ((((((((((((((((f.put 147 (f.r 16)).put 148 (f.r 8)).put 149 v1).put 150 v2).put 153 (f.r 14)).put 154 (f.r 16)).put 155 v3).put 156 v4).put 157 (f.r 8)).put 158 (f.r 16)).put 159 v5).put 160 v6).put 161 v7).put 151 (f.r 16)).put 152 v8).put 16 v8) h))
(Good prog J 18 [] h fun v9 h10 =>
retL n0 K f.ds [v9] h10)) := by kernel_rfl
theorem l7_7 (hJ : Closed prog main J) {S : Type} (μ : S → Nat) (I : S → RG → List AObj → Prop) (hI : ∀ s f h, I s f h → heapOk h → n0 ≤ h.length → W prog J 163 n0 7 (subC [1, 1, 1, 1, 1, 1, 1, 1, 1, 0, 1, 0, 1, 1, 1, 0, 0] (codeOf f7)) f h (thenK (Nx n0 μ I s) (contQ prog J 163 n0 7 [1, 1, 1, 1, 1, 1, 1, 1, 1, 0, 1, 0, 1, 1, 1, 0] (codeOf f7) [] (RetQ prog [.tmp 2] n0 K))))
  {s : S} {f : RG} (hi : Gets n0 I s f h) : Sem J 163 n0 7 (subC [1, 1, 1, 1, 1, 1, 1, 1, 1, 0, 1, 0, 1, 1, 1, 0] (codeOf f7)) f h (contQ prog J 163 n0 7 [1, 1, 1, 1, 1, 1, 1, 1, 1, 0, 1, 0, 1, 1, 1, 0] (codeOf f7) [] (RetQ prog [.tmp 2] n0 K)) :=
  loop_rule hJ mixed (b := subC [1, 1, 1, 1, 1, 1, 1, 1, 1, 0, 1, 0, 1, 1, 1, 0, 0] (codeOf f7)) (by kernel_rfl) μ I hI hi
-- join [1, 1, 1, 1, 1, 1, 1, 1, 0, 1, 0, 0, 1, 0, 0, 1, 1, 0, 0, 1, 0, 0, 1, 1]
theorem s7_8 {f : RG} {nx0 nx1 : RG → List AObj → Prop} : W prog J 163 n0 7 (subC [1, 1, 1, 1, 1, 1, 1, 1, 0, 1, 0, 0, 1, 0, 0, 1, 1, 0, 0, 1, 0, 0, 1, 1] (codeOf f7)) f h (contQ prog J 163 n0 7 [1, 1, 1, 1, 1, 1, 1, 1, 0, 1, 0, 0, 1, 0, 0, 1, 1, 0, 0, 1, 0, 0, 1, 1] (codeOf f7) [nx0, nx1] (RetQ prog [.tmp 2] n0 K)) =
(cnd (f.r 127)
(retL n0 K f.ds [(Value.bool false)] h)
(aBin prog .add 3 (f.r 11) (vint 1) fun v1 =>
nx1 (((f.put 87 (f.r 11)).put 88 v1).put 11 v1) h)) := by kernel_rfl
end
end Go.Proofs.Ytdgpacdknpahnaa

/- Contracts: the hand that deals numbers. No conditions. -/
namespace Go.Proofs.Ytdgpacdknpahnaa
open Go.Conc Go.Proofs.Try

/-- A hand lies in block b: its list, how many it has dealt, its state. -/
structure HandAt (h : List AObj) (b : Nat) (nv : Value) (nums : List Int) (k : Nat) (s : Int) : Prop where
  at_ : h[b]? = some (.cells [nv, vint k, .int .u64 s] true 0)
  list : Sli h nv 1 nums.length (nums.map vint)
  sane : nums.length < 4611686018427387904
  few : k < 4611686018427387904
  lo : 0 ≤ s
  hi : s < 18446744073709551616

section
variable {main : Bool} {J : JT} {h : List AObj} {K : Value → List AObj → Prop}

theorem nil_ok {b o : Nat} {K : Value → Prop} : aNil (ptr b o) K = K (ptr b o) := rfl
theorem off_ok {b o d : Nat} {K : Value → Prop} : aOff (ptr b o) d K = K (ptr b (o + d)) := rfl
theorem conv_u {n : Int} {K : Value → Prop} (hk : ∀ y, 0 ≤ y → y < 18446744073709551616 → K (.int .u64 y)) : aConvI .u64 (vint n) K := hk _ (wrapU _).1 (wrapU _).2

theorem u_shr11 {t : TypeId} {y : Int} (h1 : 0 ≤ y) (h2 : y < 18446744073709551616) {K : Value → Prop} : aBin prog .shr t (.int .u64 y) (.int .u64 11) K = K (.int .u64 (y / 2048)) := by
  have e : min (Int.toNat 11) IntKind.u64.bits = 11 := by decide
  simp only [aBin, aShift, e]
  rw [Int.fdiv_eq_ediv_of_nonneg _ (by decide)]
  simp

theorem set_twice {b : Nat} {x y : AObj} (hb : h[b]? = some x) : (h.set b y)[b]? = some y := by
  have : b < h.length := (List.getElem?_eq_some_iff.1 hb).1
  simp [this]

theorem good66 (hJ : Closed prog main J) {b : Nat} {nv : Value} {nums : List Int} {k : Nat} {s : Int} (H : HandAt h b nv nums k s)
    (hK : ∀ x s', 0 ≤ x → x < 9007199254740992 → 0 ≤ s' → s' < 18446744073709551616 → K (.int .u64 x) (h.set b (.cells [nv, vint (k + 1), .int .u64 s'] true 0))) : Good prog J 66 [ptr b 0] h K := by
  refine g66 hJ fun ok => ?_
  rw [e66]
  obtain ⟨hb, hl, hsane, hfew, hlo, hhi⟩ := H
  have hnv : kn1 nv = true := by
    obtain ⟨_, _, rfl, _⟩ := hl
    rfl
  have l0 : ∀ K, aLoad false 1 (ptr b 0) h K = K nv := fun K => load_cell hb rfl hnv
  have l1 : ∀ K, aLoad false 1 (ptr b 1) h K = K (vint k) := fun K => load_cell hb rfl rfl
  -- what stands behind the joining of the ways
  have rest : ∀ x : Int, aBin prog .add 3 (vint k) (vint 1) fun v25 =>
      aStore 1 (ptr b 1) v25 h fun h28 =>
      aLoad false 1 (ptr b 2) h28 fun v31 =>
      aBin prog .mul 85 (.int .u64 x) (Value.int .u64 11400714819323198485) fun v32 =>
      aBin prog .xor 85 v31 v32 fun v33 =>
      aBin prog .shl 85 v33 (Value.int .u64 13) fun v34 =>
      aBin prog .xor 85 v33 v34 fun v35 =>
      aBin prog .shr 85 v35 (Value.int .u64 7) fun v36 =>
      aBin prog .xor 85 v35 v36 fun v37 =>
      aBin prog .shl 85 v37 (Value.int .u64 17) fun v38 =>
      aBin prog .xor 85 v37 v38 fun v39 =>
      aBin prog .add 85 v39 (Value.int .u64 7146057691288625177) fun v40 =>
      aStore 1 (ptr b 2) v40 h28 fun h43 =>
      aBin prog .shr 85 v39 (Value.int .u64 31) fun v44 =>
      aBin prog .xor 85 v39 v44 fun v45 =>
      aBin prog .mul 85 v45 (Value.int .u64 13787848793156543929) fun v46 =>
      aBin prog .shr 85 v46 (Value.int .u64 29) fun v47 =>
      aBin prog .xor 85 v46 v47 fun v48 =>
      aBin prog .shr 85 v48 (Value.int .u64 11) fun v49 =>
      retL h.length K [] [v49] h43 := by
    intro x
    rw [b_add (by omega)]
    refine store_cell hb (by simp) rfl rfl ?_
    have hb2 : (h.set b (.cells ([nv, vint k, .int .u64 s].set 1 (vint (k + 1))) true 0))[b]? = some (.cells [nv, vint (k + 1), .int .u64 s] true 0) := set_twice hb
    rw [load_cell hb2 rfl rfl]
    refine u_mul fun y1 a1 b1 => u_xor fun y2 a2 b2 => u_shl (by omega) fun y3 a3 b3 => u_xor fun y4 a4 b4 => u_shr (by omega) a4 b4 fun y5 a5 b5 => u_xor fun y6 a6 b6 => u_shl (by omega) fun y7 a7 b7 => u_xor fun y8 a8 b8 => u_add fun y9 a9 b9 => ?_
    refine store_cell hb2 (by simp) rfl rfl ?_
    refine u_shr (by omega) a8 b8 fun z1 c1 d1 => u_xor fun z2 c2 d2 => u_mul fun z3 c3 d3 => u_shr (by omega) c3 d3 fun z4 c4 d4 => u_xor fun z5 c5 d5 => ?_
    rw [u_shr11 c5 d5]
    refine retL_same (by simp [unk]) ?_
    rw [List.set_set]
    exact hK _ _ (by omega) (by omega) a9 b9
  simp only [nil_ok, off_ok, Nat.zero_add, l0, l1]
  refine conv_u fun x0 _ _ => ?_
  simp only [sli_len hl, b_lss, cnd_dec]
  refine ⟨fun hlt => idx_load hl ⟨by omega, by omega⟩ (map_get (by simpa using hlt)) fun p => conv_u fun x1 _ _ => rest x1, fun _ => rest x0⟩

/-- The hand in block b has dealt some more: what lies there now. -/
def Dealt (h : List AObj) (b : Nat) (nv : Value) (k n : Nat) (h' : List AObj) : Prop :=
  ∃ (k' : Nat) (s' : Int), k' ≤ k + n ∧ 0 ≤ s' ∧ s' < 18446744073709551616 ∧ h' = h.set b (.cells [nv, vint k', .int .u64 s'] true 0)

theorem good22 (hJ : Closed prog main J) {b : Nat} {nv : Value} {nums : List Int} {k : Nat} {s m : Int} (H : HandAt h b nv nums k s) (hm : m < 9223372036854775807)
    (hK : ∀ y h', 0 ≤ y → (y ≤ m ∨ y = 0) → Dealt h b nv k 1 h' → K (vint y) h') : Good prog J 22 [ptr b 0, vint m] h K := by
  refine g22 hJ fun ok => ?_
  rw [e22]
  simp only [b_leq, cnd_dec]
  refine ⟨fun h0 => retL_same (by simp [unk]) (hK 0 h (by omega) (.inr rfl) ⟨k, s, by omega, H.lo, H.hi, ?_⟩), fun h0 => ?_⟩
  · have hb : b < h.length := (List.getElem?_eq_some_iff.1 H.at_).1
    apply List.ext_getElem?
    intro i
    rw [List.getElem?_set]
    split
    · rename_i e
      subst e
      exact H.at_
    · rfl
  · refine good66 hJ H fun x s' hx hx2 hs hs2 => ?_
    rw [b_add (by omega)]
    have e1 : ∀ n : Int, 0 ≤ n → n < 9223372036854775808 → IntKind.u64.wrap n = n := fun n a b => by
      simp only [IntKind.wrap, IntKind.bits, IntKind.signed]
      simp
      omega
    have hmod : Int.tmod x (m + 1) = x % (m + 1) := Int.tmod_eq_emod_of_nonneg hx
    have h1 := Int.emod_nonneg x (b := m + 1) (by omega)
    have h2 := Int.emod_lt_of_pos x (b := m + 1) (by omega)
    simp only [aConvI, e1 (m + 1) (by omega) (by omega), aBin, aInt, true_and]
    rw [hmod, wrap64 (by omega) (by omega)]
    exact ⟨by omega, retL_same (by simp [unk]) (hK _ _ h1 (.inl (by omega)) ⟨k + 1, s', by omega, hs, hs2, rfl⟩)⟩

theorem good20 (hJ : Closed prog main J) {b : Nat} {nv : Value} {nums : List Int} {k : Nat} {s lo hi : Int} (H : HandAt h b nv nums k s) (h1 : -1000000000000 ≤ lo ∧ lo ≤ 1000000000000) (h2 : -1000000000000 ≤ hi ∧ hi ≤ 1000000000000)
    (hK : ∀ y h', lo ≤ y → (y ≤ hi ∨ y = lo) → Dealt h b nv k 1 h' → K (vint y) h') : Good prog J 20 [ptr b 0, vint lo, vint hi] h K := by
  refine g20 hJ fun ok => ?_
  rw [e20, b_sub (by omega)]
  refine good22 hJ H (by omega) fun y h' hy hy2 hd => ?_
  rw [b_add (by omega)]
  exact retL_same (by simp [unk]) (hK _ _ (by omega) (by omega) hd)

theorem good19 (hJ : Closed prog main J) {base : Option Addr} {n c : Nat}
    (hK : K (ptr h.length 0) (h ++ [.cells [.slice base n c, vint 0, .int .u64 88172645463325252] true 0])) : Good prog J 19 [.slice base n c] h K := by
  refine g19 hJ fun ok => ?_
  rw [e19]
  simp [aFill, aBox, wrAt, Value.cells, one]
  exact retL_same (vs := [ptr h.length 0]) (by simp [unk]) hK

theorem good21 (hJ : Closed prog main J) {b : Nat} {nv ov : Value} {nums others : List Int} {k : Nat} {s a : Int} (H : HandAt h b nv nums k s) (ho : ∀ h', Dealt h b nv k 1 h' → Sli h' ov 1 others.length (others.map vint)) (hl : others.length < 1000000)
    (hK : ∀ y h', (y = a ∨ y ∈ others) → Dealt h b nv k 1 h' → K (vint y) h') : Good prog J 21 [ptr b 0, vint a, ov] h K := by
  refine g21 hJ fun ok => ?_
  rw [e21]
  have hd0 : Dealt h b nv k 1 h := by
    refine ⟨k, s, by omega, H.lo, H.hi, ?_⟩
    apply List.ext_getElem?
    intro i
    rw [List.getElem?_set]
    split
    · rename_i e
      subst e
      have hb : b < h.length := (List.getElem?_eq_some_iff.1 H.at_).1
      rw [if_pos hb]
      exact H.at_
    · rfl
  rw [sli_len (ho h hd0)]
  refine good22 hJ H (by omega) fun y h' hy hy2 hd => ?_
  simp only [b_gtr, cnd_dec]
  refine ⟨fun hg => ?_, fun _ => retL_same (by simp [unk]) (hK _ _ (.inl rfl) hd)⟩
  rw [b_sub (by omega)]
  refine idx_load (ho h' hd) ⟨by omega, by omega⟩ (map_get (by omega)) fun p => ?_
  refine retL_same (by simp [unk]) (hK _ _ (.inr ?_) hd)
  have : (y - 1).toNat < others.length := by omega
  simp only [List.getD_eq_getElem?_getD, List.getElem?_eq_getElem this, Option.getD_some]
  exact List.getElem_mem this
end
end Go.Proofs.Ytdgpacdknpahnaa

/- Contracts: within, SameInts, Total, CopyInts. No conditions. -/
namespace Go.Proofs.Ytdgpacdknpahnaa
open Go.Conc Go.Proofs.Try
section
variable {main : Bool} {J : JT} {h : List AObj} {K : Value → List AObj → Prop}

theorem good68 (hJ : Closed prog main J) {n lo hi : Int} (hK : K (.bool (decide (lo ≤ n ∧ n ≤ hi))) h) : Good prog J 68 [vint n, vint lo, vint hi] h K := by
  refine g68 hJ fun ok => ?_
  rw [e68]
  simp only [b_leq, b_geq, cnd_dec]
  refine ⟨fun h1 => retL_same (by simp [unk]) ?_, fun h1 => retL_same (by simp [unk]) ?_⟩
  · simpa [pack, h1] using hK
  · simpa [pack, h1] using hK

theorem good27 (hJ : Closed prog main J) {av bv : Value} {xs ys : List Int} (ha : Sli h av 1 xs.length (xs.map vint)) (hb : Sli h bv 1 ys.length (ys.map vint)) (hl : xs.length < 4611686018427387904)
    (hK : K (.bool (decide (xs = ys))) h) : Good prog J 27 [av, bv] h K := by
  refine g27 hJ fun ok => ?_
  rw [e27]
  simp only [sli_len ha, sli_len hb, b_neq, cnd_dec]
  refine ⟨fun hne => retL_same (by simp [unk]) ?_, fun heq => ?_⟩
  · have : xs ≠ ys := fun e => hne (by rw [e])
    simpa [pack, this] using hK
  · have hlen : xs.length = ys.length := by omega
    refine l27_1 hJ (fun i => xs.length - i) (fun i f h' => h' = h ∧ f.ds = [] ∧ f.r 0 = av ∧ f.r 1 = bv ∧ f.r 5 = vint (i : Nat) ∧ i ≤ xs.length ∧ xs.take i = ys.take i) ?_ (s := 0) (.inl ⟨rfl, rfl, rfl, rfl, rfl, by omega, by simp⟩)
    rintro i f h' ⟨rfl, hds, h0, h1, h5, hi, ht⟩ _ hn
    rw [s27_1]
    simp only [h0, h1, h5, hds, sli_len ha, b_lss, cnd_dec]
    refine ⟨fun hlt => ?_, fun hge => ?_⟩
    · have e1 : i < xs.length := by omega
      refine idx_load ha ⟨by omega, by omega⟩ (map_get (by omega)) fun p1 => ?_
      refine idx_load hb ⟨by omega, by omega⟩ (map_get (by omega)) fun p2 => ?_
      simp only [b_neq, cnd_dec, Int.toNat_natCast]
      refine ⟨fun hne => retL_same (by simp [unk]) ?_, fun heq => ?_⟩
      · have : xs ≠ ys := fun e => hne (by rw [e])
        simpa [pack, this] using hK
      · rw [b_add (by omega)]
        refine ⟨i + 1, by dsimp only; omega, .inl ⟨rfl, hds, h0, h1, rfl, by omega, ?_⟩⟩
        have heq : xs.getD i 0 = ys.getD i 0 := by simpa using heq
        simp only [List.getD_eq_getElem?_getD, List.getElem?_eq_getElem e1, List.getElem?_eq_getElem (show i < ys.length by omega), Option.getD_some] at heq
        rw [List.take_add_one, List.take_add_one, ht, List.getElem?_eq_getElem e1, List.getElem?_eq_getElem (show i < ys.length by omega), heq]
    · have : i = xs.length := by omega
      subst this
      rw [List.take_length, hlen, List.take_length] at ht
      refine retL_same (by simp [unk]) ?_
      simpa [pack, ht] using hK

theorem good23 (hJ : Closed prog main J) {av : Value} {xs : List Int} (ha : Sli h av 1 xs.length (xs.map vint)) (hl : xs.length < 1000000) (hx : ∀ x ∈ xs, -1000000 ≤ x ∧ x ≤ 1000000)
    (hK : K (vint xs.sum) h) : Good prog J 23 [av] h K := by
  refine g23 hJ fun ok => ?_
  rw [e23]
  have bd : ∀ l : List Int, (∀ x ∈ l, -1000000 ≤ x ∧ x ≤ 1000000) → -1000000 * (l.length : Int) ≤ l.sum ∧ l.sum ≤ 1000000 * l.length := by
    intro l
    induction l with
    | nil => simp
    | cons x l ih =>
      intro h
      have := ih fun y hy => h y (by simp [hy])
      have := h x (by simp)
      simp only [List.sum_cons, List.length_cons]
      omega
  refine l23_1 hJ (fun i => xs.length - i) (fun i f h' => h' = h ∧ f.ds = [] ∧ f.r 0 = av ∧ f.r 3 = vint (xs.take i).sum ∧ f.r 4 = vint (i : Nat) ∧ i ≤ xs.length) ?_ (s := 0) (.inl ⟨rfl, rfl, rfl, rfl, rfl, by omega⟩)
  rintro i f h' ⟨rfl, hds, h0, h3, h4, hi⟩ _ hn
  rw [s23_1]
  simp only [h0, h3, h4, hds, sli_len ha, b_lss, cnd_dec]
  refine ⟨fun hlt => ?_, fun hge => ?_⟩
  · have e1 : i < xs.length := by omega
    refine idx_load ha ⟨by omega, by omega⟩ (x := vint xs[i]) (by simp [e1]) fun p1 => ?_
    have b1 := bd (xs.take i) fun x hx' => hx x (List.mem_of_mem_take hx')
    have b2 := hx _ (List.getElem_mem e1)
    have b3 : (xs.take i).length ≤ 1000000 := by simp; omega
    rw [b_add (by omega), b_add (by omega)]
    refine ⟨i + 1, by dsimp only; omega, .inl ⟨rfl, hds, h0, ?_, rfl, by omega⟩⟩
    show vint ((xs.take i).sum + xs[i]) = vint (xs.take (i + 1)).sum
    congr 1
    rw [List.take_add_one, List.sum_append, List.getElem?_eq_getElem e1]
    simp
  · have : i = xs.length := by omega
    subst this
    rw [List.take_length]
    exact retL_same (by simp [unk]) hK

theorem ints_ok (n : Nat) (xs : List Int) : LOk n (xs.map vint) := by
  rw [LOk_iff]
  intro v hv
  obtain ⟨x, _, rfl⟩ := List.mem_map.1 hv
  simp [VOk]

theorem good24 (hJ : Closed prog main J) {av : Value} {xs : List Int} (ha : Sli h av 1 xs.length (xs.map vint)) (hl : xs.length < 1000000)
    (hK : ∀ c sz, K (.slice (some ⟨h.length, 0, none⟩) xs.length c) (h ++ [.cells (xs.map vint) true sz])) : Good prog J 24 [av] h K := by
  refine g24 hJ fun ok => ?_
  rw [e24]
  have hr : room = 1073741824 := rfl
  refine ⟨by decide, ?_⟩
  simp only [zrep, aFill, aNewS]
  refine ⟨by decide, ?_⟩
  have ha' := sli_app (g := [.cells [] true 0]) ha
  by_cases h0 : xs.length = 0
  · have : xs = [] := List.length_eq_zero_iff.1 h0
    subst this
    obtain ⟨yb, yc, rfl, _⟩ := id ha'
    refine ⟨by simp, src_sli ha' (by omega) ?_⟩
    have hb : (h ++ [AObj.cells [] true 0])[h.length]? = some (.cells [] true 0) := by simp
    simp only [hb]
    have hf : fz = 1180591620717411303424 := rfl
    refine ⟨⟨by simp, rfl⟩, fun _ => ⟨fun _ => ⟨trivial, by simp, ?_⟩, fun x => absurd x (by simp)⟩, fun x => absurd x (by omega)⟩
    refine retL_same (by simp [unk]) ?_
    have := hK 0 0
    simpa [wrAt, pack] using this
  · refine app_copy (n := 0) (m := xs.length) (cs := []) (wr := true) (sz := 0) (by simp) (by simp) rfl (by omega) (by omega) ha' (by omega) ?_
    simp only [Nat.zero_mul, List.drop_nil, List.take_nil, List.nil_append, Nat.zero_add]
    rw [List.append_assoc]
    refine retL_one (k := (h ++ [AObj.cells [] true 0]).length) (o := .cells (xs.map vint) true 1) ok (Nat.le_refl _) (by simp) (by simp) (ints_ok _ _) (hK _ _)
end
end Go.Proofs.Ytdgpacdknpahnaa

/- Contracts: tally.between, tally.Shares. No conditions. -/
namespace Go.Proofs.Ytdgpacdknpahnaa
open Go.Conc Go.Proofs.Try
section
variable {main : Bool} {J : JT} {h : List AObj} {K : Value → List AObj → Prop}

theorem good67 (hJ : Closed prog main J) {n lo hi : Int} (hK : K (.bool (decide (lo ≤ n ∧ n ≤ hi))) h) : Good prog J 67 [vint n, vint lo, vint hi] h K := by
  refine g67 hJ fun ok => ?_
  rw [e67]
  simp only [vint, b_leq, cnd_dec]
  refine ⟨fun h1 => retL_same (by simp [unk]) ?_, fun h1 => retL_same (by simp [unk]) ?_⟩
  · simpa [pack, h1] using hK
  · simpa [pack, h1] using hK

def whoAt (hs out : List Int) : Nat → Nat
  | 0 => 0
  | i + 1 => if hs.getD i 0 * (out.getD (whoAt hs out i) 0 + 1) > hs.getD (whoAt hs out i) 0 * (out.getD i 0 + 1) then i else whoAt hs out i
def outAt (hs : List Int) : Nat → List Int
  | 0 => List.replicate hs.length 0
  | j + 1 => (outAt hs j).set (whoAt hs (outAt hs j) hs.length) ((outAt hs j).getD (whoAt hs (outAt hs j) hs.length) 0 + 1)
def inR (hs : List Int) : Prop := ∀ x ∈ hs, 0 ≤ x ∧ x ≤ 300

theorem sum_le {l : List Int} (h : inR l) : 0 ≤ l.sum ∧ l.sum ≤ 300 * l.length := by
  induction l with
  | nil => simp
  | cons x l ih =>
    have := ih fun y hy => h y (by simp [hy])
    have := h x (by simp)
    simp only [List.sum_cons, List.length_cons]
    omega

structure I1 (h0 : List AObj) (hv : Value) (loss : Int) (hs : List Int) (i : Nat) (f : RG) (h : List AObj) : Prop where
  hp : h = h0
  ds : f.ds = []
  r0 : f.r 0 = vint loss
  r1 : f.r 1 = hv
  r21 : f.r 21 = hv
  r22 : f.r 22 = vint hs.length
  r23 : f.r 23 = vint i
  r6 : f.r 6 = vint (hs.take i).sum
  le : i ≤ hs.length
  ok : inR (hs.take i)

structure I2 (h0 : List AObj) (hv : Value) (loss : Int) (hs : List Int) (j : Nat) (f : RG) (h : List AObj) : Prop where
  hp : h = h0 ++ [.cells ((outAt hs j).map vint) true 0]
  ds : f.ds = []
  r1 : f.r 1 = hv
  r9 : f.r 9 = .slice (some ⟨h0.length, 0, none⟩) hs.length hs.length
  r41 : f.r 41 = vint loss
  r42 : f.r 42 = vint j
  le : j ≤ loss

structure I3 (h0 : List AObj) (hv : Value) (loss : Int) (hs : List Int) (j : Nat) (i : Nat) (f : RG) (h : List AObj) : Prop extends I2 h0 hv loss hs j f h where
  r10 : f.r 10 = vint (whoAt hs (outAt hs j) i)
  r44 : f.r 44 = hv
  r45 : f.r 45 = vint hs.length
  r46 : f.r 46 = vint i
  li : i ≤ hs.length

theorem out_len (hs : List Int) : ∀ j, (outAt hs j).length = hs.length
  | 0 => by simp [outAt]
  | j + 1 => by simp [outAt, out_len hs j]
theorem who_lt (hs out : List Int) (h : 0 < hs.length) : ∀ i, i ≤ hs.length → whoAt hs out i < hs.length
  | 0, _ => h
  | i + 1, hi => by
    unfold whoAt
    split
    · omega
    · exact who_lt hs out h i (by omega)
theorem getD_mem {l : List Int} {k : Nat} (h : k < l.length) : l.getD k 0 ∈ l := by
  simp only [List.getD_eq_getElem?_getD, List.getElem?_eq_getElem h, Option.getD_some]
  exact List.getElem_mem h
theorem out_bd (hs : List Int) : ∀ j, ∀ x ∈ outAt hs j, 0 ≤ x ∧ x ≤ j
  | 0 => by
    intro x hx
    simp only [outAt, List.mem_replicate] at hx
    omega
  | j + 1 => by
    intro x hx
    simp only [outAt] at hx
    rcases List.mem_or_eq_of_mem_set hx with h | rfl
    · have := out_bd hs j x h
      omega
    · rcases Nat.lt_or_ge (whoAt hs (outAt hs j) hs.length) (outAt hs j).length with h | h
      · have := out_bd hs j _ (getD_mem h)
        omega
      · simp only [List.getD_eq_getElem?_getD, List.getElem?_eq_none h, Option.getD_none]
        omega

theorem good25 (hJ : Closed prog main J) {hv : Value} {loss : Int} {hs : List Int} (hsl : Sli h hv 1 hs.length (hs.map vint))
    (k1 : hs.length = 0 → K (.tuple ⟨[.slice none 0 0, vint 7]⟩) h) (k2 : hs.length > 5 → K (.tuple ⟨[.slice none 0 0, vint 6]⟩) h)
    (k3 : 0 < hs.length → hs.length ≤ 5 → ¬ (inR hs ∧ 0 ≤ loss ∧ loss ≤ hs.sum) → K (.tuple ⟨[.slice none 0 0, vint 1]⟩) h)
    (k4 : 0 < hs.length → hs.length ≤ 5 → inR hs → 0 ≤ loss → loss ≤ hs.sum → K (.tuple ⟨[.slice (some ⟨h.length, 0, none⟩) hs.length hs.length, vint 0]⟩) (h ++ [.cells ((outAt hs loss.toNat).map vint) true 0])) :
    Good prog J 25 [vint loss, hv] h K := by
  refine g25 hJ fun ok => ?_
  rw [e25]
  simp only [sli_len hsl, b_eql, b_gtr, cnd_dec]
  refine ⟨fun h1 => retL_same (by simp [unk]) (k1 (by omega)), fun h1 => ⟨fun h2 => retL_same (by simp [unk]) (k2 (by omega)), fun h2 => ?_⟩⟩
  refine l25_1 hJ (fun i => hs.length - i) (I1 h hv loss hs) ?_ (s := 0) (.inl ⟨rfl, rfl, rfl, rfl, rfl, rfl, rfl, rfl, by omega, by simp [inR]⟩)
  rintro i f h ⟨rfl, hds, hr0, hr1, hr21, hr22, hr23, hr6, hle, hok⟩ _ hn
  rw [s25_1]
  simp only [hr23, hr22, hr21, hr6, hr0, hr1, hds, b_lss, cnd_dec]
  refine ⟨fun hi => ?_, fun hi => ?_⟩
  · have hil : i < hs.length := by omega
    refine idx_load hsl ⟨by omega, by omega⟩ (x := vint hs[i]) (by simp [hil]) fun p => ?_
    refine good67 hJ ?_
    simp only [u_not, cnd_ndec]
    have htk : hs.take (i + 1) = hs.take i ++ [hs[i]] := by rw [List.take_add_one]; simp [hil]
    refine ⟨fun hb => retL_same (by simp [unk]) (k3 (by omega) (by omega) fun x => hb (x.1 _ (List.getElem_mem hil))), fun hb => ?_⟩
    have hsum := sum_le hok
    have hlen : (hs.take i).length = i := by simp; omega
    rw [b_add (by omega), b_add (by omega)]
    refine ⟨i + 1, by dsimp only; omega, .inl ⟨rfl, hds, hr0, hr1, hr21, hr22, rfl, ?_, by omega, ?_⟩⟩
    · show vint ((hs.take i).sum + hs[i]) = _
      congr 1
      rw [htk, List.sum_append]
      simp only [List.sum_cons, List.sum_nil]
      omega
    · rw [htk]
      intro x hx
      rcases List.mem_append.1 hx with hx | hx
      · exact hok x hx
      · simp at hx
        rw [hx]
        exact hb
  · have hil : i = hs.length := by omega
    subst hil
    rw [List.take_length] at hok
    simp only [List.take_length]
    have hsum := sum_le hok
    refine good67 hJ ?_
    simp only [u_not, cnd_ndec, sli_len hsl]
    refine ⟨fun hb => retL_same (by simp [unk]) (k3 (by omega) (by omega) fun x => hb x.2), fun hb => ⟨by decide, ?_⟩⟩
    refine mkS_one (by simp only [room]; omega) ?_
    refine l25_2 hJ (fun j => loss.toNat - j) (I2 h hv loss hs) ?_ (s := 0) (.inl ⟨by simp [outAt], hds, hr1, rfl, rfl, rfl, by omega⟩)
    rintro j f _ ⟨rfl, hds, hr1, hr9, hr41, hr42, hle⟩ ok hn
    rw [s25_2]
    have hsl' := sli_app (g := [.cells ((outAt hs j).map vint) true 0]) hsl
    simp only [hr42, hr41, hr1, hr9, hds, b_lss, cnd_dec, sli_len hsl']
    refine ⟨fun hj => ?_, fun hj => ?_⟩
    · refine l25_3 hJ (fun i => hs.length - i) (I3 h hv loss hs j) ?_ (s := 0) (.inl ⟨⟨rfl, hds, hr1, hr9, hr41, hr42, hle⟩, rfl, rfl, rfl, rfl, by omega⟩)
      rintro i f _ ⟨⟨rfl, hds, hr1, hr9, hr41, hr42, hle⟩, hr10, hr44, hr45, hr46, hli⟩ ok hn
      rw [s25_3]
      have hnew : Sli (h ++ [.cells ((outAt hs j).map vint) true 0]) (.slice (some ⟨h.length, 0, none⟩) hs.length hs.length) 1 hs.length ((outAt hs j).map vint) :=
        sli_new (wr := true) (sz := 0) (by simp) (by simp [out_len]) (kn_ints _)
      have hw := who_lt hs (outAt hs j) (by omega) i hli
      simp only [hr42, hr41, hr1, hr9, hds, hr10, hr44, hr45, hr46, b_lss, cnd_dec]
      have hol := out_len hs j
      have ow := out_bd hs j _ (getD_mem (l := outAt hs j) (k := whoAt hs (outAt hs j) i) (by omega))
      have hw' := hok _ (getD_mem hw)
      refine ⟨fun hi => ?_, fun hi => ?_⟩
      · have oi := out_bd hs j _ (getD_mem (l := outAt hs j) (k := i) (by omega))
        have hi' := hok _ (getD_mem (l := hs) (k := i) (by omega))
        have m1 := mul_bd hi'.1 hi'.2 (b := (outAt hs j).getD (whoAt hs (outAt hs j) i) 0 + 1) (B := 1501) (by omega) (by omega)
        have m2 := mul_bd hw'.1 hw'.2 (b := (outAt hs j).getD i 0 + 1) (B := 1501) (by omega) (by omega)
        refine idx_load hsl' ⟨by omega, by omega⟩ (map_get (by simpa using hi)) fun p1 => ?_
        refine idx_load hnew ⟨by omega, by omega⟩ (map_get (by simp; omega)) fun p2 => ?_
        rw [Int.toNat_natCast, Int.toNat_natCast, b_add (by omega), b_mul (by omega)]
        refine idx_load hsl' ⟨by omega, by omega⟩ (map_get (by simp; omega)) fun p3 => ?_
        refine idx_load hnew ⟨by omega, by omega⟩ (map_get (by simp; omega)) fun p4 => ?_
        rw [Int.toNat_natCast, Int.toNat_natCast, b_add (by omega), b_mul (by omega), b_gtr, cnd_dec]
        rw [b_add (by omega), b_add (by omega)]
        refine ⟨fun hg => ⟨i + 1, by dsimp only; omega, .inl ⟨⟨rfl, hds, hr1, hr9, hr41, hr42, hle⟩, ?_, hr44, hr45, rfl, by omega⟩⟩, fun hg => ⟨i + 1, by dsimp only; omega, .inl ⟨⟨rfl, hds, hr1, hr9, hr41, hr42, hle⟩, ?_, hr44, hr45, rfl, by omega⟩⟩⟩
        · show vint (i : Nat) = _
          rw [whoAt, if_pos hg]
        · show f.r 10 = _
          rw [hr10, whoAt, if_neg hg]
      · have hil : i = hs.length := by omega
        subst hil
        refine idx_load hnew ⟨by omega, by omega⟩ (map_get (by simp; omega)) fun p1 => ?_
        rw [Int.toNat_natCast, b_add (by omega), idx_ok]
        refine ⟨⟨by omega, by omega⟩, ?_⟩
        refine store_cell (sz := 0) (c := (outAt hs j).map vint) (by simp) (by simp; omega) rfl rfl ?_
        rw [b_add (by omega)]
        refine ⟨j + 1, by dsimp only; omega, .inl ⟨?_, hds, hr1, hr9, hr41, rfl, by omega⟩⟩
        rw [outAt]
        simp
    · have : loss.toNat = j := by omega
      refine retL_same (by simp [unk]) ?_
      have := k4 (by omega) (by omega) hok hb.1 hb.2
      simpa [pack, *] using this
end
end Go.Proofs.Ytdgpacdknpahnaa
