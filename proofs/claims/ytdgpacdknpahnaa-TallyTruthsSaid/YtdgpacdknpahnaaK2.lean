/- Parts of the proof, 2. No conditions. -/
import Derived.Test.YtdgpacdknpahnaaK1
import Derived.Laws.Sem
import Derived.Orders
import Derived.Test.YtdgpacdknpahnaaProg

/- Blocks that nobody needs any more are forgotten, others get new numbers. No conditions. -/
namespace Go.Proofs.Ytdgpacdknpahnaa
open Go.Conc

def subFn (σ : Nat → Nat) : Fn → Fn
  | .yield l => .yield (σ l)
  | f => f

mutual
/-- Block numbers replaced. -/
def sub (σ : Nat → Nat) : Value → Value
  | .pointer (some a) => .pointer (some ⟨σ a.block, a.off, a.spot⟩)
  | .slice (some a) n c => .slice (some ⟨σ a.block, a.off, a.spot⟩) n c
  | .map (some r) => .map (some (σ r))
  | .chan (some r) => .chan (some (σ r))
  | .func fn first cap => .func (subFn σ fn) (subA σ first) (subA σ cap)
  | .iface t v => .iface t (sub σ v)
  | .agg cs => .agg (subA σ cs)
  | .tuple vs => .tuple (subA σ vs)
  | .bool b => .bool b
  | .int k n => .int k n
  | .float k n => .float k n
  | .complex k a b => .complex k a b
  | .string s => .string s
  | .pointer none => .pointer none
  | .slice none n c => .slice none n c
  | .map none => .map none
  | .chan none => .chan none
  | .nilFunc => .nilFunc
  | .nilIface => .nilIface
def subA (σ : Nat → Nat) : Array Value → Array Value
  | ⟨l⟩ => ⟨subL σ l⟩
def subL (σ : Nat → Nat) : List Value → List Value
  | [] => []
  | v :: l => sub σ v :: subL σ l
end

def Env.comp (ρ : Env) (σ : Nat → Nat) : Env := ⟨fun b => ρ.blk (σ b), fun b => ρ.cap (σ b)⟩

section
variable {ρ : Env} {σ : Nat → Nat} {n m : Nat}

theorem subL_eq (l : List Value) : subL σ l = l.map (sub σ) := by
  induction l with
  | nil => simp [subL]
  | cons v l ih => simp [subL, ih]

mutual
theorem ren_sub : ∀ v : Value, ren ρ (sub σ v) = ren (ρ.comp σ) v
  | .pointer (some a) => by simp [sub, ren, renAddr, Env.comp]
  | .slice (some a) _ _ => by simp [sub, ren, renAddr, renCap, Env.comp]
  | .map (some r) => by simp [sub, ren, Env.comp]
  | .chan (some r) => by simp [sub, ren, Env.comp]
  | .func fn first cap => by
    have hf : renFn ρ (subFn σ fn) = renFn (ρ.comp σ) fn := by cases fn <;> simp [renFn, subFn, Env.comp]
    simp only [sub, ren, hf, renA_sub first, renA_sub cap]
  | .iface _ v => by simp only [sub, ren, ren_sub v]
  | .agg cs => by simp only [sub, ren, renA_sub cs]
  | .tuple vs => by simp only [sub, ren, renA_sub vs]
  | .bool _ | .int _ _ | .float _ _ | .complex _ _ _ | .string _ | .pointer none | .slice none _ _ | .map none | .chan none | .nilFunc | .nilIface => by simp only [sub, ren]
theorem renA_sub : ∀ a : Array Value, renA ρ (subA σ a) = renA (ρ.comp σ) a
  | ⟨l⟩ => by simp only [subA, renA, renL_sub l]
theorem renL_sub : ∀ l : List Value, renL ρ (subL σ l) = renL (ρ.comp σ) l
  | [] => by simp only [subL, renL]
  | v :: l => by simp only [subL, renL, ren_sub v, renL_sub l]
end

/-- Where the replacement turns nothing below n. -/
def Same (n : Nat) (σ : Nat → Nat) : Prop := ∀ b, b < n → σ b = b

mutual
theorem sub_same (h : Same n σ) : ∀ v : Value, VOk n v → sub σ v = v
  | .pointer (some a), hv => by simp only [VOk, AddrOk] at hv; simp [sub, h _ hv.1]
  | .slice (some a) _ _, hv => by simp only [VOk, AddrOk] at hv; simp [sub, h _ hv.1]
  | .map (some r), hv => by simp only [VOk] at hv; simp [sub, h _ hv]
  | .chan (some r), hv => by simp only [VOk] at hv; simp [sub, h _ hv]
  | .func fn first cap, hv => by
    simp only [VOk] at hv
    have hf : subFn σ fn = fn := by
      cases fn <;> simp only [subFn]
      have := hv.1
      simp only [FnOk] at this
      rw [h _ this]
    simp only [sub, hf, subA_same h first hv.2.1, subA_same h cap hv.2.2]
  | .iface _ v, hv => by simp only [VOk] at hv; simp only [sub, sub_same h v hv]
  | .agg cs, hv => by simp only [VOk] at hv; simp only [sub, subA_same h cs hv]
  | .tuple vs, hv => by simp only [VOk] at hv; simp only [sub, subA_same h vs hv]
  | .bool _, _ | .int _ _, _ | .float _ _, _ | .complex _ _ _, _ | .string _, _ | .pointer none, _ | .slice none _ _, _ | .map none, _ | .chan none, _ | .nilFunc, _ | .nilIface, _ => by simp only [sub]
theorem subA_same (h : Same n σ) : ∀ a : Array Value, AOk n a → subA σ a = a
  | ⟨l⟩, hv => by simp only [AOk] at hv; simp only [subA, subL_same h l hv]
theorem subL_same (h : Same n σ) : ∀ l : List Value, LOk n l → subL σ l = l
  | [], _ => by simp only [subL]
  | v :: l, hv => by simp only [LOk] at hv; simp only [subL, sub_same h v hv.1, subL_same h l hv.2]
end

theorem one_sub (v : Value) : one (sub σ v) = one v := by
  cases v with
  | pointer a => cases a <;> rfl
  | slice a _ _ => cases a <;> rfl
  | map a => cases a <;> rfl
  | chan a => cases a <;> rfl
  | _ => rfl

theorem sub_undef : sub σ unk = unk := by simp [unk, sub, subA, subL]
end

def ROk (n : Nat) (r : Nat → Value) : Prop := ∀ t, r t = unk ∨ VOk n (r t)

def objOk (n : Nat) : AObj → Prop
  | .dead => True
  | .cells c _ _ => LOk n c
  | .map es _ => ∀ e ∈ es, VOk 0 e.1 ∧ VOk n e.2
  | .loop _ _ _ r _ _ _ _ dfr => ROk n r ∧ dfr < n
  | .deferred => True

def heapOk (h : List AObj) : Prop := ∀ (i : Nat) (o : AObj), h[i]? = some o → objOk h.length o

def subO (σ : Nat → Nat) : AObj → AObj
  | .dead => .dead
  | .cells c wr sz => .cells (c.map (sub σ)) wr sz
  | .map es wr => .map (es.map fun e => (e.1, sub σ e.2)) wr
  | .loop st pend fn r size params assign body dfr => .loop st pend fn (fun t => sub σ (r t)) size params assign body (σ dfr)
  | .deferred => .deferred

theorem subO_live {σ : Nat → Nat} (o : AObj) : (subO σ o).live = o.live := by cases o <;> rfl
theorem subO_wrt {σ : Nat → Nat} (o : AObj) : (subO σ o).wrt = o.wrt := by cases o <;> rfl

theorem subO_same {n : Nat} {σ : Nat → Nat} (h : Same n σ) {o : AObj} (ho : objOk n o) : subO σ o = o := by
  cases o with
  | dead => rfl
  | deferred => rfl
  | cells c wr sz =>
    simp only [objOk, LOk_iff] at ho
    simp only [subO]
    congr 1
    exact (List.map_congr_left fun v hv => sub_same h v (ho v hv)).trans (List.map_id _)
  | map es wr =>
    simp only [objOk] at ho
    simp only [subO]
    congr 1
    refine (List.map_congr_left fun e he => ?_).trans (List.map_id _)
    rw [sub_same h _ (ho e he).2]
    rfl
  | loop st pend fn r size params assign body dfr =>
    simp only [objOk] at ho
    simp only [subO]
    congr 1
    · funext t
      rcases ho.1 t with e | e
      · rw [e, sub_undef]
      · exact sub_same h _ e
    · exact h _ ho.2

/-- The heap h₂ with other numbers, and without some blocks. -/
structure GC (n0 : Nat) (σ : Nat → Nat) (h₂ h' : List AObj) : Prop where
  le : n0 ≤ h'.length
  same : Same n0 σ
  obj : ∀ (i : Nat) (o : AObj), h'[i]? = some o → o = .dead ∨ h₂[σ i]? = some (subO σ o)
  inj : ∀ (i j : Nat) (o o' : AObj), h'[i]? = some o → h'[j]? = some o' → o.live = true → o'.live = true → σ i = σ j → i = j
  ok : heapOk h'

section
variable {ρ : Env} {σ : Nat → Nat} {n0 n n' : Nat} {h h₂ h' : List AObj} {FC : Frm} {w : World} {ft : Foot} {f f' : RG} {a : Act} {N : Nat}

theorem sub_inv0 {v : Value} (u : sub σ v = .tuple ⟨[]⟩) : v = .tuple ⟨[]⟩ := by
  cases v with
  | tuple vs =>
    obtain ⟨l⟩ := vs
    simp only [sub, subA, subL_eq, Value.tuple.injEq] at u ⊢
    have := congrArg Array.toList u
    simp only [List.map_eq_nil_iff] at this
    rw [this]
  | pointer a => cases a <;> simp [sub] at u
  | slice a _ _ => cases a <;> simp [sub] at u
  | map a => cases a <;> simp [sub] at u
  | chan a => cases a <;> simp [sub] at u
  | _ => simp [sub] at u
theorem sub_inv {v : Value} (u : sub σ v = unk) : v = unk := by
  cases v with
  | tuple vs =>
    obtain ⟨l⟩ := vs
    simp only [sub, subA, subL_eq, unk, Value.tuple.injEq] at u ⊢
    have := congrArg Array.toList u
    simp only at this
    obtain ⟨x, rfl, hx⟩ := List.map_eq_singleton_iff.1 this
    rw [sub_inv0 hx]
  | pointer a => cases a <;> simp [sub, unk] at u
  | slice a _ _ => cases a <;> simp [sub, unk] at u
  | map a => cases a <;> simp [sub, unk] at u
  | chan a => cases a <;> simp [sub, unk] at u
  | _ => simp [sub, unk] at u

theorem RegRel.sub {r r' : Nat → Value} {tmps : Array Value} (hr : RegRel n ρ r tmps) (h : ∀ t, r' t = unk ∨ (r t = sub σ (r' t) ∧ VOk n' (r' t))) : RegRel n' (ρ.comp σ) r' tmps := by
  intro t
  rcases h t with e | ⟨e, ok⟩
  · exact .inl e
  · rcases hr t with u | ⟨_, u⟩
    · rw [e] at u
      have hu : r' t = unk := sub_inv u
      exact .inl hu
    · exact .inr ⟨ok, by rw [u, e, ren_sub]⟩

theorem ORel.sub {b : Nat} {o : AObj} {x : Option Obj} (ho : ORel n ρ (σ b) (subO σ o) x) (hok : objOk n' o) : ORel n' (ρ.comp σ) b o x := by
  cases o with
  | dead => trivial
  | cells c wr sz =>
    match x, ho with
    | some (.cells c' ty fr), ho =>
      obtain ⟨h1, h2, h3, h4⟩ := ho
      simp only [objOk, LOk_iff] at hok
      refine ⟨fun i v hv => ?_, fun hz => by simpa using h2 hz, fun hz => by simpa [Env.comp] using h3 hz, h4⟩
      rcases h1 i (Go.Proofs.Ytdgpacdknpahnaa.sub σ v) (by rw [List.getElem?_map, hv]; rfl) with u | ⟨a1, a2, a3⟩
      · exact .inl ⟨sub_inv u.1, u.2⟩
      · exact .inr ⟨hok v (List.mem_of_getElem? hv), by rw [one_sub] at a2; exact a2, by rw [a3, ren_sub]⟩
  | map es wr =>
    match x, ho with
    | some (.map es' _), ho =>
      simp only [objOk] at hok
      refine ⟨by simpa using ho.1, fun i k v hv => ?_⟩
      obtain ⟨a1, a2, e, a3, a4, a5⟩ := ho.2 i k (Go.Proofs.Ytdgpacdknpahnaa.sub σ v) (by rw [List.getElem?_map, hv]; rfl)
      exact ⟨a1, (hok _ (List.mem_of_getElem? hv)).2, e, a3, a4, by rw [a5, ren_sub]⟩
  | loop st pend fn r size params assign body dfr =>
    match x, ho with
    | some (.loop l), ho =>
      obtain ⟨a1, a2, a3, a4, a5, a6, a7, a8, a9, a10⟩ := ho
      refine ⟨a1, a2, a3, a4.sub fun t => ?_, a5, a6, a7, a8, a9, hok.2⟩
      rcases hok.1 t with e | e
      · exact .inl e
      · exact .inr ⟨rfl, e⟩
  | deferred =>
    match x, ho with
    | some (.deferred (some [])), _ => trivial

theorem GC.rel (g : GC n0 σ h₂ h') (H : HRel ρ h₂ FC w ft) : HRel (ρ.comp σ) h' FC w ft where
  obj := fun b o hb => by
    rcases g.obj b o hb with rfl | e
    · trivial
    · exact (H.obj _ _ e).sub (g.ok b o hb)
  inj := fun b b' o o' hb hb' l l' e => by
    have e1 := (g.obj b o hb).resolve_left (fun x => by rw [x] at l; cases l)
    have e2 := (g.obj b' o' hb').resolve_left (fun x => by rw [x] at l'; cases l')
    exact g.inj b b' o o' hb hb' l l' (H.inj _ _ _ _ e1 e2 (by rw [subO_live]; exact l) (by rw [subO_live]; exact l') e)
  rd := fun b o hb l => by
    have e1 := (g.obj b o hb).resolve_left (fun x => by rw [x] at l; cases l)
    exact H.rd _ _ e1 (by rw [subO_live]; exact l)
  wr := fun b o hb l => by
    have e1 := (g.obj b o hb).resolve_left (fun x => by rw [x] at l; cases l)
    exact H.wr _ _ e1 (by rw [subO_wrt]; exact l)
  lt := H.lt
  sub := H.sub
  kept := fun b o hb => by
    obtain ⟨a1, a2, a3⟩ := H.kept b o hb
    refine ⟨a1, a2, fun i oi hi l => ?_⟩
    have e1 := (g.obj i oi hi).resolve_left (fun x => by rw [x] at l; cases l)
    exact a3 _ _ e1 (by rw [subO_wrt]; exact l)
  keptW := H.keptW

theorem GC.upto (g : GC n0 σ h₂ h') : Env.upto n0 ρ (ρ.comp σ) := fun b hb => by simp [Env.comp, g.same b hb]

theorem HRel.ok (H : HRel ρ h FC w ft) : heapOk h := by
  intro i o hi
  have := H.obj i o hi
  cases o with
  | dead => trivial
  | deferred => trivial
  | cells c wr sz =>
    match hx : w.heap[ρ.blk i]?, this with
    | some (.cells c' ty fr), ho =>
      simp only [objOk, LOk_iff]
      intro v hv
      obtain ⟨j, hj⟩ := List.getElem?_of_mem hv
      exact H.cellOk hi hj
  | map es wr =>
    match hx : w.heap[ρ.blk i]?, this with
    | some (.map es' _), ho =>
      intro e he
      obtain ⟨j, hj⟩ := List.getElem?_of_mem he
      obtain ⟨a1, a2, _⟩ := ho.2 j e.1 e.2 hj
      exact ⟨a1, a2⟩
  | loop st pend fn r size params assign body dfr =>
    match hx : w.heap[ρ.blk i]?, this with
    | some (.loop l), ho =>
      obtain ⟨a1, a2, a3, a4, a5, a6, a7, a8, a9, a10⟩ := ho
      refine ⟨fun t => ?_, a10⟩
      rcases a4 t with e | ⟨e, _⟩
      · exact .inl e
      · exact .inr e

/-- .. and the registers with them. -/
structure GCR (n0 : Nat) (σ : Nat → Nat) (f₂ : RG) (h₂ : List AObj) (f' : RG) (h' : List AObj) : Prop where
  gc : GC n0 σ h₂ h'
  regs : ∀ t, f'.r t = unk ∨ (f₂.r t = sub σ (f'.r t) ∧ VOk h'.length (f'.r t))
  ds : f₂.ds = f'.ds.map σ
  dok : ∀ b ∈ f'.ds, b < h'.length

theorem GCR.act {f₂ : RG} (g : GCR n0 σ f₂ h₂ f' h') (A : ActRel h₂.length ρ N f₂ a) : ActRel h'.length (ρ.comp σ) N f' a :=
  ⟨A.regs.sub g.regs, A.size, by rw [A.defers, g.ds, List.map_map]; rfl, g.dok⟩

variable {P : Program} {main : Bool} {J : JT} {fn : FuncId} {Q : QT}

theorem Sem.gc {c : Code} {f₂ : RG} (g : GCR n0 σ f₂ h₂ f' h') (hs : Sem J N n0 fn c f' h' Q) : Sem J N n0 fn c f₂ h₂ Q := by
  intro b a k cs L ρ FC w ft h1 h2 h3 h4 h5 h6 hc
  exact hs b a k cs L _ FC w ft h1 h2 h3 (g.act h4) (g.gc.rel h5) g.gc.le fun e f3 h3' ρ3 w3 ft3 a3 q r1 r2 r3 r4 => hc e f3 h3' ρ3 w3 ft3 a3 q r1 r2 (Env.upto_trans g.gc.upto r3) r4

theorem Sem.ok {c : Code} (hs : heapOk h → n0 ≤ h.length → Sem J N n0 fn c f h Q) : Sem J N n0 fn c f h Q := by
  intro b a k cs L ρ FC w ft h1 h2 h3 h4 h5 h6 hc
  exact hs h5.ok h6 b a k cs L ρ FC w ft h1 h2 h3 h4 h5 h6 hc

/-- A loop: whoever stands at its head with measure m comes out of the body with a lesser one, or leaves. -/
theorem Sem_loop (hJ : Closed P main J) {c : Code} (I : Nat → RG → List AObj → Prop)
    (hI : ∀ m f h, I m f h → Sem J N n0 fn c f h (thenK (fun f h => ∃ m', m' < m ∧ I m' f h) Q))
    {m : Nat} (h0 : I m f h) : Sem J N n0 fn (.loop c) f h Q := by
  have main : ∀ (m : Nat) (f : RG) (h : List AObj), I m f h → ∀ (b : FB) (a : Act) (k : List Item) (cs : List Frame) (L : Option Code → Act → World → Foot → Prop) (ρ : Env) (FC : Frm) (w : World) (ft : Foot), b.tag = fn → b.kind ≠ .early → LeaveOk J b cs L →
      ActRel h.length ρ N f a → HRel ρ h FC w ft → n0 ≤ h.length → Cont J N n0 b k cs L ρ FC Q → J (G (b.at a (.code c :: .inLoop c :: k)) cs) w ft := by
    intro m
    induction m using Nat.strongRecOn with
    | ind m ih =>
      intro f h hi b a k cs L ρ FC w ft h1 h2 h3 h4 h5 h6 hc
      refine hI m f h hi b a (.inLoop c :: k) cs L ρ FC w ft h1 h2 h3 h4 h5 h6 fun e f' h' ρ' w' ft' a' q g1 g2 g3 g4 => ?_
      cases e with
      | normal =>
        obtain ⟨m', hm, hi'⟩ := q
        refine hJ.ctrl rfl rfl (g' := G (b.at a' (.code c :: .inLoop c :: k)) cs) (fun w => by simp [G, stepG, stepG.exec, FB.at]) ?_
        exact ih m' hm f' h' hi' b a' k cs L _ FC w' ft' h1 h2 h3 g1 g2 g4 fun e f3 h3' ρ3 w3 ft3 a3 q r1 r2 r3 r4 => hc e f3 h3' ρ3 w3 ft3 a3 q r1 r2 (Env.upto_trans g3 r3) r4
      | exit id => exact AfterJ.push (fun _ => rfl) (by simp) (hc _ _ _ _ _ _ _ q g1 g2 g3 g4)
      | ret => exact AfterJ.push (fun _ => rfl) (by simp) (hc _ _ _ _ _ _ _ q g1 g2 g3 g4)
      | goto l => exact hc _ _ _ _ _ _ _ q g1 g2 g3 g4
      | panic l => exact hc _ _ _ _ _ _ _ q g1 g2 g3 g4
      | outgrown => exact hc _ _ _ _ _ _ _ q g1 g2 g3 g4
  intro b a k cs L ρ FC w ft h1 h2 h3 h4 h5 h6 hc
  refine hJ.ctrl rfl rfl (g' := G (b.at a (.code c :: .inLoop c :: k)) cs) (fun w => by simp [G, stepG, stepG.exec, FB.at]) ?_
  exact main m f h h0 b a k cs L ρ FC w ft h1 h2 h3 h4 h5 h6 hc
end
end Go.Proofs.Ytdgpacdknpahnaa

/- A function's beginning and its end; what a piece of code asks, reckoned from its text. No conditions. -/
namespace Go.Proofs.Ytdgpacdknpahnaa
open Go.Conc

/-- The results of a function, in its last state. -/
def resW (P : Program) : List ResultVar → (Nat → Value) → List AObj → (List Value → Prop) → Prop
  | [], _, _, K => K []
  | .tmp t :: rs, r, h, K => r t ≠ unk ∧ resW P rs r h fun vs => K (r t :: vs)
  | .cell a t :: rs, r, h, K => match tk P t with
    | some (g, s) => aLoad g s (r a) h fun v => resW P rs r h fun vs => K (v :: vs)
    | none => False

def pack (vs : List Value) : Value :=
  match vs with
  | [v] => v
  | vs => .tuple ⟨vs⟩

/-- The blocks of deferred calls are taken. -/
def takeW : List Nat → List AObj → (List AObj → Prop) → Prop
  | [], h, K => K h
  | d :: ds, h, K => h[d]? = some .deferred ∧ takeW ds (h.set d .dead) K

/-- What is asked where a function is left. -/
def RetQ (P : Program) (rs : List ResultVar) (n0 : Nat) (K : Value → List AObj → Prop) : QT := fun e f h =>
  match e with
  | .normal | .ret => takeW f.ds h fun h => resW P rs f.r h fun vs => K (pack vs) h ∨ ∃ σ h' v, GC n0 σ h h' ∧ pack vs = sub σ v ∧ VOk h'.length v ∧ K v h'
  | _ => False

section
variable {P : Program} {main : Bool} {J : JT} {N : Nat} {ρ : Env} {h : List AObj} {FC : Frm} {w : World} {ft : Foot} {f : RG} {a : Act} {cs : List Frame} {b : FB}

theorem HRel.clobber (H : HRel ρ h FC w ft) {d : Nat} {o₀ : AObj} (hd : h[d]? = some o₀) (hw : o₀.wrt = true) (x : Obj) : HRel ρ (h.set d .dead) FC { w with heap := w.heap.setIfInBounds (ρ.blk d) x } ft := by
  have hl0 : o₀.live = true := by cases o₀ <;> first | rfl | cases hw
  have hoth : ∀ y, y ≠ ρ.blk d → (w.heap.setIfInBounds (ρ.blk d) x)[y]? = w.heap[y]? := fun y hy => by
    rw [Array.getElem?_setIfInBounds, if_neg (fun e => hy e.symm)]
  refine ⟨fun i o hi => ?_, fun i j o o' hi hj l1 l2 e => ?_, fun i o hi hl => ?_, fun i o hi hl => ?_, fun y hy => ?_, H.sub, fun y o hy => ?_, H.keptW⟩
  · rw [List.length_set]
    rcases set_get hi with ⟨rfl, rfl, _⟩ | ⟨hne, hi⟩
    · trivial
    · cases hl : o.live with
      | false => cases o <;> first | trivial | cases hl
      | true =>
        show ORel h.length ρ i o (w.heap.setIfInBounds (ρ.blk d) x)[ρ.blk i]?
        rw [hoth _ (fun e => hne (H.inj _ _ _ _ hi hd hl hl0 e))]
        exact H.obj _ _ hi
  · rcases set_get hi with ⟨rfl, rfl, _⟩ | ⟨hne, hi⟩
    · cases l1
    · rcases set_get hj with ⟨rfl, rfl, _⟩ | ⟨hne', hj⟩
      · cases l2
      · exact H.inj _ _ _ _ hi hj l1 l2 e
  · rcases set_get hi with ⟨rfl, rfl, _⟩ | ⟨hne, hi⟩
    · cases hl
    · exact H.rd _ _ hi hl
  · rcases set_get hi with ⟨rfl, rfl, _⟩ | ⟨hne, hi⟩
    · cases hl
    · exact H.wr _ _ hi hl
  · simpa using H.lt y hy
  · obtain ⟨a1, a2, a3⟩ := H.kept y o hy
    refine ⟨?_, a2, fun i oi hi hl => ?_⟩
    · show (w.heap.setIfInBounds (ρ.blk d) x)[y]? = some o
      rw [hoth _ (fun e => a3 _ _ hd hw e.symm)]
      exact a1
    · rcases set_get hi with ⟨rfl, rfl, _⟩ | ⟨hne, hi⟩
      · cases hl
      · exact a3 _ _ hi hl

theorem evOk_objW {r : Nat} {x : Obj} (hr : ft.rd r) (hw : ft.wr r) (hx : x.isChan = false) : EvOk ft ⟨.obj r, true, x.isChan⟩ := ⟨hx, hr, fun _ => hw⟩
theorem evOk_objR {r : Nat} {x : Obj} (hr : ft.rd r) (hx : x.isChan = false) : EvOk ft ⟨.obj r, false, x.isChan⟩ := ⟨hx, hr, fun e => by cases e⟩

theorem take_run (H : HRel ρ h FC w ft) {d : Nat} (hd : h[d]? = some .deferred) {Q : List Deferred → World → Prop} (hQ : ∀ w', HRel ρ (h.set d .dead) FC w' ft → Stays ft w w' → w'.heap.size = w.heap.size → Q [] w') : RunsTo P (EvOk ft) (Instr.takeDeferred (ρ.blk d)) w Q := by
  have ho := H.obj d _ hd
  have hrd := H.rd d _ hd rfl
  have hwr := H.wr d _ hd rfl
  match hw : w.heap[ρ.blk d]?, ho with
  | some (.deferred (some [])), _ =>
    unfold Instr.takeDeferred
    refine RunsTo.bind (RunsTo.getObj hw (fun _ _ _ e => by cases e) (evOk_objR hrd rfl) ?_)
    simp only
    refine RunsTo.bind (RunsTo.setObj hw (fun _ _ _ e => by cases e) (evOk_objW hrd hwr rfl) (RunsTo.pure ?_))
    refine hQ _ (H.clobber hd rfl _) ⟨fun y hy hny => ?_, by simp, rfl, rfl, rfl⟩ (by simp)
    show (w.heap.setIfInBounds (ρ.blk d) _)[y]? = _
    have hne : ρ.blk d ≠ y := fun e => hny (by rw [← e]; exact hwr)
    rw [Array.getElem?_setIfInBounds, if_neg hne]

def resF (tmps : Array Value) : ResultVar → Go.Sem Value
  | .tmp t => pure (tmps.getD t undef)
  | .cell x t => do loadVar t (← asAddr (tmps.getD x undef))

theorem res_run (H : HRel ρ h FC w ft) {n : Nat} (hr : RegRel h.length ρ f.r a.tmps) {Q : List Value → World → Prop} : ∀ (rs : List ResultVar) {K : List Value → Prop}, resW P rs f.r h K →
    (∀ vs, K vs → (∀ v ∈ vs, VOk h.length v) → Q (vs.map (ren ρ)) w) →
    RunsTo P (EvOk ft) (rs.mapM (resF a.tmps)) w Q
  | [], K, hK, hQ => by
    rw [List.mapM_nil]
    exact RunsTo.pure (hQ [] hK (by simp))
  | .tmp t :: rs, K, hK, hQ => by
    rw [List.mapM_cons]
    have hv := (hr t).resolve_left hK.1
    refine RunsTo.bind (RunsTo.pure (RunsTo.bind (res_run (n := n) H hr rs hK.2 fun vs hvs hok => RunsTo.pure ?_)))
    rw [hv.2]
    exact hQ (f.r t :: vs) hvs (by simpa using ⟨hv.1, hok⟩)
  | .cell x t :: rs, K, hK, hQ => by
    rw [List.mapM_cons]
    simp only [resW] at hK
    split at hK
    · rename_i g s ht
      have hx : f.r x ≠ unk := by
        intro e
        rw [e] at hK
        exact hK
      have hv := (hr x).resolve_left hx
      have hl : resF a.tmps (.cell x t) = Instr.loadAt t (ren ρ (f.r x)) := by
        unfold resF
        simp only
        rw [hv.2]
        unfold aLoad at hK
        split at hK
        · rename_i e
          rw [e]
          rfl
        · exact hK.elim
      rw [hl]
      refine RunsTo.bind (sound_load H ht hK fun v hk hok => ?_)
      refine RunsTo.bind (res_run (n := n) H hr rs hk fun vs hvs hoks => RunsTo.pure ?_)
      exact hQ (v :: vs) hvs (by simpa using ⟨hok, hoks⟩)
    · exact hK.elim

theorem pack_ren (vs : List Value) : (if h : (vs.map (ren ρ)).toArray.size = 1 then (vs.map (ren ρ)).toArray[0] else .tuple (vs.map (ren ρ)).toArray) = ren ρ (pack vs) := by
  match vs with
  | [] => simp [pack, ren, renA, renL]
  | [v] => simp [pack]
  | v :: u :: vs => simp [pack, ren, renA, renL_eq]

theorem pack_ok {n : Nat} {vs : List Value} (h : ∀ v ∈ vs, VOk n v) : VOk n (pack vs) := by
  match vs with
  | [] => simp [pack, VOk, AOk, LOk]
  | [v] => exact h v (by simp)
  | v :: u :: vs =>
    simp only [pack, VOk, AOk]
    exact (LOk_iff _).2 h

/-- A frame that is on its way out. -/
theorem leave_run (hJ : Closed P main J) {fn : Func} (hk : b.kind = .normal) (hf : P.funcs[b.fn]? = some fn) {c : Frame} {n0 : Nat} {K : Value → List AObj → Prop}
    (hc : ∀ v h' ρ' w' ft' cv, K v h' → HRel ρ' h' FC w' ft' → Env.upto n0 ρ ρ' → n0 ≤ h'.length → VRel h'.length ρ' v cv → J (G (c.finish cv) cs) w' ft') :
    ∀ (ds : List Nat) (h : List AObj) (w : World) (ft : Foot) (a : Act) (fr : Frame), fr.fn = b.fn → fr.kind = .normal → fr.mode = .returning → fr.tmps = a.tmps → fr.defers = ds.map (fun d => { target := .collected (ρ.blk d), args := #[] }) → RegRel h.length ρ f.r a.tmps → HRel ρ h FC w ft → n0 ≤ h.length →
      takeW ds h (fun h => resW P fn.results.toList f.r h fun vs => K (pack vs) h ∨ ∃ σ h' v, GC n0 σ h h' ∧ pack vs = sub σ v ∧ VOk h'.length v ∧ K v h') → J (G fr (c :: cs)) w ft
  | [], h, w, ft, a, fr, e1, e2, e3, e4, e5, hr, H, hn, hq => by
    obtain ⟨fn', tmps, todo, defers, mode, kind, ro⟩ := fr
    simp only at e1 e2 e3 e4 e5
    subst e1 e2 e3 e4 e5
    refine hJ.step rfl fun w₁ h₁ => ?_
    have H₁ := H.rely h₁
    have hrun : RunsTo P (EvOk ft) (results fn a.tmps) w₁ fun cv w' => w' = w₁ ∧ ∃ vs, cv = ren ρ (pack vs) ∧ (∀ v ∈ vs, VOk h.length v) ∧ (K (pack vs) h ∨ ∃ σ h' v, GC n0 σ h h' ∧ pack vs = sub σ v ∧ VOk h'.length v ∧ K v h') := by
      unfold results
      have : (fn.results.mapM (resF a.tmps)) = List.toArray <$> fn.results.toList.mapM (resF a.tmps) := by
        rw [Array.mapM_eq_mapM_toList]
      show RunsTo P (EvOk ft) (do
        let vs ← fn.results.mapM (resF a.tmps)
        pure (if h : vs.size = 1 then vs[0] else .tuple vs)) w₁ _
      rw [this]
      refine RunsTo.bind (RunsTo.map (res_run (n := 0) H₁ hr fn.results.toList hq fun vs hvs hok => RunsTo.pure ⟨rfl, vs, ?_, hok, hvs⟩))
      exact pack_ren vs
    obtain ⟨cv, w', es, hr', he, rfl, vs, rfl, hvok, hvs⟩ := hrun #[] (by simp)
    have hes : ∀ e ∈ seen P b.fn es, EvOk ft e := fun e hm => he e (mem_seen hm)
    refine ⟨G (c.finish (ren ρ (pack vs))) cs, w', seen P b.fn es, ?_, rfl, (Stays.refl ft w').guar hes, ?_⟩
    · simp only [G, stepG, unwind, List.map_nil, hf, hr']
      simp [doReturn, GStep.after]
    · rw [Foot.ext_self]
      rcases hvs with hK | ⟨σ, h', v, g, hp, hok, hK⟩
      · exact hc _ h _ w' ft _ hK H₁ (Env.upto_refl _ _) hn (.inr ⟨pack_ok hvok, rfl⟩)
      · rw [hp, ren_sub]
        exact hc v h' _ w' ft _ hK (g.rel H₁) g.upto g.le (.inr ⟨hok, rfl⟩)
  | d :: ds, h, w, ft, a, fr, e1, e2, e3, e4, e5, hr, H, hn, hq => by
    obtain ⟨fn', tmps, todo, defers, mode, kind, ro⟩ := fr
    simp only at e1 e2 e3 e4 e5
    subst e1 e2 e3 e4 e5
    obtain ⟨hd, hq⟩ := hq
    refine hJ.step rfl fun w₁ h₁ => ?_
    have H₁ := H.rely h₁
    obtain ⟨cv, w', es, hr', he, rfl, H', hst, hsz⟩ := take_run (P := P) H₁ hd (Q := fun l w' => l = [] ∧ HRel ρ (h.set d .dead) FC w' ft ∧ Stays ft w₁ w' ∧ w'.heap.size = w₁.heap.size) (fun w' a1 a2 a3 => ⟨rfl, a1, a2, a3⟩) #[] (by simp)
    have hes : ∀ e ∈ seen P b.fn es, EvOk ft e := fun e hm => he e (mem_seen hm)
    refine ⟨G { fn := b.fn, tmps := a.tmps, todo := todo, defers := ds.map (fun d => { target := .collected (ρ.blk d), args := #[] }), mode := .returning, kind := .normal, roundOf := ro } (c :: cs), w', seen P b.fn es, ?_, rfl, hst.guar hes, ?_⟩
    · simp only [G, stepG, unwind, List.map_cons, hr']
      simp [GStep.after]
    · rw [hsz, Foot.ext_self]
      exact leave_run hJ hk hf hc ds _ w' ft a _ rfl rfl rfl rfl rfl (by rw [List.length_set]; exact hr) H' (by rw [List.length_set]; exact hn) hq
end
end Go.Proofs.Ytdgpacdknpahnaa

/- From a body to a function's contract; what a piece of code asks, reckoned from its text. No conditions. -/
namespace Go.Proofs.Ytdgpacdknpahnaa
open Go.Conc

def regs (args : List Value) : Nat → Value := fun t => args.getD t unk

section
variable {P : Program} {main : Bool} {J : JT} {g : FuncId} {args : List Value} {h : List AObj} {K : Value → List AObj → Prop}

theorem Good.mono {K' : Value → List AObj → Prop} (hg : Good P J g args h K) (hk : ∀ v h, K v h → K' v h) : Good P J g args h K' :=
  ⟨hg.1, fun ρ FC w ft cs c cargs fr h1 h2 h3 he h4 => hg.2 ρ FC w ft cs c cargs fr h1 h2 h3 he fun v h' ρ' w' ft' cv k => h4 v h' ρ' w' ft' cv (hk _ _ k)⟩

theorem good_of_sem (hJ : Closed P main J) {fn : Func} (hf : P.funcs[g]? = some fn) {c : Code} (hb : fn.body = some c) (hn : (fn.name == "runtime.NumGoroutine") = false) (ha : args.length ≤ fn.ntmps)
    (hs : heapOk h → Sem J fn.ntmps h.length g c ⟨regs args, []⟩ h (RetQ P fn.results.toList h.length K)) : Good P J g args h K := by
  have hlt : g < P.funcs.size := (Array.getElem?_eq_some_iff.1 hf).1
  refine ⟨.inl ⟨hlt, by simp [callable, hf, hb, hn]⟩, fun ρ FC w ft cs c' cargs fr H hr hl hent hc => ?_⟩
  obtain rfl : fr = Frame.enter P g ⟨cargs⟩ .normal := by
    rcases hent with ⟨_, e⟩ | ⟨hge, _⟩
    · exact e
    · exact absurd hlt (Nat.not_lt.2 hge)
  have he : Frame.enter P g ⟨cargs⟩ .normal = FB.at ⟨g, .normal, none⟩ ⟨⟨cargs⟩ ++ Array.replicate (fn.ntmps - cargs.length) undef, []⟩ [.code c] := by
    simp [Frame.enter, FB.at, hf, hb]
  rw [he]
  have A : ActRel h.length ρ fn.ntmps ⟨regs args, []⟩ ⟨⟨cargs⟩ ++ Array.replicate (fn.ntmps - cargs.length) undef, []⟩ := by
    refine ⟨fun t => ?_, by simp; omega, rfl, by simp⟩
    have := hr t
    have ht : ((⟨cargs⟩ : Array Value) ++ Array.replicate (fn.ntmps - cargs.length) undef).getD t undef = cargs.getD t undef := by
      rw [Array.getD_eq_getD_getElem?, List.getD_eq_getElem?_getD]
      by_cases hx : t < cargs.length
      · rw [Array.getElem?_append_left (by simpa using hx)]
        simp
      · rw [Array.getElem?_append_right (by simp; omega), List.getElem?_eq_none (by omega)]
        simp only [Array.getElem?_replicate]
        split <;> rfl
    rw [ht]
    exact this
  have last : ∀ f' h' ρ' w' ft' a' todo, RetQ P fn.results.toList h.length K .ret f' h' → ActRel h'.length ρ' fn.ntmps f' a' → HRel ρ' h' FC w' ft' → Env.upto h.length ρ ρ' → h.length ≤ h'.length →
      J (G { (FB.at ⟨g, .normal, none⟩ a' todo) with mode := .returning } (c' :: cs)) w' ft' := by
    intro f' h' ρ' w' ft' a' todo q A' H' hu hl
    exact leave_run (b := ⟨g, .normal, none⟩) (f := f') (n0 := h.length) (ρ := ρ') hJ rfl hf (fun v h2 ρ2 w2 ft2 cv k H2 u2 l2 v2 => hc v h2 ρ2 w2 ft2 cv k H2 (Env.upto_trans hu u2) l2 v2) f'.ds h' w' ft' a' _ rfl rfl rfl rfl A'.defers A'.regs H' hl q
  refine hs H.ok ⟨g, .normal, none⟩ _ [] (c' :: cs) (fun jump a w ft => jump = some .ret ∧ ∀ todo, J (G { (FB.at ⟨g, .normal, none⟩ a todo) with mode := .returning } (c' :: cs)) w ft) ρ FC w ft rfl (by simp) ?_ A H (Nat.le_refl _) ?_
  · rintro jump a w ft todo ⟨rfl, hj⟩ hh
    rcases hh with ⟨_, k, rfl⟩ | ⟨id, k, e, _⟩ | ⟨e, _⟩
    · exact hJ.ctrl rfl rfl (fun w => by simp [G, stepG, stepG.exec, FB.at]) (hj (.code .ret :: k))
    · cases e
    · cases e
  · intro e f' h' ρ' w' ft' a' q A' H' hu hl
    cases e with
    | normal => exact hJ.ctrl rfl rfl (fun w => by simp [G, stepG, stepG.exec, FB.at]) (last f' h' ρ' w' ft' a' [] q A' H' hu hl)
    | ret => exact ⟨rfl, fun todo => last f' h' ρ' w' ft' a' todo q A' H' hu hl⟩
    | exit id => exact q.elim
    | goto l => exact q.elim
    | panic l => exact q.elim
    | outgrown => exact q.elim

end
end Go.Proofs.Ytdgpacdknpahnaa

/- Operations that leave the heap alone: what they hand on hangs on their operands, and on one block that they read. No conditions. -/
namespace Go.Proofs.Ytdgpacdknpahnaa
open Go.Conc

/-- Such an operation hands on one value, whatever is asked of it. -/
def Pin (F : (Value → Prop) → Prop) : Prop := ∀ K, F K → ∃ v, K v ∧ ∀ K1 : Value → Prop, K1 v → F K1

section
variable {P : Program}

theorem pin_const (v : Value) : Pin fun K => K v := fun _ h => ⟨v, h, fun _ h => h⟩
theorem pin_no : Pin fun _ => False := fun _ h => h.elim
theorem pin_and {p : Prop} {F : (Value → Prop) → Prop} (h : Pin F) : Pin fun K => p ∧ F K := fun K hk => by
  obtain ⟨v, a, b⟩ := h K hk.2
  exact ⟨v, a, fun K1 k => ⟨hk.1, b K1 k⟩⟩

theorem pin_aLoad {g : Bool} {s : Nat} {p : Value} {h : List AObj} : Pin (aLoad g s p h) := by
  intro K hK
  unfold aLoad at hK ⊢
  split at hK
  · split at hK
    · rename_i hb
      cases g with
      | true => exact ⟨_, hK.2.2, fun K1 k => ⟨hK.1, hK.2.1, k⟩⟩
      | false =>
        simp only [cond_false] at hK
        split at hK
        · rename_i hv
          exact ⟨_, hK.2, fun K1 k => by first | exact ⟨hK.1, k⟩ | (simp only [cond_false]; exact ⟨hK.1, k⟩) | (simp only [cond_false, hv]; exact ⟨hK.1, k⟩)⟩
        · exact hK.elim
    · exact hK.elim
  · exact hK.elim
theorem pin_aField {g : Bool} {s o : Nat} {x : Value} : Pin (aField g s o x) := by
  intro K hK
  unfold aField at hK ⊢
  split at hK
  · cases g with
    | true => exact ⟨_, hK.2, fun K1 k => ⟨hK.1, k⟩⟩
    | false =>
      simp only [cond_false] at hK
      split at hK
      · rename_i hv
        exact ⟨_, hK, fun K1 k => by first | exact k | (simp only [cond_false]; exact k) | (simp only [cond_false, hv]; exact k)⟩
      · exact hK.elim
  · exact hK.elim
theorem pin_aOff {p : Value} {o : Nat} : Pin (aOff p o) := by
  intro K hK
  unfold aOff at hK ⊢
  split at hK
  · exact ⟨_, hK, fun K1 k => k⟩
  · exact hK.elim
theorem pin_aIdx {s : Nat} {x i : Value} : Pin (aIdx s x i) := by
  intro K hK
  unfold aIdx at hK ⊢
  split at hK
  · exact ⟨_, hK.2, fun K1 k => ⟨hK.1, k⟩⟩
  · exact hK.elim
theorem pin_aIdxA {l s : Nat} {x i : Value} : Pin (aIdxA l s x i) := by
  intro K hK
  unfold aIdxA at hK ⊢
  split at hK
  · exact ⟨_, hK.2, fun K1 k => ⟨hK.1, k⟩⟩
  · exact hK.elim
theorem pin_aInt {op : BinOp} {k : IntKind} {a b : Int} : Pin (aInt op k a b) := by
  cases op <;> first | exact pin_no | exact pin_const _ | exact pin_and (pin_const _)
theorem pin_aShift {op : BinOp} {k : IntKind} {a b : Int} : Pin (aShift op k a b) := by
  unfold aShift
  refine pin_and ?_
  cases op <;> first | exact pin_no | exact pin_const _
theorem pin_aEq {n : Bool} {t : TypeId} {x y : Value} : Pin (aEq P n t x y) := by
  intro K hK
  unfold aEq at hK ⊢
  split at hK
  · rename_i hb
    exact ⟨_, hK.2, fun K1 k => by first | exact ⟨hK.1, k⟩ | (simp only [hb]; exact ⟨hK.1, k⟩)⟩
  · exact hK.elim
theorem pin_aStr {op : BinOp} {a b : ByteArray} : Pin (aStr op a b) := by
  cases op <;> first | exact pin_no | exact pin_const _ | exact pin_and (pin_const _)
theorem pin_aBin {op : BinOp} {t : TypeId} {x y : Value} : Pin (aBin P op t x y) := by
  intro K hK
  have hh := hK
  unfold aBin at hK
  split at hK
  · split at hK
    · obtain ⟨v, a, b⟩ := pin_aShift K hK
      exact ⟨v, a, fun K1 k => by unfold aBin; exact b K1 k⟩
    · obtain ⟨v, a, b⟩ := pin_aShift K hK
      exact ⟨v, a, fun K1 k => by unfold aBin; exact b K1 k⟩
    · rename_i n1 n2
      obtain ⟨v, a, b⟩ := pin_aInt K hK.2
      refine ⟨v, a, fun K1 k => ?_⟩
      unfold aBin
      cases op <;> first | exact ⟨hK.1, b K1 k⟩ | exact absurd rfl n1 | exact absurd rfl n2
  · obtain ⟨v, a, b⟩ := pin_aStr K hK
    exact ⟨v, a, fun K1 k => by unfold aBin; exact b K1 k⟩
  · rename_i n1 n2
    cases op <;> first | exact hK.elim | skip
    · obtain ⟨v, a, b⟩ := pin_aEq K hK
      refine ⟨v, a, fun K1 k => ?_⟩
      unfold aBin
      split
      · exact absurd rfl (n1 _ _ _ _ rfl)
      · exact absurd rfl (n2 _ _ rfl)
      · exact b K1 k
    · obtain ⟨v, a, b⟩ := pin_aEq K hK
      refine ⟨v, a, fun K1 k => ?_⟩
      unfold aBin
      split
      · exact absurd rfl (n1 _ _ _ _ rfl)
      · exact absurd rfl (n2 _ _ rfl)
      · exact b K1 k
theorem pin_aUn {op : UnOp} {x : Value} : Pin (aUn op x) := by
  intro K hK
  unfold aUn at hK ⊢
  split at hK
  · exact ⟨_, hK, fun K1 k => k⟩
  · exact ⟨_, hK, fun K1 k => k⟩
  · exact hK.elim
theorem pin_aConv {t : TypeId} {x : Value} : Pin (aConv P t x) := by
  intro K hK
  unfold aConv at hK ⊢
  split at hK
  · rename_i hb
    exact ⟨_, hK, fun K1 k => by first | exact k | (simp only [hb]; exact k)⟩
  · exact hK.elim
theorem pin_aExt {x : Value} {i : Nat} : Pin (aExt x i) := by
  intro K hK
  unfold aExt at hK ⊢
  split at hK
  · split at hK
    · rename_i hb
      exact ⟨_, hK, fun K1 k => by first | exact k | (simp only [hb]; exact k)⟩
    · exact hK.elim
  · exact hK.elim
theorem pin_aNil {x : Value} : Pin (aNil x) := by
  intro K hK
  unfold aNil at hK ⊢
  split at hK
  · exact ⟨_, hK, fun K1 k => k⟩
  · exact ⟨_, hK, fun K1 k => k⟩
  · exact ⟨_, hK, fun K1 k => k⟩
  · exact hK.elim
theorem pin_aLenS {x : Value} : Pin (aLenS x) := by
  intro K hK
  unfold aLenS at hK ⊢
  split at hK
  · exact ⟨_, hK, fun K1 k => k⟩
  · exact hK.elim
theorem pin_aLenStr {x : Value} : Pin (aLenStr x) := by
  intro K hK
  unfold aLenStr at hK ⊢
  split at hK
  · exact ⟨_, hK, fun K1 k => k⟩
  · exact hK.elim
theorem pin_aMin : ∀ (l : List Value) (x : Value), Pin (aMin x l)
  | [], x => fun K hK => ⟨x, hK, fun K1 k => k⟩
  | y :: l, x => by
    intro K hK
    unfold aMin at hK ⊢
    split at hK
    · obtain ⟨v, a, b⟩ := pin_aMin l _ K hK
      exact ⟨v, a, fun K1 k => b K1 k⟩
    · exact hK.elim
theorem pin_aMax : ∀ (l : List Value) (x : Value), Pin (aMax x l)
  | [], x => fun K hK => ⟨x, hK, fun K1 k => k⟩
  | y :: l, x => by
    intro K hK
    unfold aMax at hK ⊢
    split at hK
    · obtain ⟨v, a, b⟩ := pin_aMax l _ K hK
      exact ⟨v, a, fun K1 k => b K1 k⟩
    · exact hK.elim
theorem pin_aFill : ∀ (ps : List (Nat × Nat × Value)) (c : List Value) (K : List Value → Prop), aFill c ps K → ∃ c', K c' ∧ ∀ K1 : List Value → Prop, K1 c' → aFill c ps K1
  | [], c, K, hK => ⟨c, hK, fun K1 k => k⟩
  | (off, s, v) :: ps, c, K, hK => by
    obtain ⟨a1, a2, a3, hK⟩ := hK
    obtain ⟨c', b1, b2⟩ := pin_aFill ps _ K hK
    exact ⟨c', b1, fun K1 k => ⟨a1, a2, a3, b2 K1 k⟩⟩

def ptrBlk : Value → Option Nat
  | .pointer (some a) => some a.block
  | _ => none
def mapBlk : Value → Option Nat
  | .map b => b
  | _ => none

/-- The block that an operation reads. -/
def readOf (o : Op) (r : Nat → Value) : Option Nat :=
  match o with
  | .load _ x => ptrBlk (ev r x)
  | .lookup _ m _ _ => mapBlk (ev r m)
  | .call { callee := .builtin .len, args, .. } => match args.toList with
    | [x] => mapBlk (ev r x)
    | _ => none
  | _ => none

/-- Operations that leave the heap as it is, and cannot do anything else. -/
def freeOp : Op → Bool
  | .move _ | .assign _ | .pick .. | .load .. | .nilCheck _ | .binOp .. | .unOp .. | .convert .. | .fieldAddr .. | .field .. | .indexAddr .. | .lookup .. | .extract .. | .build .. => true
  | .makeFunc .. => true
  | .call { callee := .builtin b, .. } => match b with
    | .len | .min | .max => true
    | _ => false
  | _ => false

theorem aLoad_same {g : Bool} {s : Nat} {p : Value} {h h1 : List AObj} {K : Value → Prop} (e : ∀ b, ptrBlk p = some b → h1[b]? = h[b]?) (hK : aLoad g s p h K) : aLoad g s p h1 K := by
  unfold aLoad at hK ⊢
  split at hK
  · rename_i b off
    rw [e b rfl]
    exact hK
  · exact hK.elim

theorem aop_free {o : Op} {r : Nat → Value} {h : List AObj} {K : Value → List AObj → Prop} (hf : freeOp o = true) (hK : aop P o r h K) :
    ∃ v, K v h ∧ ∀ (h1 : List AObj) (K1 : Value → List AObj → Prop), (∀ b, readOf o r = some b → h1[b]? = h[b]?) → K1 v h1 → aop P o r h1 K1 := by
  have use : ∀ {F : (Value → Prop) → Prop}, Pin F → F (fun v => K v h) → (∀ h1 (K1 : Value → List AObj → Prop), (∀ b, readOf o r = some b → h1[b]? = h[b]?) → F (fun v => K1 v h1) → aop P o r h1 K1) →
      ∃ v, K v h ∧ ∀ (h1 : List AObj) (K1 : Value → List AObj → Prop), (∀ b, readOf o r = some b → h1[b]? = h[b]?) → K1 v h1 → aop P o r h1 K1 := by
    intro F pf hF hh
    obtain ⟨v, a, b⟩ := pf _ hF
    exact ⟨v, a, fun h1 K1 e k => hh h1 K1 e (b _ k)⟩
  cases o <;> simp only [freeOp, Bool.false_eq_true] at hf <;> simp only [aop] at hK
  case move x => exact ⟨_, hK, fun h1 K1 _ k => k⟩
  case assign x => exact ⟨_, hK, fun h1 K1 _ k => k⟩
  case pick c a b =>
    split at hK
    · rename_i hb
      exact ⟨_, hK, fun h1 K1 _ k => by simp only [aop, hb]; exact k⟩
    · exact hK.elim
  case build t ps =>
    split at hK
    · rename_i z l hz hl
      cases hg : aggT P t with
      | true =>
        rw [hg] at hK
        obtain ⟨c', b1, b2⟩ := pin_aFill _ _ _ hK
        exact ⟨_, b1, fun h1 K1 _ k => by simp only [aop, hz, hl, hg, cond_true]; exact b2 _ k⟩
      | false => rw [hg] at hK; exact hK.elim
    · exact hK.elim
  case load t x =>
    split at hK
    · rename_i g s ht
      obtain ⟨v, a, b⟩ := pin_aLoad _ hK
      refine ⟨v, a, fun h1 K1 e k => ?_⟩
      simp only [aop, ht]
      exact aLoad_same e (b (fun v => K1 v h1) k)
    · exact hK.elim
  case nilCheck x => exact use pin_aNil hK fun h1 K1 _ k => k
  case binOp op t x y _ => exact use pin_aBin hK fun h1 K1 _ k => k
  case unOp op _ x => exact use pin_aUn hK fun h1 K1 _ k => k
  case convert s d x =>
    split at hK
    · rename_i hs
      exact use pin_aConv hK fun h1 K1 _ k => by simp only [aop, hs]; exact k
    · exact hK.elim
  case makeFunc fn first cap =>
    cases fn <;> simp only at hK
    exact ⟨_, hK.2, fun h1 K1 _ k => ⟨hK.1, k⟩⟩
  case fieldAddr t x f =>
    split at hK
    · rename_i hs
      exact use pin_aOff hK fun h1 K1 _ k => by simp only [aop, hs]; exact k
    · exact hK.elim
  case field t x f =>
    split at hK
    · rename_i h1
      split at hK
      · rename_i h2
        split at hK
        · rename_i h3
          exact use pin_aField hK fun _ K1 _ k => by simp only [aop, h1, h2, h3]; exact k
        · exact hK.elim
      · exact hK.elim
    · exact hK.elim
  case indexAddr t x i =>
    split at hK
    · rename_i h1
      split at hK
      · rename_i h2
        exact use pin_aIdx hK fun _ K1 _ k => by simp only [aop, h1, h2]; exact k
      · exact hK.elim
    · rename_i h1
      split at hK
      · rename_i h2
        exact use pin_aIdxA hK fun _ K1 _ k => by simp only [aop, h1, h2]; exact k
      · exact hK.elim
    · exact hK.elim
  case lookup t m k ok =>
    unfold aLook at hK
    split at hK
    · rename_i kt vt b hu hm
      split at hK
      · rename_i es wr z hb hz
        obtain ⟨hk, hK⟩ := hK
        split at hK
        · rename_i v hv
          refine ⟨_, hK, fun h1 K1 e k1 => ?_⟩
          simp only [aop, aLook, hu, hm]
          rw [e b (by simp [readOf, mapBlk, hm]), hb, hz]
          simp only [hv]
          exact ⟨hk, k1⟩
        · rename_i hv
          refine ⟨_, hK, fun h1 K1 e k1 => ?_⟩
          simp only [aop, aLook, hu, hm]
          rw [e b (by simp [readOf, mapBlk, hm]), hb, hz]
          simp only [hv]
          exact ⟨hk, k1⟩
        · exact hK.elim
      · exact hK.elim
    · exact hK.elim
  case extract t i => exact use pin_aExt hK fun h1 K1 _ k => k
  case call c =>
    obtain ⟨callee, args, argTypes⟩ := c
    cases callee with
    | value f => cases hf
    | invoke x m => cases hf
    | builtin b =>
      obtain ⟨args⟩ := args
      obtain ⟨argTypes⟩ := argTypes
      simp only at hK
      split at hK
      · rename_i x t
        split at hK
        · rename_i hu
          exact use pin_aLenStr hK fun h1 K1 _ k => by simp only [aop, hu]; exact k
        · rename_i hu
          exact use pin_aLenS hK fun h1 K1 _ k => by simp only [aop, hu]; exact k
        · rename_i hu
          unfold aLenM at hK
          split at hK
          · rename_i hm
            exact ⟨_, hK, fun h1 K1 _ k => by simp only [aop, hu, aLenM, hm]; exact k⟩
          · rename_i bb hm
            split at hK
            · rename_i hb
              refine ⟨_, hK, fun h1 K1 e k => ?_⟩
              simp only [aop, hu, aLenM, hm]
              rw [e bb (by simp [readOf, mapBlk, hm]), hb]
              exact k
            · exact hK.elim
          · exact hK.elim
        · rename_i hu
          exact ⟨_, hK, fun h1 K1 _ k => by simp only [aop, hu]; exact k⟩
        · exact hK.elim
      · exact use (pin_aMin _ _) hK fun h1 K1 _ k => k
      · exact use (pin_aMax _ _) hK fun h1 K1 _ k => k
      · simp at hf
      · exact hK.elim
end
end Go.Proofs.Ytdgpacdknpahnaa

/- A region that asks for its order: operations that only read may be taken first. No conditions. -/
namespace Go.Proofs.Ytdgpacdknpahnaa
open Go.Conc

section
variable {P : Program} {C : FuncId → List Value → List AObj → (Value → List AObj → Prop) → Prop} {N : Nat} {ops : Array Oper}

theorem aop_congr {o : Op} {r r' : Nat → Value} {h : List AObj} {K : Value → List AObj → Prop} (e : ∀ x ∈ o.operands, ev r x = ev r' x) (hK : aop P o r h K) : aop P o r' h K := by
  have lst : ∀ l : Array Operand, (∀ x ∈ l, ev r x = ev r' x) → l.toList.map (ev r) = l.toList.map (ev r') := fun l hl => List.map_congr_left fun x hx => hl x (by simpa using hx)
  have prs : ∀ ps : Array (Nat × Operand), (∀ x ∈ (ps.toList.map (·.2)).toArray, ev r x = ev r' x) → (ps.toList.map fun (i, x) => (i, ev r x)) = ps.toList.map fun (i, x) => (i, ev r' x) := fun ps hp =>
    List.map_congr_left fun p hm => by
      obtain ⟨i, x⟩ := p
      simp only [hp x (by simp only [List.mem_toArray, List.mem_map]; exact ⟨(i, x), hm, rfl⟩)]
  cases o <;> simp only [Op.operands] at e
  case build t ps => simp only [aop] at hK ⊢; rw [← prs ps e]; exact hK
  case buildSlice t n ps => simp only [aop] at hK ⊢; rw [← prs ps e]; exact hK
  case makeFunc fn first cap =>
    cases fn <;> simp only [aop] at hK ⊢
    have e1 : ∀ x ∈ first, ev r x = ev r' x := fun x hx => e x (by simp [hx])
    have e2 : ∀ x ∈ cap, ev r x = ev r' x := fun x hx => e x (by simp [hx])
    rw [← lst first e1, ← lst cap e2]
    refine ⟨?_, hK.2⟩
    rw [List.all_eq_true] at *
    intro x hx
    rw [← e x (by simpa using hx)]
    exact hK.1 x hx
  case slice t x lo hi mx => cases lo <;> cases hi <;> cases mx <;> simp_all [aop]
  case makeMap t x => cases x <;> simp_all [aop]
  case call c =>
    obtain ⟨callee, args, argTypes⟩ := c
    cases callee with
    | value f => exact hK.elim
    | invoke x m => exact hK.elim
    | builtin b =>
      have e1 := lst args fun x hx => e x (by simp [Call.operands, hx])
      obtain ⟨args⟩ := args
      simp only at e1
      obtain ⟨argTypes⟩ := argTypes
      simp only [aop] at hK
      split at hK
      · rename_i x t
        have hx : ev r x = ev r' x := by simpa using e1
        simp only [aop]
        rw [← hx]
        exact hK
      · rename_i x l tys
        simp only [List.map_cons, List.cons.injEq] at e1
        simp only [aop]
        rw [← e1.1, ← e1.2]
        exact hK
      · rename_i x l tys
        simp only [List.map_cons, List.cons.injEq] at e1
        simp only [aop]
        rw [← e1.1, ← e1.2]
        exact hK
      · rename_i x y t u
        simp only [List.map_cons, List.cons.injEq] at e1
        simp only [aop]
        rw [← e1.1, ← e1.2.1]
        exact hK
      · exact hK.elim
  all_goals (first | exact hK | (simp_all [aop]; done))

/-- One operation with its guard. -/
def opG (P : Program) (C : FuncId → List Value → List AObj → (Value → List AObj → Prop) → Prop) (ops : Array Oper) (o : Oper) (r : Nat → Value) (h : List AObj) (K : Value → List AObj → Prop) : Prop :=
  match gd ops o r with
  | some true => opW P C o r h K
  | some false => K undef h
  | none => False

def opM (P : Program) (C : FuncId → List Value → List AObj → (Value → List AObj → Prop) → Prop) (ops : Array Oper) (o : Oper) (r : Nat → Value) (h : List AObj) (K : Value → List AObj → Prop) : Prop :=
  ∃ K', opG P C ops o r h K' ∧ ∀ v h', K' v h' → K v h'

theorem gd_congr {o : Oper} {r r' : Nat → Value} (e : ∀ t ∈ o.looksAt ops, r t = r' t) : gd ops o r = gd ops o r' := by
  unfold gd
  cases hg : o.guard with
  | none => rfl
  | some jw =>
    obtain ⟨j, want⟩ := jw
    simp only
    cases hd : (ops[j]?).bind (·.dst) with
    | none => rfl
    | some t =>
      simp only
      rw [e t (by simp [Oper.looksAt, hg, hd])]

theorem ev_looks {o : Oper} {r r' : Nat → Value} (e : ∀ t ∈ o.looksAt ops, r t = r' t) : ∀ x ∈ o.op.operands, ev r x = ev r' x := by
  intro x hx
  cases x with
  | tmp t => exact e t (by
      simp only [Oper.looksAt, List.mem_append, List.mem_filterMap]
      exact .inl ⟨.tmp t, by simpa using hx, rfl⟩)
  | _ => rfl

theorem opG_congr {o : Oper} {r r' : Nat → Value} {h : List AObj} {K : Value → List AObj → Prop} (e : ∀ t ∈ o.looksAt ops, r t = r' t) (hK : opG P C ops o r h K) : opG P C ops o r' h K := by
  unfold opG at hK ⊢
  rw [← gd_congr e]
  split at hK
  · have eo := ev_looks e
    unfold opW at hK ⊢
    split at hK
    · rename_i x args ats hop
      rw [hop] at eo
      have ex := eo x (by simp [Op.operands, Call.operands])
      have ea : args.toList.map (ev r) = args.toList.map (ev r') := List.map_congr_left fun y hy => eo y (by simp [Op.operands, Call.operands]; exact .inr (by simpa using hy))
      try simp only [hop]
      rw [← ex, ← ea]
      exact hK
    · rename_i hn
      exact aop_congr eo hK
  · exact hK
  · exact hK.elim

/-- Has this operation no way but to hand on a value. -/
def isFree (o : Oper) : Bool := freeOp o.op

theorem opG_free {o : Oper} {r : Nat → Value} {h : List AObj} {K : Value → List AObj → Prop} (hf : isFree o = true) (hK : opG P C ops o r h K) :
    ∃ v, K v h ∧ ∀ (h1 : List AObj) (K1 : Value → List AObj → Prop), (∀ b, readOf o.op r = some b → h1[b]? = h[b]?) → K1 v h1 → opG P C ops o r h1 K1 := by
  unfold opG at hK ⊢
  split at hK
  · have hw : opW P C o r h K = aop P o.op r h K := by
      unfold opW
      unfold isFree at hf
      split
      · rename_i e
        rw [e] at hf
        cases hf
      · rfl
    rw [hw] at hK
    obtain ⟨v, a, b⟩ := aop_free hf hK
    refine ⟨v, a, fun h1 K1 e k => ?_⟩
    have hw1 : opW P C o r h1 K1 = aop P o.op r h1 K1 := by
      unfold opW
      unfold isFree at hf
      split
      · rename_i e
        rw [e] at hf
        cases hf
      · rfl
    simp only [hw1]
    exact b h1 K1 e k
  · exact ⟨_, hK, fun h1 K1 _ k => k⟩
  · exact hK.elim

/-- Does it read a block. -/
def isRead : Op → Bool
  | .load .. | .lookup .. => true
  | .call { callee := .builtin .len, .. } => true
  | _ => false

theorem readOf_none {o : Op} {r : Nat → Value} (h : isRead o = false) : readOf o r = none := by
  unfold isRead at h
  split at h
  · cases h
  · cases h
  · cases h
  · rename_i n1 n2 n3
    unfold readOf
    split
    · exact absurd rfl (n1 _ _)
    · exact absurd rfl (n2 _ _ _ _)
    · exact absurd rfl (n3 _ _)
    · rfl

/-- Must what is read stand behind operation j as it was: is there one that reads and need not come first. -/
def sNeed (ops : Array Oper) (j : Nat) (o : Oper) : Bool :=
  !isFree o && (List.range ops.size).any fun i => i != j && (match ops[i]? with
    | some oi => isRead oi.op && !(o.after.any fun e => Region.binds .any e && e.on == i)
    | none => false)

/-- The operations that are still to come, in every order. -/
def AnyH (P : Program) (C : FuncId → List Value → List AObj → (Value → List AObj → Prop) → Prop) (N : Nat) (ops : Array Oper) (S : List AObj → Prop) : Nat → Array Bool → RG → List AObj → (RG → List AObj → Prop) → Prop
  | 0, L, f, h, K => Region.ready .any ops L = [] ∧ K f h
  | n + 1, L, f, h, K => (Region.ready .any ops L = [] → K f h) ∧ ∀ i ∈ Region.ready .any ops L, ∀ o, ops[i]? = some o → (∀ t, o.dst = some t → t < N) ∧
      opM P C ops o f.r h fun v h' => (sNeed ops i o = true → S h') ∧ AnyH P C N ops S n (L.setIfInBounds i true) (f.putO o.dst v) h' K

def Apart (ops : Array Oper) (i : Nat) (oi : Oper) (L : Array Bool) : Prop :=
  ∀ j oj, ops[j]? = some oj → j ≠ i → L.getD j true = false → (∀ e ∈ oj.after, Region.binds .any e = true → e.on ≠ i) → oi.apart ops oj = true

theorem putO_r {f : RG} {d : Option Nat} {v : Value} {t : Nat} (h : d ≠ some t) : (f.putO d v).r t = f.r t := by
  cases d with
  | none => rfl
  | some d =>
    have : (t == d) = false := by
      have : t ≠ d := fun e => h (by rw [e])
      simpa using this
    simp [RG.putO, RG.put, this]

theorem putO_comm (f : RG) {x y : Option Nat} (v u : Value) (h : ∀ d, x = some d → y ≠ some d) : (f.putO x v).putO y u = (f.putO y u).putO x v := by
  cases x with
  | none => rfl
  | some d =>
    cases y with
    | none => rfl
    | some e =>
      have hde : d ≠ e := fun he => h d rfl (by rw [he])
      simp only [RG.putO, RG.put]
      congr 1
      funext t
      by_cases h1 : t = d
      · subst h1
        have : (t == e) = false := by simpa using hde
        simp [this]
      · have : (t == d) = false := by simpa using h1
        simp [this]

theorem set_comm {L : Array Bool} {i j : Nat} : (L.setIfInBounds i true).setIfInBounds j true = (L.setIfInBounds j true).setIfInBounds i true := by
  by_cases h : i = j
  · rw [h]
  · exact Array.setIfInBounds_comm _ _ h

theorem AnyH_take {S : List AObj → Prop} {i : Nat} {oi : Oper} {v : Value} {K : RG → List AObj → Prop} (hi : ops[i]? = some oi) (hN : ∀ t, oi.dst = some t → t < N) (hfr : isFree oi = true) :
    ∀ (n : Nat) (L : Array Bool) (f : RG) (h : List AObj), Apart ops i oi L → i ∈ Region.ready .any ops L → (isRead oi.op = true → S h) →
      (∀ h1 (K1 : Value → List AObj → Prop), (isRead oi.op = true → S h1) → K1 v h1 → opG P C ops oi f.r h1 K1) → AnyH P C N ops S n (L.setIfInBounds i true) (f.putO oi.dst v) h K → AnyH P C N ops S (n + 1) L f h K := by
  intro n
  induction n with
  | zero =>
    intro L f h hap hir hS hY hA
    refine ⟨fun e => (by rw [e] at hir; cases hir), fun j hj oj hoj => ?_⟩
    by_cases hji : j = i
    · subst hji
      rw [hi] at hoj
      cases hoj
      refine ⟨hN, fun u h' => u = v ∧ h' = h, hY h _ hS ⟨rfl, rfl⟩, ?_⟩
      rintro u h' ⟨rfl, rfl⟩
      exact ⟨fun e => by simp [sNeed, hfr] at e, hA⟩
    · have := ready_mono hj hji
      rw [hA.1] at this
      cases this
  | succ n ih =>
    intro L f h hap hir hS hY hA
    refine ⟨fun e => (by rw [e] at hir; cases hir), fun j hj oj hoj => ?_⟩
    by_cases hji : j = i
    · subst hji
      rw [hi] at hoj
      cases hoj
      refine ⟨hN, fun u h' => u = v ∧ h' = h, hY h _ hS ⟨rfl, rfl⟩, ?_⟩
      rintro u h' ⟨rfl, rfl⟩
      exact ⟨fun e => by simp [sNeed, hfr] at e, hA⟩
    · obtain ⟨hjN, K', hK', hsub⟩ := hA.2 j (ready_mono hj hji) oj hoj
      have hnl : L.getD j true = false := by
        rw [mem_ready] at hj
        exact hj.1
      have hil : L.getD i true = false := by
        rw [mem_ready] at hir
        exact hir.1
      have haft : ∀ e ∈ oj.after, Region.binds .any e = true → e.on ≠ i := by
        intro e he hb hei
        rw [mem_ready] at hj
        obtain ⟨_, o, ho, hall⟩ := hj
        rw [hoj] at ho
        cases ho
        have h1 := hall e he hb
        rw [hei] at h1
        rw [Array.getD_eq_getD_getElem?] at h1 hil
        cases hx : L[i]? with
        | none => rw [hx] at hil; cases hil
        | some b => rw [hx] at h1 hil; simp at h1 hil; rw [h1] at hil; cases hil
      obtain ⟨ap1, ap2, ap3⟩ := Oper.apart_spec (hap j oj hoj hji hnl haft)
      have back : ∀ t ∈ oj.looksAt ops, (f.putO oi.dst v).r t = f.r t := fun t ht => putO_r fun e => ap1 t e ht
      have hKj := opG_congr back hK'
      refine ⟨hjN, ?_⟩
      have fin : ∀ u h', (isRead oi.op = true → S h') → ((sNeed ops j oj = true → S h') ∧ AnyH P C N ops S n ((L.setIfInBounds i true).setIfInBounds j true) ((f.putO oi.dst v).putO oj.dst u) h' K) →
          (sNeed ops j oj = true → S h') ∧ AnyH P C N ops S (n + 1) (L.setIfInBounds j true) (f.putO oj.dst u) h' K := by
        rintro u h' hS' ⟨hs, hA'⟩
        refine ⟨hs, ih (L.setIfInBounds j true) (f.putO oj.dst u) h' ?_ (ready_mono hir (fun e => hji e.symm)) hS' (fun h1 K1 hs1 k1 => ?_) ?_⟩
        · intro x ox hx hxi hxl hxa
          refine hap x ox hx hxi ?_ hxa
          by_cases hxj : x = j
          · rw [hxj]; exact hnl
          · rw [getD_set_ne true (Ne.symm hxj)] at hxl
            exact hxl
        · refine opG_congr (fun t ht => ?_) (hY h1 K1 hs1 k1)
          exact (putO_r fun e => ap3 t e ht).symm
        · rw [set_comm, ← putO_comm f v u ap2]
          exact hA'
      cases hfj : isFree oj with
      | true =>
        obtain ⟨u, a, b⟩ := opG_free hfj hKj
        refine ⟨fun u' h' => u' = u ∧ h' = h, b h _ (fun _ _ => rfl) ⟨rfl, rfl⟩, ?_⟩
        rintro u' h' ⟨rfl, rfl⟩
        exact fin _ _ hS (hsub _ _ a)
      | false =>
        refine ⟨K', hKj, fun u h' k => fin u h' (fun hr => ?_) (hsub _ _ k)⟩
        refine (hsub _ _ k).1 ?_
        unfold sNeed
        rw [hfj]
        simp only [Bool.not_false, Bool.true_and, List.any_eq_true]
        refine ⟨i, ?_, ?_⟩
        · rw [List.mem_range]
          rcases Nat.lt_or_ge i ops.size with hlt | hlt
          · exact hlt
          · rw [Array.getElem?_eq_none hlt] at hi
            cases hi
        · have hij : (i != j) = true := by simpa using fun e => hji e.symm
          rw [hij, hi]
          simp only [hr, Bool.true_and, Bool.not_eq_true', Array.any_eq_false]
          intro x hx hh
          simp only [Bool.and_eq_true, beq_iff_eq] at hh
          exact haft _ (Array.getElem_mem hx) hh.1 hh.2
end
end Go.Proofs.Ytdgpacdknpahnaa

/- Regions, reckoned: in the text's order, or in one order that stands for all. No conditions. -/
namespace Go.Proofs.Ytdgpacdknpahnaa
open Go.Conc

def cnd (v : Value) (A B : Prop) : Prop :=
  match v with
  | .bool b => (b = true → A) ∧ (b = false → B)
  | _ => False

abbrev Dec := List (Nat × Option Bool)

def dfind (j : Nat) : Dec → Option (Option Bool)
  | [] => none
  | (i, b) :: l => bif i == j then some b else dfind j l

def dstOf (ops : Array Oper) (j : Nat) : Option Nat :=
  match ops[j]? with
  | some o => o.dst
  | none => none

/-- The guard of an operation: what is told of it, and what is known of it from then on. -/
def goG (ops : Array Oper) (dec : Dec) (o : Oper) (f : RG) (A : Bool → Dec → RG → Prop) : Prop :=
  match o.guard with
  | none => A true dec f
  | some (j, want) => match dfind j dec with
    | some (some b) => A (b == want) dec f
    | some none => A false dec f
    | none => match dstOf ops j with
      | some t => cnd (f.r t) (A (true == want) ((j, some true) :: dec) (f.put t (.bool true))) (A (false == want) ((j, some false) :: dec) (f.put t (.bool false)))
      | none => False

def forget (ops : Array Oper) (d : Option Nat) (dec : Dec) : Dec :=
  match d with
  | none => dec
  | some d => dec.filter fun x => !(dstOf ops x.1 == some d)

/-- An operation has been passed over. -/
def skipD (ops : Array Oper) (i : Nat) (d : Option Nat) (dec : Dec) : Dec :=
  match d with
  | none => dec
  | some d => (i, none) :: forget ops (some d) dec

def dstOk (N : Nat) (o : Oper) : Bool :=
  match o.dst with
  | some d => Nat.blt d N
  | none => true

abbrev CT := FuncId → List Value → List AObj → (Value → List AObj → Prop) → Prop

def opsW (P : Program) (C : CT) (N : Nat) (ops : Array Oper) : List Nat → Dec → RG → List AObj → (RG → List AObj → Prop) → Prop
  | [], _, f, h, K => K f h
  | i :: l, dec, f, h, K => match ops[i]? with
    | some o => bif dstOk N o then goG ops dec o f fun w dec f =>
        bif w then opW P C o f.r h fun v h' => opsW P C N ops l (forget ops o.dst dec) (f.putO o.dst v) h' K
        else opsW P C N ops l (skipD ops i o.dst dec) (f.putO o.dst undef) h K
      else False
    | none => False

/-- These blocks are as they were. -/
def SameB (B : Option (List Nat)) (h0 h1 : List AObj) : Prop :=
  match B with
  | none => h1 = h0
  | some B => ∀ b ∈ B, h1[b]? = h0[b]?

def RdOk (B : Option (List Nat)) (x : Option Nat) : Prop :=
  match B, x with
  | some B, some b => b ∈ B
  | _, _ => True

def apartB (ops : Array Oper) (i : Nat) (oi : Oper) (L : Array Bool) : Bool :=
  (List.range ops.size).all fun j => match ops[j]? with
    | none => true
    | some oj => j == i || L.getD j true || (oj.after.any fun e => Region.binds .any e && e.on == i) || oi.apart ops oj

def pickN (ops : Array Oper) (L : Array Bool) : Option Nat :=
  (Region.ready .any ops L).find? fun i => match ops[i]? with
    | some o => isFree o && apartB ops i o L
    | none => false

def allOf : List Nat → (Nat → Prop) → Prop
  | [], _ => True
  | [i], A => A i
  | i :: l, A => A i ∧ allOf l A

def anyW (P : Program) (C : CT) (N : Nat) (ops : Array Oper) (B : Option (List Nat)) (h0 : List AObj) : Nat → Array Bool → Bool → Dec → RG → List AObj → (RG → List AObj → Prop) → Prop
  | 0, L, _, _, f, h, K => bif (Region.ready .any ops L).isEmpty then K f h else False
  | n + 1, L, sok, dec, f, h, K => match pickN ops L with
    | some i => match ops[i]? with
      | some o => bif dstOk N o && (!isRead o.op || sok) then goG ops dec o f fun w dec f =>
          bif w then opW P C o f.r h fun v _ =>
            bif isRead o.op && B.isSome then RdOk B (readOf o.op f.r) ∧ anyW P C N ops B h0 n (L.setIfInBounds i true) sok (forget ops o.dst dec) (f.putO o.dst v) h K
            else anyW P C N ops B h0 n (L.setIfInBounds i true) sok (forget ops o.dst dec) (f.putO o.dst v) h K
          else anyW P C N ops B h0 n (L.setIfInBounds i true) sok (skipD ops i o.dst dec) (f.putO o.dst undef) h K
        else False
      | none => False
    | none => bif (Region.ready .any ops L).isEmpty then K f h else allOf (Region.ready .any ops L) fun i => match ops[i]? with
      | some o => bif dstOk N o then goG ops dec o f fun w dec f =>
          bif w then opW P C o f.r h fun v h' =>
            bif sNeed ops i o then SameB B h0 h' ∧ anyW P C N ops B h0 n (L.setIfInBounds i true) true (forget ops o.dst dec) (f.putO o.dst v) h' K
            else anyW P C N ops B h0 n (L.setIfInBounds i true) false (forget ops o.dst dec) (f.putO o.dst v) h' K
          else bif sNeed ops i o && !sok then False else anyW P C N ops B h0 n (L.setIfInBounds i true) sok (skipD ops i o.dst dec) (f.putO o.dst undef) h K
        else False
      | none => False

/-- Does nothing in the region turn what is still to be read. -/
def still (ops : Array Oper) : Bool := (List.range ops.size).all fun i => match ops[i]? with
  | some o => !sNeed ops i o
  | none => true

def drawW (P : Program) (C : CT) (N : Nat) (ops : Array Oper) (f : RG) (h : List AObj) (K : RG → List AObj → Prop) : Prop :=
  bif still ops then anyW P C N ops none h ops.size (Array.replicate ops.size false) true [] f h K
  else ∃ B, anyW P C N ops (some B) h ops.size (Array.replicate ops.size false) true [] f h K

section
variable {P : Program} {C : CT} {N : Nat} {ops : Array Oper} {f : RG} {h : List AObj}

def dval : Option Bool → Value
  | some b => .bool b
  | none => undef
def decOk (ops : Array Oper) (dec : Dec) (f : RG) : Prop := ∀ j b, dfind j dec = some b → ∃ t, dstOf ops j = some t ∧ f.r t = dval b

theorem bind_dst (j : Nat) : (ops[j]?).bind (·.dst) = dstOf ops j := by
  unfold dstOf
  cases ops[j]? <;> rfl

theorem put_self {t : Nat} {v : Value} (e : f.r t = v) : f.put t v = f := by
  obtain ⟨r, ds⟩ := f
  simp only [RG.put, RG.mk.injEq, and_true]
  funext x
  by_cases hx : x = t
  · subst hx
    simp only [BEq.rfl, cond_true]
    exact e.symm
  · have : (x == t) = false := by simpa using hx
    simp [this]

theorem goG_out {dec : Dec} {o : Oper} {A : Bool → Dec → RG → Prop} (hd : decOk ops dec f) (hg : goG ops dec o f A) : ∃ w dec', decOk ops dec' f ∧ gd ops o f.r = some w ∧ A w dec' f := by
  unfold goG at hg
  unfold gd
  split at hg
  · rename_i e
    rw [e]
    exact ⟨true, dec, hd, rfl, hg⟩
  · rename_i j want e
    rw [e]
    simp only [bind_dst]
    split at hg
    · rename_i b hb
      obtain ⟨t, h1, h2⟩ := hd j _ hb
      exact ⟨_, dec, hd, by rw [h1]; simp only [h2, dval], hg⟩
    · rename_i hb
      obtain ⟨t, h1, h2⟩ := hd j _ hb
      exact ⟨_, dec, hd, by rw [h1]; simp only [h2, dval, undef], hg⟩
    · split at hg
      · rename_i t ht
        unfold cnd at hg
        split at hg
        · rename_i b hb
          have nd : ∀ b', f.r t = .bool b' → decOk ops ((j, some b') :: dec) f := by
            intro b' hb' i c hc
            unfold dfind at hc
            cases hij : j == i with
            | true =>
              rw [hij] at hc
              simp only [cond_true, Option.some.injEq] at hc
              have : j = i := by simpa using hij
              subst this
              subst hc
              exact ⟨t, ht, hb'⟩
            | false =>
              rw [hij] at hc
              exact hd i c hc
          cases b with
          | true =>
            have := hg.1 rfl
            rw [put_self hb] at this
            exact ⟨_, _, nd _ hb, by rw [ht]; simp only [hb], this⟩
          | false =>
            have := hg.2 rfl
            rw [put_self hb] at this
            exact ⟨_, _, nd _ hb, by rw [ht]; simp only [hb], this⟩
        · exact hg.elim
      · exact hg.elim

theorem dfind_filter {p : Nat × Option Bool → Bool} : ∀ {dec : Dec} {j : Nat} {b : Option Bool}, dfind j (dec.filter p) = some b → (∀ x y y', p (x, y) = p (x, y')) → dfind j dec = some b ∧ p (j, b) = true
  | [], j, b, h, _ => by cases h
  | (i, c) :: l, j, b, h, hp => by
    rw [List.filter_cons] at h
    unfold dfind
    split at h
    · rename_i hpc
      unfold dfind at h
      cases hij : i == j with
      | true =>
        rw [hij] at h
        simp only [cond_true, Option.some.injEq] at h
        have : i = j := by simpa using hij
        subst this
        subst h
        exact ⟨rfl, hpc⟩
      | false =>
        rw [hij] at h
        exact dfind_filter h hp
    · rename_i hpc
      obtain ⟨h1, h2⟩ := dfind_filter h hp
      cases hij : i == j with
      | true =>
        have : i = j := by simpa using hij
        subst this
        exfalso
        apply hpc
        rw [hp i c b]
        exact h2
      | false => exact ⟨h1, h2⟩

theorem decOk_put {dec : Dec} {d : Option Nat} {v : Value} (hd : decOk ops dec f) : decOk ops (forget ops d dec) (f.putO d v) := by
  intro j b hj
  cases d with
  | none => exact hd j b hj
  | some d =>
    obtain ⟨h1, h2⟩ := dfind_filter hj (fun _ _ _ => rfl)
    obtain ⟨t, ht, hv⟩ := hd j b h1
    refine ⟨t, ht, ?_⟩
    rw [putO_r]
    · exact hv
    · intro e
      cases e
      simp [ht] at h2

theorem decOk_skip {dec : Dec} {i : Nat} {o : Oper} (ho : ops[i]? = some o) (hd : decOk ops dec f) : decOk ops (skipD ops i o.dst dec) (f.putO o.dst undef) := by
  unfold skipD
  cases hdst : o.dst with
  | none => exact hd
  | some d =>
    intro j b hj
    unfold dfind at hj
    cases hij : i == j with
    | true =>
      rw [hij] at hj
      simp only [cond_true, Option.some.injEq] at hj
      have : i = j := by simpa using hij
      subst this
      subst hj
      refine ⟨d, by simp [dstOf, ho, hdst], ?_⟩
      simp [RG.putO, RG.put, dval]
    | false =>
      rw [hij] at hj
      exact decOk_put (d := some d) hd j b hj

theorem dstOk_lt {o : Oper} (h : dstOk N o = true) : ∀ t, o.dst = some t → t < N := by
  intro t ht
  unfold dstOk at h
  rw [ht] at h
  simpa using h

theorem allOf_mem {A : Nat → Prop} : ∀ {l : List Nat} {i : Nat}, allOf l A → i ∈ l → A i
  | [i], j, h, hm => by
    simp only [List.mem_singleton] at hm
    subst hm
    exact h
  | i :: k :: l, j, h, hm => by
    rcases List.mem_cons.1 hm with rfl | hm
    · exact h.1
    · exact allOf_mem h.2 hm

theorem opG_of {o : Oper} {r : Nat → Value} {K : Value → List AObj → Prop} {w : Bool} (hg : gd ops o r = some w) (hk : bif w then opW P C o r h K else K undef h) : opG P C ops o r h K := by
  unfold opG
  rw [hg]
  cases w <;> exact hk

theorem opG_split {o : Oper} {r : Nat → Value} {K : Value → List AObj → Prop} {w : Bool} (hg : gd ops o r = some w) (hk : opG P C ops o r h K) : bif w then opW P C o r h K else K undef h := by
  unfold opG at hk
  rw [hg] at hk
  cases w <;> exact hk

theorem anyW_sound {B : Option (List Nat)} {h0 : List AObj} {K : RG → List AObj → Prop} : ∀ (n : Nat) (L : Array Bool) (sok : Bool) (dec : Dec) (f : RG) (h : List AObj), decOk ops dec f → (sok = true → SameB B h0 h) →
    anyW P C N ops B h0 n L sok dec f h K → AnyH P C N ops (SameB B h0) n L f h K := by
  intro n
  induction n with
  | zero =>
    intro L sok dec f h hd hs hw
    unfold anyW at hw
    cases he : (Region.ready .any ops L).isEmpty with
    | true =>
      rw [he] at hw
      exact ⟨List.isEmpty_iff.1 he, hw⟩
    | false => rw [he] at hw; exact hw.elim
  | succ n ih =>
    intro L sok dec f h hd hs hw
    unfold anyW at hw
    split at hw
    · rename_i i hp
      have hir : i ∈ Region.ready .any ops L := List.mem_of_find?_eq_some hp
      have hpi := List.find?_some hp
      split at hw
      · rename_i o ho
        simp only [ho, Bool.and_eq_true] at hpi
        cases hc : dstOk N o && (!isRead o.op || sok) with
        | false => rw [hc] at hw; exact hw.elim
        | true =>
          rw [hc] at hw
          rw [cond_true] at hw
          simp only [Bool.and_eq_true, Bool.or_eq_true, Bool.not_eq_true'] at hc
          obtain ⟨w, dec', hd', hg, hw⟩ := goG_out hd hw
          have hap : Apart ops i o L := by
            intro j oj hoj hji hl ha
            have hall := hpi.2
            unfold apartB at hall
            rw [List.all_eq_true] at hall
            have hlt : j < ops.size := by
              rcases Nat.lt_or_ge j ops.size with hlt | hlt
              · exact hlt
              · rw [Array.getElem?_eq_none hlt] at hoj
                cases hoj
            have := hall j (List.mem_range.2 hlt)
            rw [hoj] at this
            simp only [hl, Bool.or_false, Bool.or_eq_true, beq_iff_eq, hji, false_or] at this
            rcases this with this | this
            · rw [Array.any_eq_true] at this
              obtain ⟨x, hx, he⟩ := this
              simp only [Bool.and_eq_true, beq_iff_eq] at he
              exact absurd he.2 (ha _ (Array.getElem_mem hx) he.1)
            · exact this
          have hSr : isRead o.op = true → SameB B h0 h := by
            intro hr
            rcases hc.2 with x | x
            · rw [hr] at x; cases x
            · exact hs x
          cases w with
          | false =>
            exact AnyH_take ho (dstOk_lt hc.1) hpi.1 n L f h hap hir hSr (fun h1 K1 _ k1 => opG_of hg k1) (ih _ sok _ _ h (decOk_skip ho hd') hs hw)
          | true =>
            have hop : opG P C ops o f.r h fun v _ => (isRead o.op = true → RdOk B (readOf o.op f.r)) ∧ anyW P C N ops B h0 n (L.setIfInBounds i true) sok (forget ops o.dst dec') (f.putO o.dst v) h K := by
              refine opG_of hg ?_
              simp only [cond_true] at hw ⊢
              cases hr : isRead o.op && B.isSome with
              | true =>
                simp only [hr, cond_true] at hw
                simp only [Bool.and_eq_true] at hr
                simp only [hr.1, true_implies]
                exact hw
              | false =>
                simp only [hr, cond_false] at hw
                have hrd : isRead o.op = true → RdOk B (readOf o.op f.r) := by
                  intro hx
                  cases B with
                  | none => exact trivial
                  | some B => simp [hx] at hr
                have e := eq_true hrd
                simp only [e, true_and]
                exact hw
            obtain ⟨v, ⟨hrd, hv⟩, hrep⟩ := opG_free hpi.1 hop
            refine AnyH_take ho (dstOk_lt hc.1) hpi.1 n L f h hap hir hSr (fun h1 K1 hs1 k1 => hrep h1 K1 (fun b hb => ?_) k1) (ih _ sok _ _ h (decOk_put hd') hs hv)
            have hr : isRead o.op = true := by
              cases hx : isRead o.op with
              | true => rfl
              | false => rw [readOf_none hx] at hb; cases hb
            have sh := hSr hr
            have sh1 := hs1 hr
            have hrd := hrd hr
            cases B with
            | none =>
              simp only [SameB] at sh sh1
              rw [sh, sh1]
            | some B =>
              rw [hb] at hrd
              rw [sh1 b hrd, sh b hrd]
      · exact hw.elim
    · cases he : (Region.ready .any ops L).isEmpty with
      | true =>
        rw [he] at hw
        have hnil := List.isEmpty_iff.1 he
        exact ⟨fun _ => hw, fun i hi => (by rw [hnil] at hi; cases hi)⟩
      | false =>
        rw [he] at hw
        rw [cond_false] at hw
        refine ⟨fun e => (by rw [e] at he; cases he), fun i hi o ho => ?_⟩
        have hx := allOf_mem hw hi
        simp only [ho] at hx
        cases hc : dstOk N o with
        | false => rw [hc] at hx; exact hx.elim
        | true =>
          rw [hc, cond_true] at hx
          refine ⟨dstOk_lt hc, ?_⟩
          obtain ⟨w, dec', hd', hg, hx⟩ := goG_out hd hx
          cases w with
          | true =>
            rw [cond_true] at hx
            refine ⟨_, opG_of hg hx, fun v h' k => ?_⟩
            cases hn : sNeed ops i o with
            | true =>
              rw [hn, cond_true] at k
              exact ⟨fun _ => k.1, ih _ true _ _ h' (decOk_put hd') (fun _ => k.1) k.2⟩
            | false =>
              rw [hn, cond_false] at k
              exact ⟨fun e => (by cases e), ih _ false _ _ h' (decOk_put hd') (fun e => by cases e) k⟩
          | false =>
            rw [cond_false] at hx
            cases hn : sNeed ops i o && !sok with
            | true => rw [hn] at hx; exact hx.elim
            | false =>
              rw [hn, cond_false] at hx
              refine ⟨fun v h' => v = undef ∧ h' = h, opG_of hg ⟨rfl, rfl⟩, ?_⟩
              rintro v h' ⟨rfl, rfl⟩
              refine ⟨fun e => ?_, ih _ sok _ _ h' (decOk_skip ho hd') hs hx⟩
              rw [e] at hn
              simp only [Bool.true_and, Bool.not_eq_false'] at hn
              exact hs hn
end
end Go.Proofs.Ytdgpacdknpahnaa

/- What a piece of code asks, reckoned from its text. No conditions. -/
namespace Go.Proofs.Ytdgpacdknpahnaa
open Go.Conc

section
variable {P : Program} {main : Bool} {J : JT} {N n0 : Nat} {ops : Array Oper} {f : RG} {h : List AObj} {fn : FuncId} {Q : QT} {i : Nat} {rest : List Nat} {o : Oper}

theorem SemOps_cons (hJ : Closed P main J) (ho : ops[i]? = some o) (hd : ∀ t, o.dst = some t → t < N) {K : Value → List AObj → Prop} (hop : opG P (Good P J) ops o f.r h K) (hs : ∀ v h', K v h' → SemOps J N n0 fn ops rest (f.putO o.dst v) h' Q) : SemOps J N n0 fn ops (i :: rest) f h Q := by
  intro b a k cs L ρ FC w ft h1 h2 h3 h4 h5 h6 hc
  unfold opG at hop
  split at hop
  · rename_i hg
    refine step_any hJ h2 ho hg hd h4 h5 hop fun v h' ρ' w' ft' a' hK A' H' hu hl => ?_
    exact hs v h' hK b a' k cs L ρ' FC w' ft' h1 h2 h3 A' H' (Nat.le_trans h6 hl) fun e f2 h2' ρ2 w2 ft2 a2 q r1 r2 r3 r4 => hc e f2 h2' ρ2 w2 ft2 a2 q r1 r2 (Env.upto_trans (Env.upto_le hu h6) r3) r4
  · rename_i hg
    refine step_skip hJ ho hg h4 ?_
    exact hs _ _ hop b _ k cs L ρ FC w ft h1 h2 h3 (act_put h4 hd (vrel_undef _ _)) h5 h6 hc
  · exact hop.elim

theorem SemOps_of (hJ : Closed P main J) : ∀ (todo : List Nat) {dec : Dec} {f : RG} {h : List AObj}, decOk ops dec f → opsW P (Good P J) N ops todo dec f h (fun f h => Q .normal f h) → SemOps J N n0 fn ops todo f h Q
  | [], _, f, h, _, hq => SemOps_nil hJ hq
  | i :: todo, dec, f, h, hdec, hq => by
    unfold opsW at hq
    cases ho : ops[i]? with
    | none => rw [ho] at hq; exact hq.elim
    | some o =>
      rw [ho] at hq
      simp only at hq
      cases hc : dstOk N o with
      | false => rw [hc] at hq; exact hq.elim
      | true =>
        rw [hc, cond_true] at hq
        obtain ⟨w, dec', hd', hg, hq⟩ := goG_out hdec hq
        cases w with
        | true =>
          rw [cond_true] at hq
          exact SemOps_cons hJ ho (dstOk_lt hc) (opG_of hg hq) fun v h' k => SemOps_of hJ todo (decOk_put hd') k
        | false =>
          rw [cond_false] at hq
          refine SemOps_cons hJ ho (dstOk_lt hc) (K := fun v h' => v = undef ∧ h' = h) (opG_of hg ⟨rfl, rfl⟩) ?_
          rintro v h' ⟨rfl, rfl⟩
          exact SemOps_of hJ todo (decOk_skip ho hd') hq

theorem Sem_region_text (hJ : Closed P main J) {id : Nat} (hq : opsW P (Good P J) N ops (List.range ops.size) [] f h (fun f h => Q .normal f h)) : Sem J N n0 fn (.region id ops false) f h Q :=
  Sem_region hJ (SemOps_of hJ _ (fun j b e => by cases e) hq)

theorem SemOps_any (hJ : Closed P main J) {S : List AObj → Prop} : ∀ (n t : Nat) (L : Array Bool) (f : RG) (h : List AObj), AnyH P (Good P J) N ops S n L f h (fun f h => Q .normal f h) → SemOps J N n0 fn ops (Region.linearise.go .any ops n t L []) f h Q := by
  intro n
  induction n with
  | zero =>
    intro t L f h hA
    simp only [Region.linearise.go, List.reverse_nil]
    exact SemOps_nil hJ hA.2
  | succ n ih =>
    intro t L f h hA
    obtain ⟨h₀, h₁⟩ := hA
    simp only [Region.linearise.go]
    change SemOps J N n0 fn ops (match (Region.ready .any ops L)[t % (Region.ready .any ops L).length]? with
      | some i => Region.linearise.go .any ops n (t / (Region.ready .any ops L).length) (L.setIfInBounds i true) [i]
      | none => [].reverse) f h Q
    cases hi : (Region.ready .any ops L)[t % (Region.ready .any ops L).length]? with
    | none =>
      have hnil : Region.ready .any ops L = [] := by
        cases hr : Region.ready .any ops L with
        | nil => rfl
        | cons x xs =>
          rw [hr] at hi
          have hlt : t % (x :: xs).length < (x :: xs).length := Nat.mod_lt _ (by simp)
          simp at hi
          simp at hlt
          omega
      exact SemOps_nil hJ (h₀ hnil)
    | some i =>
      simp only []
      rw [linearise_go_acc, List.reverse_singleton, List.singleton_append]
      have hm := List.mem_of_getElem? hi
      have hm' := hm
      rw [mem_ready] at hm'
      obtain ⟨_, o, ho, _⟩ := hm'
      obtain ⟨hN, K', hK', hsub⟩ := h₁ i hm o ho
      exact SemOps_cons hJ ho hN hK' fun v h' k => ih _ _ _ _ (hsub v h' k).2

theorem Sem_region_draw (hJ : Closed P main J) (hm : P.follows .mixedOrders = true) {id : Nat} (hq : drawW P (Good P J) N ops f h (fun f h => Q .normal f h)) : Sem J N n0 fn (.region id ops true) f h Q := by
  have hA : ∃ S, AnyH P (Good P J) N ops S ops.size (Array.replicate ops.size false) f h (fun f h => Q .normal f h) := by
    unfold drawW at hq
    cases hs : still ops with
    | true =>
      rw [hs] at hq
      exact ⟨_, anyW_sound (B := none) (h0 := h) _ _ true [] f h (fun j b e => by cases e) (fun _ => rfl) hq⟩
    | false =>
      rw [hs] at hq
      obtain ⟨B, hq⟩ := hq
      exact ⟨_, anyW_sound (B := some B) (h0 := h) _ _ true [] f h (fun j b e => by cases e) (fun _ b _ => rfl) hq⟩
  obtain ⟨S, hA⟩ := hA
  intro b a k cs L ρ FC w ft h1 h2 h3 h4 h5 h6 hc
  refine hJ.step rfl fun w₁ h₁ => ⟨G (b.at a (.inRegion ops (Region.schedule (P.follows .mixedOrders) ops (w₁.tape w₁.drawn (.order b.fn id))) :: k)) cs, { w₁ with drawn := w₁.drawn + 1 }, #[], ?_, rfl, (Stays.drawn ft w₁ _).guar (by simp), ?_⟩
  · simp [G, stepG, stepG.exec, FB.at, choose, Go.Sem.run, Question.forced, Question.cut]
  · rw [show ({ w₁ with drawn := w₁.drawn + 1 } : World).heap = w₁.heap from rfl, Foot.ext_self]
    have H₁ := (h5.rely h₁).of_drawn (w₁.drawn + 1)
    simp only [Region.schedule, hm, Bool.true_or, if_true]
    exact SemOps_any hJ _ _ _ _ _ hA b a k cs L ρ FC _ ft h1 h2 h3 h4 H₁ h6 hc

/-- What a piece of code asks of the state ahead of it, that it may come to an end that fits Q. (Loops: by their own rule.) -/
def W (P : Program) (J : JT) (N n0 : Nat) (fn : FuncId) : Code → RG → List AObj → QT → Prop
  | .skip, f, h, Q => Q .normal f h
  | .label _, f, h, Q => Q .normal f h
  | .ret, f, h, Q => Q .ret f h
  | .exit id, f, h, Q => Q (.exit id) f h
  | .seq a b, f, h, Q => W P J N n0 fn a f h (thenK (fun f h => W P J N n0 fn b f h Q) Q)
  | .cond c a b, f, h, Q => cnd (ev f.r c) (W P J N n0 fn a f h Q) (W P J N n0 fn b f h Q)
  | .block id a, f, h, Q => W P J N n0 fn a f h (blockK id Q)
  | .scope a, f, h, Q => W P J N n0 fn a f h Q
  | .region _ ops draw, f, h, Q => bif draw then drawW P (Good P J) N ops f h (fun f h => Q .normal f h) else opsW P (Good P J) N ops (List.range ops.size) [] f h (fun f h => Q .normal f h)
  | c, f, h, Q => Sem J N n0 fn c f h Q

theorem W_sound (hJ : Closed P main J) (hm : P.follows .mixedOrders = true) : ∀ (c : Code) {f : RG} {h : List AObj} {Q : QT}, W P J N n0 fn c f h Q → Sem J N n0 fn c f h Q
  | .skip, f, h, Q, hw => Sem_skip hJ hw
  | .label _, f, h, Q, hw => Sem_label hJ hw
  | .ret, f, h, Q, hw => Sem_ret hw
  | .exit id, f, h, Q, hw => Sem_exit hJ hw
  | .seq a b, f, h, Q, hw => by
    refine Sem_seq hJ ((W_sound hJ hm a hw).mono fun e f h q => ?_)
    cases e with
    | normal => exact W_sound hJ hm b q
    | _ => exact q
  | .cond c a b, f, h, Q, hw => by
    simp only [W, cnd] at hw
    split at hw
    · rename_i t ht
      refine Sem_cond hJ ht ?_
      cases t with
      | true => exact W_sound hJ hm a (hw.1 rfl)
      | false => exact W_sound hJ hm b (hw.2 rfl)
    · exact hw.elim
  | .block id a, f, h, Q, hw => Sem_block hJ (W_sound hJ hm a hw)
  | .scope a, f, h, Q, hw => Sem_scope hJ (W_sound hJ hm a hw)
  | .region id ops draw, f, h, Q, hw => by
    cases draw with
    | true => exact Sem_region_draw hJ hm hw
    | false => exact Sem_region_text hJ hw
  | .loop _, f, h, Q, hw => hw
  | .rangeFunc .., f, h, Q, hw => hw
  | .goto _, f, h, Q, hw => hw
  | .refuse _, f, h, Q, hw => hw

def codeOf (fn : Func) : Code := fn.body.getD .skip

theorem good_of_W (hJ : Closed P main J) (hm : P.follows .mixedOrders = true) {g : FuncId} {args : List Value} {K : Value → List AObj → Prop} {fn : Func} (hf : P.funcs[g]? = some fn) {c : Code} (hb : fn.body = some c) (hn : (fn.name == "runtime.NumGoroutine") = false) (ha : args.length ≤ fn.ntmps)
    (hs : heapOk h → W P J fn.ntmps h.length g c ⟨regs args, []⟩ h (RetQ P fn.results.toList h.length K)) : Good P J g args h K :=
  good_of_sem hJ hf hb hn ha fun ok => W_sound hJ hm c (hs ok)
end
end Go.Proofs.Ytdgpacdknpahnaa

/- Pieces of a function's text by their place; loops by an invariant. No conditions. -/
namespace Go.Proofs.Ytdgpacdknpahnaa
open Go.Conc

def subC : List Nat → Code → Code
  | [], c => c
  | 0 :: p, .seq a _ => subC p a
  | _ :: p, .seq _ b => subC p b
  | 0 :: p, .cond _ a _ => subC p a
  | _ :: p, .cond _ _ b => subC p b
  | _ :: p, .block _ a => subC p a
  | _ :: p, .scope a => subC p a
  | _ :: p, .loop a => subC p a
  | 0 :: p, .rangeFunc _ _ a _ => subC p a
  | _ :: p, .rangeFunc _ _ _ b => subC p b
  | _, c => c

/-- What is asked behind a piece. 'nx': where the bodies of the loops around it end. -/
def contQ (P : Program) (J : JT) (N n0 : Nat) (fn : FuncId) : List Nat → Code → List (RG → List AObj → Prop) → QT → QT
  | 0 :: p, .seq a b, nx, Q => contQ P J N n0 fn p a nx (thenK (fun f h => W P J N n0 fn b f h Q) Q)
  | _ :: p, .seq _ b, nx, Q => contQ P J N n0 fn p b nx Q
  | 0 :: p, .cond _ a _, nx, Q => contQ P J N n0 fn p a nx Q
  | _ :: p, .cond _ _ b, nx, Q => contQ P J N n0 fn p b nx Q
  | _ :: p, .block id a, nx, Q => contQ P J N n0 fn p a nx (blockK id Q)
  | _ :: p, .scope a, nx, Q => contQ P J N n0 fn p a nx Q
  | _ :: p, .loop a, n :: nx, Q => contQ P J N n0 fn p a nx (thenK n Q)
  | _, _, _, Q => Q

/-- The invariant, here or where some blocks are forgotten. -/
def Gets {S : Type} (n0 : Nat) (I : S → RG → List AObj → Prop) (s : S) (f : RG) (h : List AObj) : Prop :=
  I s f h ∨ ∃ σ f' h', GCR n0 σ f h f' h' ∧ I s f' h'

/-- The end of a loop's body: the invariant again, with a lesser measure. -/
def Nx {S : Type} (n0 : Nat) (μ : S → Nat) (I : S → RG → List AObj → Prop) (s : S) : RG → List AObj → Prop := fun f h =>
  ∃ s', μ s' < μ s ∧ Gets n0 I s' f h

section
variable {P : Program} {main : Bool} {J : JT} {N n0 : Nat} {f : RG} {h : List AObj} {fn : FuncId} {Q : QT}

theorem loop_rule (hJ : Closed P main J) (hm : P.follows .mixedOrders = true) {c b : Code} (hc : c = .loop b) {S : Type} (μ : S → Nat) (I : S → RG → List AObj → Prop)
    (hI : ∀ s f h, I s f h → heapOk h → n0 ≤ h.length → W P J N n0 fn b f h (thenK (Nx n0 μ I s) Q))
    {s : S} (hi : Gets n0 I s f h) : Sem J N n0 fn c f h Q := by
  subst hc
  have body : ∀ s f h, I s f h → Sem J N n0 fn b f h (thenK (fun f h => ∃ m', m' < μ s ∧ ∃ s, m' = μ s ∧ Gets n0 I s f h) Q) := by
    intro s f h hi
    refine Sem.ok fun ok hn => (W_sound hJ hm b (hI s f h hi ok hn)).mono fun e f h q => ?_
    cases e with
    | normal =>
      obtain ⟨s', hlt, g⟩ := q
      exact ⟨μ s', hlt, s', rfl, g⟩
    | _ => exact q
  refine Sem_loop hJ (fun m f h => ∃ s, m = μ s ∧ Gets n0 I s f h) ?_ (m := μ s) ⟨s, rfl, hi⟩
  rintro m f h ⟨s, rfl, hi | ⟨σ, f', h', g, hi⟩⟩
  · exact body s f h hi
  · exact Sem.gc g (body s f' h' hi)
end

/-! ### words of the printed forms -/
def nuK : List Value → Prop → Prop
  | [], p => p
  | v :: vs, p => v ≠ unk ∧ nuK vs p

def retL (n0 : Nat) (K : Value → List AObj → Prop) (ds : List Nat) (vs : List Value) (h : List AObj) : Prop :=
  takeW ds h fun h => nuK vs (K (pack vs) h ∨ ∃ σ h' v, GC n0 σ h h' ∧ pack vs = sub σ v ∧ VOk h'.length v ∧ K v h')

def aNewS (n : Nat) (c : List Value) (h : List AObj) (K : Value → List AObj → Prop) : Prop := K (.slice (some ⟨h.length, 0, none⟩) n n) (h ++ [.cells c true 0])
def aNewM (h : List AObj) (K : Value → List AObj → Prop) : Prop := K (.map (some h.length)) (h ++ [.map [] true])
def aPick (c a b : Value) (K : Value → Prop) : Prop :=
  match c with
  | .bool t => K (bif t then a else b)
  | _ => False
def aConvI (k : IntKind) (x : Value) (K : Value → Prop) : Prop :=
  match x with
  | .int _ n => K (.int k (k.wrap n))
  | _ => False
def aMkF (f : FuncId) (first cap : List Value) (K : Value → Prop) : Prop := ((first ++ cap).all one) = true ∧ K (.func (.func f) ⟨first⟩ ⟨cap⟩)
end Go.Proofs.Ytdgpacdknpahnaa

/- The program follows the model's own orders. No conditions. -/
namespace Go.Proofs.Ytdgpacdknpahnaa
open Go Go.Proofs.Try
theorem mixed : prog.follows .mixedOrders = true := by kernel_rfl
end Go.Proofs.Ytdgpacdknpahnaa

/- Loops over functions: the rule of the loop, the rule of a round. No conditions. -/
namespace Go.Proofs.Ytdgpacdknpahnaa
open Go.Conc

/-- The registers in which a round begins. -/
def putAll : (Nat → Value) → List Nat → List Value → Nat → Value
  | r, t :: ts, v :: vs => putAll (fun i => bif i == t then v else r i) ts vs
  | r, _, _ => r

/-- Where a loop over a function goes on. -/
def jumpQ (pend : Option Code) (Q : QT) (f : RG) (h : List AObj) : Prop :=
  match pend with
  | none => Q .normal f h
  | some .ret => Q .ret f h
  | some (.exit id) => Q (.exit id) f h
  | _ => False

def endQ (n : Nat) (f : RG) (Q : QT) : Value → List AObj → Prop := fun _ h =>
  ∃ st pend fn r size params assign body dfr, h[n + 1]? = some (.loop st pend fn r size params assign body dfr) ∧ st ≠ .busy ∧ jumpQ pend Q ⟨f.r, n :: f.ds⟩ (h.set (n + 1) .dead)

def Fin (n0 : Nat) (K : Value → List AObj → Prop) (t : Bool) (h : List AObj) : Prop := K (.bool t) h ∨ ∃ σ h', GC n0 σ h h' ∧ K (.bool t) h'

/-- What is asked at the end of a round. -/
def roundQ (l n0 : Nat) (K : Value → List AObj → Prop) : QT := fun e _ h =>
  ∃ st pend fn r size params assign body dfr, h[l]? = some (.loop st pend fn r size params assign body dfr) ∧
    match e with
    | .normal => Fin n0 K true (h.set l (.loop .ready none fn r size params assign body dfr))
    | .exit id => Fin n0 K false (h.set l (.loop .done (some (.exit id)) fn r size params assign body dfr))
    | .ret => Fin n0 K false (h.set l (.loop .done (some .ret) fn r size params assign body dfr))
    | _ => False

section
variable {P : Program} {main : Bool} {J : JT} {N n0 : Nat} {ρ : Env} {h : List AObj} {FC : Frm} {w : World} {ft : Foot} {f : RG} {a : Act} {cs : List Frame} {b : FB} {fn : FuncId} {Q : QT}

theorem regs_putAll {n : Nat} : ∀ (ps : List Nat) (vs cs : List Value) {r : Nat → Value} {tmps : Array Value}, RegRel n ρ r tmps → (∀ t ∈ ps, t < tmps.size) → vs.length = cs.length → (∀ i : Nat, VRel n ρ (vs.getD i unk) (cs.getD i undef)) →
    RegRel n ρ (putAll r ps vs) ((ps.zip cs).foldl (fun tmps (t, a) => tmps.setIfInBounds t a) tmps) ∧ ((ps.zip cs).foldl (fun tmps (t, a) => tmps.setIfInBounds t a) tmps).size = tmps.size
  | [], vs, cs, r, tmps, hr, _, _, _ => by
    cases vs <;> exact ⟨hr, rfl⟩
  | t :: ps, [], cs, r, tmps, hr, _, hl, _ => by
    cases cs with
    | nil => exact ⟨hr, rfl⟩
    | cons c cs => cases hl
  | t :: ps, v :: vs, cs, r, tmps, hr, ht, hl, hv => by
    cases cs with
    | nil => cases hl
    | cons c cs =>
      have h0 := hv 0
      simp only [List.getD_cons_zero] at h0
      have := regs_putAll ps vs cs (regs_put hr (ht t (by simp)) h0) (fun x hx => by simpa using ht x (by simp [hx])) (by simpa using hl) (fun i => by simpa using hv (i + 1))
      simpa [putAll] using this

theorem zip_fold (ps : List Nat) (cs : List Value) (tmps : Array Value) : ((⟨ps⟩ : Array Tmp).zip ⟨cs⟩).foldl (fun tmps (t, a) => tmps.setIfInBounds t a) tmps = (ps.zip cs).foldl (fun tmps (t, a) => tmps.setIfInBounds t a) tmps := by
  rw [List.zip_toArray]
  simp

theorem tag_none (hb : b.tag = fn) (hf : fn < 1000000) : b.ro = none ∧ b.fn = fn := by
  unfold FB.tag at hb
  cases e : b.ro with
  | none => rw [e] at hb; exact ⟨rfl, hb⟩
  | some l =>
    rw [e] at hb
    have : (1000000 : Nat) ≤ fn := hb ▸ Nat.le_add_left _ _
    exact absurd hf (Nat.not_lt.2 this)

theorem Sem_range (hJ : Closed P main J) (hfn : fn < 1000000) {fop : Operand} {params : Array Tmp} {assign body : Code} {g : FuncId} {first cap : List Value} (hx : ev f.r fop = .func (.func g) ⟨first⟩ ⟨cap⟩) (hg : g < P.funcs.size)
    (hs : Good P J g (first ++ [.func (.yield (h.length + 1)) ⟨[]⟩ ⟨[]⟩] ++ cap) (h ++ [.deferred] ++ [.loop .ready none fn f.r N params assign body h.length]) (endQ h.length f Q)) : Sem J N n0 fn (.rangeFunc fop params assign body) f h Q := by
  intro b a k cs L ρ FC w ft h1 h2 h3 h4 h5 h6 hc
  obtain ⟨hro, hbf⟩ := tag_none h1 hfn
  have hk' : (b.kind == CallKind.early) = false := by simpa using h2
  obtain ⟨hok, hv⟩ := (ev_rel h4.regs fop).val (by rw [hx]; simp [unk])
  rw [hx] at hv hok
  simp only [ren, renFn, renA, renL_eq] at hv
  simp only [VOk, AOk] at hok
  have hcl : callable P g = true := by
    rcases hs.1 with ⟨_, x⟩ | ⟨x, _⟩
    · exact x
    · exact absurd hg (Nat.not_lt.2 x)
  refine hJ.step rfl fun w₁ hr => ?_
  have H₁ := h5.rely hr
  have G1 := H₁.push .deferred (.deferred (some [])) 0 trivial w₁.drawn
  have A1 := upto_act G1.upto G1.len h4
  have e1 : (h ++ [AObj.deferred]).length = h.length + 1 := by simp
  have b1 : (ρ.put h.length w₁.heap.size 0).blk h.length = w₁.heap.size := (Env.put_self ρ h.length w₁.heap.size 0).1
  have G2 := G1.rel.push (.loop .ready none fn f.r N params assign body h.length) (.loop { state := .ready, pending := none, fn, tmps := a.tmps, params, assign, body, defers := w₁.heap.size }) 0
    ⟨rfl, rfl, rfl, A1.regs.congr (Env.put_upto _ _ _ _) (by simp), A1.size, rfl, rfl, rfl, by
      have := (Env.put_upto (ρ.put h.length w₁.heap.size 0) (h ++ [AObj.deferred]).length (w₁.heap.push (.deferred (some []))).size 0) h.length (by simp)
      rw [this.1, b1], by simp; omega⟩ w₁.drawn
  have hent : RunsTo P (EvOk ft) (Instr.enterLoop fn a.tmps params assign body none) w₁ fun r w' => r = (w₁.heap.size + 1, [{ target := .collected w₁.heap.size, args := #[] }]) ∧
      w' = { w₁ with heap := (w₁.heap.push (.deferred (some []))).push (.loop { state := .ready, pending := none, fn, tmps := a.tmps, params, assign, body, defers := w₁.heap.size }) } := by
    unfold Instr.enterLoop
    refine RunsTo.bind (RunsTo.bind (RunsTo.new ?_))
    exact RunsTo.pure (P := P) (RunsTo.pure (P := P) ⟨by simp, rfl⟩)
  obtain ⟨r, w', es, hr1, he1, rfl, hw'⟩ := hent #[] (by simp)
  have hes1 : ∀ e ∈ seen P b.fn es, EvOk ft e := fun e hm => he1 e (mem_seen hm)
  have hres : RunsTo P (EvOk ft) (do let d ← resolve (b.at ⟨a.tmps, { target := .collected w₁.heap.size, args := #[] } :: a.defers⟩ (.inRangeFunc (w₁.heap.size + 1) :: k)).eval { callee := .value fop, args := #[.const (.func (.yield (w₁.heap.size + 1)) #[] #[])], argTypes := #[] } 0; invoke d.target d.args) w' fun nx w'' =>
      nx = .enter g ⟨first.map (ren ρ) ++ [.func (.yield (w₁.heap.size + 1)) #[] #[]] ++ cap.map (ren ρ)⟩ ∧ w'' = w' := by
    unfold resolve
    have hev : (b.at ⟨a.tmps, { target := .collected w₁.heap.size, args := #[] } :: a.defers⟩ (.inRangeFunc (w₁.heap.size + 1) :: k)).eval fop = .func (.func g) ⟨first.map (ren ρ)⟩ ⟨cap.map (ren ρ)⟩ := by
      rw [← hv]
      cases fop <;> rfl
    simp only [hev, Deferred.ofValue]
    refine RunsTo.bind (RunsTo.pure ?_)
    unfold invoke
    simp only
    refine callFunc_run hcl ⟨?_, rfl⟩
    congr 1
    apply Array.ext'
    simp [Frame.eval]
  obtain ⟨nx, w'', es2, hr2, he2, rfl, rfl⟩ := hres #[] (by simp)
  have hes2 : ∀ e ∈ seen P b.fn es2, EvOk ft e := fun e hm => he2 e (mem_seen hm)
  have hst : Stays ft w₁ w'' := by
    have := G1.stays.trans (w₂ := { w₁ with heap := (w₁.heap.push (.deferred (some []))).push (.loop { state := .ready, pending := none, fn, tmps := a.tmps, params, assign, body, defers := w₁.heap.size }) })
      ⟨fun y hy hn => by
        show ((w₁.heap.push _).push _)[y]? = (w₁.heap.push _)[y]?
        rw [Array.getElem?_push_lt hy, Array.getElem?_eq_getElem hy], by simp, rfl, rfl, rfl⟩
    rw [hw']
    exact this
  have hext : (ft.ext w₁.heap.size (w₁.heap.push (.deferred (some []))).size).ext (w₁.heap.push (.deferred (some []))).size w''.heap.size = ft.ext w₁.heap.size w''.heap.size := by
    have hsz : w''.heap.size = w₁.heap.size + 2 := by rw [hw']; simp
    simp only [Foot.ext, Foot.mk.injEq, hsz, Array.size_push]
    exact ⟨by funext y; by_cases hy : ft.rd y <;> simp [hy] <;> omega, by funext y; by_cases hy : ft.wr y <;> simp [hy] <;> omega⟩
  have H2 : HRel ((ρ.put h.length w₁.heap.size 0).put (h ++ [AObj.deferred]).length (w₁.heap.push (.deferred (some []))).size 0) (h ++ [.deferred] ++ [.loop .ready none fn f.r N params assign body h.length]) FC w'' (ft.ext w₁.heap.size w''.heap.size) := by
    rw [← hext, hw']
    exact G2.rel
  generalize hρ2 : ((ρ.put h.length w₁.heap.size 0).put (h ++ [AObj.deferred]).length (w₁.heap.push (.deferred (some []))).size 0) = ρ2 at H2
  have hu2 : Env.upto h.length ρ ρ2 := by
    rw [← hρ2]
    exact Env.upto_trans (Env.put_upto _ _ _ _) (Env.upto_le (Env.put_upto _ _ _ _) (by simp))
  have hbd : ρ2.blk h.length = w₁.heap.size := by
    rw [← hρ2]
    rw [((Env.put_upto (ρ.put h.length w₁.heap.size 0) (h ++ [AObj.deferred]).length (w₁.heap.push (.deferred (some []))).size 0) h.length (by simp)).1, b1]
  have hbl : ρ2.blk (h.length + 1) = w₁.heap.size + 1 := by
    rw [← hρ2]
    have := (Env.put_self (ρ.put h.length w₁.heap.size 0) (h ++ [AObj.deferred]).length (w₁.heap.push (.deferred (some []))).size 0).1
    rw [e1] at this
    rw [e1, this]
    simp
  refine ⟨G (Frame.enter P g ⟨first.map (ren ρ) ++ [.func (.yield (w₁.heap.size + 1)) #[] #[]] ++ cap.map (ren ρ)⟩ .normal) (b.at ⟨a.tmps, { target := .collected w₁.heap.size, args := #[] } :: a.defers⟩ (.inRangeFunc (w₁.heap.size + 1) :: k) :: cs), w'', seen P b.fn es ++ seen P b.fn es2, ?_, rfl, hst.guar (fun e hm => ?_), ?_⟩
  · have hr2' := hr2
    simp only [FB.at] at hr2'
    simp only [G, stepG, stepG.exec, FB.at, hro, hbf, hr1, GStep.after, stepG.apply]
    rw [hro, hbf] at hr2'
    simp only [List.cons_append, List.nil_append, hr2', if_true, hk']
    simp
  · rcases Array.mem_append.1 hm with hm | hm
    · exact hes1 e hm
    · exact hes2 e hm
  · have hargs : ∀ i : Nat, VRel (h ++ [AObj.deferred] ++ [AObj.loop .ready none fn f.r N params assign body h.length]).length ρ2 ((first ++ [Value.func (.yield (h.length + 1)) ⟨[]⟩ ⟨[]⟩] ++ cap).getD i unk) ((first.map (ren ρ) ++ [Value.func (.yield (w₁.heap.size + 1)) #[] #[]] ++ cap.map (ren ρ)).getD i undef) := by
      have hlen : h.length ≤ (h ++ [AObj.deferred] ++ [AObj.loop .ready none fn f.r N params assign body h.length]).length := by simp
      have hcg : ∀ l, LOk h.length l → l.map (ren ρ) = l.map (ren ρ2) := fun l hl => List.map_congr_left fun v hv => (ren_congr hu2 v ((LOk_iff l).1 hl v hv)).symm
      rw [hcg first hok.2.1, hcg cap hok.2.2]
      refine getD_app (by simp) (getD_app (by simp) (getD_ren (LOk.mono hlen _ hok.2.1)) fun i => ?_) (getD_ren (LOk.mono hlen _ hok.2.2))
      cases i with
      | zero => exact .inr ⟨by simp [VOk, FnOk, AOk, LOk], by simp [ren, renFn, renA, renL, hbl]⟩
      | succ i => exact .inl (by simp)
    refine hs.2 ρ2 FC w'' _ cs _ _ _ H2 hargs (by simp) (.inl ⟨hg, rfl⟩) fun v h' ρ' w3 ft3 cv hK H3 hu3 hl3 hv3 => ?_
    obtain ⟨st, pend, fn', r', size', params', assign', body', dfr', hlk, hst, hj⟩ := hK
    have hfin : (b.at ⟨a.tmps, { target := .collected w₁.heap.size, args := #[] } :: a.defers⟩ (.inRangeFunc (w₁.heap.size + 1) :: k)).finish cv = b.at ⟨a.tmps, { target := .collected w₁.heap.size, args := #[] } :: a.defers⟩ (.endRangeFunc (w₁.heap.size + 1) :: k) := rfl
    rw [hfin]
    have hlen2 : h.length + 2 = (h ++ [AObj.deferred] ++ [AObj.loop .ready none fn f.r N params assign body h.length]).length := by simp
    have hbl3 : ρ'.blk (h.length + 1) = w₁.heap.size + 1 := by rw [(hu3 _ (by omega)).1, hbl]
    have hbd3 : ρ'.blk h.length = w₁.heap.size := by rw [(hu3 _ (by omega)).1, hbd]
    have hu03 : Env.upto h.length ρ ρ' := Env.upto_trans hu2 (Env.upto_le hu3 (by omega))
    have A3 : ActRel h'.length ρ' N ⟨f.r, h.length :: f.ds⟩ ⟨a.tmps, { target := .collected w₁.heap.size, args := #[] } :: a.defers⟩ := by
      have A := upto_act (m := h'.length) hu03 (by omega) h4
      exact ⟨A.regs, A.size, by simp [A.defers, hbd3], by
        intro y hy
        rcases List.mem_cons.1 hy with rfl | hy
        · omega
        · exact A.ok y hy⟩
    refine hJ.step rfl fun w4 hr4 => ?_
    have H4 := H3.rely hr4
    have hobj := H4.obj _ _ hlk
    have hrd := H4.rd _ _ hlk rfl
    have hwr := H4.wr _ _ hlk rfl
    rw [hbl3] at hobj hrd hwr
    match hlo : w4.heap[w₁.heap.size + 1]?, hobj with
    | some (.loop lo), hobj =>
      obtain ⟨q1, q2, _⟩ := hobj
      have hend : RunsTo P (EvOk ft3) (Instr.endLoop (w₁.heap.size + 1)) w4 fun j w5 => j = pend ∧ w5 = { w4 with heap := w4.heap.setIfInBounds (w₁.heap.size + 1) (.loop { lo with state := .exhausted }) } := by
        unfold Instr.endLoop Instr.getLoop
        refine RunsTo.bind (RunsTo.bind (RunsTo.getObj hlo (fun _ _ _ e => by cases e) ⟨rfl, hrd, fun e => by cases e⟩ (RunsTo.pure ?_)))
        have : (lo.state == LoopState.busy) = false := by
          rw [q1]
          cases st <;> first | rfl | exact absurd rfl hst
        simp only [this]
        rw [if_neg (by simp)]
        exact RunsTo.bind (RunsTo.setObj hlo (fun _ _ _ e => by cases e) ⟨rfl, hrd, fun _ => hwr⟩ (RunsTo.pure ⟨q2, rfl⟩))
      obtain ⟨j, w5, es3, hr5, he5, rfl, hw5⟩ := hend #[] (by simp)
      have hes3 : ∀ e ∈ seen P b.fn es3, EvOk ft3 e := fun e hm => he5 e (mem_seen hm)
      have H5 := H4.clobber hlk rfl (.loop { lo with state := .exhausted })
      rw [hbl3, ← hw5] at H5
      have hst5 : Stays ft3 w4 w5 := by
        rw [hw5]
        refine ⟨fun y hy hny => ?_, by simp, rfl, rfl, rfl⟩
        show (w4.heap.setIfInBounds (w₁.heap.size + 1) _)[y]? = _
        rw [Array.getElem?_setIfInBounds, if_neg (fun e => hny (by rw [← e]; exact hwr))]
      have hsz5 : w5.heap.size = w4.heap.size := by rw [hw5]; simp
      refine ⟨G (b.at ⟨a.tmps, { target := .collected w₁.heap.size, args := #[] } :: a.defers⟩ ((j.map Item.code).toList ++ k)) cs, w5, seen P b.fn es3, ?_, rfl, hst5.guar hes3, ?_⟩
      · simp only [G, stepG, stepG.exec, FB.at, hr5, GStep.after]
        simp
      · rw [hsz5, Foot.ext_self]
        have hl5 : (h'.set (h.length + 1) .dead).length = h'.length := by simp
        have A5 : ActRel (h'.set (h.length + 1) .dead).length ρ' N ⟨f.r, h.length :: f.ds⟩ ⟨a.tmps, { target := .collected w₁.heap.size, args := #[] } :: a.defers⟩ := by rw [hl5]; exact A3
        have hu5 : Env.upto n0 ρ ρ' := Env.upto_le hu03 h6
        have hn5 : n0 ≤ (h'.set (h.length + 1) .dead).length := by rw [hl5]; omega
        unfold jumpQ at hj
        split at hj
        · exact hc _ _ _ _ _ _ _ hj A5 H5 hu5 hn5
        · have := hc _ _ _ _ _ _ _ hj A5 H5 hu5 hn5
          exact h3 _ _ _ _ _ this (.inl ⟨rfl, _, rfl⟩)
        · rename_i id
          have := hc _ _ _ _ _ _ _ hj A5 H5 hu5 hn5
          unfold AfterJ at this
          simp only at this
          cases he : exitTo id k with
          | some k' =>
            rw [he] at this
            exact hJ.ctrl rfl rfl (g' := G (b.at _ k') cs) (fun w => by simp [G, stepG, stepG.exec, FB.at, he]) this
          | none =>
            rw [he] at this
            exact h3 _ _ _ _ _ this (.inr (.inl ⟨id, k, rfl, rfl, he⟩))
        · exact hj.elim

/-- A round that is left: its loop is told how. -/
theorem leave_round (hJ : Closed P main J) {l : Nat} {c : Frame} {n0 : Nat} {K : Value → List AObj → Prop} {jump : Option Code} {todo : List Item} (hro : b.ro = some (ρ.blk l)) (hk : b.kind = .normal) (hh : Heads jump todo) (H : HRel ρ h FC w ft)
    {st : LoopState} {pend : Option Code} {fn : FuncId} {r : Nat → Value} {size : Nat} {params : Array Tmp} {assign body : Code} {dfr : Nat} (hl : h[l]? = some (.loop st pend fn r size params assign body dfr))
    (hF : Fin n0 K jump.isNone (h.set l (.loop (if jump.isNone then .ready else .done) jump fn r size params assign body dfr))) (hn : n0 ≤ h.length)
    (hc : ∀ v h' ρ' w' ft' cv, K v h' → HRel ρ' h' FC w' ft' → Env.upto n0 ρ ρ' → n0 ≤ h'.length → VRel h'.length ρ' v cv → J (G (c.finish cv) cs) w' ft') : J (G (b.at a todo) (c :: cs)) w ft := by
  refine hJ.step rfl fun w₁ hr => ?_
  have H₁ := H.rely hr
  have hobj := H₁.obj _ _ hl
  have hrd := H₁.rd _ _ hl rfl
  have hwr := H₁.wr _ _ hl rfl
  match hlo : w₁.heap[ρ.blk l]?, hobj with
  | some (.loop lo), hobj =>
    have hobj' := hobj
    obtain ⟨q1, q2, q3, q4, q5, q6, q7, q8, q9, q10⟩ := hobj'
    have hend : RunsTo P (EvOk ft) (Instr.endRound (ρ.blk l) jump) w₁ fun v w5 => v = .bool jump.isNone ∧ w5 = { w₁ with heap := w₁.heap.setIfInBounds (ρ.blk l) (.loop { lo with state := if jump.isNone then .ready else .done, pending := jump }) } := by
      unfold Instr.endRound Instr.getLoop
      refine RunsTo.bind (RunsTo.bind (RunsTo.getObj hlo (fun _ _ _ e => by cases e) ⟨rfl, hrd, fun e => by cases e⟩ (RunsTo.pure ?_)))
      exact RunsTo.bind (RunsTo.setObj hlo (fun _ _ _ e => by cases e) ⟨rfl, hrd, fun _ => hwr⟩ (RunsTo.pure ⟨rfl, rfl⟩))
    obtain ⟨v, w5, es, hrun, he, rfl, hw5⟩ := hend #[] (by simp)
    have hes : ∀ e ∈ seen P b.fn es, EvOk ft e := fun e hm => he e (mem_seen hm)
    have G5 := H₁.setBlk hl rfl (o := .loop (if jump.isNone then .ready else .done) jump fn r size params assign body dfr) (x := .loop { lo with state := if jump.isNone then .ready else .done, pending := jump }) rfl
      ⟨rfl, rfl, q3, q4, q5, q6, q7, q8, q9, q10⟩
    rw [← hw5] at G5
    refine ⟨G (c.finish (.bool jump.isNone)) cs, w5, seen P b.fn es, ?_, rfl, G5.stays.guar hes, ?_⟩
    · rcases hh with ⟨rfl, k, rfl⟩ | ⟨id, k, rfl, rfl, hex⟩ | ⟨rfl, rfl⟩
      · simp only [G, stepG, stepG.exec, FB.at, hro, hrun]
        simp [doReturn, GStep.after, hk]
      · simp only [G, stepG, stepG.exec, FB.at, hro, hex, Option.elim, hrun]
        simp [doReturn, GStep.after, hk]
      · simp only [G, stepG, stepG.exec, FB.at, hro, hrun]
        simp [doReturn, GStep.after, hk]
    · rcases hF with hK | ⟨σ, h', g, hK⟩
      · exact hc _ _ _ _ _ _ hK G5.rel (Env.upto_refl _ _) (by rw [List.length_set]; exact hn) (.inr ⟨by simp [VOk], by simp [ren]⟩)
      · exact hc _ _ _ _ _ _ hK (g.rel G5.rel) g.upto g.le (.inr ⟨by simp [VOk], by simp [ren]⟩)

theorem good_round (hJ : Closed P main J) {l : Nat} {args : List Value} {K : Value → List AObj → Prop} {pend : Option Code} {r : Nat → Value} {size : Nat} {params : Array Tmp} {assign body : Code} {dfr : Nat}
    (hl : h[l]? = some (.loop .ready pend fn r size params assign body dfr)) (hn : params.size = args.length) (hp : ∀ t ∈ params.toList, t < size)
    (hs : heapOk h → Sem J size h.length (fn + 1000000) assign ⟨putAll r params.toList args, []⟩ h fun e f1 h1 => e = .normal ∧ ∃ pend fn' r' size' params' assign' body' dfr', h1[l]? = some (.loop .ready pend fn' r' size' params' assign' body' dfr') ∧
      Sem J size h.length (fn + 1000000) body f1 (h1.set l (.loop .busy pend fn' r' size' params' assign' body' dfr')) (roundQ l h.length K)) : Good P J (yid P l) args h K := by
  have hge : P.funcs.size ≤ yid P l := Nat.le_add_right _ _
  have hll : yid P l - P.funcs.size = l := by simp [yid]
  have hlt : l < h.length := (List.getElem?_eq_some_iff.1 hl).1
  refine ⟨.inr ⟨hge, _, _, _, _, _, _, _, _, _, by rw [hll]; exact hl, hn⟩, fun ρ FC w ft cs c cargs fr H hr hlen hent hc => ?_⟩
  rcases hent with ⟨hlt, _⟩ | ⟨_, lo, hlo, hsz, rfl⟩
  · omega
  · rw [hll] at hlo
    rw [hll]
    have hobj := H.obj _ _ hl
    rw [hlo] at hobj
    obtain ⟨q1, q2, q3, q4, q5, q6, q7, q8, q9, q10⟩ := hobj
    subst q3
    have hreg := regs_putAll params.toList args cargs q4 (by rw [q5]; exact hp) hlen.symm hr
    have hz : (lo.params.zip ⟨cargs⟩).foldl (fun tmps (t, a) => tmps.setIfInBounds t a) lo.tmps = (params.toList.zip cargs).foldl (fun tmps (t, a) => tmps.setIfInBounds t a) lo.tmps := by
      rw [q6]
      exact zip_fold params.toList cargs lo.tmps
    rw [hz, q7, q8]
    have hfr : Frame.round (ρ.blk l) lo.fn ((params.toList.zip cargs).foldl (fun tmps (t, a) => tmps.setIfInBounds t a) lo.tmps) assign body .normal = FB.at ⟨lo.fn, .normal, some (ρ.blk l)⟩ ⟨(params.toList.zip cargs).foldl (fun tmps (t, a) => tmps.setIfInBounds t a) lo.tmps, []⟩ [.code assign, .beginRound, .code body] := rfl
    rw [hfr]
    refine hs H.ok ⟨lo.fn, .normal, some (ρ.blk l)⟩ _ [.beginRound, .code body] (c :: cs) (fun _ _ _ _ => False) ρ FC w ft rfl (by simp) (fun _ _ _ _ _ x _ => x.elim) ⟨hreg.1, by rw [hreg.2, q5], rfl, by simp⟩ H (Nat.le_refl _) ?_
    intro e f1 h1 ρ1 w1 ft1 a1 q A1 H1 hu1 hn1
    obtain ⟨rfl, pend', fn', r', size', params', assign', body', dfr', hl1, hb⟩ := q
    show J (G (FB.at ⟨lo.fn, .normal, some (ρ.blk l)⟩ a1 [.beginRound, .code body]) (c :: cs)) w1 ft1
    refine hJ.step rfl fun w2 hr2 => ?_
    have H2 := H1.rely hr2
    have hbl : ρ1.blk l = ρ.blk l := (hu1 l hlt).1
    have hobj := H2.obj _ _ hl1
    have hrd := H2.rd _ _ hl1 rfl
    have hwr := H2.wr _ _ hl1 rfl
    match hlo2 : w2.heap[ρ1.blk l]?, hobj with
    | some (.loop lo2), hobj =>
      obtain ⟨p1, p2, p3, p4, p5, p6, p7, p8, p9, p10⟩ := hobj
      have hrun : RunsTo P (EvOk ft1) (do (some (ρ.blk l)).elim (stuck "beginRound: no round") Instr.beginRound; pure Next.skip) w2 fun nx w3 => nx = .skip ∧ w3 = { w2 with heap := w2.heap.setIfInBounds (ρ1.blk l) (.loop { lo2 with state := .busy }) } := by
        simp only [Option.elim]
        rw [← hbl]
        unfold Instr.beginRound Instr.getLoop
        refine RunsTo.bind (RunsTo.bind (RunsTo.bind (RunsTo.getObj hlo2 (fun _ _ _ e => by cases e) ⟨rfl, hrd, fun e => by cases e⟩ (RunsTo.pure ?_))))
        refine RunsTo.bind (RunsTo.setObj hlo2 (fun _ _ _ e => by cases e) ⟨rfl, hrd, fun _ => hwr⟩ ?_)
        rw [p1]
        exact RunsTo.pure (RunsTo.pure ⟨rfl, rfl⟩)
      obtain ⟨nx, w3, es, hr3, he3, rfl, hw3⟩ := hrun #[] (by simp)
      have hes : ∀ e ∈ seen P lo.fn es, EvOk ft1 e := fun e hm => he3 e (mem_seen hm)
      have G3 := H2.setBlk hl1 rfl (o := .loop .busy pend' fn' r' size' params' assign' body' dfr') (x := .loop { lo2 with state := .busy }) rfl ⟨rfl, p2, p3, p4, p5, p6, p7, p8, p9, p10⟩
      rw [← hw3] at G3
      refine ⟨G (FB.at ⟨lo.fn, .normal, some (ρ.blk l)⟩ a1 [.code body]) (c :: cs), w3, seen P lo.fn es, ?_, rfl, G3.stays.guar hes, ?_⟩
      · simp only [G, stepG, stepG.exec, FB.at, stepG.apply, hr3, if_true]
        simp [GStep.after, Frame.finish]
      · have A3 := upto_act G3.upto G3.len A1
        refine hb ⟨lo.fn, .normal, some (ρ.blk l)⟩ a1 [] (c :: cs) (fun jump a w ft => ∀ todo, Heads jump todo → J (G (FB.at ⟨lo.fn, .normal, some (ρ.blk l)⟩ a todo) (c :: cs)) w ft) ρ1 FC w3 _ rfl (by simp) (fun _ _ _ _ _ x y => x _ y) A3 G3.rel (by rw [List.length_set]; exact hn1) ?_
        intro e f4 h4 ρ4 w4 ft4 a4 q A4 H4 hu4 hn4
        obtain ⟨st, pend, fn, r, size, params, assign, body, dfr, hl4, hq⟩ := q
        have hu : Env.upto h.length ρ ρ4 := Env.upto_trans hu1 hu4
        have hro : (⟨lo.fn, .normal, some (ρ.blk l)⟩ : FB).ro = some (ρ4.blk l) := by rw [(hu l hlt).1]
        have fin : ∀ (jump : Option Code), Fin h.length K jump.isNone (h4.set l (.loop (if jump.isNone then .ready else .done) jump fn r size params assign body dfr)) → ∀ todo, Heads jump todo → J (G (FB.at ⟨lo.fn, .normal, some (ρ.blk l)⟩ a4 todo) (c :: cs)) w4 ft4 :=
          fun jump hF todo hh => leave_round hJ hro rfl hh H4 hl4 hF hn4 fun v h' ρ' w' ft' cv k r1 r2 r3 r4 => hc v h' ρ' w' ft' cv k r1 (Env.upto_trans hu r2) r3 r4
        cases e with
        | normal => exact fin none hq [] (.inr (.inr ⟨rfl, rfl⟩))
        | exit id => exact fin (some (.exit id)) hq
        | ret => exact fin (some .ret) hq
        | goto l => exact hq.elim
        | panic l => exact hq.elim
        | outgrown => exact hq.elim
end
end Go.Proofs.Ytdgpacdknpahnaa

/- Printed by program: the forms to which the bodies of some functions come down. No conditions. -/
namespace Go.Proofs.Ytdgpacdknpahnaa
open Go.Conc Go.Proofs.Try
set_option maxRecDepth 100000
set_option linter.unusedVariables false
section
variable {main : Bool} {J : JT} {n0 : Nat} {h : List AObj} {K : Value → List AObj → Prop}
theorem at43 : prog.funcs[43]? = some f43 := by kernel_rfl
theorem body43 : f43.body = some (codeOf f43) := by kernel_rfl
theorem e43 {a0 : Value} : W prog J 13 h.length 43 (codeOf f43) (RG.mk (regs [a0]) []) h (RetQ prog [.tmp 2] h.length K) =
(aBox a0 h fun v1 h2 =>
aOff v1 3 fun v3 =>
aLoad false 1 v3 h2 fun v4 =>
aLenS v4 fun v5 =>
aBin prog .gtr 3 v5 (vint 20) fun v6 =>
cnd v6
(retL h.length K [] [(Value.bool true)] h2)
(aOff v1 5 fun v7 =>
aLoad false 1 v7 h2 fun v8 =>
aLenS v8 fun v9 =>
aBin prog .gtr 3 v9 (vint 20) fun v10 =>
retL h.length K [] [v10] h2)) := by kernel_rfl
theorem g43 (hJ : Closed prog main J) {a0 : Value} (hs : heapOk h → W prog J 13 h.length 43 (codeOf f43) (RG.mk (regs [a0]) []) h (RetQ prog [.tmp 2] h.length K)) : Good prog J 43 [a0] h K :=
  good_of_W hJ mixed at43 body43 (by kernel_rfl) (Nat.le_of_ble_eq_true rfl) hs
theorem at11 : prog.funcs[11]? = some f11 := by kernel_rfl
theorem body11 : f11.body = some (codeOf f11) := by kernel_rfl
theorem e11 {a0 a1 a2 a3 a4 : Value} : W prog J 143 h.length 11 (codeOf f11) (RG.mk (regs [a0, a1, a2, a3, a4]) []) h (RetQ prog [.tmp 10] h.length K) =
(aBox a0 h fun v1 h2 =>
aBox a1 h2 fun v3 h4 =>
aLoad true 6 v1 h4 fun v5 =>
Good prog J 43 [v5] h4 fun v6 h7 =>
cnd v6
(Good prog J 18 [] h7 fun v8 h9 =>
retL h.length K [] [v8] h9)
(Good prog J 19 [a4] h7 fun v10 h11 =>
Good prog J 28 [v10, (vint 5), (vint 6)] h11 fun v12 h13 =>
aAlloc [(vint 0), (vint 0), (vint 0), (Value.slice none 0 0), (vint 0), (Value.slice none 0 0)] h13 fun v14 h15 =>
aStore 6 v14 v12 h15 fun h16 =>
aLoad true 6 v14 h16 fun v17 =>
Good prog J 38 [v17] h16 fun v18 h19 =>
aAlloc [(vint 0), (vint 0), (vint 0), (Value.slice none 0 0), (vint 0), (Value.slice none 0 0)] h19 fun v20 h21 =>
aStore 6 v20 v18 h21 fun h22 =>
aOff v20 5 fun v23 =>
aLoad false 1 v23 h22 fun v24 =>
aLoad true 4 v3 h22 fun v25 =>
((1 * 4 ≤ 16777216 ∧ 1 ≤ 16777216 ∧ List.length [(vint 0), (vint 0), (vint 0), (vint 0)] = 4) ∧ aFill (zrep [(vint 0), (vint 0), (vint 0), (vint 0)] 1) [(0, 4, v25)] fun c26 =>
aNewS 1 c26 h22 fun v27 h28 =>
((List.length [(vint 0), (vint 0), (vint 0), (vint 0)] = 4 ∧ 0 < 4 ∧ 0 < 32 ∧ 32 ≤ 1024) ∧ aApp 4 v24 v27 h28 fun v29 h30 =>
aOff v20 5 fun v31 =>
aStore 1 v31 v29 h30 fun h32 =>
(∃ B, aLoad true 6 v1 h32 fun v33 =>
RdOk (some B) (ptrBlk v1) ∧ (aLoad true 6 v14 h32 fun v34 =>
RdOk (some B) (ptrBlk v14) ∧ (aLoad true 6 v20 h32 fun v35 =>
RdOk (some B) (ptrBlk v20) ∧ (aLoad true 6 v14 h32 fun v36 =>
RdOk (some B) (ptrBlk v14) ∧ (aOff v14 0 fun v37 =>
aLoad false 1 v37 h32 fun v38 =>
RdOk (some B) (ptrBlk v37) ∧ (aBin prog .sub 3 v38 (vint 1) fun v39 =>
(((4 * 6 ≤ 16777216 ∧ 4 ≤ 16777216 ∧ List.length [(vint 0), (vint 0), (vint 0), (Value.slice none 0 0), (vint 0), (Value.slice none 0 0)] = 6) ∧ aFill (zrep [(vint 0), (vint 0), (vint 0), (Value.slice none 0 0), (vint 0), (Value.slice none 0 0)] 4) [(0, 6, v33), (6, 6, v34), (12, 6, v35), (18, 6, v36)] fun c40 =>
aNewS 4 c40 h32 fun v41 h42 =>
SameB (some B) h32 h42 ∧ (Good prog J 22 [v10, v39] h42 fun v43 h44 =>
SameB (some B) h32 h44 ∧ ((((4 * 1 ≤ 16777216 ∧ 4 ≤ 16777216 ∧ List.length [(vint 0)] = 1) ∧ aFill (zrep [(vint 0)] 4) [(0, 1, a2), (1, 1, v43), (2, 1, (vint 0)), (3, 1, a2)] fun c45 =>
aNewS 4 c45 h44 fun v46 h47 =>
SameB (some B) h32 h47 ∧ (Good prog J 20 [v10, (vint 20), (vint 60)] h47 fun v48 h49 =>
SameB (some B) h32 h49 ∧ (((4 * 1 ≤ 16777216 ∧ 4 ≤ 16777216 ∧ List.length [(vint 0)] = 1) ∧ aFill (zrep [(vint 0)] 4) [(0, 1, a3), (1, 1, v48), (2, 1, a3), (3, 1, a3)] fun c50 =>
aNewS 4 c50 h49 fun v51 h52 =>
SameB (some B) h32 h52 ∧ (W prog J 143 h.length 11 (subC [1, 1, 1, 1, 1, 1, 1] (codeOf f11)) (((((((((((((((((((((((((((((((((((((((((((RG.mk (regs [a0, a1, a2, a3, a4]) []).put 5 v1).put 6 v3).put 10 (Value.bool false)).put 27 v5).put 28 v6).put 30 a4).put 31 v10).put 11 v10).put 32 v10).put 33 v12).put 12 v14).put 34 v17).put 35 v18).put 13 v20).put 36 v23).put 37 v24).put 38 v25).put 39 v27).put 40 v29).put 41 v31).put 42 v33).put 43 v34).put 44 v35).put 45 v36).put 47 a2).put 48 v10).put 49 v37).put 50 v38).put 51 v39).put 53 a2).put 55 a3).put 56 v10).put 58 a3).put 59 a3).put 46 v41).put 52 v43).put 54 v46).put 57 v48).put 14 v41).put 15 v46).put 60 v51).put 16 v51) h52 (contQ prog J 143 h.length 11 [1, 1, 1, 1, 1, 1, 1] (codeOf f11) [] (RetQ prog [.tmp 10] h.length K)))))))) ∧ (Good prog J 20 [v10, (vint 20), (vint 60)] h44 fun v53 h54 =>
SameB (some B) h32 h54 ∧ ((((4 * 1 ≤ 16777216 ∧ 4 ≤ 16777216 ∧ List.length [(vint 0)] = 1) ∧ aFill (zrep [(vint 0)] 4) [(0, 1, a2), (1, 1, v43), (2, 1, (vint 0)), (3, 1, a2)] fun c55 =>
aNewS 4 c55 h54 fun v56 h57 =>
SameB (some B) h32 h57 ∧ (((4 * 1 ≤ 16777216 ∧ 4 ≤ 16777216 ∧ List.length [(vint 0)] = 1) ∧ aFill (zrep [(vint 0)] 4) [(0, 1, a3), (1, 1, v53), (2, 1, a3), (3, 1, a3)] fun c58 =>
aNewS 4 c58 h57 fun v59 h60 =>
SameB (some B) h32 h60 ∧ (W prog J 143 h.length 11 (subC [1, 1, 1, 1, 1, 1, 1] (codeOf f11)) (((((((((((((((((((((((((((((((((((((((((((RG.mk (regs [a0, a1, a2, a3, a4]) []).put 5 v1).put 6 v3).put 10 (Value.bool false)).put 27 v5).put 28 v6).put 30 a4).put 31 v10).put 11 v10).put 32 v10).put 33 v12).put 12 v14).put 34 v17).put 35 v18).put 13 v20).put 36 v23).put 37 v24).put 38 v25).put 39 v27).put 40 v29).put 41 v31).put 42 v33).put 43 v34).put 44 v35).put 45 v36).put 47 a2).put 48 v10).put 49 v37).put 50 v38).put 51 v39).put 53 a2).put 55 a3).put 56 v10).put 58 a3).put 59 a3).put 46 v41).put 52 v43).put 57 v53).put 14 v41).put 54 v56).put 15 v56).put 60 v59).put 16 v59) h60 (contQ prog J 143 h.length 11 [1, 1, 1, 1, 1, 1, 1] (codeOf f11) [] (RetQ prog [.tmp 10] h.length K))))))) ∧ (((4 * 1 ≤ 16777216 ∧ 4 ≤ 16777216 ∧ List.length [(vint 0)] = 1) ∧ aFill (zrep [(vint 0)] 4) [(0, 1, a3), (1, 1, v53), (2, 1, a3), (3, 1, a3)] fun c61 =>
aNewS 4 c61 h54 fun v62 h63 =>
SameB (some B) h32 h63 ∧ (((4 * 1 ≤ 16777216 ∧ 4 ≤ 16777216 ∧ List.length [(vint 0)] = 1) ∧ aFill (zrep [(vint 0)] 4) [(0, 1, a2), (1, 1, v43), (2, 1, (vint 0)), (3, 1, a2)] fun c64 =>
aNewS 4 c64 h63 fun v65 h66 =>
SameB (some B) h32 h66 ∧ (W prog J 143 h.length 11 (subC [1, 1, 1, 1, 1, 1, 1] (codeOf f11)) (((((((((((((((((((((((((((((((((((((((((((RG.mk (regs [a0, a1, a2, a3, a4]) []).put 5 v1).put 6 v3).put 10 (Value.bool false)).put 27 v5).put 28 v6).put 30 a4).put 31 v10).put 11 v10).put 32 v10).put 33 v12).put 12 v14).put 34 v17).put 35 v18).put 13 v20).put 36 v23).put 37 v24).put 38 v25).put 39 v27).put 40 v29).put 41 v31).put 42 v33).put 43 v34).put 44 v35).put 45 v36).put 47 a2).put 48 v10).put 49 v37).put 50 v38).put 51 v39).put 53 a2).put 55 a3).put 56 v10).put 58 a3).put 59 a3).put 46 v41).put 52 v43).put 57 v53).put 14 v41).put 60 v62).put 54 v65).put 15 v65).put 16 v62) h66 (contQ prog J 143 h.length 11 [1, 1, 1, 1, 1, 1, 1] (codeOf f11) [] (RetQ prog [.tmp 10] h.length K))))))))))))) ∧ (Good prog J 22 [v10, v39] h32 fun v67 h68 =>
SameB (some B) h32 h68 ∧ ((((4 * 6 ≤ 16777216 ∧ 4 ≤ 16777216 ∧ List.length [(vint 0), (vint 0), (vint 0), (Value.slice none 0 0), (vint 0), (Value.slice none 0 0)] = 6) ∧ aFill (zrep [(vint 0), (vint 0), (vint 0), (Value.slice none 0 0), (vint 0), (Value.slice none 0 0)] 4) [(0, 6, v33), (6, 6, v34), (12, 6, v35), (18, 6, v36)] fun c69 =>
aNewS 4 c69 h68 fun v70 h71 =>
SameB (some B) h32 h71 ∧ ((((4 * 1 ≤ 16777216 ∧ 4 ≤ 16777216 ∧ List.length [(vint 0)] = 1) ∧ aFill (zrep [(vint 0)] 4) [(0, 1, a2), (1, 1, v67), (2, 1, (vint 0)), (3, 1, a2)] fun c72 =>
aNewS 4 c72 h71 fun v73 h74 =>
SameB (some B) h32 h74 ∧ (Good prog J 20 [v10, (vint 20), (vint 60)] h74 fun v75 h76 =>
SameB (some B) h32 h76 ∧ (((4 * 1 ≤ 16777216 ∧ 4 ≤ 16777216 ∧ List.length [(vint 0)] = 1) ∧ aFill (zrep [(vint 0)] 4) [(0, 1, a3), (1, 1, v75), (2, 1, a3), (3, 1, a3)] fun c77 =>
aNewS 4 c77 h76 fun v78 h79 =>
SameB (some B) h32 h79 ∧ (W prog J 143 h.length 11 (subC [1, 1, 1, 1, 1, 1, 1] (codeOf f11)) (((((((((((((((((((((((((((((((((((((((((((RG.mk (regs [a0, a1, a2, a3, a4]) []).put 5 v1).put 6 v3).put 10 (Value.bool false)).put 27 v5).put 28 v6).put 30 a4).put 31 v10).put 11 v10).put 32 v10).put 33 v12).put 12 v14).put 34 v17).put 35 v18).put 13 v20).put 36 v23).put 37 v24).put 38 v25).put 39 v27).put 40 v29).put 41 v31).put 42 v33).put 43 v34).put 44 v35).put 45 v36).put 47 a2).put 48 v10).put 49 v37).put 50 v38).put 51 v39).put 53 a2).put 55 a3).put 56 v10).put 58 a3).put 59 a3).put 52 v67).put 46 v70).put 54 v73).put 57 v75).put 14 v70).put 15 v73).put 60 v78).put 16 v78) h79 (contQ prog J 143 h.length 11 [1, 1, 1, 1, 1, 1, 1] (codeOf f11) [] (RetQ prog [.tmp 10] h.length K)))))))) ∧ (Good prog J 20 [v10, (vint 20), (vint 60)] h71 fun v80 h81 =>
SameB (some B) h32 h81 ∧ ((((4 * 1 ≤ 16777216 ∧ 4 ≤ 16777216 ∧ List.length [(vint 0)] = 1) ∧ aFill (zrep [(vint 0)] 4) [(0, 1, a2), (1, 1, v67), (2, 1, (vint 0)), (3, 1, a2)] fun c82 =>
aNewS 4 c82 h81 fun v83 h84 =>
SameB (some B) h32 h84 ∧ (((4 * 1 ≤ 16777216 ∧ 4 ≤ 16777216 ∧ List.length [(vint 0)] = 1) ∧ aFill (zrep [(vint 0)] 4) [(0, 1, a3), (1, 1, v80), (2, 1, a3), (3, 1, a3)] fun c85 =>
aNewS 4 c85 h84 fun v86 h87 =>
SameB (some B) h32 h87 ∧ (W prog J 143 h.length 11 (subC [1, 1, 1, 1, 1, 1, 1] (codeOf f11)) (((((((((((((((((((((((((((((((((((((((((((RG.mk (regs [a0, a1, a2, a3, a4]) []).put 5 v1).put 6 v3).put 10 (Value.bool false)).put 27 v5).put 28 v6).put 30 a4).put 31 v10).put 11 v10).put 32 v10).put 33 v12).put 12 v14).put 34 v17).put 35 v18).put 13 v20).put 36 v23).put 37 v24).put 38 v25).put 39 v27).put 40 v29).put 41 v31).put 42 v33).put 43 v34).put 44 v35).put 45 v36).put 47 a2).put 48 v10).put 49 v37).put 50 v38).put 51 v39).put 53 a2).put 55 a3).put 56 v10).put 58 a3).put 59 a3).put 52 v67).put 46 v70).put 57 v80).put 14 v70).put 54 v83).put 15 v83).put 60 v86).put 16 v86) h87 (contQ prog J 143 h.length 11 [1, 1, 1, 1, 1, 1, 1] (codeOf f11) [] (RetQ prog [.tmp 10] h.length K))))))) ∧ (((4 * 1 ≤ 16777216 ∧ 4 ≤ 16777216 ∧ List.length [(vint 0)] = 1) ∧ aFill (zrep [(vint 0)] 4) [(0, 1, a3), (1, 1, v80), (2, 1, a3), (3, 1, a3)] fun c88 =>
aNewS 4 c88 h81 fun v89 h90 =>
SameB (some B) h32 h90 ∧ (((4 * 1 ≤ 16777216 ∧ 4 ≤ 16777216 ∧ List.length [(vint 0)] = 1) ∧ aFill (zrep [(vint 0)] 4) [(0, 1, a2), (1, 1, v67), (2, 1, (vint 0)), (3, 1, a2)] fun c91 =>
aNewS 4 c91 h90 fun v92 h93 =>
SameB (some B) h32 h93 ∧ (W prog J 143 h.length 11 (subC [1, 1, 1, 1, 1, 1, 1] (codeOf f11)) (((((((((((((((((((((((((((((((((((((((((((RG.mk (regs [a0, a1, a2, a3, a4]) []).put 5 v1).put 6 v3).put 10 (Value.bool false)).put 27 v5).put 28 v6).put 30 a4).put 31 v10).put 11 v10).put 32 v10).put 33 v12).put 12 v14).put 34 v17).put 35 v18).put 13 v20).put 36 v23).put 37 v24).put 38 v25).put 39 v27).put 40 v29).put 41 v31).put 42 v33).put 43 v34).put 44 v35).put 45 v36).put 47 a2).put 48 v10).put 49 v37).put 50 v38).put 51 v39).put 53 a2).put 55 a3).put 56 v10).put 58 a3).put 59 a3).put 52 v67).put 46 v70).put 57 v80).put 14 v70).put 60 v89).put 54 v92).put 15 v92).put 16 v89) h93 (contQ prog J 143 h.length 11 [1, 1, 1, 1, 1, 1, 1] (codeOf f11) [] (RetQ prog [.tmp 10] h.length K)))))))))))) ∧ (((4 * 1 ≤ 16777216 ∧ 4 ≤ 16777216 ∧ List.length [(vint 0)] = 1) ∧ aFill (zrep [(vint 0)] 4) [(0, 1, a2), (1, 1, v67), (2, 1, (vint 0)), (3, 1, a2)] fun c94 =>
aNewS 4 c94 h68 fun v95 h96 =>
SameB (some B) h32 h96 ∧ ((((4 * 6 ≤ 16777216 ∧ 4 ≤ 16777216 ∧ List.length [(vint 0), (vint 0), (vint 0), (Value.slice none 0 0), (vint 0), (Value.slice none 0 0)] = 6) ∧ aFill (zrep [(vint 0), (vint 0), (vint 0), (Value.slice none 0 0), (vint 0), (Value.slice none 0 0)] 4) [(0, 6, v33), (6, 6, v34), (12, 6, v35), (18, 6, v36)] fun c97 =>
aNewS 4 c97 h96 fun v98 h99 =>
SameB (some B) h32 h99 ∧ (Good prog J 20 [v10, (vint 20), (vint 60)] h99 fun v100 h101 =>
SameB (some B) h32 h101 ∧ (((4 * 1 ≤ 16777216 ∧ 4 ≤ 16777216 ∧ List.length [(vint 0)] = 1) ∧ aFill (zrep [(vint 0)] 4) [(0, 1, a3), (1, 1, v100), (2, 1, a3), (3, 1, a3)] fun c102 =>
aNewS 4 c102 h101 fun v103 h104 =>
SameB (some B) h32 h104 ∧ (W prog J 143 h.length 11 (subC [1, 1, 1, 1, 1, 1, 1] (codeOf f11)) (((((((((((((((((((((((((((((((((((((((((((RG.mk (regs [a0, a1, a2, a3, a4]) []).put 5 v1).put 6 v3).put 10 (Value.bool false)).put 27 v5).put 28 v6).put 30 a4).put 31 v10).put 11 v10).put 32 v10).put 33 v12).put 12 v14).put 34 v17).put 35 v18).put 13 v20).put 36 v23).put 37 v24).put 38 v25).put 39 v27).put 40 v29).put 41 v31).put 42 v33).put 43 v34).put 44 v35).put 45 v36).put 47 a2).put 48 v10).put 49 v37).put 50 v38).put 51 v39).put 53 a2).put 55 a3).put 56 v10).put 58 a3).put 59 a3).put 52 v67).put 54 v95).put 46 v98).put 57 v100).put 14 v98).put 15 v95).put 60 v103).put 16 v103) h104 (contQ prog J 143 h.length 11 [1, 1, 1, 1, 1, 1, 1] (codeOf f11) [] (RetQ prog [.tmp 10] h.length K)))))))) ∧ (Good prog J 20 [v10, (vint 20), (vint 60)] h96 fun v105 h106 =>
SameB (some B) h32 h106 ∧ ((((4 * 6 ≤ 16777216 ∧ 4 ≤ 16777216 ∧ List.length [(vint 0), (vint 0), (vint 0), (Value.slice none 0 0), (vint 0), (Value.slice none 0 0)] = 6) ∧ aFill (zrep [(vint 0), (vint 0), (vint 0), (Value.slice none 0 0), (vint 0), (Value.slice none 0 0)] 4) [(0, 6, v33), (6, 6, v34), (12, 6, v35), (18, 6, v36)] fun c107 =>
aNewS 4 c107 h106 fun v108 h109 =>
SameB (some B) h32 h109 ∧ (((4 * 1 ≤ 16777216 ∧ 4 ≤ 16777216 ∧ List.length [(vint 0)] = 1) ∧ aFill (zrep [(vint 0)] 4) [(0, 1, a3), (1, 1, v105), (2, 1, a3), (3, 1, a3)] fun c110 =>
aNewS 4 c110 h109 fun v111 h112 =>
SameB (some B) h32 h112 ∧ (W prog J 143 h.length 11 (subC [1, 1, 1, 1, 1, 1, 1] (codeOf f11)) (((((((((((((((((((((((((((((((((((((((((((RG.mk (regs [a0, a1, a2, a3, a4]) []).put 5 v1).put 6 v3).put 10 (Value.bool false)).put 27 v5).put 28 v6).put 30 a4).put 31 v10).put 11 v10).put 32 v10).put 33 v12).put 12 v14).put 34 v17).put 35 v18).put 13 v20).put 36 v23).put 37 v24).put 38 v25).put 39 v27).put 40 v29).put 41 v31).put 42 v33).put 43 v34).put 44 v35).put 45 v36).put 47 a2).put 48 v10).put 49 v37).put 50 v38).put 51 v39).put 53 a2).put 55 a3).put 56 v10).put 58 a3).put 59 a3).put 52 v67).put 54 v95).put 57 v105).put 46 v108).put 14 v108).put 15 v95).put 60 v111).put 16 v111) h112 (contQ prog J 143 h.length 11 [1, 1, 1, 1, 1, 1, 1] (codeOf f11) [] (RetQ prog [.tmp 10] h.length K))))))) ∧ (((4 * 1 ≤ 16777216 ∧ 4 ≤ 16777216 ∧ List.length [(vint 0)] = 1) ∧ aFill (zrep [(vint 0)] 4) [(0, 1, a3), (1, 1, v105), (2, 1, a3), (3, 1, a3)] fun c113 =>
aNewS 4 c113 h106 fun v114 h115 =>
SameB (some B) h32 h115 ∧ (((4 * 6 ≤ 16777216 ∧ 4 ≤ 16777216 ∧ List.length [(vint 0), (vint 0), (vint 0), (Value.slice none 0 0), (vint 0), (Value.slice none 0 0)] = 6) ∧ aFill (zrep [(vint 0), (vint 0), (vint 0), (Value.slice none 0 0), (vint 0), (Value.slice none 0 0)] 4) [(0, 6, v33), (6, 6, v34), (12, 6, v35), (18, 6, v36)] fun c116 =>
aNewS 4 c116 h115 fun v117 h118 =>
SameB (some B) h32 h118 ∧ (W prog J 143 h.length 11 (subC [1, 1, 1, 1, 1, 1, 1] (codeOf f11)) (((((((((((((((((((((((((((((((((((((((((((RG.mk (regs [a0, a1, a2, a3, a4]) []).put 5 v1).put 6 v3).put 10 (Value.bool false)).put 27 v5).put 28 v6).put 30 a4).put 31 v10).put 11 v10).put 32 v10).put 33 v12).put 12 v14).put 34 v17).put 35 v18).put 13 v20).put 36 v23).put 37 v24).put 38 v25).put 39 v27).put 40 v29).put 41 v31).put 42 v33).put 43 v34).put 44 v35).put 45 v36).put 47 a2).put 48 v10).put 49 v37).put 50 v38).put 51 v39).put 53 a2).put 55 a3).put 56 v10).put 58 a3).put 59 a3).put 52 v67).put 54 v95).put 57 v105).put 60 v114).put 46 v117).put 14 v117).put 15 v95).put 16 v114) h118 (contQ prog J 143 h.length 11 [1, 1, 1, 1, 1, 1, 1] (codeOf f11) [] (RetQ prog [.tmp 10] h.length K)))))))))))) ∧ (Good prog J 20 [v10, (vint 20), (vint 60)] h68 fun v119 h120 =>
SameB (some B) h32 h120 ∧ ((((4 * 6 ≤ 16777216 ∧ 4 ≤ 16777216 ∧ List.length [(vint 0), (vint 0), (vint 0), (Value.slice none 0 0), (vint 0), (Value.slice none 0 0)] = 6) ∧ aFill (zrep [(vint 0), (vint 0), (vint 0), (Value.slice none 0 0), (vint 0), (Value.slice none 0 0)] 4) [(0, 6, v33), (6, 6, v34), (12, 6, v35), (18, 6, v36)] fun c121 =>
aNewS 4 c121 h120 fun v122 h123 =>
SameB (some B) h32 h123 ∧ ((((4 * 1 ≤ 16777216 ∧ 4 ≤ 16777216 ∧ List.length [(vint 0)] = 1) ∧ aFill (zrep [(vint 0)] 4) [(0, 1, a2), (1, 1, v67), (2, 1, (vint 0)), (3, 1, a2)] fun c124 =>
aNewS 4 c124 h123 fun v125 h126 =>
SameB (some B) h32 h126 ∧ (((4 * 1 ≤ 16777216 ∧ 4 ≤ 16777216 ∧ List.length [(vint 0)] = 1) ∧ aFill (zrep [(vint 0)] 4) [(0, 1, a3), (1, 1, v119), (2, 1, a3), (3, 1, a3)] fun c127 =>
aNewS 4 c127 h126 fun v128 h129 =>
SameB (some B) h32 h129 ∧ (W prog J 143 h.length 11 (subC [1, 1, 1, 1, 1, 1, 1] (codeOf f11)) (((((((((((((((((((((((((((((((((((((((((((RG.mk (regs [a0, a1, a2, a3, a4]) []).put 5 v1).put 6 v3).put 10 (Value.bool false)).put 27 v5).put 28 v6).put 30 a4).put 31 v10).put 11 v10).put 32 v10).put 33 v12).put 12 v14).put 34 v17).put 35 v18).put 13 v20).put 36 v23).put 37 v24).put 38 v25).put 39 v27).put 40 v29).put 41 v31).put 42 v33).put 43 v34).put 44 v35).put 45 v36).put 47 a2).put 48 v10).put 49 v37).put 50 v38).put 51 v39).put 53 a2).put 55 a3).put 56 v10).put 58 a3).put 59 a3).put 52 v67).put 57 v119).put 46 v122).put 14 v122).put 54 v125).put 15 v125).put 60 v128).put 16 v128) h129 (contQ prog J 143 h.length 11 [1, 1, 1, 1, 1, 1, 1] (codeOf f11) [] (RetQ prog [.tmp 10] h.length K))))))) ∧ (((4 * 1 ≤ 16777216 ∧ 4 ≤ 16777216 ∧ List.length [(vint 0)] = 1) ∧ aFill (zrep [(vint 0)] 4) [(0, 1, a3), (1, 1, v119), (2, 1, a3), (3, 1, a3)] fun c130 =>
aNewS 4 c130 h123 fun v131 h132 =>
SameB (some B) h32 h132 ∧ (((4 * 1 ≤ 16777216 ∧ 4 ≤ 16777216 ∧ List.length [(vint 0)] = 1) ∧ aFill (zrep [(vint 0)] 4) [(0, 1, a2), (1, 1, v67), (2, 1, (vint 0)), (3, 1, a2)] fun c133 =>
aNewS 4 c133 h132 fun v134 h135 =>
SameB (some B) h32 h135 ∧ (W prog J 143 h.length 11 (subC [1, 1, 1, 1, 1, 1, 1] (codeOf f11)) (((((((((((((((((((((((((((((((((((((((((((RG.mk (regs [a0, a1, a2, a3, a4]) []).put 5 v1).put 6 v3).put 10 (Value.bool false)).put 27 v5).put 28 v6).put 30 a4).put 31 v10).put 11 v10).put 32 v10).put 33 v12).put 12 v14).put 34 v17).put 35 v18).put 13 v20).put 36 v23).put 37 v24).put 38 v25).put 39 v27).put 40 v29).put 41 v31).put 42 v33).put 43 v34).put 44 v35).put 45 v36).put 47 a2).put 48 v10).put 49 v37).put 50 v38).put 51 v39).put 53 a2).put 55 a3).put 56 v10).put 58 a3).put 59 a3).put 52 v67).put 57 v119).put 46 v122).put 14 v122).put 60 v131).put 54 v134).put 15 v134).put 16 v131) h135 (contQ prog J 143 h.length 11 [1, 1, 1, 1, 1, 1, 1] (codeOf f11) [] (RetQ prog [.tmp 10] h.length K)))))))))) ∧ (((4 * 1 ≤ 16777216 ∧ 4 ≤ 16777216 ∧ List.length [(vint 0)] = 1) ∧ aFill (zrep [(vint 0)] 4) [(0, 1, a2), (1, 1, v67), (2, 1, (vint 0)), (3, 1, a2)] fun c136 =>
aNewS 4 c136 h120 fun v137 h138 =>
SameB (some B) h32 h138 ∧ ((((4 * 6 ≤ 16777216 ∧ 4 ≤ 16777216 ∧ List.length [(vint 0), (vint 0), (vint 0), (Value.slice none 0 0), (vint 0), (Value.slice none 0 0)] = 6) ∧ aFill (zrep [(vint 0), (vint 0), (vint 0), (Value.slice none 0 0), (vint 0), (Value.slice none 0 0)] 4) [(0, 6, v33), (6, 6, v34), (12, 6, v35), (18, 6, v36)] fun c139 =>
aNewS 4 c139 h138 fun v140 h141 =>
SameB (some B) h32 h141 ∧ (((4 * 1 ≤ 16777216 ∧ 4 ≤ 16777216 ∧ List.length [(vint 0)] = 1) ∧ aFill (zrep [(vint 0)] 4) [(0, 1, a3), (1, 1, v119), (2, 1, a3), (3, 1, a3)] fun c142 =>
aNewS 4 c142 h141 fun v143 h144 =>
SameB (some B) h32 h144 ∧ (W prog J 143 h.length 11 (subC [1, 1, 1, 1, 1, 1, 1] (codeOf f11)) (((((((((((((((((((((((((((((((((((((((((((RG.mk (regs [a0, a1, a2, a3, a4]) []).put 5 v1).put 6 v3).put 10 (Value.bool false)).put 27 v5).put 28 v6).put 30 a4).put 31 v10).put 11 v10).put 32 v10).put 33 v12).put 12 v14).put 34 v17).put 35 v18).put 13 v20).put 36 v23).put 37 v24).put 38 v25).put 39 v27).put 40 v29).put 41 v31).put 42 v33).put 43 v34).put 44 v35).put 45 v36).put 47 a2).put 48 v10).put 49 v37).put 50 v38).put 51 v39).put 53 a2).put 55 a3).put 56 v10).put 58 a3).put 59 a3).put 52 v67).put 57 v119).put 54 v137).put 46 v140).put 14 v140).put 15 v137).put 60 v143).put 16 v143) h144 (contQ prog J 143 h.length 11 [1, 1, 1, 1, 1, 1, 1] (codeOf f11) [] (RetQ prog [.tmp 10] h.length K))))))) ∧ (((4 * 1 ≤ 16777216 ∧ 4 ≤ 16777216 ∧ List.length [(vint 0)] = 1) ∧ aFill (zrep [(vint 0)] 4) [(0, 1, a3), (1, 1, v119), (2, 1, a3), (3, 1, a3)] fun c145 =>
aNewS 4 c145 h138 fun v146 h147 =>
SameB (some B) h32 h147 ∧ (((4 * 6 ≤ 16777216 ∧ 4 ≤ 16777216 ∧ List.length [(vint 0), (vint 0), (vint 0), (Value.slice none 0 0), (vint 0), (Value.slice none 0 0)] = 6) ∧ aFill (zrep [(vint 0), (vint 0), (vint 0), (Value.slice none 0 0), (vint 0), (Value.slice none 0 0)] 4) [(0, 6, v33), (6, 6, v34), (12, 6, v35), (18, 6, v36)] fun c148 =>
aNewS 4 c148 h147 fun v149 h150 =>
SameB (some B) h32 h150 ∧ (W prog J 143 h.length 11 (subC [1, 1, 1, 1, 1, 1, 1] (codeOf f11)) (((((((((((((((((((((((((((((((((((((((((((RG.mk (regs [a0, a1, a2, a3, a4]) []).put 5 v1).put 6 v3).put 10 (Value.bool false)).put 27 v5).put 28 v6).put 30 a4).put 31 v10).put 11 v10).put 32 v10).put 33 v12).put 12 v14).put 34 v17).put 35 v18).put 13 v20).put 36 v23).put 37 v24).put 38 v25).put 39 v27).put 40 v29).put 41 v31).put 42 v33).put 43 v34).put 44 v35).put 45 v36).put 47 a2).put 48 v10).put 49 v37).put 50 v38).put 51 v39).put 53 a2).put 55 a3).put 56 v10).put 58 a3).put 59 a3).put 52 v67).put 57 v119).put 54 v137).put 60 v146).put 46 v149).put 14 v149).put 15 v137).put 16 v146) h150 (contQ prog J 143 h.length 11 [1, 1, 1, 1, 1, 1, 1] (codeOf f11) [] (RetQ prog [.tmp 10] h.length K)))))))))) ∧ (((4 * 1 ≤ 16777216 ∧ 4 ≤ 16777216 ∧ List.length [(vint 0)] = 1) ∧ aFill (zrep [(vint 0)] 4) [(0, 1, a3), (1, 1, v119), (2, 1, a3), (3, 1, a3)] fun c151 =>
aNewS 4 c151 h120 fun v152 h153 =>
SameB (some B) h32 h153 ∧ ((((4 * 6 ≤ 16777216 ∧ 4 ≤ 16777216 ∧ List.length [(vint 0), (vint 0), (vint 0), (Value.slice none 0 0), (vint 0), (Value.slice none 0 0)] = 6) ∧ aFill (zrep [(vint 0), (vint 0), (vint 0), (Value.slice none 0 0), (vint 0), (Value.slice none 0 0)] 4) [(0, 6, v33), (6, 6, v34), (12, 6, v35), (18, 6, v36)] fun c154 =>
aNewS 4 c154 h153 fun v155 h156 =>
SameB (some B) h32 h156 ∧ (((4 * 1 ≤ 16777216 ∧ 4 ≤ 16777216 ∧ List.length [(vint 0)] = 1) ∧ aFill (zrep [(vint 0)] 4) [(0, 1, a2), (1, 1, v67), (2, 1, (vint 0)), (3, 1, a2)] fun c157 =>
aNewS 4 c157 h156 fun v158 h159 =>
SameB (some B) h32 h159 ∧ (W prog J 143 h.length 11 (subC [1, 1, 1, 1, 1, 1, 1] (codeOf f11)) (((((((((((((((((((((((((((((((((((((((((((RG.mk (regs [a0, a1, a2, a3, a4]) []).put 5 v1).put 6 v3).put 10 (Value.bool false)).put 27 v5).put 28 v6).put 30 a4).put 31 v10).put 11 v10).put 32 v10).put 33 v12).put 12 v14).put 34 v17).put 35 v18).put 13 v20).put 36 v23).put 37 v24).put 38 v25).put 39 v27).put 40 v29).put 41 v31).put 42 v33).put 43 v34).put 44 v35).put 45 v36).put 47 a2).put 48 v10).put 49 v37).put 50 v38).put 51 v39).put 53 a2).put 55 a3).put 56 v10).put 58 a3).put 59 a3).put 52 v67).put 57 v119).put 60 v152).put 46 v155).put 14 v155).put 54 v158).put 15 v158).put 16 v152) h159 (contQ prog J 143 h.length 11 [1, 1, 1, 1, 1, 1, 1] (codeOf f11) [] (RetQ prog [.tmp 10] h.length K))))))) ∧ (((4 * 1 ≤ 16777216 ∧ 4 ≤ 16777216 ∧ List.length [(vint 0)] = 1) ∧ aFill (zrep [(vint 0)] 4) [(0, 1, a2), (1, 1, v67), (2, 1, (vint 0)), (3, 1, a2)] fun c160 =>
aNewS 4 c160 h153 fun v161 h162 =>
SameB (some B) h32 h162 ∧ (((4 * 6 ≤ 16777216 ∧ 4 ≤ 16777216 ∧ List.length [(vint 0), (vint 0), (vint 0), (Value.slice none 0 0), (vint 0), (Value.slice none 0 0)] = 6) ∧ aFill (zrep [(vint 0), (vint 0), (vint 0), (Value.slice none 0 0), (vint 0), (Value.slice none 0 0)] 4) [(0, 6, v33), (6, 6, v34), (12, 6, v35), (18, 6, v36)] fun c163 =>
aNewS 4 c163 h162 fun v164 h165 =>
SameB (some B) h32 h165 ∧ (W prog J 143 h.length 11 (subC [1, 1, 1, 1, 1, 1, 1] (codeOf f11)) (((((((((((((((((((((((((((((((((((((((((((RG.mk (regs [a0, a1, a2, a3, a4]) []).put 5 v1).put 6 v3).put 10 (Value.bool false)).put 27 v5).put 28 v6).put 30 a4).put 31 v10).put 11 v10).put 32 v10).put 33 v12).put 12 v14).put 34 v17).put 35 v18).put 13 v20).put 36 v23).put 37 v24).put 38 v25).put 39 v27).put 40 v29).put 41 v31).put 42 v33).put 43 v34).put 44 v35).put 45 v36).put 47 a2).put 48 v10).put 49 v37).put 50 v38).put 51 v39).put 53 a2).put 55 a3).put 56 v10).put 58 a3).put 59 a3).put 52 v67).put 57 v119).put 60 v152).put 54 v161).put 46 v164).put 14 v164).put 15 v161).put 16 v152) h165 (contQ prog J 143 h.length 11 [1, 1, 1, 1, 1, 1, 1] (codeOf f11) [] (RetQ prog [.tmp 10] h.length K)))))))))))))))))))))))) := by kernel_rfl
theorem g11 (hJ : Closed prog main J) {a0 a1 a2 a3 a4 : Value} (hs : heapOk h → W prog J 143 h.length 11 (codeOf f11) (RG.mk (regs [a0, a1, a2, a3, a4]) []) h (RetQ prog [.tmp 10] h.length K)) : Good prog J 11 [a0, a1, a2, a3, a4] h K :=
  good_of_W hJ mixed at11 body11 (by kernel_rfl) (Nat.le_of_ble_eq_true rfl) hs
-- join [1, 1, 1, 1, 1, 1, 1]
theorem s11_1 {f : RG} : W prog J 143 n0 11 (subC [1, 1, 1, 1, 1, 1, 1] (codeOf f11)) f h (contQ prog J 143 n0 11 [1, 1, 1, 1, 1, 1, 1] (codeOf f11) [] (RetQ prog [.tmp 10] n0 K)) =
(Sem J 143 n0 11 (subC [1, 1, 1, 1, 1, 1, 1, 0, 1, 0] (codeOf f11)) (f.put 17 (vint 0)) h (contQ prog J 143 n0 11 [1, 1, 1, 1, 1, 1, 1, 0, 1, 0] (codeOf f11) [] (RetQ prog [.tmp 10] n0 K))) := by kernel_rfl
-- loop [1, 1, 1, 1, 1, 1, 1, 0, 1, 0, 0]
theorem s11_2 {f : RG} {nx0 : RG → List AObj → Prop} : W prog J 143 n0 11 (subC [1, 1, 1, 1, 1, 1, 1, 0, 1, 0, 0] (codeOf f11)) f h (thenK nx0 (contQ prog J 143 n0 11 [1, 1, 1, 1, 1, 1, 1, 0, 1, 0] (codeOf f11) [] (RetQ prog [.tmp 10] n0 K))) =
(aLenS (f.r 14) fun v1 =>
aBin prog .lss 3 (f.r 17) v1 fun v2 =>
cnd v2
(aIdx 6 (f.r 14) (f.r 17) fun v3 =>
aLoad true 6 v3 h fun v4 =>
Good prog J 38 [v4] h fun v5 h6 =>
aAlloc [(vint 0), (vint 0), (vint 0), (Value.slice none 0 0), (vint 0), (Value.slice none 0 0)] h6 fun v7 h8 =>
aStore 6 v7 v5 h8 fun h9 =>
aLoad true 6 v7 h9 fun v10 =>
Good prog J 30 [v10] h9 fun v11 h12 =>
aExt v11 0 fun v13 =>
aExt v11 1 fun v14 =>
aIdx 6 (f.r 14) (f.r 17) fun v15 =>
aLoad true 6 v15 h12 fun v16 =>
Good prog J 44 [v16] h12 fun v17 h18 =>
aExt v17 0 fun v19 =>
aExt v17 1 fun v20 =>
aLoad true 6 v7 h18 fun v21 =>
aIdx 1 (f.r 15) (f.r 17) fun v22 =>
aLoad false 1 v22 h18 fun v23 =>
aIdx 1 (f.r 16) (f.r 17) fun v24 =>
aLoad false 1 v24 h18 fun v25 =>
Good prog J 45 [v21, v23, v25] h18 fun v26 h27 =>
aExt v26 0 fun v28 =>
aExt v26 1 fun v29 =>
aIdx 6 (f.r 14) (f.r 17) fun v30 =>
aLoad true 6 v30 h27 fun v31 =>
aIdx 1 (f.r 15) (f.r 17) fun v32 =>
aLoad false 1 v32 h27 fun v33 =>
aIdx 1 (f.r 16) (f.r 17) fun v34 =>
aLoad false 1 v34 h27 fun v35 =>
Good prog J 46 [v31, v33, v35] h27 fun v36 h37 =>
aExt v36 0 fun v38 =>
aExt v36 1 fun v39 =>
(∃ B, aBin prog .neq 32 v14 v20 fun v40 =>
cnd v40
(cnd (Value.bool true)
(cnd (Value.bool true)
(cnd (Value.bool true)
(W prog J 143 n0 11 (subC [1, 1, 1, 1, 1, 1, 1, 0, 1, 0, 0, 1, 0, 0, 1, 1, 1, 1, 1, 1] (codeOf f11)) ((((((((((((((((((((((((((((((((((((((((((((((((((((((((((((((((((((((((((((((((((((((((((((f.put 61 (f.r 17)).put 62 (f.r 14)).put 63 v1).put 64 v2).put 67 (f.r 14)).put 68 (f.r 17)).put 69 v3).put 70 v4).put 71 v5).put 18 v7).put 73 v10).put 74 v11).put 72 v11).put 75 v13).put 76 v14).put 19 v13).put 20 v14).put 78 (f.r 14)).put 79 (f.r 17)).put 80 v15).put 81 v16).put 82 v17).put 77 v17).put 83 v19).put 84 v20).put 21 v19).put 22 v20).put 86 v21).put 87 (f.r 15)).put 88 (f.r 17)).put 89 v22).put 90 v23).put 91 (f.r 16)).put 92 (f.r 17)).put 93 v24).put 94 v25).put 95 v26).put 85 v26).put 96 v28).put 97 v29).put 23 v28).put 24 v29).put 99 (f.r 14)).put 100 (f.r 17)).put 101 v30).put 102 v31).put 103 (f.r 15)).put 104 (f.r 17)).put 105 v32).put 106 v33).put 107 (f.r 16)).put 108 (f.r 17)).put 109 v34).put 110 v35).put 111 v36).put 98 v36).put 112 v38).put 113 v39).put 25 v38).put 26 v39).put 114 v14).put 115 v20).put 116 v40).put 117 v40).put 117 (Value.bool true)).put 118 undef).put 119 undef).put 120 undef).put 121 (Value.bool true)).put 122 (Value.bool true)).put 122 (Value.bool true)).put 123 undef).put 124 undef).put 125 undef).put 126 (Value.bool true)).put 127 (Value.bool true)).put 127 (Value.bool true)).put 128 undef).put 129 undef).put 130 undef).put 131 undef).put 132 (Value.bool true)).put 133 (Value.bool true)).put 133 (Value.bool true)).put 134 undef).put 135 undef).put 136 undef).put 137 undef).put 138 undef).put 139 undef).put 140 undef).put 141 (Value.bool true)) h37 (contQ prog J 143 n0 11 [1, 1, 1, 1, 1, 1, 1, 0, 1, 0, 0, 1, 0, 0, 1, 1, 1, 1, 1, 1] (codeOf f11) [nx0] (RetQ prog [.tmp 10] n0 K)))
(aLoad true 6 v7 h37 fun v41 =>
RdOk (some B) (ptrBlk v7) ∧ (aIdx 6 (f.r 14) (f.r 17) fun v42 =>
aLoad true 6 v42 h37 fun v43 =>
RdOk (some B) (ptrBlk v42) ∧ (Good prog J 48 [v41, v43] h37 fun v44 h45 =>
aUn .not v44 fun v46 =>
W prog J 143 n0 11 (subC [1, 1, 1, 1, 1, 1, 1, 0, 1, 0, 0, 1, 0, 0, 1, 1, 1, 1, 1, 1] (codeOf f11)) ((((((((((((((((((((((((((((((((((((((((((((((((((((((((((((((((((((((((((((((((((((((((((((f.put 61 (f.r 17)).put 62 (f.r 14)).put 63 v1).put 64 v2).put 67 (f.r 14)).put 68 (f.r 17)).put 69 v3).put 70 v4).put 71 v5).put 18 v7).put 73 v10).put 74 v11).put 72 v11).put 75 v13).put 76 v14).put 19 v13).put 20 v14).put 78 (f.r 14)).put 79 (f.r 17)).put 80 v15).put 81 v16).put 82 v17).put 77 v17).put 83 v19).put 84 v20).put 21 v19).put 22 v20).put 86 v21).put 87 (f.r 15)).put 88 (f.r 17)).put 89 v22).put 90 v23).put 91 (f.r 16)).put 92 (f.r 17)).put 93 v24).put 94 v25).put 95 v26).put 85 v26).put 96 v28).put 97 v29).put 23 v28).put 24 v29).put 99 (f.r 14)).put 100 (f.r 17)).put 101 v30).put 102 v31).put 103 (f.r 15)).put 104 (f.r 17)).put 105 v32).put 106 v33).put 107 (f.r 16)).put 108 (f.r 17)).put 109 v34).put 110 v35).put 111 v36).put 98 v36).put 112 v38).put 113 v39).put 25 v38).put 26 v39).put 114 v14).put 115 v20).put 116 v40).put 117 v40).put 117 (Value.bool true)).put 118 undef).put 119 undef).put 120 undef).put 121 (Value.bool true)).put 122 (Value.bool true)).put 122 (Value.bool true)).put 123 undef).put 124 undef).put 125 undef).put 126 (Value.bool true)).put 127 (Value.bool true)).put 127 (Value.bool true)).put 128 undef).put 129 undef).put 130 undef).put 131 undef).put 132 (Value.bool true)).put 133 (Value.bool true)).put 133 (Value.bool false)).put 134 v41).put 135 (f.r 14)).put 136 (f.r 17)).put 137 v42).put 138 v43).put 139 v44).put 140 v46).put 141 v46) h45 (contQ prog J 143 n0 11 [1, 1, 1, 1, 1, 1, 1, 0, 1, 0, 0, 1, 0, 0, 1, 1, 1, 1, 1, 1] (codeOf f11) [nx0] (RetQ prog [.tmp 10] n0 K))))))
(Good prog J 47 [v13, v19] h37 fun v47 h48 =>
SameB (some B) h37 h48 ∧ (aUn .not v47 fun v49 =>
cnd v49
(W prog J 143 n0 11 (subC [1, 1, 1, 1, 1, 1, 1, 0, 1, 0, 0, 1, 0, 0, 1, 1, 1, 1, 1, 1] (codeOf f11)) ((((((((((((((((((((((((((((((((((((((((((((((((((((((((((((((((((((((((((((((((((((((((((((f.put 61 (f.r 17)).put 62 (f.r 14)).put 63 v1).put 64 v2).put 67 (f.r 14)).put 68 (f.r 17)).put 69 v3).put 70 v4).put 71 v5).put 18 v7).put 73 v10).put 74 v11).put 72 v11).put 75 v13).put 76 v14).put 19 v13).put 20 v14).put 78 (f.r 14)).put 79 (f.r 17)).put 80 v15).put 81 v16).put 82 v17).put 77 v17).put 83 v19).put 84 v20).put 21 v19).put 22 v20).put 86 v21).put 87 (f.r 15)).put 88 (f.r 17)).put 89 v22).put 90 v23).put 91 (f.r 16)).put 92 (f.r 17)).put 93 v24).put 94 v25).put 95 v26).put 85 v26).put 96 v28).put 97 v29).put 23 v28).put 24 v29).put 99 (f.r 14)).put 100 (f.r 17)).put 101 v30).put 102 v31).put 103 (f.r 15)).put 104 (f.r 17)).put 105 v32).put 106 v33).put 107 (f.r 16)).put 108 (f.r 17)).put 109 v34).put 110 v35).put 111 v36).put 98 v36).put 112 v38).put 113 v39).put 25 v38).put 26 v39).put 114 v14).put 115 v20).put 116 v40).put 117 v40).put 117 (Value.bool true)).put 118 undef).put 119 undef).put 120 undef).put 121 (Value.bool true)).put 122 (Value.bool true)).put 122 (Value.bool true)).put 123 undef).put 124 undef).put 125 undef).put 126 (Value.bool true)).put 127 (Value.bool true)).put 127 (Value.bool false)).put 128 v13).put 129 v19).put 130 v47).put 131 v49).put 132 v49).put 133 v49).put 133 (Value.bool true)).put 134 undef).put 135 undef).put 136 undef).put 137 undef).put 138 undef).put 139 undef).put 140 undef).put 141 (Value.bool true)) h48 (contQ prog J 143 n0 11 [1, 1, 1, 1, 1, 1, 1, 0, 1, 0, 0, 1, 0, 0, 1, 1, 1, 1, 1, 1] (codeOf f11) [nx0] (RetQ prog [.tmp 10] n0 K)))
(aLoad true 6 v7 h48 fun v50 =>
RdOk (some B) (ptrBlk v7) ∧ (aIdx 6 (f.r 14) (f.r 17) fun v51 =>
aLoad true 6 v51 h48 fun v52 =>
RdOk (some B) (ptrBlk v51) ∧ (Good prog J 48 [v50, v52] h48 fun v53 h54 =>
aUn .not v53 fun v55 =>
W prog J 143 n0 11 (subC [1, 1, 1, 1, 1, 1, 1, 0, 1, 0, 0, 1, 0, 0, 1, 1, 1, 1, 1, 1] (codeOf f11)) ((((((((((((((((((((((((((((((((((((((((((((((((((((((((((((((((((((((((((((((((((((((((((((f.put 61 (f.r 17)).put 62 (f.r 14)).put 63 v1).put 64 v2).put 67 (f.r 14)).put 68 (f.r 17)).put 69 v3).put 70 v4).put 71 v5).put 18 v7).put 73 v10).put 74 v11).put 72 v11).put 75 v13).put 76 v14).put 19 v13).put 20 v14).put 78 (f.r 14)).put 79 (f.r 17)).put 80 v15).put 81 v16).put 82 v17).put 77 v17).put 83 v19).put 84 v20).put 21 v19).put 22 v20).put 86 v21).put 87 (f.r 15)).put 88 (f.r 17)).put 89 v22).put 90 v23).put 91 (f.r 16)).put 92 (f.r 17)).put 93 v24).put 94 v25).put 95 v26).put 85 v26).put 96 v28).put 97 v29).put 23 v28).put 24 v29).put 99 (f.r 14)).put 100 (f.r 17)).put 101 v30).put 102 v31).put 103 (f.r 15)).put 104 (f.r 17)).put 105 v32).put 106 v33).put 107 (f.r 16)).put 108 (f.r 17)).put 109 v34).put 110 v35).put 111 v36).put 98 v36).put 112 v38).put 113 v39).put 25 v38).put 26 v39).put 114 v14).put 115 v20).put 116 v40).put 117 v40).put 117 (Value.bool true)).put 118 undef).put 119 undef).put 120 undef).put 121 (Value.bool true)).put 122 (Value.bool true)).put 122 (Value.bool true)).put 123 undef).put 124 undef).put 125 undef).put 126 (Value.bool true)).put 127 (Value.bool true)).put 127 (Value.bool false)).put 128 v13).put 129 v19).put 130 v47).put 131 v49).put 132 v49).put 133 v49).put 133 (Value.bool false)).put 134 v50).put 135 (f.r 14)).put 136 (f.r 17)).put 137 v51).put 138 v52).put 139 v53).put 140 v55).put 141 v55) h54 (contQ prog J 143 n0 11 [1, 1, 1, 1, 1, 1, 1, 0, 1, 0, 0, 1, 0, 0, 1, 1, 1, 1, 1, 1] (codeOf f11) [nx0] (RetQ prog [.tmp 10] n0 K))))))))
(aBin prog .neq 3 v28 v38 fun v56 =>
cnd v56
(cnd (Value.bool true)
(W prog J 143 n0 11 (subC [1, 1, 1, 1, 1, 1, 1, 0, 1, 0, 0, 1, 0, 0, 1, 1, 1, 1, 1, 1] (codeOf f11)) ((((((((((((((((((((((((((((((((((((((((((((((((((((((((((((((((((((((((((((((((((((((((((((f.put 61 (f.r 17)).put 62 (f.r 14)).put 63 v1).put 64 v2).put 67 (f.r 14)).put 68 (f.r 17)).put 69 v3).put 70 v4).put 71 v5).put 18 v7).put 73 v10).put 74 v11).put 72 v11).put 75 v13).put 76 v14).put 19 v13).put 20 v14).put 78 (f.r 14)).put 79 (f.r 17)).put 80 v15).put 81 v16).put 82 v17).put 77 v17).put 83 v19).put 84 v20).put 21 v19).put 22 v20).put 86 v21).put 87 (f.r 15)).put 88 (f.r 17)).put 89 v22).put 90 v23).put 91 (f.r 16)).put 92 (f.r 17)).put 93 v24).put 94 v25).put 95 v26).put 85 v26).put 96 v28).put 97 v29).put 23 v28).put 24 v29).put 99 (f.r 14)).put 100 (f.r 17)).put 101 v30).put 102 v31).put 103 (f.r 15)).put 104 (f.r 17)).put 105 v32).put 106 v33).put 107 (f.r 16)).put 108 (f.r 17)).put 109 v34).put 110 v35).put 111 v36).put 98 v36).put 112 v38).put 113 v39).put 25 v38).put 26 v39).put 114 v14).put 115 v20).put 116 v40).put 117 v40).put 117 (Value.bool true)).put 118 undef).put 119 undef).put 120 undef).put 121 (Value.bool true)).put 122 (Value.bool true)).put 122 (Value.bool false)).put 123 v28).put 124 v38).put 125 v56).put 126 v56).put 127 v56).put 127 (Value.bool true)).put 128 undef).put 129 undef).put 130 undef).put 131 undef).put 132 (Value.bool true)).put 133 (Value.bool true)).put 133 (Value.bool true)).put 134 undef).put 135 undef).put 136 undef).put 137 undef).put 138 undef).put 139 undef).put 140 undef).put 141 (Value.bool true)) h37 (contQ prog J 143 n0 11 [1, 1, 1, 1, 1, 1, 1, 0, 1, 0, 0, 1, 0, 0, 1, 1, 1, 1, 1, 1] (codeOf f11) [nx0] (RetQ prog [.tmp 10] n0 K)))
(aLoad true 6 v7 h37 fun v57 =>
RdOk (some B) (ptrBlk v7) ∧ (aIdx 6 (f.r 14) (f.r 17) fun v58 =>
aLoad true 6 v58 h37 fun v59 =>
RdOk (some B) (ptrBlk v58) ∧ (Good prog J 48 [v57, v59] h37 fun v60 h61 =>
aUn .not v60 fun v62 =>
W prog J 143 n0 11 (subC [1, 1, 1, 1, 1, 1, 1, 0, 1, 0, 0, 1, 0, 0, 1, 1, 1, 1, 1, 1] (codeOf f11)) ((((((((((((((((((((((((((((((((((((((((((((((((((((((((((((((((((((((((((((((((((((((((((((f.put 61 (f.r 17)).put 62 (f.r 14)).put 63 v1).put 64 v2).put 67 (f.r 14)).put 68 (f.r 17)).put 69 v3).put 70 v4).put 71 v5).put 18 v7).put 73 v10).put 74 v11).put 72 v11).put 75 v13).put 76 v14).put 19 v13).put 20 v14).put 78 (f.r 14)).put 79 (f.r 17)).put 80 v15).put 81 v16).put 82 v17).put 77 v17).put 83 v19).put 84 v20).put 21 v19).put 22 v20).put 86 v21).put 87 (f.r 15)).put 88 (f.r 17)).put 89 v22).put 90 v23).put 91 (f.r 16)).put 92 (f.r 17)).put 93 v24).put 94 v25).put 95 v26).put 85 v26).put 96 v28).put 97 v29).put 23 v28).put 24 v29).put 99 (f.r 14)).put 100 (f.r 17)).put 101 v30).put 102 v31).put 103 (f.r 15)).put 104 (f.r 17)).put 105 v32).put 106 v33).put 107 (f.r 16)).put 108 (f.r 17)).put 109 v34).put 110 v35).put 111 v36).put 98 v36).put 112 v38).put 113 v39).put 25 v38).put 26 v39).put 114 v14).put 115 v20).put 116 v40).put 117 v40).put 117 (Value.bool true)).put 118 undef).put 119 undef).put 120 undef).put 121 (Value.bool true)).put 122 (Value.bool true)).put 122 (Value.bool false)).put 123 v28).put 124 v38).put 125 v56).put 126 v56).put 127 v56).put 127 (Value.bool true)).put 128 undef).put 129 undef).put 130 undef).put 131 undef).put 132 (Value.bool true)).put 133 (Value.bool true)).put 133 (Value.bool false)).put 134 v57).put 135 (f.r 14)).put 136 (f.r 17)).put 137 v58).put 138 v59).put 139 v60).put 140 v62).put 141 v62) h61 (contQ prog J 143 n0 11 [1, 1, 1, 1, 1, 1, 1, 0, 1, 0, 0, 1, 0, 0, 1, 1, 1, 1, 1, 1] (codeOf f11) [nx0] (RetQ prog [.tmp 10] n0 K))))))
(Good prog J 47 [v13, v19] h37 fun v63 h64 =>
SameB (some B) h37 h64 ∧ (aUn .not v63 fun v65 =>
cnd v65
(W prog J 143 n0 11 (subC [1, 1, 1, 1, 1, 1, 1, 0, 1, 0, 0, 1, 0, 0, 1, 1, 1, 1, 1, 1] (codeOf f11)) ((((((((((((((((((((((((((((((((((((((((((((((((((((((((((((((((((((((((((((((((((((((((((((f.put 61 (f.r 17)).put 62 (f.r 14)).put 63 v1).put 64 v2).put 67 (f.r 14)).put 68 (f.r 17)).put 69 v3).put 70 v4).put 71 v5).put 18 v7).put 73 v10).put 74 v11).put 72 v11).put 75 v13).put 76 v14).put 19 v13).put 20 v14).put 78 (f.r 14)).put 79 (f.r 17)).put 80 v15).put 81 v16).put 82 v17).put 77 v17).put 83 v19).put 84 v20).put 21 v19).put 22 v20).put 86 v21).put 87 (f.r 15)).put 88 (f.r 17)).put 89 v22).put 90 v23).put 91 (f.r 16)).put 92 (f.r 17)).put 93 v24).put 94 v25).put 95 v26).put 85 v26).put 96 v28).put 97 v29).put 23 v28).put 24 v29).put 99 (f.r 14)).put 100 (f.r 17)).put 101 v30).put 102 v31).put 103 (f.r 15)).put 104 (f.r 17)).put 105 v32).put 106 v33).put 107 (f.r 16)).put 108 (f.r 17)).put 109 v34).put 110 v35).put 111 v36).put 98 v36).put 112 v38).put 113 v39).put 25 v38).put 26 v39).put 114 v14).put 115 v20).put 116 v40).put 117 v40).put 117 (Value.bool true)).put 118 undef).put 119 undef).put 120 undef).put 121 (Value.bool true)).put 122 (Value.bool true)).put 122 (Value.bool false)).put 123 v28).put 124 v38).put 125 v56).put 126 v56).put 127 v56).put 127 (Value.bool false)).put 128 v13).put 129 v19).put 130 v63).put 131 v65).put 132 v65).put 133 v65).put 133 (Value.bool true)).put 134 undef).put 135 undef).put 136 undef).put 137 undef).put 138 undef).put 139 undef).put 140 undef).put 141 (Value.bool true)) h64 (contQ prog J 143 n0 11 [1, 1, 1, 1, 1, 1, 1, 0, 1, 0, 0, 1, 0, 0, 1, 1, 1, 1, 1, 1] (codeOf f11) [nx0] (RetQ prog [.tmp 10] n0 K)))
(aLoad true 6 v7 h64 fun v66 =>
RdOk (some B) (ptrBlk v7) ∧ (aIdx 6 (f.r 14) (f.r 17) fun v67 =>
aLoad true 6 v67 h64 fun v68 =>
RdOk (some B) (ptrBlk v67) ∧ (Good prog J 48 [v66, v68] h64 fun v69 h70 =>
aUn .not v69 fun v71 =>
W prog J 143 n0 11 (subC [1, 1, 1, 1, 1, 1, 1, 0, 1, 0, 0, 1, 0, 0, 1, 1, 1, 1, 1, 1] (codeOf f11)) ((((((((((((((((((((((((((((((((((((((((((((((((((((((((((((((((((((((((((((((((((((((((((((f.put 61 (f.r 17)).put 62 (f.r 14)).put 63 v1).put 64 v2).put 67 (f.r 14)).put 68 (f.r 17)).put 69 v3).put 70 v4).put 71 v5).put 18 v7).put 73 v10).put 74 v11).put 72 v11).put 75 v13).put 76 v14).put 19 v13).put 20 v14).put 78 (f.r 14)).put 79 (f.r 17)).put 80 v15).put 81 v16).put 82 v17).put 77 v17).put 83 v19).put 84 v20).put 21 v19).put 22 v20).put 86 v21).put 87 (f.r 15)).put 88 (f.r 17)).put 89 v22).put 90 v23).put 91 (f.r 16)).put 92 (f.r 17)).put 93 v24).put 94 v25).put 95 v26).put 85 v26).put 96 v28).put 97 v29).put 23 v28).put 24 v29).put 99 (f.r 14)).put 100 (f.r 17)).put 101 v30).put 102 v31).put 103 (f.r 15)).put 104 (f.r 17)).put 105 v32).put 106 v33).put 107 (f.r 16)).put 108 (f.r 17)).put 109 v34).put 110 v35).put 111 v36).put 98 v36).put 112 v38).put 113 v39).put 25 v38).put 26 v39).put 114 v14).put 115 v20).put 116 v40).put 117 v40).put 117 (Value.bool true)).put 118 undef).put 119 undef).put 120 undef).put 121 (Value.bool true)).put 122 (Value.bool true)).put 122 (Value.bool false)).put 123 v28).put 124 v38).put 125 v56).put 126 v56).put 127 v56).put 127 (Value.bool false)).put 128 v13).put 129 v19).put 130 v63).put 131 v65).put 132 v65).put 133 v65).put 133 (Value.bool false)).put 134 v66).put 135 (f.r 14)).put 136 (f.r 17)).put 137 v67).put 138 v68).put 139 v69).put 140 v71).put 141 v71) h70 (contQ prog J 143 n0 11 [1, 1, 1, 1, 1, 1, 1, 0, 1, 0, 0, 1, 0, 0, 1, 1, 1, 1, 1, 1] (codeOf f11) [nx0] (RetQ prog [.tmp 10] n0 K)))))))))
(aBin prog .neq 32 v29 v39 fun v72 =>
cnd v72
(cnd (Value.bool true)
(cnd (Value.bool true)
(W prog J 143 n0 11 (subC [1, 1, 1, 1, 1, 1, 1, 0, 1, 0, 0, 1, 0, 0, 1, 1, 1, 1, 1, 1] (codeOf f11)) ((((((((((((((((((((((((((((((((((((((((((((((((((((((((((((((((((((((((((((((((((((((((((((f.put 61 (f.r 17)).put 62 (f.r 14)).put 63 v1).put 64 v2).put 67 (f.r 14)).put 68 (f.r 17)).put 69 v3).put 70 v4).put 71 v5).put 18 v7).put 73 v10).put 74 v11).put 72 v11).put 75 v13).put 76 v14).put 19 v13).put 20 v14).put 78 (f.r 14)).put 79 (f.r 17)).put 80 v15).put 81 v16).put 82 v17).put 77 v17).put 83 v19).put 84 v20).put 21 v19).put 22 v20).put 86 v21).put 87 (f.r 15)).put 88 (f.r 17)).put 89 v22).put 90 v23).put 91 (f.r 16)).put 92 (f.r 17)).put 93 v24).put 94 v25).put 95 v26).put 85 v26).put 96 v28).put 97 v29).put 23 v28).put 24 v29).put 99 (f.r 14)).put 100 (f.r 17)).put 101 v30).put 102 v31).put 103 (f.r 15)).put 104 (f.r 17)).put 105 v32).put 106 v33).put 107 (f.r 16)).put 108 (f.r 17)).put 109 v34).put 110 v35).put 111 v36).put 98 v36).put 112 v38).put 113 v39).put 25 v38).put 26 v39).put 114 v14).put 115 v20).put 116 v40).put 117 v40).put 117 (Value.bool false)).put 118 v29).put 119 v39).put 120 v72).put 121 v72).put 122 v72).put 122 (Value.bool true)).put 123 undef).put 124 undef).put 125 undef).put 126 (Value.bool true)).put 127 (Value.bool true)).put 127 (Value.bool true)).put 128 undef).put 129 undef).put 130 undef).put 131 undef).put 132 (Value.bool true)).put 133 (Value.bool true)).put 133 (Value.bool true)).put 134 undef).put 135 undef).put 136 undef).put 137 undef).put 138 undef).put 139 undef).put 140 undef).put 141 (Value.bool true)) h37 (contQ prog J 143 n0 11 [1, 1, 1, 1, 1, 1, 1, 0, 1, 0, 0, 1, 0, 0, 1, 1, 1, 1, 1, 1] (codeOf f11) [nx0] (RetQ prog [.tmp 10] n0 K)))
(aLoad true 6 v7 h37 fun v73 =>
RdOk (some B) (ptrBlk v7) ∧ (aIdx 6 (f.r 14) (f.r 17) fun v74 =>
aLoad true 6 v74 h37 fun v75 =>
RdOk (some B) (ptrBlk v74) ∧ (Good prog J 48 [v73, v75] h37 fun v76 h77 =>
aUn .not v76 fun v78 =>
W prog J 143 n0 11 (subC [1, 1, 1, 1, 1, 1, 1, 0, 1, 0, 0, 1, 0, 0, 1, 1, 1, 1, 1, 1] (codeOf f11)) ((((((((((((((((((((((((((((((((((((((((((((((((((((((((((((((((((((((((((((((((((((((((((((f.put 61 (f.r 17)).put 62 (f.r 14)).put 63 v1).put 64 v2).put 67 (f.r 14)).put 68 (f.r 17)).put 69 v3).put 70 v4).put 71 v5).put 18 v7).put 73 v10).put 74 v11).put 72 v11).put 75 v13).put 76 v14).put 19 v13).put 20 v14).put 78 (f.r 14)).put 79 (f.r 17)).put 80 v15).put 81 v16).put 82 v17).put 77 v17).put 83 v19).put 84 v20).put 21 v19).put 22 v20).put 86 v21).put 87 (f.r 15)).put 88 (f.r 17)).put 89 v22).put 90 v23).put 91 (f.r 16)).put 92 (f.r 17)).put 93 v24).put 94 v25).put 95 v26).put 85 v26).put 96 v28).put 97 v29).put 23 v28).put 24 v29).put 99 (f.r 14)).put 100 (f.r 17)).put 101 v30).put 102 v31).put 103 (f.r 15)).put 104 (f.r 17)).put 105 v32).put 106 v33).put 107 (f.r 16)).put 108 (f.r 17)).put 109 v34).put 110 v35).put 111 v36).put 98 v36).put 112 v38).put 113 v39).put 25 v38).put 26 v39).put 114 v14).put 115 v20).put 116 v40).put 117 v40).put 117 (Value.bool false)).put 118 v29).put 119 v39).put 120 v72).put 121 v72).put 122 v72).put 122 (Value.bool true)).put 123 undef).put 124 undef).put 125 undef).put 126 (Value.bool true)).put 127 (Value.bool true)).put 127 (Value.bool true)).put 128 undef).put 129 undef).put 130 undef).put 131 undef).put 132 (Value.bool true)).put 133 (Value.bool true)).put 133 (Value.bool false)).put 134 v73).put 135 (f.r 14)).put 136 (f.r 17)).put 137 v74).put 138 v75).put 139 v76).put 140 v78).put 141 v78) h77 (contQ prog J 143 n0 11 [1, 1, 1, 1, 1, 1, 1, 0, 1, 0, 0, 1, 0, 0, 1, 1, 1, 1, 1, 1] (codeOf f11) [nx0] (RetQ prog [.tmp 10] n0 K))))))
(Good prog J 47 [v13, v19] h37 fun v79 h80 =>
SameB (some B) h37 h80 ∧ (aUn .not v79 fun v81 =>
cnd v81
(W prog J 143 n0 11 (subC [1, 1, 1, 1, 1, 1, 1, 0, 1, 0, 0, 1, 0, 0, 1, 1, 1, 1, 1, 1] (codeOf f11)) ((((((((((((((((((((((((((((((((((((((((((((((((((((((((((((((((((((((((((((((((((((((((((((f.put 61 (f.r 17)).put 62 (f.r 14)).put 63 v1).put 64 v2).put 67 (f.r 14)).put 68 (f.r 17)).put 69 v3).put 70 v4).put 71 v5).put 18 v7).put 73 v10).put 74 v11).put 72 v11).put 75 v13).put 76 v14).put 19 v13).put 20 v14).put 78 (f.r 14)).put 79 (f.r 17)).put 80 v15).put 81 v16).put 82 v17).put 77 v17).put 83 v19).put 84 v20).put 21 v19).put 22 v20).put 86 v21).put 87 (f.r 15)).put 88 (f.r 17)).put 89 v22).put 90 v23).put 91 (f.r 16)).put 92 (f.r 17)).put 93 v24).put 94 v25).put 95 v26).put 85 v26).put 96 v28).put 97 v29).put 23 v28).put 24 v29).put 99 (f.r 14)).put 100 (f.r 17)).put 101 v30).put 102 v31).put 103 (f.r 15)).put 104 (f.r 17)).put 105 v32).put 106 v33).put 107 (f.r 16)).put 108 (f.r 17)).put 109 v34).put 110 v35).put 111 v36).put 98 v36).put 112 v38).put 113 v39).put 25 v38).put 26 v39).put 114 v14).put 115 v20).put 116 v40).put 117 v40).put 117 (Value.bool false)).put 118 v29).put 119 v39).put 120 v72).put 121 v72).put 122 v72).put 122 (Value.bool true)).put 123 undef).put 124 undef).put 125 undef).put 126 (Value.bool true)).put 127 (Value.bool true)).put 127 (Value.bool false)).put 128 v13).put 129 v19).put 130 v79).put 131 v81).put 132 v81).put 133 v81).put 133 (Value.bool true)).put 134 undef).put 135 undef).put 136 undef).put 137 undef).put 138 undef).put 139 undef).put 140 undef).put 141 (Value.bool true)) h80 (contQ prog J 143 n0 11 [1, 1, 1, 1, 1, 1, 1, 0, 1, 0, 0, 1, 0, 0, 1, 1, 1, 1, 1, 1] (codeOf f11) [nx0] (RetQ prog [.tmp 10] n0 K)))
(aLoad true 6 v7 h80 fun v82 =>
RdOk (some B) (ptrBlk v7) ∧ (aIdx 6 (f.r 14) (f.r 17) fun v83 =>
aLoad true 6 v83 h80 fun v84 =>
RdOk (some B) (ptrBlk v83) ∧ (Good prog J 48 [v82, v84] h80 fun v85 h86 =>
aUn .not v85 fun v87 =>
W prog J 143 n0 11 (subC [1, 1, 1, 1, 1, 1, 1, 0, 1, 0, 0, 1, 0, 0, 1, 1, 1, 1, 1, 1] (codeOf f11)) ((((((((((((((((((((((((((((((((((((((((((((((((((((((((((((((((((((((((((((((((((((((((((((f.put 61 (f.r 17)).put 62 (f.r 14)).put 63 v1).put 64 v2).put 67 (f.r 14)).put 68 (f.r 17)).put 69 v3).put 70 v4).put 71 v5).put 18 v7).put 73 v10).put 74 v11).put 72 v11).put 75 v13).put 76 v14).put 19 v13).put 20 v14).put 78 (f.r 14)).put 79 (f.r 17)).put 80 v15).put 81 v16).put 82 v17).put 77 v17).put 83 v19).put 84 v20).put 21 v19).put 22 v20).put 86 v21).put 87 (f.r 15)).put 88 (f.r 17)).put 89 v22).put 90 v23).put 91 (f.r 16)).put 92 (f.r 17)).put 93 v24).put 94 v25).put 95 v26).put 85 v26).put 96 v28).put 97 v29).put 23 v28).put 24 v29).put 99 (f.r 14)).put 100 (f.r 17)).put 101 v30).put 102 v31).put 103 (f.r 15)).put 104 (f.r 17)).put 105 v32).put 106 v33).put 107 (f.r 16)).put 108 (f.r 17)).put 109 v34).put 110 v35).put 111 v36).put 98 v36).put 112 v38).put 113 v39).put 25 v38).put 26 v39).put 114 v14).put 115 v20).put 116 v40).put 117 v40).put 117 (Value.bool false)).put 118 v29).put 119 v39).put 120 v72).put 121 v72).put 122 v72).put 122 (Value.bool true)).put 123 undef).put 124 undef).put 125 undef).put 126 (Value.bool true)).put 127 (Value.bool true)).put 127 (Value.bool false)).put 128 v13).put 129 v19).put 130 v79).put 131 v81).put 132 v81).put 133 v81).put 133 (Value.bool false)).put 134 v82).put 135 (f.r 14)).put 136 (f.r 17)).put 137 v83).put 138 v84).put 139 v85).put 140 v87).put 141 v87) h86 (contQ prog J 143 n0 11 [1, 1, 1, 1, 1, 1, 1, 0, 1, 0, 0, 1, 0, 0, 1, 1, 1, 1, 1, 1] (codeOf f11) [nx0] (RetQ prog [.tmp 10] n0 K))))))))
(aBin prog .neq 3 v28 v38 fun v88 =>
cnd v88
(cnd (Value.bool true)
(W prog J 143 n0 11 (subC [1, 1, 1, 1, 1, 1, 1, 0, 1, 0, 0, 1, 0, 0, 1, 1, 1, 1, 1, 1] (codeOf f11)) ((((((((((((((((((((((((((((((((((((((((((((((((((((((((((((((((((((((((((((((((((((((((((((f.put 61 (f.r 17)).put 62 (f.r 14)).put 63 v1).put 64 v2).put 67 (f.r 14)).put 68 (f.r 17)).put 69 v3).put 70 v4).put 71 v5).put 18 v7).put 73 v10).put 74 v11).put 72 v11).put 75 v13).put 76 v14).put 19 v13).put 20 v14).put 78 (f.r 14)).put 79 (f.r 17)).put 80 v15).put 81 v16).put 82 v17).put 77 v17).put 83 v19).put 84 v20).put 21 v19).put 22 v20).put 86 v21).put 87 (f.r 15)).put 88 (f.r 17)).put 89 v22).put 90 v23).put 91 (f.r 16)).put 92 (f.r 17)).put 93 v24).put 94 v25).put 95 v26).put 85 v26).put 96 v28).put 97 v29).put 23 v28).put 24 v29).put 99 (f.r 14)).put 100 (f.r 17)).put 101 v30).put 102 v31).put 103 (f.r 15)).put 104 (f.r 17)).put 105 v32).put 106 v33).put 107 (f.r 16)).put 108 (f.r 17)).put 109 v34).put 110 v35).put 111 v36).put 98 v36).put 112 v38).put 113 v39).put 25 v38).put 26 v39).put 114 v14).put 115 v20).put 116 v40).put 117 v40).put 117 (Value.bool false)).put 118 v29).put 119 v39).put 120 v72).put 121 v72).put 122 v72).put 122 (Value.bool false)).put 123 v28).put 124 v38).put 125 v88).put 126 v88).put 127 v88).put 127 (Value.bool true)).put 128 undef).put 129 undef).put 130 undef).put 131 undef).put 132 (Value.bool true)).put 133 (Value.bool true)).put 133 (Value.bool true)).put 134 undef).put 135 undef).put 136 undef).put 137 undef).put 138 undef).put 139 undef).put 140 undef).put 141 (Value.bool true)) h37 (contQ prog J 143 n0 11 [1, 1, 1, 1, 1, 1, 1, 0, 1, 0, 0, 1, 0, 0, 1, 1, 1, 1, 1, 1] (codeOf f11) [nx0] (RetQ prog [.tmp 10] n0 K)))
(aLoad true 6 v7 h37 fun v89 =>
RdOk (some B) (ptrBlk v7) ∧ (aIdx 6 (f.r 14) (f.r 17) fun v90 =>
aLoad true 6 v90 h37 fun v91 =>
RdOk (some B) (ptrBlk v90) ∧ (Good prog J 48 [v89, v91] h37 fun v92 h93 =>
aUn .not v92 fun v94 =>
W prog J 143 n0 11 (subC [1, 1, 1, 1, 1, 1, 1, 0, 1, 0, 0, 1, 0, 0, 1, 1, 1, 1, 1, 1] (codeOf f11)) ((((((((((((((((((((((((((((((((((((((((((((((((((((((((((((((((((((((((((((((((((((((((((((f.put 61 (f.r 17)).put 62 (f.r 14)).put 63 v1).put 64 v2).put 67 (f.r 14)).put 68 (f.r 17)).put 69 v3).put 70 v4).put 71 v5).put 18 v7).put 73 v10).put 74 v11).put 72 v11).put 75 v13).put 76 v14).put 19 v13).put 20 v14).put 78 (f.r 14)).put 79 (f.r 17)).put 80 v15).put 81 v16).put 82 v17).put 77 v17).put 83 v19).put 84 v20).put 21 v19).put 22 v20).put 86 v21).put 87 (f.r 15)).put 88 (f.r 17)).put 89 v22).put 90 v23).put 91 (f.r 16)).put 92 (f.r 17)).put 93 v24).put 94 v25).put 95 v26).put 85 v26).put 96 v28).put 97 v29).put 23 v28).put 24 v29).put 99 (f.r 14)).put 100 (f.r 17)).put 101 v30).put 102 v31).put 103 (f.r 15)).put 104 (f.r 17)).put 105 v32).put 106 v33).put 107 (f.r 16)).put 108 (f.r 17)).put 109 v34).put 110 v35).put 111 v36).put 98 v36).put 112 v38).put 113 v39).put 25 v38).put 26 v39).put 114 v14).put 115 v20).put 116 v40).put 117 v40).put 117 (Value.bool false)).put 118 v29).put 119 v39).put 120 v72).put 121 v72).put 122 v72).put 122 (Value.bool false)).put 123 v28).put 124 v38).put 125 v88).put 126 v88).put 127 v88).put 127 (Value.bool true)).put 128 undef).put 129 undef).put 130 undef).put 131 undef).put 132 (Value.bool true)).put 133 (Value.bool true)).put 133 (Value.bool false)).put 134 v89).put 135 (f.r 14)).put 136 (f.r 17)).put 137 v90).put 138 v91).put 139 v92).put 140 v94).put 141 v94) h93 (contQ prog J 143 n0 11 [1, 1, 1, 1, 1, 1, 1, 0, 1, 0, 0, 1, 0, 0, 1, 1, 1, 1, 1, 1] (codeOf f11) [nx0] (RetQ prog [.tmp 10] n0 K))))))
(Good prog J 47 [v13, v19] h37 fun v95 h96 =>
SameB (some B) h37 h96 ∧ (aUn .not v95 fun v97 =>
cnd v97
(W prog J 143 n0 11 (subC [1, 1, 1, 1, 1, 1, 1, 0, 1, 0, 0, 1, 0, 0, 1, 1, 1, 1, 1, 1] (codeOf f11)) ((((((((((((((((((((((((((((((((((((((((((((((((((((((((((((((((((((((((((((((((((((((((((((f.put 61 (f.r 17)).put 62 (f.r 14)).put 63 v1).put 64 v2).put 67 (f.r 14)).put 68 (f.r 17)).put 69 v3).put 70 v4).put 71 v5).put 18 v7).put 73 v10).put 74 v11).put 72 v11).put 75 v13).put 76 v14).put 19 v13).put 20 v14).put 78 (f.r 14)).put 79 (f.r 17)).put 80 v15).put 81 v16).put 82 v17).put 77 v17).put 83 v19).put 84 v20).put 21 v19).put 22 v20).put 86 v21).put 87 (f.r 15)).put 88 (f.r 17)).put 89 v22).put 90 v23).put 91 (f.r 16)).put 92 (f.r 17)).put 93 v24).put 94 v25).put 95 v26).put 85 v26).put 96 v28).put 97 v29).put 23 v28).put 24 v29).put 99 (f.r 14)).put 100 (f.r 17)).put 101 v30).put 102 v31).put 103 (f.r 15)).put 104 (f.r 17)).put 105 v32).put 106 v33).put 107 (f.r 16)).put 108 (f.r 17)).put 109 v34).put 110 v35).put 111 v36).put 98 v36).put 112 v38).put 113 v39).put 25 v38).put 26 v39).put 114 v14).put 115 v20).put 116 v40).put 117 v40).put 117 (Value.bool false)).put 118 v29).put 119 v39).put 120 v72).put 121 v72).put 122 v72).put 122 (Value.bool false)).put 123 v28).put 124 v38).put 125 v88).put 126 v88).put 127 v88).put 127 (Value.bool false)).put 128 v13).put 129 v19).put 130 v95).put 131 v97).put 132 v97).put 133 v97).put 133 (Value.bool true)).put 134 undef).put 135 undef).put 136 undef).put 137 undef).put 138 undef).put 139 undef).put 140 undef).put 141 (Value.bool true)) h96 (contQ prog J 143 n0 11 [1, 1, 1, 1, 1, 1, 1, 0, 1, 0, 0, 1, 0, 0, 1, 1, 1, 1, 1, 1] (codeOf f11) [nx0] (RetQ prog [.tmp 10] n0 K)))
(aLoad true 6 v7 h96 fun v98 =>
RdOk (some B) (ptrBlk v7) ∧ (aIdx 6 (f.r 14) (f.r 17) fun v99 =>
aLoad true 6 v99 h96 fun v100 =>
RdOk (some B) (ptrBlk v99) ∧ (Good prog J 48 [v98, v100] h96 fun v101 h102 =>
aUn .not v101 fun v103 =>
W prog J 143 n0 11 (subC [1, 1, 1, 1, 1, 1, 1, 0, 1, 0, 0, 1, 0, 0, 1, 1, 1, 1, 1, 1] (codeOf f11)) ((((((((((((((((((((((((((((((((((((((((((((((((((((((((((((((((((((((((((((((((((((((((((((f.put 61 (f.r 17)).put 62 (f.r 14)).put 63 v1).put 64 v2).put 67 (f.r 14)).put 68 (f.r 17)).put 69 v3).put 70 v4).put 71 v5).put 18 v7).put 73 v10).put 74 v11).put 72 v11).put 75 v13).put 76 v14).put 19 v13).put 20 v14).put 78 (f.r 14)).put 79 (f.r 17)).put 80 v15).put 81 v16).put 82 v17).put 77 v17).put 83 v19).put 84 v20).put 21 v19).put 22 v20).put 86 v21).put 87 (f.r 15)).put 88 (f.r 17)).put 89 v22).put 90 v23).put 91 (f.r 16)).put 92 (f.r 17)).put 93 v24).put 94 v25).put 95 v26).put 85 v26).put 96 v28).put 97 v29).put 23 v28).put 24 v29).put 99 (f.r 14)).put 100 (f.r 17)).put 101 v30).put 102 v31).put 103 (f.r 15)).put 104 (f.r 17)).put 105 v32).put 106 v33).put 107 (f.r 16)).put 108 (f.r 17)).put 109 v34).put 110 v35).put 111 v36).put 98 v36).put 112 v38).put 113 v39).put 25 v38).put 26 v39).put 114 v14).put 115 v20).put 116 v40).put 117 v40).put 117 (Value.bool false)).put 118 v29).put 119 v39).put 120 v72).put 121 v72).put 122 v72).put 122 (Value.bool false)).put 123 v28).put 124 v38).put 125 v88).put 126 v88).put 127 v88).put 127 (Value.bool false)).put 128 v13).put 129 v19).put 130 v95).put 131 v97).put 132 v97).put 133 v97).put 133 (Value.bool false)).put 134 v98).put 135 (f.r 14)).put 136 (f.r 17)).put 137 v99).put 138 v100).put 139 v101).put 140 v103).put 141 v103) h102 (contQ prog J 143 n0 11 [1, 1, 1, 1, 1, 1, 1, 0, 1, 0, 0, 1, 0, 0, 1, 1, 1, 1, 1, 1] (codeOf f11) [nx0] (RetQ prog [.tmp 10] n0 K)))))))))))
(Good prog J 18 [] h fun v104 h105 =>
retL n0 K f.ds [v104] h105)) := by kernel_rfl
theorem l11_2 (hJ : Closed prog main J) {S : Type} (μ : S → Nat) (I : S → RG → List AObj → Prop) (hI : ∀ s f h, I s f h → heapOk h → n0 ≤ h.length → W prog J 143 n0 11 (subC [1, 1, 1, 1, 1, 1, 1, 0, 1, 0, 0] (codeOf f11)) f h (thenK (Nx n0 μ I s) (contQ prog J 143 n0 11 [1, 1, 1, 1, 1, 1, 1, 0, 1, 0] (codeOf f11) [] (RetQ prog [.tmp 10] n0 K))))
  {s : S} {f : RG} (hi : Gets n0 I s f h) : Sem J 143 n0 11 (subC [1, 1, 1, 1, 1, 1, 1, 0, 1, 0] (codeOf f11)) f h (contQ prog J 143 n0 11 [1, 1, 1, 1, 1, 1, 1, 0, 1, 0] (codeOf f11) [] (RetQ prog [.tmp 10] n0 K)) :=
  loop_rule hJ mixed (b := subC [1, 1, 1, 1, 1, 1, 1, 0, 1, 0, 0] (codeOf f11)) (by kernel_rfl) μ I hI hi
-- join [1, 1, 1, 1, 1, 1, 1, 0, 1, 0, 0, 1, 0, 0, 1, 1, 1, 1, 1, 1]
theorem s11_3 {f : RG} {nx0 : RG → List AObj → Prop} : W prog J 143 n0 11 (subC [1, 1, 1, 1, 1, 1, 1, 0, 1, 0, 0, 1, 0, 0, 1, 1, 1, 1, 1, 1] (codeOf f11)) f h (contQ prog J 143 n0 11 [1, 1, 1, 1, 1, 1, 1, 0, 1, 0, 0, 1, 0, 0, 1, 1, 1, 1, 1, 1] (codeOf f11) [nx0] (RetQ prog [.tmp 10] n0 K)) =
(cnd (f.r 141)
(retL n0 K f.ds [(Value.bool false)] h)
(aBin prog .add 3 (f.r 17) (vint 1) fun v1 =>
nx0 (((f.put 65 (f.r 17)).put 66 v1).put 17 v1) h)) := by kernel_rfl
end
end Go.Proofs.Ytdgpacdknpahnaa

/- Printed by program: the forms to which the bodies of some functions come down. No conditions. -/
namespace Go.Proofs.Ytdgpacdknpahnaa
open Go.Conc Go.Proofs.Try
set_option maxRecDepth 100000
set_option linter.unusedVariables false
section
variable {main : Bool} {J : JT} {n0 : Nat} {h : List AObj} {K : Value → List AObj → Prop}
theorem at85 : prog.funcs[85]? = some f85 := by kernel_rfl
theorem body85 : f85.body = some (codeOf f85) := by kernel_rfl
theorem e85 {a0 a1 : Value} : W prog J 25 h.length 85 (codeOf f85) (RG.mk (regs [a0, a1]) []) h (RetQ prog [.tmp 4] h.length K) =
(aBox a0 h fun v1 h2 =>
aOff v1 2 fun v3 =>
aLoad false 1 v3 h2 fun v4 =>
aBin prog .sub 3 v4 a1 fun v5 =>
aBin prog .lss 3 v5 (vint 0) fun v6 =>
cnd v6
(aUn .neg v5 fun v7 =>
aBin prog .geq 3 a1 (vint 0) fun v8 =>
cnd v8
(aBin prog .mul 3 (vint 100) v7 fun v9 =>
aOff v1 3 fun v10 =>
aLoad false 1 v10 h2 fun v11 =>
aBin prog .mul 3 v11 a1 fun v12 =>
aBin prog .leq 3 v9 v12 fun v13 =>
retL h.length K [] [v13] h2)
(retL h.length K [] [(Value.bool false)] h2))
(aBin prog .geq 3 a1 (vint 0) fun v14 =>
cnd v14
(aBin prog .mul 3 (vint 100) v5 fun v15 =>
aOff v1 3 fun v16 =>
aLoad false 1 v16 h2 fun v17 =>
aBin prog .mul 3 v17 a1 fun v18 =>
aBin prog .leq 3 v15 v18 fun v19 =>
retL h.length K [] [v19] h2)
(retL h.length K [] [(Value.bool false)] h2))) := by kernel_rfl
theorem g85 (hJ : Closed prog main J) {a0 a1 : Value} (hs : heapOk h → W prog J 25 h.length 85 (codeOf f85) (RG.mk (regs [a0, a1]) []) h (RetQ prog [.tmp 4] h.length K)) : Good prog J 85 [a0, a1] h K :=
  good_of_W hJ mixed at85 body85 (by kernel_rfl) (Nat.le_of_ble_eq_true rfl) hs
theorem at94 : prog.funcs[94]? = some f94 := by kernel_rfl
theorem body94 : f94.body = some (codeOf f94) := by kernel_rfl
theorem e94 {a0 a1 a2 : Value} : W prog J 33 h.length 94 (codeOf f94) (RG.mk (regs [a0, a1, a2]) []) h (RetQ prog [.tmp 6] h.length K) =
(aBox a0 h fun v1 h2 =>
Sem J 33 h.length 94 (subC [1, 0, 1, 0] (codeOf f94)) ((((RG.mk (regs [a0, a1, a2]) []).put 3 v1).put 6 (Value.bool false)).put 7 (vint 0)) h2 (contQ prog J 33 h.length 94 [1, 0, 1, 0] (codeOf f94) [] (RetQ prog [.tmp 6] h.length K))) := by kernel_rfl
theorem g94 (hJ : Closed prog main J) {a0 a1 a2 : Value} (hs : heapOk h → W prog J 33 h.length 94 (codeOf f94) (RG.mk (regs [a0, a1, a2]) []) h (RetQ prog [.tmp 6] h.length K)) : Good prog J 94 [a0, a1, a2] h K :=
  good_of_W hJ mixed at94 body94 (by kernel_rfl) (Nat.le_of_ble_eq_true rfl) hs
-- loop [1, 0, 1, 0, 0]
theorem s94_1 {f : RG} {nx0 : RG → List AObj → Prop} : W prog J 33 n0 94 (subC [1, 0, 1, 0, 0] (codeOf f94)) f h (thenK nx0 (contQ prog J 33 n0 94 [1, 0, 1, 0] (codeOf f94) [] (RetQ prog [.tmp 6] n0 K))) =
(aOff (f.r 3) 5 fun v1 =>
aLoad false 1 v1 h fun v2 =>
aLenS v2 fun v3 =>
aBin prog .lss 3 (f.r 7) v3 fun v4 =>
cnd v4
(aOff (f.r 3) 5 fun v5 =>
aLoad false 1 v5 h fun v6 =>
aIdx 4 v6 (f.r 7) fun v7 =>
aOff v7 0 fun v8 =>
aLoad false 1 v8 h fun v9 =>
aBin prog .eql 3 v9 (f.r 1) fun v10 =>
cnd v10
(aOff (f.r 3) 5 fun v11 =>
aLoad false 1 v11 h fun v12 =>
aIdx 4 v12 (f.r 7) fun v13 =>
aLoad true 4 v13 h fun v14 =>
Good prog J 85 [v14, (f.r 2)] h fun v15 h16 =>
aUn .not v15 fun v17 =>
W prog J 33 n0 94 (subC [1, 0, 1, 0, 0, 1, 0, 0, 1] (codeOf f94)) ((((((((((((((((((((((((f.put 8 (f.r 7)).put 9 v1).put 10 v2).put 11 v3).put 12 v4).put 15 v5).put 16 v6).put 17 (f.r 7)).put 18 v7).put 19 v8).put 20 v9).put 21 (f.r 1)).put 22 v10).put 23 v10).put 23 (Value.bool true)).put 24 v11).put 25 v12).put 26 (f.r 7)).put 27 v13).put 28 v14).put 29 (f.r 2)).put 30 v15).put 31 v17).put 32 v17) h16 (contQ prog J 33 n0 94 [1, 0, 1, 0, 0, 1, 0, 0, 1] (codeOf f94) [nx0] (RetQ prog [.tmp 6] n0 K)))
(W prog J 33 n0 94 (subC [1, 0, 1, 0, 0, 1, 0, 0, 1] (codeOf f94)) ((((((((((((((((((((((((f.put 8 (f.r 7)).put 9 v1).put 10 v2).put 11 v3).put 12 v4).put 15 v5).put 16 v6).put 17 (f.r 7)).put 18 v7).put 19 v8).put 20 v9).put 21 (f.r 1)).put 22 v10).put 23 v10).put 23 (Value.bool false)).put 24 undef).put 25 undef).put 26 undef).put 27 undef).put 28 undef).put 29 undef).put 30 undef).put 31 undef).put 32 (Value.bool false)) h (contQ prog J 33 n0 94 [1, 0, 1, 0, 0, 1, 0, 0, 1] (codeOf f94) [nx0] (RetQ prog [.tmp 6] n0 K))))
(retL n0 K f.ds [(Value.bool true)] h)) := by kernel_rfl
theorem l94_1 (hJ : Closed prog main J) {S : Type} (μ : S → Nat) (I : S → RG → List AObj → Prop) (hI : ∀ s f h, I s f h → heapOk h → n0 ≤ h.length → W prog J 33 n0 94 (subC [1, 0, 1, 0, 0] (codeOf f94)) f h (thenK (Nx n0 μ I s) (contQ prog J 33 n0 94 [1, 0, 1, 0] (codeOf f94) [] (RetQ prog [.tmp 6] n0 K))))
  {s : S} {f : RG} (hi : Gets n0 I s f h) : Sem J 33 n0 94 (subC [1, 0, 1, 0] (codeOf f94)) f h (contQ prog J 33 n0 94 [1, 0, 1, 0] (codeOf f94) [] (RetQ prog [.tmp 6] n0 K)) :=
  loop_rule hJ mixed (b := subC [1, 0, 1, 0, 0] (codeOf f94)) (by kernel_rfl) μ I hI hi
-- join [1, 0, 1, 0, 0, 1, 0, 0, 1]
theorem s94_2 {f : RG} {nx0 : RG → List AObj → Prop} : W prog J 33 n0 94 (subC [1, 0, 1, 0, 0, 1, 0, 0, 1] (codeOf f94)) f h (contQ prog J 33 n0 94 [1, 0, 1, 0, 0, 1, 0, 0, 1] (codeOf f94) [nx0] (RetQ prog [.tmp 6] n0 K)) =
(cnd (f.r 32)
(retL n0 K f.ds [(Value.bool false)] h)
(aBin prog .add 3 (f.r 7) (vint 1) fun v1 =>
nx0 (((f.put 13 (f.r 7)).put 14 v1).put 7 v1) h)) := by kernel_rfl
theorem at112 : prog.funcs[112]? = some f112 := by kernel_rfl
theorem body112 : f112.body = some (codeOf f112) := by kernel_rfl
theorem e112 {a0 a1 a2 : Value} : W prog J 29 h.length 112 (codeOf f112) (RG.mk (regs [a0, a1, a2]) []) h (RetQ prog [.tmp 6, .tmp 7] h.length K) =
(aBox a0 h fun v1 h2 =>
aOff v1 3 fun v3 =>
aLoad false 1 v3 h2 fun v4 =>
aIdx 2 v4 a1 fun v5 =>
aOff v5 1 fun v6 =>
aLoad false 1 v6 h2 fun v7 =>
aBin prog .sub 3 a2 v7 fun v8 =>
aMax (vint 0) [v8] fun v9 =>
aOff v1 3 fun v10 =>
aLoad false 1 v10 h2 fun v11 =>
aIdx 2 v11 a1 fun v12 =>
aOff v12 0 fun v13 =>
aLoad false 1 v13 h2 fun v14 =>
aBin prog .sub 3 a2 v14 fun v15 =>
aOff v1 4 fun v16 =>
aLoad false 1 v16 h2 fun v17 =>
aBin prog .add 3 v15 v17 fun v18 =>
aMin (vint 540) [v18] fun v19 =>
retL h.length K [] [v9, v19] h2) := by kernel_rfl
theorem g112 (hJ : Closed prog main J) {a0 a1 a2 : Value} (hs : heapOk h → W prog J 29 h.length 112 (codeOf f112) (RG.mk (regs [a0, a1, a2]) []) h (RetQ prog [.tmp 6, .tmp 7] h.length K)) : Good prog J 112 [a0, a1, a2] h K :=
  good_of_W hJ mixed at112 body112 (by kernel_rfl) (Nat.le_of_ble_eq_true rfl) hs
theorem at108 : prog.funcs[108]? = some f108 := by kernel_rfl
theorem body108 : f108.body = some (codeOf f108) := by kernel_rfl
theorem e108 {a0 a1 a2 : Value} : W prog J 29 h.length 108 (codeOf f108) (RG.mk (regs [a0, a1, a2]) []) h (RetQ prog [.tmp 6, .tmp 7] h.length K) =
(aBox a0 h fun v1 h2 =>
aOff v1 3 fun v3 =>
aLoad false 1 v3 h2 fun v4 =>
aIdx 2 v4 a1 fun v5 =>
aOff v5 0 fun v6 =>
aLoad false 1 v6 h2 fun v7 =>
aBin prog .add 3 a2 v7 fun v8 =>
aOff v1 4 fun v9 =>
aLoad false 1 v9 h2 fun v10 =>
aBin prog .sub 3 v8 v10 fun v11 =>
aMax (vint 0) [v11] fun v12 =>
aOff v1 3 fun v13 =>
aLoad false 1 v13 h2 fun v14 =>
aIdx 2 v14 a1 fun v15 =>
aOff v15 1 fun v16 =>
aLoad false 1 v16 h2 fun v17 =>
aBin prog .add 3 a2 v17 fun v18 =>
aMin (vint 540) [v18] fun v19 =>
retL h.length K [] [v12, v19] h2) := by kernel_rfl
theorem g108 (hJ : Closed prog main J) {a0 a1 a2 : Value} (hs : heapOk h → W prog J 29 h.length 108 (codeOf f108) (RG.mk (regs [a0, a1, a2]) []) h (RetQ prog [.tmp 6, .tmp 7] h.length K)) : Good prog J 108 [a0, a1, a2] h K :=
  good_of_W hJ mixed at108 body108 (by kernel_rfl) (Nat.le_of_ble_eq_true rfl) hs
theorem at107 : prog.funcs[107]? = some f107 := by kernel_rfl
theorem body107 : f107.body = some (codeOf f107) := by kernel_rfl
theorem e107 {a0 : Value} : W prog J 77 h.length 107 (codeOf f107) (RG.mk (regs [a0]) []) h (RetQ prog [.tmp 2] h.length K) =
(aBox a0 h fun v1 h2 =>
Sem J 77 h.length 107 (subC [1, 1, 0, 1, 0] (codeOf f107)) (((((RG.mk (regs [a0]) []).put 1 v1).put 2 (Value.slice none 0 0)).put 3 (Value.slice none 0 0)).put 4 (vint 0)) h2 (contQ prog J 77 h.length 107 [1, 1, 0, 1, 0] (codeOf f107) [] (RetQ prog [.tmp 2] h.length K))) := by kernel_rfl
theorem g107 (hJ : Closed prog main J) {a0 : Value} (hs : heapOk h → W prog J 77 h.length 107 (codeOf f107) (RG.mk (regs [a0]) []) h (RetQ prog [.tmp 2] h.length K)) : Good prog J 107 [a0] h K :=
  good_of_W hJ mixed at107 body107 (by kernel_rfl) (Nat.le_of_ble_eq_true rfl) hs
-- loop [1, 1, 0, 1, 0, 0]
theorem s107_1 {f : RG} {nx0 : RG → List AObj → Prop} : W prog J 77 n0 107 (subC [1, 1, 0, 1, 0, 0] (codeOf f107)) f h (thenK nx0 (contQ prog J 77 n0 107 [1, 1, 0, 1, 0] (codeOf f107) [] (RetQ prog [.tmp 2] n0 K))) =
(aOff (f.r 1) 0 fun v1 =>
aLoad false 1 v1 h fun v2 =>
aBin prog .lss 3 (f.r 4) v2 fun v3 =>
cnd v3
(((List.length [(Value.bool false)] = 1 ∧ 1 ≤ 1024) ∧ aMkS [(Value.bool false)] (vint 541) (vint 541) h fun v4 h5 =>
Sem J 77 n0 107 (subC [1, 1, 0, 1, 0, 0, 1, 0, 0, 1, 0, 1, 0] (codeOf f107)) (((((((f.put 11 (f.r 4)).put 12 v1).put 13 v2).put 14 v3).put 17 v4).put 5 v4).put 6 (vint 0)) h5 (contQ prog J 77 n0 107 [1, 1, 0, 1, 0, 0, 1, 0, 0, 1, 0, 1, 0] (codeOf f107) [nx0] (RetQ prog [.tmp 2] n0 K))))
(retL n0 K f.ds [(f.r 3)] h)) := by kernel_rfl
theorem l107_1 (hJ : Closed prog main J) {S : Type} (μ : S → Nat) (I : S → RG → List AObj → Prop) (hI : ∀ s f h, I s f h → heapOk h → n0 ≤ h.length → W prog J 77 n0 107 (subC [1, 1, 0, 1, 0, 0] (codeOf f107)) f h (thenK (Nx n0 μ I s) (contQ prog J 77 n0 107 [1, 1, 0, 1, 0] (codeOf f107) [] (RetQ prog [.tmp 2] n0 K))))
  {s : S} {f : RG} (hi : Gets n0 I s f h) : Sem J 77 n0 107 (subC [1, 1, 0, 1, 0] (codeOf f107)) f h (contQ prog J 77 n0 107 [1, 1, 0, 1, 0] (codeOf f107) [] (RetQ prog [.tmp 2] n0 K)) :=
  loop_rule hJ mixed (b := subC [1, 1, 0, 1, 0, 0] (codeOf f107)) (by kernel_rfl) μ I hI hi
-- loop [1, 1, 0, 1, 0, 0, 1, 0, 0, 1, 0, 1, 0, 0]
theorem s107_2 {f : RG} {nx0 nx1 : RG → List AObj → Prop} : W prog J 77 n0 107 (subC [1, 1, 0, 1, 0, 0, 1, 0, 0, 1, 0, 1, 0, 0] (codeOf f107)) f h (thenK nx1 (contQ prog J 77 n0 107 [1, 1, 0, 1, 0, 0, 1, 0, 0, 1, 0, 1, 0] (codeOf f107) [nx0] (RetQ prog [.tmp 2] n0 K))) =
(aBin prog .lss 3 (f.r 6) (vint 541) fun v1 =>
cnd v1
(aBin prog .eql 3 (f.r 4) (vint 0) fun v2 =>
cnd v2
(aOff (f.r 1) 1 fun v3 =>
aOff v3 0 fun v4 =>
aLoad false 1 v4 h fun v5 =>
aOff (f.r 1) 1 fun v6 =>
aOff v6 1 fun v7 =>
aLoad false 1 v7 h fun v8 =>
Good prog J 68 [(f.r 6), v5, v8] h fun v9 h10 =>
aBin prog .gtr 3 (f.r 4) (vint 0) fun v11 =>
cnd v11
(aLoad true 6 (f.r 1) h10 fun v12 =>
aBin prog .sub 3 (f.r 4) (vint 1) fun v13 =>
Good prog J 112 [v12, v13, (f.r 6)] h10 fun v14 h15 =>
aExt v14 0 fun v16 =>
aExt v14 1 fun v17 =>
Sem J 77 n0 107 (subC [1, 1, 0, 1, 0, 0, 1, 0, 0, 1, 0, 1, 0, 0, 1, 0, 0, 1, 0, 1, 0, 1, 1, 0] (codeOf f107)) ((((((((((((((((((((((((((((((f.put 18 (f.r 6)).put 19 v1).put 22 (f.r 4)).put 23 v2).put 24 v2).put 24 (Value.bool true)).put 25 (f.r 6)).put 26 v3).put 27 v4).put 28 v5).put 29 v6).put 30 v7).put 31 v8).put 32 v9).put 33 v9).put 7 v9).put 34 (f.r 4)).put 35 v11).put 37 v12).put 38 (f.r 4)).put 39 v13).put 40 (f.r 6)).put 41 v14).put 36 v14).put 42 v16).put 43 v17).put 8 v16).put 9 v17).put 44 v16).put 10 v16) h15 (contQ prog J 77 n0 107 [1, 1, 0, 1, 0, 0, 1, 0, 0, 1, 0, 1, 0, 0, 1, 0, 0, 1, 0, 1, 0, 1, 1, 0] (codeOf f107) [nx0, nx1] (RetQ prog [.tmp 2] n0 K)))
(cnd v9
(aLoad true 6 (f.r 1) h10 fun v18 =>
Good prog J 94 [v18, (f.r 4), (f.r 6)] h10 fun v19 h20 =>
aIdx 1 (f.r 5) (f.r 6) fun v21 =>
aStore 1 v21 v19 h20 fun h22 =>
aBin prog .add 3 (f.r 6) (vint 1) fun v23 =>
nx1 ((((((((((((((((((((((((((((((((f.put 18 (f.r 6)).put 19 v1).put 22 (f.r 4)).put 23 v2).put 24 v2).put 24 (Value.bool true)).put 25 (f.r 6)).put 26 v3).put 27 v4).put 28 v5).put 29 v6).put 30 v7).put 31 v8).put 32 v9).put 33 v9).put 7 v9).put 34 (f.r 4)).put 35 v11).put 62 (f.r 5)).put 63 (f.r 6)).put 64 v9).put 65 v9).put 65 (Value.bool true)).put 66 v18).put 67 (f.r 4)).put 68 (f.r 6)).put 69 v19).put 70 v19).put 71 v21).put 20 (f.r 6)).put 21 v23).put 6 v23) h22)
(aIdx 1 (f.r 5) (f.r 6) fun v24 =>
aStore 1 v24 (Value.bool false) h10 fun h25 =>
aBin prog .add 3 (f.r 6) (vint 1) fun v26 =>
nx1 ((((((((((((((((((((((((((((((((f.put 18 (f.r 6)).put 19 v1).put 22 (f.r 4)).put 23 v2).put 24 v2).put 24 (Value.bool true)).put 25 (f.r 6)).put 26 v3).put 27 v4).put 28 v5).put 29 v6).put 30 v7).put 31 v8).put 32 v9).put 33 v9).put 7 v9).put 34 (f.r 4)).put 35 v11).put 62 (f.r 5)).put 63 (f.r 6)).put 64 v9).put 65 v9).put 65 (Value.bool false)).put 66 undef).put 67 undef).put 68 undef).put 69 undef).put 70 (Value.bool false)).put 71 v24).put 20 (f.r 6)).put 21 v26).put 6 v26) h25)))
(aBin prog .gtr 3 (f.r 4) (vint 0) fun v27 =>
cnd v27
(aLoad true 6 (f.r 1) h fun v28 =>
aBin prog .sub 3 (f.r 4) (vint 1) fun v29 =>
Good prog J 112 [v28, v29, (f.r 6)] h fun v30 h31 =>
aExt v30 0 fun v32 =>
aExt v30 1 fun v33 =>
Sem J 77 n0 107 (subC [1, 1, 0, 1, 0, 0, 1, 0, 0, 1, 0, 1, 0, 0, 1, 0, 0, 1, 0, 1, 0, 1, 1, 0] (codeOf f107)) ((((((((((((((((((((((((((((((f.put 18 (f.r 6)).put 19 v1).put 22 (f.r 4)).put 23 v2).put 24 v2).put 24 (Value.bool false)).put 25 undef).put 26 undef).put 27 undef).put 28 undef).put 29 undef).put 30 undef).put 31 undef).put 32 undef).put 33 (Value.bool false)).put 7 (Value.bool false)).put 34 (f.r 4)).put 35 v27).put 37 v28).put 38 (f.r 4)).put 39 v29).put 40 (f.r 6)).put 41 v30).put 36 v30).put 42 v32).put 43 v33).put 8 v32).put 9 v33).put 44 v32).put 10 v32) h31 (contQ prog J 77 n0 107 [1, 1, 0, 1, 0, 0, 1, 0, 0, 1, 0, 1, 0, 0, 1, 0, 0, 1, 0, 1, 0, 1, 1, 0] (codeOf f107) [nx0, nx1] (RetQ prog [.tmp 2] n0 K)))
(cnd (Value.bool false)
(aLoad true 6 (f.r 1) h fun v34 =>
Good prog J 94 [v34, (f.r 4), (f.r 6)] h fun v35 h36 =>
aIdx 1 (f.r 5) (f.r 6) fun v37 =>
aStore 1 v37 v35 h36 fun h38 =>
aBin prog .add 3 (f.r 6) (vint 1) fun v39 =>
nx1 ((((((((((((((((((((((((((((((((f.put 18 (f.r 6)).put 19 v1).put 22 (f.r 4)).put 23 v2).put 24 v2).put 24 (Value.bool false)).put 25 undef).put 26 undef).put 27 undef).put 28 undef).put 29 undef).put 30 undef).put 31 undef).put 32 undef).put 33 (Value.bool false)).put 7 (Value.bool false)).put 34 (f.r 4)).put 35 v27).put 62 (f.r 5)).put 63 (f.r 6)).put 64 (Value.bool false)).put 65 (Value.bool false)).put 65 (Value.bool true)).put 66 v34).put 67 (f.r 4)).put 68 (f.r 6)).put 69 v35).put 70 v35).put 71 v37).put 20 (f.r 6)).put 21 v39).put 6 v39) h38)
(aIdx 1 (f.r 5) (f.r 6) fun v40 =>
aStore 1 v40 (Value.bool false) h fun h41 =>
aBin prog .add 3 (f.r 6) (vint 1) fun v42 =>
nx1 ((((((((((((((((((((((((((((((((f.put 18 (f.r 6)).put 19 v1).put 22 (f.r 4)).put 23 v2).put 24 v2).put 24 (Value.bool false)).put 25 undef).put 26 undef).put 27 undef).put 28 undef).put 29 undef).put 30 undef).put 31 undef).put 32 undef).put 33 (Value.bool false)).put 7 (Value.bool false)).put 34 (f.r 4)).put 35 v27).put 62 (f.r 5)).put 63 (f.r 6)).put 64 (Value.bool false)).put 65 (Value.bool false)).put 65 (Value.bool false)).put 66 undef).put 67 undef).put 68 undef).put 69 undef).put 70 (Value.bool false)).put 71 v40).put 20 (f.r 6)).put 21 v42).put 6 v42) h41))))
(((1 * 1 ≤ 16777216 ∧ 1 ≤ 16777216 ∧ List.length [(Value.slice none 0 0)] = 1) ∧ aFill (zrep [(Value.slice none 0 0)] 1) [(0, 1, (f.r 5))] fun c43 =>
aNewS 1 c43 h fun v44 h45 =>
((List.length [(Value.slice none 0 0)] = 1 ∧ 0 < 1 ∧ 0 < 24 ∧ 24 ≤ 1024) ∧ aApp 1 (f.r 3) v44 h45 fun v46 h47 =>
aBin prog .add 3 (f.r 4) (vint 1) fun v48 =>
nx0 ((((((((((f.put 18 (f.r 6)).put 19 v1).put 72 (f.r 3)).put 73 (f.r 5)).put 74 v44).put 75 v46).put 3 v46).put 15 (f.r 4)).put 16 v48).put 4 v48) h47)))) := by kernel_rfl
theorem l107_2 (hJ : Closed prog main J) {nx0 : RG → List AObj → Prop} {S : Type} (μ : S → Nat) (I : S → RG → List AObj → Prop) (hI : ∀ s f h, I s f h → heapOk h → n0 ≤ h.length → W prog J 77 n0 107 (subC [1, 1, 0, 1, 0, 0, 1, 0, 0, 1, 0, 1, 0, 0] (codeOf f107)) f h (thenK (Nx n0 μ I s) (contQ prog J 77 n0 107 [1, 1, 0, 1, 0, 0, 1, 0, 0, 1, 0, 1, 0] (codeOf f107) [nx0] (RetQ prog [.tmp 2] n0 K))))
  {s : S} {f : RG} (hi : Gets n0 I s f h) : Sem J 77 n0 107 (subC [1, 1, 0, 1, 0, 0, 1, 0, 0, 1, 0, 1, 0] (codeOf f107)) f h (contQ prog J 77 n0 107 [1, 1, 0, 1, 0, 0, 1, 0, 0, 1, 0, 1, 0] (codeOf f107) [nx0] (RetQ prog [.tmp 2] n0 K)) :=
  loop_rule hJ mixed (b := subC [1, 1, 0, 1, 0, 0, 1, 0, 0, 1, 0, 1, 0, 0] (codeOf f107)) (by kernel_rfl) μ I hI hi
-- loop [1, 1, 0, 1, 0, 0, 1, 0, 0, 1, 0, 1, 0, 0, 1, 0, 0, 1, 0, 1, 0, 1, 1, 0, 0]
theorem s107_3 {f : RG} {nx0 nx1 nx2 : RG → List AObj → Prop} : W prog J 77 n0 107 (subC [1, 1, 0, 1, 0, 0, 1, 0, 0, 1, 0, 1, 0, 0, 1, 0, 0, 1, 0, 1, 0, 1, 1, 0, 0] (codeOf f107)) f h (thenK nx2 (contQ prog J 77 n0 107 [1, 1, 0, 1, 0, 0, 1, 0, 0, 1, 0, 1, 0, 0, 1, 0, 0, 1, 0, 1, 0, 1, 1, 0] (codeOf f107) [nx0, nx1] (RetQ prog [.tmp 2] n0 K))) =
(aBin prog .leq 3 (f.r 10) (f.r 9) fun v1 =>
cnd v1
(aUn .not (f.r 7) fun v2 =>
cnd v2
(aBin prog .sub 3 (f.r 4) (vint 1) fun v3 =>
aIdx 1 (f.r 3) v3 fun v4 =>
aLoad false 1 v4 h fun v5 =>
aIdx 1 v5 (f.r 10) fun v6 =>
aLoad false 1 v6 h fun v7 =>
aBin prog .add 3 (f.r 10) (vint 1) fun v8 =>
nx2 ((((((((((((((((((((f.put 45 (f.r 10)).put 46 (f.r 9)).put 47 v1).put 48 v1).put 48 (Value.bool true)).put 49 (f.r 7)).put 50 v2).put 51 v2).put 54 (f.r 3)).put 55 (f.r 4)).put 56 v3).put 57 v4).put 58 v5).put 59 (f.r 10)).put 60 v6).put 61 v7).put 7 v7).put 52 (f.r 10)).put 53 v8).put 10 v8) h)
(cnd (f.r 7)
(aLoad true 6 (f.r 1) h fun v9 =>
Good prog J 94 [v9, (f.r 4), (f.r 6)] h fun v10 h11 =>
aIdx 1 (f.r 5) (f.r 6) fun v12 =>
aStore 1 v12 v10 h11 fun h13 =>
aBin prog .add 3 (f.r 6) (vint 1) fun v14 =>
nx1 ((((((((((((((((((((((f.put 45 (f.r 10)).put 46 (f.r 9)).put 47 v1).put 48 v1).put 48 (Value.bool true)).put 49 (f.r 7)).put 50 v2).put 51 v2).put 62 (f.r 5)).put 63 (f.r 6)).put 64 (f.r 7)).put 65 (f.r 7)).put 65 (Value.bool true)).put 66 v9).put 67 (f.r 4)).put 68 (f.r 6)).put 69 v10).put 70 v10).put 71 v12).put 20 (f.r 6)).put 21 v14).put 6 v14) h13)
(aIdx 1 (f.r 5) (f.r 6) fun v15 =>
aStore 1 v15 (Value.bool false) h fun h16 =>
aBin prog .add 3 (f.r 6) (vint 1) fun v17 =>
nx1 ((((((((((((((((((((((f.put 45 (f.r 10)).put 46 (f.r 9)).put 47 v1).put 48 v1).put 48 (Value.bool true)).put 49 (f.r 7)).put 50 v2).put 51 v2).put 62 (f.r 5)).put 63 (f.r 6)).put 64 (f.r 7)).put 65 (f.r 7)).put 65 (Value.bool false)).put 66 undef).put 67 undef).put 68 undef).put 69 undef).put 70 (Value.bool false)).put 71 v15).put 20 (f.r 6)).put 21 v17).put 6 v17) h16)))
(cnd (Value.bool false)
(aBin prog .sub 3 (f.r 4) (vint 1) fun v18 =>
aIdx 1 (f.r 3) v18 fun v19 =>
aLoad false 1 v19 h fun v20 =>
aIdx 1 v20 (f.r 10) fun v21 =>
aLoad false 1 v21 h fun v22 =>
aBin prog .add 3 (f.r 10) (vint 1) fun v23 =>
nx2 ((((((((((((((((((((f.put 45 (f.r 10)).put 46 (f.r 9)).put 47 v1).put 48 v1).put 48 (Value.bool false)).put 49 undef).put 50 undef).put 51 (Value.bool false)).put 54 (f.r 3)).put 55 (f.r 4)).put 56 v18).put 57 v19).put 58 v20).put 59 (f.r 10)).put 60 v21).put 61 v22).put 7 v22).put 52 (f.r 10)).put 53 v23).put 10 v23) h)
(cnd (f.r 7)
(aLoad true 6 (f.r 1) h fun v24 =>
Good prog J 94 [v24, (f.r 4), (f.r 6)] h fun v25 h26 =>
aIdx 1 (f.r 5) (f.r 6) fun v27 =>
aStore 1 v27 v25 h26 fun h28 =>
aBin prog .add 3 (f.r 6) (vint 1) fun v29 =>
nx1 ((((((((((((((((((((((f.put 45 (f.r 10)).put 46 (f.r 9)).put 47 v1).put 48 v1).put 48 (Value.bool false)).put 49 undef).put 50 undef).put 51 (Value.bool false)).put 62 (f.r 5)).put 63 (f.r 6)).put 64 (f.r 7)).put 65 (f.r 7)).put 65 (Value.bool true)).put 66 v24).put 67 (f.r 4)).put 68 (f.r 6)).put 69 v25).put 70 v25).put 71 v27).put 20 (f.r 6)).put 21 v29).put 6 v29) h28)
(aIdx 1 (f.r 5) (f.r 6) fun v30 =>
aStore 1 v30 (Value.bool false) h fun h31 =>
aBin prog .add 3 (f.r 6) (vint 1) fun v32 =>
nx1 ((((((((((((((((((((((f.put 45 (f.r 10)).put 46 (f.r 9)).put 47 v1).put 48 v1).put 48 (Value.bool false)).put 49 undef).put 50 undef).put 51 (Value.bool false)).put 62 (f.r 5)).put 63 (f.r 6)).put 64 (f.r 7)).put 65 (f.r 7)).put 65 (Value.bool false)).put 66 undef).put 67 undef).put 68 undef).put 69 undef).put 70 (Value.bool false)).put 71 v30).put 20 (f.r 6)).put 21 v32).put 6 v32) h31)))) := by kernel_rfl
theorem l107_3 (hJ : Closed prog main J) {nx0 nx1 : RG → List AObj → Prop} {S : Type} (μ : S → Nat) (I : S → RG → List AObj → Prop) (hI : ∀ s f h, I s f h → heapOk h → n0 ≤ h.length → W prog J 77 n0 107 (subC [1, 1, 0, 1, 0, 0, 1, 0, 0, 1, 0, 1, 0, 0, 1, 0, 0, 1, 0, 1, 0, 1, 1, 0, 0] (codeOf f107)) f h (thenK (Nx n0 μ I s) (contQ prog J 77 n0 107 [1, 1, 0, 1, 0, 0, 1, 0, 0, 1, 0, 1, 0, 0, 1, 0, 0, 1, 0, 1, 0, 1, 1, 0] (codeOf f107) [nx0, nx1] (RetQ prog [.tmp 2] n0 K))))
  {s : S} {f : RG} (hi : Gets n0 I s f h) : Sem J 77 n0 107 (subC [1, 1, 0, 1, 0, 0, 1, 0, 0, 1, 0, 1, 0, 0, 1, 0, 0, 1, 0, 1, 0, 1, 1, 0] (codeOf f107)) f h (contQ prog J 77 n0 107 [1, 1, 0, 1, 0, 0, 1, 0, 0, 1, 0, 1, 0, 0, 1, 0, 0, 1, 0, 1, 0, 1, 1, 0] (codeOf f107) [nx0, nx1] (RetQ prog [.tmp 2] n0 K)) :=
  loop_rule hJ mixed (b := subC [1, 1, 0, 1, 0, 0, 1, 0, 0, 1, 0, 1, 0, 0, 1, 0, 0, 1, 0, 1, 0, 1, 1, 0, 0] (codeOf f107)) (by kernel_rfl) μ I hI hi
theorem at83 : prog.funcs[83]? = some f83 := by kernel_rfl
theorem body83 : f83.body = some (codeOf f83) := by kernel_rfl
theorem e83 {a0 : Value} : W prog J 65 h.length 83 (codeOf f83) (RG.mk (regs [a0]) []) h (RetQ prog [.tmp 2] h.length K) =
(aBox a0 h fun v1 h2 =>
aLoad true 6 v1 h2 fun v3 =>
Good prog J 107 [v3] h2 fun v4 h5 =>
aOff v1 0 fun v6 =>
aLoad false 1 v6 h5 fun v7 =>
aBin prog .sub 3 v7 (vint 2) fun v8 =>
Sem J 65 h.length 83 (subC [1, 1, 0, 1, 0] (codeOf f83)) ((((((((((RG.mk (regs [a0]) []).put 1 v1).put 2 (Value.slice none 0 0)).put 10 v3).put 11 v4).put 3 v4).put 12 v6).put 13 v7).put 14 v8).put 4 v8) h5 (contQ prog J 65 h.length 83 [1, 1, 0, 1, 0] (codeOf f83) [] (RetQ prog [.tmp 2] h.length K))) := by kernel_rfl
theorem g83 (hJ : Closed prog main J) {a0 : Value} (hs : heapOk h → W prog J 65 h.length 83 (codeOf f83) (RG.mk (regs [a0]) []) h (RetQ prog [.tmp 2] h.length K)) : Good prog J 83 [a0] h K :=
  good_of_W hJ mixed at83 body83 (by kernel_rfl) (Nat.le_of_ble_eq_true rfl) hs
-- loop [1, 1, 0, 1, 0, 0]
theorem s83_1 {f : RG} {nx0 : RG → List AObj → Prop} : W prog J 65 n0 83 (subC [1, 1, 0, 1, 0, 0] (codeOf f83)) f h (thenK nx0 (contQ prog J 65 n0 83 [1, 1, 0, 1, 0] (codeOf f83) [] (RetQ prog [.tmp 2] n0 K))) =
(aBin prog .geq 3 (f.r 4) (vint 0) fun v1 =>
cnd v1
(Sem J 65 n0 83 (subC [1, 1, 0, 1, 0, 0, 1, 0, 0, 1, 0] (codeOf f83)) (((f.put 15 (f.r 4)).put 16 v1).put 5 (vint 0)) h (contQ prog J 65 n0 83 [1, 1, 0, 1, 0, 0, 1, 0, 0, 1, 0] (codeOf f83) [nx0] (RetQ prog [.tmp 2] n0 K)))
(retL n0 K f.ds [(f.r 3)] h)) := by kernel_rfl
theorem l83_1 (hJ : Closed prog main J) {S : Type} (μ : S → Nat) (I : S → RG → List AObj → Prop) (hI : ∀ s f h, I s f h → heapOk h → n0 ≤ h.length → W prog J 65 n0 83 (subC [1, 1, 0, 1, 0, 0] (codeOf f83)) f h (thenK (Nx n0 μ I s) (contQ prog J 65 n0 83 [1, 1, 0, 1, 0] (codeOf f83) [] (RetQ prog [.tmp 2] n0 K))))
  {s : S} {f : RG} (hi : Gets n0 I s f h) : Sem J 65 n0 83 (subC [1, 1, 0, 1, 0] (codeOf f83)) f h (contQ prog J 65 n0 83 [1, 1, 0, 1, 0] (codeOf f83) [] (RetQ prog [.tmp 2] n0 K)) :=
  loop_rule hJ mixed (b := subC [1, 1, 0, 1, 0, 0] (codeOf f83)) (by kernel_rfl) μ I hI hi
-- loop [1, 1, 0, 1, 0, 0, 1, 0, 0, 1, 0, 0]
theorem s83_2 {f : RG} {nx0 nx1 : RG → List AObj → Prop} : W prog J 65 n0 83 (subC [1, 1, 0, 1, 0, 0, 1, 0, 0, 1, 0, 0] (codeOf f83)) f h (thenK nx1 (contQ prog J 65 n0 83 [1, 1, 0, 1, 0, 0, 1, 0, 0, 1, 0] (codeOf f83) [nx0] (RetQ prog [.tmp 2] n0 K))) =
(aBin prog .lss 3 (f.r 5) (vint 541) fun v1 =>
cnd v1
(aLoad true 6 (f.r 1) h fun v2 =>
Good prog J 108 [v2, (f.r 4), (f.r 5)] h fun v3 h4 =>
aExt v3 0 fun v5 =>
aExt v3 1 fun v6 =>
Sem J 65 n0 83 (subC [1, 1, 0, 1, 0, 0, 1, 0, 0, 1, 0, 0, 1, 0, 0, 1, 1, 0, 1, 0] (codeOf f83)) ((((((((((((((f.put 19 (f.r 5)).put 20 v1).put 6 (Value.bool false)).put 24 v2).put 25 (f.r 4)).put 26 (f.r 5)).put 27 v3).put 23 v3).put 28 v5).put 29 v6).put 7 v5).put 8 v6).put 30 v5).put 9 v5) h4 (contQ prog J 65 n0 83 [1, 1, 0, 1, 0, 0, 1, 0, 0, 1, 0, 0, 1, 0, 0, 1, 1, 0, 1, 0] (codeOf f83) [nx0, nx1] (RetQ prog [.tmp 2] n0 K)))
(aBin prog .sub 3 (f.r 4) (vint 1) fun v7 =>
nx0 (((((f.put 19 (f.r 5)).put 20 v1).put 17 (f.r 4)).put 18 v7).put 4 v7) h)) := by kernel_rfl
theorem l83_2 (hJ : Closed prog main J) {nx0 : RG → List AObj → Prop} {S : Type} (μ : S → Nat) (I : S → RG → List AObj → Prop) (hI : ∀ s f h, I s f h → heapOk h → n0 ≤ h.length → W prog J 65 n0 83 (subC [1, 1, 0, 1, 0, 0, 1, 0, 0, 1, 0, 0] (codeOf f83)) f h (thenK (Nx n0 μ I s) (contQ prog J 65 n0 83 [1, 1, 0, 1, 0, 0, 1, 0, 0, 1, 0] (codeOf f83) [nx0] (RetQ prog [.tmp 2] n0 K))))
  {s : S} {f : RG} (hi : Gets n0 I s f h) : Sem J 65 n0 83 (subC [1, 1, 0, 1, 0, 0, 1, 0, 0, 1, 0] (codeOf f83)) f h (contQ prog J 65 n0 83 [1, 1, 0, 1, 0, 0, 1, 0, 0, 1, 0] (codeOf f83) [nx0] (RetQ prog [.tmp 2] n0 K)) :=
  loop_rule hJ mixed (b := subC [1, 1, 0, 1, 0, 0, 1, 0, 0, 1, 0, 0] (codeOf f83)) (by kernel_rfl) μ I hI hi
-- loop [1, 1, 0, 1, 0, 0, 1, 0, 0, 1, 0, 0, 1, 0, 0, 1, 1, 0, 1, 0, 0]
theorem s83_3 {f : RG} {nx0 nx1 nx2 : RG → List AObj → Prop} : W prog J 65 n0 83 (subC [1, 1, 0, 1, 0, 0, 1, 0, 0, 1, 0, 0, 1, 0, 0, 1, 1, 0, 1, 0, 0] (codeOf f83)) f h (thenK nx2 (contQ prog J 65 n0 83 [1, 1, 0, 1, 0, 0, 1, 0, 0, 1, 0, 0, 1, 0, 0, 1, 1, 0, 1, 0] (codeOf f83) [nx0, nx1] (RetQ prog [.tmp 2] n0 K))) =
(aBin prog .leq 3 (f.r 9) (f.r 8) fun v1 =>
cnd v1
(aIdx 1 (f.r 3) (f.r 4) fun v2 =>
aLoad false 1 v2 h fun v3 =>
aIdx 1 v3 (f.r 5) fun v4 =>
aLoad false 1 v4 h fun v5 =>
cnd v5
(aUn .not (f.r 6) fun v6 =>
cnd v6
(aBin prog .add 3 (f.r 4) (vint 1) fun v7 =>
aIdx 1 (f.r 3) v7 fun v8 =>
aLoad false 1 v8 h fun v9 =>
aIdx 1 v9 (f.r 9) fun v10 =>
aLoad false 1 v10 h fun v11 =>
aBin prog .add 3 (f.r 9) (vint 1) fun v12 =>
nx2 ((((((((((((((((((((((((((((((f.put 31 (f.r 9)).put 32 (f.r 8)).put 33 v1).put 34 v1).put 34 (Value.bool true)).put 35 (f.r 3)).put 36 (f.r 4)).put 37 v2).put 38 v3).put 39 (f.r 5)).put 40 v4).put 41 v5).put 42 v5).put 43 v5).put 43 (Value.bool true)).put 44 (f.r 6)).put 45 v6).put 46 v6).put 49 (f.r 3)).put 50 (f.r 4)).put 51 v7).put 52 v8).put 53 v9).put 54 (f.r 9)).put 55 v10).put 56 v11).put 6 v11).put 47 (f.r 9)).put 48 v12).put 9 v12) h)
(aIdx 1 (f.r 3) (f.r 4) fun v13 =>
aLoad false 1 v13 h fun v14 =>
aIdx 1 v14 (f.r 5) fun v15 =>
aStore 1 v15 (f.r 6) h fun h16 =>
aBin prog .add 3 (f.r 5) (vint 1) fun v17 =>
nx1 ((((((((((((((((((((((((((((f.put 31 (f.r 9)).put 32 (f.r 8)).put 33 v1).put 34 v1).put 34 (Value.bool true)).put 35 (f.r 3)).put 36 (f.r 4)).put 37 v2).put 38 v3).put 39 (f.r 5)).put 40 v4).put 41 v5).put 42 v5).put 43 v5).put 43 (Value.bool true)).put 44 (f.r 6)).put 45 v6).put 46 v6).put 57 (f.r 3)).put 58 (f.r 4)).put 59 v13).put 60 v14).put 61 (f.r 5)).put 62 (f.r 6)).put 63 v15).put 21 (f.r 5)).put 22 v17).put 5 v17) h16))
(cnd (Value.bool false)
(aBin prog .add 3 (f.r 4) (vint 1) fun v18 =>
aIdx 1 (f.r 3) v18 fun v19 =>
aLoad false 1 v19 h fun v20 =>
aIdx 1 v20 (f.r 9) fun v21 =>
aLoad false 1 v21 h fun v22 =>
aBin prog .add 3 (f.r 9) (vint 1) fun v23 =>
nx2 ((((((((((((((((((((((((((((((f.put 31 (f.r 9)).put 32 (f.r 8)).put 33 v1).put 34 v1).put 34 (Value.bool true)).put 35 (f.r 3)).put 36 (f.r 4)).put 37 v2).put 38 v3).put 39 (f.r 5)).put 40 v4).put 41 v5).put 42 v5).put 43 v5).put 43 (Value.bool false)).put 44 undef).put 45 undef).put 46 (Value.bool false)).put 49 (f.r 3)).put 50 (f.r 4)).put 51 v18).put 52 v19).put 53 v20).put 54 (f.r 9)).put 55 v21).put 56 v22).put 6 v22).put 47 (f.r 9)).put 48 v23).put 9 v23) h)
(aIdx 1 (f.r 3) (f.r 4) fun v24 =>
aLoad false 1 v24 h fun v25 =>
aIdx 1 v25 (f.r 5) fun v26 =>
aStore 1 v26 (f.r 6) h fun h27 =>
aBin prog .add 3 (f.r 5) (vint 1) fun v28 =>
nx1 ((((((((((((((((((((((((((((f.put 31 (f.r 9)).put 32 (f.r 8)).put 33 v1).put 34 v1).put 34 (Value.bool true)).put 35 (f.r 3)).put 36 (f.r 4)).put 37 v2).put 38 v3).put 39 (f.r 5)).put 40 v4).put 41 v5).put 42 v5).put 43 v5).put 43 (Value.bool false)).put 44 undef).put 45 undef).put 46 (Value.bool false)).put 57 (f.r 3)).put 58 (f.r 4)).put 59 v24).put 60 v25).put 61 (f.r 5)).put 62 (f.r 6)).put 63 v26).put 21 (f.r 5)).put 22 v28).put 5 v28) h27)))
(cnd (Value.bool false)
(aUn .not (f.r 6) fun v29 =>
cnd v29
(aBin prog .add 3 (f.r 4) (vint 1) fun v30 =>
aIdx 1 (f.r 3) v30 fun v31 =>
aLoad false 1 v31 h fun v32 =>
aIdx 1 v32 (f.r 9) fun v33 =>
aLoad false 1 v33 h fun v34 =>
aBin prog .add 3 (f.r 9) (vint 1) fun v35 =>
nx2 ((((((((((((((((((((((((((((((f.put 31 (f.r 9)).put 32 (f.r 8)).put 33 v1).put 34 v1).put 34 (Value.bool false)).put 35 undef).put 36 undef).put 37 undef).put 38 undef).put 39 undef).put 40 undef).put 41 undef).put 42 (Value.bool false)).put 43 (Value.bool false)).put 43 (Value.bool true)).put 44 (f.r 6)).put 45 v29).put 46 v29).put 49 (f.r 3)).put 50 (f.r 4)).put 51 v30).put 52 v31).put 53 v32).put 54 (f.r 9)).put 55 v33).put 56 v34).put 6 v34).put 47 (f.r 9)).put 48 v35).put 9 v35) h)
(aIdx 1 (f.r 3) (f.r 4) fun v36 =>
aLoad false 1 v36 h fun v37 =>
aIdx 1 v37 (f.r 5) fun v38 =>
aStore 1 v38 (f.r 6) h fun h39 =>
aBin prog .add 3 (f.r 5) (vint 1) fun v40 =>
nx1 ((((((((((((((((((((((((((((f.put 31 (f.r 9)).put 32 (f.r 8)).put 33 v1).put 34 v1).put 34 (Value.bool false)).put 35 undef).put 36 undef).put 37 undef).put 38 undef).put 39 undef).put 40 undef).put 41 undef).put 42 (Value.bool false)).put 43 (Value.bool false)).put 43 (Value.bool true)).put 44 (f.r 6)).put 45 v29).put 46 v29).put 57 (f.r 3)).put 58 (f.r 4)).put 59 v36).put 60 v37).put 61 (f.r 5)).put 62 (f.r 6)).put 63 v38).put 21 (f.r 5)).put 22 v40).put 5 v40) h39))
(cnd (Value.bool false)
(aBin prog .add 3 (f.r 4) (vint 1) fun v41 =>
aIdx 1 (f.r 3) v41 fun v42 =>
aLoad false 1 v42 h fun v43 =>
aIdx 1 v43 (f.r 9) fun v44 =>
aLoad false 1 v44 h fun v45 =>
aBin prog .add 3 (f.r 9) (vint 1) fun v46 =>
nx2 ((((((((((((((((((((((((((((((f.put 31 (f.r 9)).put 32 (f.r 8)).put 33 v1).put 34 v1).put 34 (Value.bool false)).put 35 undef).put 36 undef).put 37 undef).put 38 undef).put 39 undef).put 40 undef).put 41 undef).put 42 (Value.bool false)).put 43 (Value.bool false)).put 43 (Value.bool false)).put 44 undef).put 45 undef).put 46 (Value.bool false)).put 49 (f.r 3)).put 50 (f.r 4)).put 51 v41).put 52 v42).put 53 v43).put 54 (f.r 9)).put 55 v44).put 56 v45).put 6 v45).put 47 (f.r 9)).put 48 v46).put 9 v46) h)
(aIdx 1 (f.r 3) (f.r 4) fun v47 =>
aLoad false 1 v47 h fun v48 =>
aIdx 1 v48 (f.r 5) fun v49 =>
aStore 1 v49 (f.r 6) h fun h50 =>
aBin prog .add 3 (f.r 5) (vint 1) fun v51 =>
nx1 ((((((((((((((((((((((((((((f.put 31 (f.r 9)).put 32 (f.r 8)).put 33 v1).put 34 v1).put 34 (Value.bool false)).put 35 undef).put 36 undef).put 37 undef).put 38 undef).put 39 undef).put 40 undef).put 41 undef).put 42 (Value.bool false)).put 43 (Value.bool false)).put 43 (Value.bool false)).put 44 undef).put 45 undef).put 46 (Value.bool false)).put 57 (f.r 3)).put 58 (f.r 4)).put 59 v47).put 60 v48).put 61 (f.r 5)).put 62 (f.r 6)).put 63 v49).put 21 (f.r 5)).put 22 v51).put 5 v51) h50)))) := by kernel_rfl
theorem l83_3 (hJ : Closed prog main J) {nx0 nx1 : RG → List AObj → Prop} {S : Type} (μ : S → Nat) (I : S → RG → List AObj → Prop) (hI : ∀ s f h, I s f h → heapOk h → n0 ≤ h.length → W prog J 65 n0 83 (subC [1, 1, 0, 1, 0, 0, 1, 0, 0, 1, 0, 0, 1, 0, 0, 1, 1, 0, 1, 0, 0] (codeOf f83)) f h (thenK (Nx n0 μ I s) (contQ prog J 65 n0 83 [1, 1, 0, 1, 0, 0, 1, 0, 0, 1, 0, 0, 1, 0, 0, 1, 1, 0, 1, 0] (codeOf f83) [nx0, nx1] (RetQ prog [.tmp 2] n0 K))))
  {s : S} {f : RG} (hi : Gets n0 I s f h) : Sem J 65 n0 83 (subC [1, 1, 0, 1, 0, 0, 1, 0, 0, 1, 0, 0, 1, 0, 0, 1, 1, 0, 1, 0] (codeOf f83)) f h (contQ prog J 65 n0 83 [1, 1, 0, 1, 0, 0, 1, 0, 0, 1, 0, 0, 1, 0, 0, 1, 1, 0, 1, 0] (codeOf f83) [nx0, nx1] (RetQ prog [.tmp 2] n0 K)) :=
  loop_rule hJ mixed (b := subC [1, 1, 0, 1, 0, 0, 1, 0, 0, 1, 0, 0, 1, 0, 0, 1, 1, 0, 1, 0, 0] (codeOf f83)) (by kernel_rfl) μ I hI hi
theorem at81 : prog.funcs[81]? = some f81 := by kernel_rfl
theorem body81 : f81.body = some (codeOf f81) := by kernel_rfl
theorem e81 {a0 : Value} : W prog J 20 h.length 81 (codeOf f81) (RG.mk (regs [a0]) []) h (RetQ prog [.tmp 2] h.length K) =
(aBox a0 h fun v1 h2 =>
aLoad true 6 v1 h2 fun v3 =>
Good prog J 107 [v3] h2 fun v4 h5 =>
Sem J 20 h.length 81 (subC [1, 1, 0, 1, 0] (codeOf f81)) (((((((RG.mk (regs [a0]) []).put 1 v1).put 2 (Value.bool false)).put 5 v3).put 6 v4).put 3 v4).put 4 (vint 0)) h5 (contQ prog J 20 h.length 81 [1, 1, 0, 1, 0] (codeOf f81) [] (RetQ prog [.tmp 2] h.length K))) := by kernel_rfl
theorem g81 (hJ : Closed prog main J) {a0 : Value} (hs : heapOk h → W prog J 20 h.length 81 (codeOf f81) (RG.mk (regs [a0]) []) h (RetQ prog [.tmp 2] h.length K)) : Good prog J 81 [a0] h K :=
  good_of_W hJ mixed at81 body81 (by kernel_rfl) (Nat.le_of_ble_eq_true rfl) hs
-- loop [1, 1, 0, 1, 0, 0]
theorem s81_1 {f : RG} {nx0 : RG → List AObj → Prop} : W prog J 20 n0 81 (subC [1, 1, 0, 1, 0, 0] (codeOf f81)) f h (thenK nx0 (contQ prog J 20 n0 81 [1, 1, 0, 1, 0] (codeOf f81) [] (RetQ prog [.tmp 2] n0 K))) =
(aBin prog .lss 3 (f.r 4) (vint 541) fun v1 =>
cnd v1
(aOff (f.r 1) 0 fun v2 =>
aLoad false 1 v2 h fun v3 =>
aBin prog .sub 3 v3 (vint 1) fun v4 =>
aIdx 1 (f.r 3) v4 fun v5 =>
aLoad false 1 v5 h fun v6 =>
aIdx 1 v6 (f.r 4) fun v7 =>
aLoad false 1 v7 h fun v8 =>
cnd v8
(retL n0 K f.ds [(Value.bool true)] h)
(aBin prog .add 3 (f.r 4) (vint 1) fun v9 =>
nx0 ((((((((((((((f.put 7 (f.r 4)).put 8 v1).put 11 (f.r 3)).put 12 v2).put 13 v3).put 14 v4).put 15 v5).put 16 v6).put 17 (f.r 4)).put 18 v7).put 19 v8).put 9 (f.r 4)).put 10 v9).put 4 v9) h))
(retL n0 K f.ds [(Value.bool false)] h)) := by kernel_rfl
theorem l81_1 (hJ : Closed prog main J) {S : Type} (μ : S → Nat) (I : S → RG → List AObj → Prop) (hI : ∀ s f h, I s f h → heapOk h → n0 ≤ h.length → W prog J 20 n0 81 (subC [1, 1, 0, 1, 0, 0] (codeOf f81)) f h (thenK (Nx n0 μ I s) (contQ prog J 20 n0 81 [1, 1, 0, 1, 0] (codeOf f81) [] (RetQ prog [.tmp 2] n0 K))))
  {s : S} {f : RG} (hi : Gets n0 I s f h) : Sem J 20 n0 81 (subC [1, 1, 0, 1, 0] (codeOf f81)) f h (contQ prog J 20 n0 81 [1, 1, 0, 1, 0] (codeOf f81) [] (RetQ prog [.tmp 2] n0 K)) :=
  loop_rule hJ mixed (b := subC [1, 1, 0, 1, 0, 0] (codeOf f81)) (by kernel_rfl) μ I hI hi
theorem at82 : prog.funcs[82]? = some f82 := by kernel_rfl
theorem body82 : f82.body = some (codeOf f82) := by kernel_rfl
theorem e82 {a0 : Value} : W prog J 40 h.length 82 (codeOf f82) (RG.mk (regs [a0]) []) h (RetQ prog [.tmp 2] h.length K) =
(aBox a0 h fun v1 h2 =>
aLoad true 6 v1 h2 fun v3 =>
Good prog J 83 [v3] h2 fun v4 h5 =>
Sem J 40 h.length 82 (subC [1, 1, 1, 0, 1, 0] (codeOf f82)) ((((((((RG.mk (regs [a0]) []).put 1 v1).put 2 (Value.slice none 0 0)).put 3 (Value.slice none 0 0)).put 8 v3).put 9 v4).put 4 v4).put 5 (vint 0)) h5 (contQ prog J 40 h.length 82 [1, 1, 1, 0, 1, 0] (codeOf f82) [] (RetQ prog [.tmp 2] h.length K))) := by kernel_rfl
theorem g82 (hJ : Closed prog main J) {a0 : Value} (hs : heapOk h → W prog J 40 h.length 82 (codeOf f82) (RG.mk (regs [a0]) []) h (RetQ prog [.tmp 2] h.length K)) : Good prog J 82 [a0] h K :=
  good_of_W hJ mixed at82 body82 (by kernel_rfl) (Nat.le_of_ble_eq_true rfl) hs
-- loop [1, 1, 1, 0, 1, 0, 0]
theorem s82_1 {f : RG} {nx0 : RG → List AObj → Prop} : W prog J 40 n0 82 (subC [1, 1, 1, 0, 1, 0, 0] (codeOf f82)) f h (thenK nx0 (contQ prog J 40 n0 82 [1, 1, 1, 0, 1, 0] (codeOf f82) [] (RetQ prog [.tmp 2] n0 K))) =
(aOff (f.r 1) 0 fun v1 =>
aLoad false 1 v1 h fun v2 =>
aBin prog .lss 3 (f.r 5) v2 fun v3 =>
cnd v3
(aFill [(vint 0), (vint 0)] [(0, 1, (vint (-1)))] fun c4 =>
aAlloc [(vint 0), (vint 0)] h fun v5 h6 =>
aStore 2 v5 (Value.agg ⟨c4⟩) h6 fun h7 =>
Sem J 40 n0 82 (subC [1, 1, 1, 0, 1, 0, 0, 1, 0, 0, 1, 0, 1, 0] (codeOf f82)) (((((((f.put 10 (f.r 5)).put 11 v1).put 12 v2).put 13 v3).put 16 (Value.agg ⟨c4⟩)).put 6 v5).put 7 (vint 0)) h7 (contQ prog J 40 n0 82 [1, 1, 1, 0, 1, 0, 0, 1, 0, 0, 1, 0, 1, 0] (codeOf f82) [nx0] (RetQ prog [.tmp 2] n0 K)))
(retL n0 K f.ds [(f.r 3)] h)) := by kernel_rfl
theorem l82_1 (hJ : Closed prog main J) {S : Type} (μ : S → Nat) (I : S → RG → List AObj → Prop) (hI : ∀ s f h, I s f h → heapOk h → n0 ≤ h.length → W prog J 40 n0 82 (subC [1, 1, 1, 0, 1, 0, 0] (codeOf f82)) f h (thenK (Nx n0 μ I s) (contQ prog J 40 n0 82 [1, 1, 1, 0, 1, 0] (codeOf f82) [] (RetQ prog [.tmp 2] n0 K))))
  {s : S} {f : RG} (hi : Gets n0 I s f h) : Sem J 40 n0 82 (subC [1, 1, 1, 0, 1, 0] (codeOf f82)) f h (contQ prog J 40 n0 82 [1, 1, 1, 0, 1, 0] (codeOf f82) [] (RetQ prog [.tmp 2] n0 K)) :=
  loop_rule hJ mixed (b := subC [1, 1, 1, 0, 1, 0, 0] (codeOf f82)) (by kernel_rfl) μ I hI hi
-- loop [1, 1, 1, 0, 1, 0, 0, 1, 0, 0, 1, 0, 1, 0, 0]
theorem s82_2 {f : RG} {nx0 nx1 : RG → List AObj → Prop} : W prog J 40 n0 82 (subC [1, 1, 1, 0, 1, 0, 0, 1, 0, 0, 1, 0, 1, 0, 0] (codeOf f82)) f h (thenK nx1 (contQ prog J 40 n0 82 [1, 1, 1, 0, 1, 0, 0, 1, 0, 0, 1, 0, 1, 0] (codeOf f82) [nx0] (RetQ prog [.tmp 2] n0 K))) =
(aBin prog .lss 3 (f.r 7) (vint 541) fun v1 =>
cnd v1
(aIdx 1 (f.r 4) (f.r 5) fun v2 =>
aLoad false 1 v2 h fun v3 =>
aIdx 1 v3 (f.r 7) fun v4 =>
aLoad false 1 v4 h fun v5 =>
cnd v5
(aOff (f.r 6) 0 fun v6 =>
aLoad false 1 v6 h fun v7 =>
aBin prog .lss 3 v7 (vint 0) fun v8 =>
cnd v8
(aOff (f.r 6) 0 fun v9 =>
aStore 1 v9 (f.r 7) h fun h10 =>
aOff (f.r 6) 1 fun v11 =>
aStore 1 v11 (f.r 7) h10 fun h12 =>
aBin prog .add 3 (f.r 7) (vint 1) fun v13 =>
nx1 (((((((((((((((((((f.put 17 (f.r 7)).put 18 v1).put 21 (f.r 4)).put 22 (f.r 5)).put 23 v2).put 24 v3).put 25 (f.r 7)).put 26 v4).put 27 v5).put 28 v6).put 29 v7).put 30 v8).put 31 (f.r 7)).put 32 v9).put 33 (f.r 7)).put 34 v11).put 19 (f.r 7)).put 20 v13).put 7 v13) h12)
(aOff (f.r 6) 1 fun v14 =>
aStore 1 v14 (f.r 7) h fun h15 =>
aBin prog .add 3 (f.r 7) (vint 1) fun v16 =>
nx1 (((((((((((((((((f.put 17 (f.r 7)).put 18 v1).put 21 (f.r 4)).put 22 (f.r 5)).put 23 v2).put 24 v3).put 25 (f.r 7)).put 26 v4).put 27 v5).put 28 v6).put 29 v7).put 30 v8).put 33 (f.r 7)).put 34 v14).put 19 (f.r 7)).put 20 v16).put 7 v16) h15))
(aBin prog .add 3 (f.r 7) (vint 1) fun v17 =>
nx1 ((((((((((((f.put 17 (f.r 7)).put 18 v1).put 21 (f.r 4)).put 22 (f.r 5)).put 23 v2).put 24 v3).put 25 (f.r 7)).put 26 v4).put 27 v5).put 19 (f.r 7)).put 20 v17).put 7 v17) h))
(aLoad true 2 (f.r 6) h fun v18 =>
((1 * 2 ≤ 16777216 ∧ 1 ≤ 16777216 ∧ List.length [(vint 0), (vint 0)] = 2) ∧ aFill (zrep [(vint 0), (vint 0)] 1) [(0, 2, v18)] fun c19 =>
aNewS 1 c19 h fun v20 h21 =>
((List.length [(vint 0), (vint 0)] = 2 ∧ 0 < 2 ∧ 0 < 16 ∧ 16 ≤ 1024) ∧ aApp 2 (f.r 3) v20 h21 fun v22 h23 =>
aBin prog .add 3 (f.r 5) (vint 1) fun v24 =>
nx0 ((((((((((f.put 17 (f.r 7)).put 18 v1).put 35 (f.r 3)).put 36 v18).put 37 v20).put 38 v22).put 3 v22).put 14 (f.r 5)).put 15 v24).put 5 v24) h23)))) := by kernel_rfl
theorem l82_2 (hJ : Closed prog main J) {nx0 : RG → List AObj → Prop} {S : Type} (μ : S → Nat) (I : S → RG → List AObj → Prop) (hI : ∀ s f h, I s f h → heapOk h → n0 ≤ h.length → W prog J 40 n0 82 (subC [1, 1, 1, 0, 1, 0, 0, 1, 0, 0, 1, 0, 1, 0, 0] (codeOf f82)) f h (thenK (Nx n0 μ I s) (contQ prog J 40 n0 82 [1, 1, 1, 0, 1, 0, 0, 1, 0, 0, 1, 0, 1, 0] (codeOf f82) [nx0] (RetQ prog [.tmp 2] n0 K))))
  {s : S} {f : RG} (hi : Gets n0 I s f h) : Sem J 40 n0 82 (subC [1, 1, 1, 0, 1, 0, 0, 1, 0, 0, 1, 0, 1, 0] (codeOf f82)) f h (contQ prog J 40 n0 82 [1, 1, 1, 0, 1, 0, 0, 1, 0, 0, 1, 0, 1, 0] (codeOf f82) [nx0] (RetQ prog [.tmp 2] n0 K)) :=
  loop_rule hJ mixed (b := subC [1, 1, 1, 0, 1, 0, 0, 1, 0, 0, 1, 0, 1, 0, 0] (codeOf f82)) (by kernel_rfl) μ I hI hi
theorem at44 : prog.funcs[44]? = some f44 := by kernel_rfl
theorem body44 : f44.body = some (codeOf f44) := by kernel_rfl
theorem e44 {a0 : Value} : W prog J 15 h.length 44 (codeOf f44) (RG.mk (regs [a0]) []) h (RetQ prog [.tmp 2, .tmp 3] h.length K) =
(aBox a0 h fun v1 h2 =>
aLoad true 6 v1 h2 fun v3 =>
Good prog J 52 [v3] h2 fun v4 h5 =>
aBin prog .neq 32 v4 (vint 0) fun v6 =>
cnd v6
(retL h.length K [] [(Value.slice none 0 0), v4] h5)
(aLoad true 6 v1 h5 fun v7 =>
Good prog J 81 [v7] h5 fun v8 h9 =>
aUn .not v8 fun v10 =>
cnd v10
(retL h.length K [] [(Value.slice none 0 0), (vint 11)] h9)
(aLoad true 6 v1 h9 fun v11 =>
Good prog J 82 [v11] h9 fun v12 h13 =>
retL h.length K [] [v12, (vint 0)] h13))) := by kernel_rfl
theorem g44 (hJ : Closed prog main J) {a0 : Value} (hs : heapOk h → W prog J 15 h.length 44 (codeOf f44) (RG.mk (regs [a0]) []) h (RetQ prog [.tmp 2, .tmp 3] h.length K)) : Good prog J 44 [a0] h K :=
  good_of_W hJ mixed at44 body44 (by kernel_rfl) (Nat.le_of_ble_eq_true rfl) hs
theorem at46 : prog.funcs[46]? = some f46 := by kernel_rfl
theorem body46 : f46.body = some (codeOf f46) := by kernel_rfl
theorem e46 {a0 a1 a2 : Value} : W prog J 54 h.length 46 (codeOf f46) (RG.mk (regs [a0, a1, a2]) []) h (RetQ prog [.tmp 6, .tmp 7] h.length K) =
(aBox a0 h fun v1 h2 =>
aLoad true 6 v1 h2 fun v3 =>
Good prog J 52 [v3] h2 fun v4 h5 =>
aBin prog .neq 32 v4 (vint 0) fun v6 =>
cnd v6
(retL h.length K [] [(vint 0), v4] h5)
(aOff v1 0 fun v7 =>
aLoad false 1 v7 h5 fun v8 =>
aBin prog .sub 3 v8 (vint 1) fun v9 =>
Good prog J 68 [a1, (vint 0), v9] h5 fun v10 h11 =>
aUn .not v10 fun v12 =>
cnd v12
(retL h.length K [] [(vint 0), (vint 3)] h11)
(aBin prog .lss 3 a2 (vint 0) fun v13 =>
cnd v13
(retL h.length K [] [(vint 0), (vint 1)] h11)
(aLoad true 6 v1 h11 fun v14 =>
Good prog J 81 [v14] h11 fun v15 h16 =>
aUn .not v15 fun v17 =>
cnd v17
(retL h.length K [] [(vint 0), (vint 11)] h16)
(aLoad true 6 v1 h16 fun v18 =>
Good prog J 83 [v18] h16 fun v19 h20 =>
aIdx 1 v19 a1 fun v21 =>
aLoad false 1 v21 h20 fun v22 =>
Sem J 54 h.length 46 (subC [1, 1, 1, 1, 1, 1, 1, 0, 1, 0] (codeOf f46)) ((((((((((((((((((((((((((((RG.mk (regs [a0, a1, a2]) []).put 3 v1).put 6 (vint 0)).put 7 (vint 0)).put 12 v3).put 13 v4).put 8 v4).put 14 v4).put 15 v6).put 17 a1).put 18 v7).put 19 v8).put 20 v9).put 21 v10).put 22 v12).put 23 a2).put 24 v13).put 25 v14).put 26 v15).put 27 v17).put 28 v18).put 29 v19).put 30 a1).put 31 v21).put 32 v22).put 9 v22).put 10 (vint 0)).put 11 (vint 0)) h20 (contQ prog J 54 h.length 46 [1, 1, 1, 1, 1, 1, 1, 0, 1, 0] (codeOf f46) [] (RetQ prog [.tmp 6, .tmp 7] h.length K))))))) := by kernel_rfl
theorem g46 (hJ : Closed prog main J) {a0 a1 a2 : Value} (hs : heapOk h → W prog J 54 h.length 46 (codeOf f46) (RG.mk (regs [a0, a1, a2]) []) h (RetQ prog [.tmp 6, .tmp 7] h.length K)) : Good prog J 46 [a0, a1, a2] h K :=
  good_of_W hJ mixed at46 body46 (by kernel_rfl) (Nat.le_of_ble_eq_true rfl) hs
-- loop [1, 1, 1, 1, 1, 1, 1, 0, 1, 0, 0]
theorem s46_1 {f : RG} {nx0 : RG → List AObj → Prop} : W prog J 54 n0 46 (subC [1, 1, 1, 1, 1, 1, 1, 0, 1, 0, 0] (codeOf f46)) f h (thenK nx0 (contQ prog J 54 n0 46 [1, 1, 1, 1, 1, 1, 1, 0, 1, 0] (codeOf f46) [] (RetQ prog [.tmp 6, .tmp 7] n0 K))) =
(aBin prog .lss 3 (f.r 11) (vint 541) fun v1 =>
cnd v1
(aIdx 1 (f.r 9) (f.r 11) fun v2 =>
aLoad false 1 v2 h fun v3 =>
cnd v3
(aBin prog .add 3 (f.r 10) (vint 1) fun v4 =>
aBin prog .add 3 (f.r 11) (vint 1) fun v5 =>
nx0 ((((((((((((f.put 33 (f.r 11)).put 34 v1).put 37 (f.r 9)).put 38 (f.r 11)).put 39 v2).put 40 v3).put 41 (f.r 10)).put 42 v4).put 10 v4).put 35 (f.r 11)).put 36 v5).put 11 v5) h)
(aBin prog .add 3 (f.r 11) (vint 1) fun v6 =>
nx0 (((((((((f.put 33 (f.r 11)).put 34 v1).put 37 (f.r 9)).put 38 (f.r 11)).put 39 v2).put 40 v3).put 35 (f.r 11)).put 36 v6).put 11 v6) h))
(aBin prog .geq 3 (f.r 2) (vint 541) fun v7 =>
cnd v7
(cnd (Value.bool true)
(retL n0 K f.ds [(vint 2), (vint 0)] h)
(aBin prog .eql 3 (f.r 10) (vint 1) fun v8 =>
cnd v8
(retL n0 K f.ds [(vint 1), (vint 0)] h)
(retL n0 K f.ds [(vint 3), (vint 0)] h)))
(aIdx 1 (f.r 9) (f.r 2) fun v9 =>
aLoad false 1 v9 h fun v10 =>
aUn .not v10 fun v11 =>
cnd v11
(retL n0 K f.ds [(vint 2), (vint 0)] h)
(aBin prog .eql 3 (f.r 10) (vint 1) fun v12 =>
cnd v12
(retL n0 K f.ds [(vint 1), (vint 0)] h)
(retL n0 K f.ds [(vint 3), (vint 0)] h))))) := by kernel_rfl
theorem l46_1 (hJ : Closed prog main J) {S : Type} (μ : S → Nat) (I : S → RG → List AObj → Prop) (hI : ∀ s f h, I s f h → heapOk h → n0 ≤ h.length → W prog J 54 n0 46 (subC [1, 1, 1, 1, 1, 1, 1, 0, 1, 0, 0] (codeOf f46)) f h (thenK (Nx n0 μ I s) (contQ prog J 54 n0 46 [1, 1, 1, 1, 1, 1, 1, 0, 1, 0] (codeOf f46) [] (RetQ prog [.tmp 6, .tmp 7] n0 K))))
  {s : S} {f : RG} (hi : Gets n0 I s f h) : Sem J 54 n0 46 (subC [1, 1, 1, 1, 1, 1, 1, 0, 1, 0] (codeOf f46)) f h (contQ prog J 54 n0 46 [1, 1, 1, 1, 1, 1, 1, 0, 1, 0] (codeOf f46) [] (RetQ prog [.tmp 6, .tmp 7] n0 K)) :=
  loop_rule hJ mixed (b := subC [1, 1, 1, 1, 1, 1, 1, 0, 1, 0, 0] (codeOf f46)) (by kernel_rfl) μ I hI hi
end
end Go.Proofs.Ytdgpacdknpahnaa
