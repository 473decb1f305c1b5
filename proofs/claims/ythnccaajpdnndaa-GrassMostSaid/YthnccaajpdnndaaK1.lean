/- Parts of the proof, 1. No conditions. -/
import Derived.Conc.Own5
import Derived.Conc.Events
set_option linter.unusedSimpArgs false
set_option linter.unusedVariables false
namespace Go.Proofs.Ythnccaajpdnndaa
def unk : Value := .tuple ⟨[.tuple ⟨[]⟩]⟩
structure Env where
  blk : Nat → Nat
  cap : Nat → Nat
def fz : Nat := 1180591620717411303424
def renCap (ρ : Env) (b c : Nat) : Nat := if fz ≤ c then ρ.cap b - (c - fz) else c
def renAddr (ρ : Env) (a : Addr) : Addr := ⟨ρ.blk a.block, a.off, a.spot⟩
def renFn (ρ : Env) : Fn → Fn
  | .yield l => .yield (ρ.blk l)
  | f => f
mutual
def ren (ρ : Env) : Value → Value
  | .pointer (some a) => .pointer (some (renAddr ρ a))
  | .slice (some a) n c => .slice (some (renAddr ρ a)) n (renCap ρ a.block c)
  | .map (some r) => .map (some (ρ.blk r))
  | .chan (some r) => .chan (some (ρ.blk r))
  | .func fn first cap => .func (renFn ρ fn) (renA ρ first) (renA ρ cap)
  | .iface t v => .iface t (ren ρ v)
  | .agg cs => .agg (renA ρ cs)
  | .tuple vs => .tuple (renA ρ vs)
  | .bool b => .bool b
  | .int k n => .int k n
  | .float k n => .float k n
  | .complex k a b => .complex k a b
  | .string s => .string s
  | .pointer none => .pointer none
  | .slice none n c => .slice none n c
  | .map none => .map none
  | .chan none => .chan none
  | .nilFunc => .nilFunc
  | .nilIface => .nilIface
def renA (ρ : Env) : Array Value → Array Value
  | ⟨l⟩ => ⟨renL ρ l⟩
def renL (ρ : Env) : List Value → List Value
  | [] => []
  | v :: l => ren ρ v :: renL ρ l
end
def AddrOk (n : Nat) (a : Addr) : Prop := a.block < n ∧ a.spot = none
def FnOk (n : Nat) : Fn → Prop
  | .yield l => l < n
  | _ => True
mutual
/-- All blocks that a value names are below n. -/
def VOk (n : Nat) : Value → Prop
  | .pointer (some a) => AddrOk n a
  | .slice (some a) _ _ => AddrOk n a
  | .map (some r) => r < n
  | .chan (some r) => r < n
  | .func fn first cap => FnOk n fn ∧ AOk n first ∧ AOk n cap
  | .iface _ v => VOk n v
  | .agg cs => AOk n cs
  | .tuple vs => AOk n vs
  | .bool _ | .int _ _ | .float _ _ | .complex _ _ _ | .string _ | .pointer none | .slice none _ _ | .map none | .chan none | .nilFunc | .nilIface => True
def AOk (n : Nat) : Array Value → Prop
  | ⟨l⟩ => LOk n l
def LOk (n : Nat) : List Value → Prop
  | [] => True
  | v :: l => VOk n v ∧ LOk n l
end
section
variable {ρ ρ' : Env} {n m : Nat}
theorem renL_eq (l : List Value) : renL ρ l = l.map (ren ρ) := by
  induction l with
  | nil => simp [renL]
  | cons v l ih => simp [renL, ih]
theorem renA_eq (a : Array Value) : renA ρ a = a.map (ren ρ) := by
  obtain ⟨l⟩ := a
  simp [renA, renL_eq]
theorem LOk_iff (l : List Value) : LOk n l ↔ ∀ v ∈ l, VOk n v := by
  induction l with
  | nil => simp [LOk]
  | cons v l ih => simp [LOk, ih]
theorem AOk_iff (a : Array Value) : AOk n a ↔ ∀ v ∈ a.toList, VOk n v := by
  obtain ⟨l⟩ := a
  simp [AOk, LOk_iff]
def Env.upto (n : Nat) (ρ ρ' : Env) : Prop := ∀ b, b < n → ρ'.blk b = ρ.blk b ∧ ρ'.cap b = ρ.cap b
theorem Env.upto_refl (n : Nat) (ρ : Env) : Env.upto n ρ ρ := fun _ _ => ⟨rfl, rfl⟩
theorem Env.upto_trans {ρ'' : Env} (h : Env.upto n ρ ρ') (h' : Env.upto n ρ' ρ'') : Env.upto n ρ ρ'' :=
  fun b hb => ⟨(h' b hb).1.trans (h b hb).1, (h' b hb).2.trans (h b hb).2⟩
theorem Env.upto_le (h : Env.upto n ρ ρ') (hm : m ≤ n) : Env.upto m ρ ρ' := fun b hb => h b (Nat.lt_of_lt_of_le hb hm)
mutual
theorem ren_congr (h : Env.upto n ρ ρ') : ∀ v : Value, VOk n v → ren ρ' v = ren ρ v
  | .pointer (some a), hv => by
    simp only [VOk, AddrOk] at hv
    simp [ren, renAddr, (h _ hv.1).1]
  | .slice (some a) _ _, hv => by
    simp only [VOk, AddrOk] at hv
    simp [ren, renAddr, renCap, (h _ hv.1).1, (h _ hv.1).2]
  | .map (some r), hv => by simp only [VOk] at hv; simp [ren, (h _ hv).1]
  | .chan (some r), hv => by simp only [VOk] at hv; simp [ren, (h _ hv).1]
  | .func fn first cap, hv => by
    simp only [VOk] at hv
    have hf : renFn ρ' fn = renFn ρ fn := by
      cases fn <;> simp only [renFn]
      have := hv.1
      simp only [FnOk] at this
      rw [(h _ this).1]
    simp only [ren, hf, renA_congr h first hv.2.1, renA_congr h cap hv.2.2]
  | .iface _ v, hv => by simp only [VOk] at hv; simp only [ren, ren_congr h v hv]
  | .agg cs, hv => by simp only [VOk] at hv; simp only [ren, renA_congr h cs hv]
  | .tuple vs, hv => by simp only [VOk] at hv; simp only [ren, renA_congr h vs hv]
  | .bool _, _ | .int _ _, _ | .float _ _, _ | .complex _ _ _, _ | .string _, _ | .pointer none, _ | .slice none _ _, _ | .map none, _ | .chan none, _ | .nilFunc, _ | .nilIface, _ => by simp only [ren]
theorem renA_congr (h : Env.upto n ρ ρ') : ∀ a : Array Value, AOk n a → renA ρ' a = renA ρ a
  | ⟨l⟩, hv => by simp only [AOk] at hv; simp only [renA, renL_congr h l hv]
theorem renL_congr (h : Env.upto n ρ ρ') : ∀ l : List Value, LOk n l → renL ρ' l = renL ρ l
  | [], _ => by simp only [renL]
  | v :: l, hv => by simp only [LOk] at hv; simp only [renL, ren_congr h v hv.1, renL_congr h l hv.2]
end
mutual
theorem ren0 : ∀ v : Value, VOk 0 v → ren ρ v = v
  | .pointer (some a), hv => by simp only [VOk, AddrOk] at hv; omega
  | .slice (some a) _ _, hv => by simp only [VOk, AddrOk] at hv; omega
  | .map (some r), hv => by simp only [VOk] at hv; omega
  | .chan (some r), hv => by simp only [VOk] at hv; omega
  | .func fn first cap, hv => by
    simp only [VOk] at hv
    have hf : renFn ρ fn = fn := by
      cases fn <;> simp only [renFn]
      have := hv.1
      simp only [FnOk] at this
      omega
    simp only [ren, hf, renA0 first hv.2.1, renA0 cap hv.2.2]
  | .iface _ v, hv => by simp only [VOk] at hv; simp only [ren, ren0 v hv]
  | .agg cs, hv => by simp only [VOk] at hv; simp only [ren, renA0 cs hv]
  | .tuple vs, hv => by simp only [VOk] at hv; simp only [ren, renA0 vs hv]
  | .bool _, _ | .int _ _, _ | .float _ _, _ | .complex _ _ _, _ | .string _, _ | .pointer none, _ | .slice none _ _, _ | .map none, _ | .chan none, _ | .nilFunc, _ | .nilIface, _ => by simp only [ren]
theorem renA0 : ∀ a : Array Value, AOk 0 a → renA ρ a = a
  | ⟨l⟩, hv => by simp only [AOk] at hv; simp only [renA, renL0 l hv]
theorem renL0 : ∀ l : List Value, LOk 0 l → renL ρ l = l
  | [], _ => by simp only [renL]
  | v :: l, hv => by simp only [LOk] at hv; simp only [renL, ren0 v hv.1, renL0 l hv.2]
end
mutual
theorem VOk.mono (h : n ≤ m) : ∀ v : Value, VOk n v → VOk m v
  | .pointer (some a), hv => by simp only [VOk, AddrOk] at hv ⊢; exact ⟨by omega, hv.2⟩
  | .slice (some a) _ _, hv => by simp only [VOk, AddrOk] at hv ⊢; exact ⟨by omega, hv.2⟩
  | .map (some r), hv => by simp only [VOk] at hv ⊢; omega
  | .chan (some r), hv => by simp only [VOk] at hv ⊢; omega
  | .func fn first cap, hv => by
    simp only [VOk] at hv ⊢
    refine ⟨?_, AOk.mono h first hv.2.1, AOk.mono h cap hv.2.2⟩
    cases fn <;> simp only [FnOk]
    have := hv.1
    simp only [FnOk] at this
    omega
  | .iface _ v, hv => by simp only [VOk] at hv ⊢; exact VOk.mono h v hv
  | .agg cs, hv => by simp only [VOk] at hv ⊢; exact AOk.mono h cs hv
  | .tuple vs, hv => by simp only [VOk] at hv ⊢; exact AOk.mono h vs hv
  | .bool _, _ | .int _ _, _ | .float _ _, _ | .complex _ _ _, _ | .string _, _ | .pointer none, _ | .slice none _ _, _ | .map none, _ | .chan none, _ | .nilFunc, _ | .nilIface, _ => by simp only [VOk]
theorem AOk.mono (h : n ≤ m) : ∀ a : Array Value, AOk n a → AOk m a
  | ⟨l⟩, hv => by simp only [AOk] at hv ⊢; exact LOk.mono h l hv
theorem LOk.mono (h : n ≤ m) : ∀ l : List Value, LOk n l → LOk m l
  | [], _ => by simp only [LOk]
  | v :: l, hv => by simp only [LOk] at hv ⊢; exact ⟨VOk.mono h v hv.1, LOk.mono h l hv.2⟩
end
def one : Value → Bool
  | .agg _ | .tuple _ => false
  | _ => true
theorem one_ren (v : Value) : one (ren ρ v) = one v := by
  cases v with
  | pointer a => cases a <;> rfl
  | slice a _ _ => cases a <;> rfl
  | map a => cases a <;> rfl
  | chan a => cases a <;> rfl
  | _ => rfl
theorem cells_ren (v : Value) : (ren ρ v).cells = v.cells.map (ren ρ) := by
  cases v with
  | pointer a => cases a <;> simp [ren, Value.cells]
  | slice a _ _ => cases a <;> simp [ren, Value.cells]
  | map a => cases a <;> simp [ren, Value.cells]
  | chan a => cases a <;> simp [ren, Value.cells]
  | agg cs => simp [ren, Value.cells, renA_eq]
  | _ => simp [ren, Value.cells]
theorem cells_ok {v : Value} (h : VOk n v) : ∀ x ∈ v.cells.toList, VOk n x := by
  cases v with
  | agg cs => simpa [Value.cells, VOk, AOk_iff] using h
  | _ => simpa [Value.cells] using h
def kn1 : Value → Bool
  | .tuple ⟨[.tuple ⟨[]⟩]⟩ => false
  | _ => true
end
end Go.Proofs.Ythnccaajpdnndaa
namespace Go.Proofs.Ythnccaajpdnndaa
open Go.Conc
inductive AObj where
  | dead
  | cells (c : List Value) (wr : Bool) (sz : Nat)
  | map (es : List (Value × Value)) (wr : Bool)
  | loop (st : LoopState) (pend : Option Code) (fn : FuncId) (r : Nat → Value) (size : Nat) (params : Array Tmp) (assign body : Code) (dfr : Nat)
  | deferred
  | chan (cap : Nat)
  | group (x : Nat)
  /-- Goes over a map of k entries, of which these have come. -/
  | iter (m k : Nat) (sn : List Nat)
def AObj.live : AObj → Bool
  | .dead => false
  | .group _ => false
  | _ => true
def AObj.wrt : AObj → Bool
  | .dead => false
  | .group _ => false
  | .cells _ wr _ => wr
  | .map _ wr => wr
  | .loop .. => true
  | .deferred => true
  | .chan _ => true
  | .iter .. => true
structure Foot where
  rd : Nat → Prop
  wr : Nat → Prop
  /-- A phase, of a company of goroutines. -/
  tag : Nat
def Foot.ext (ft : Foot) (n m : Nat) : Foot := ⟨fun b => ft.rd b ∨ (n ≤ b ∧ b < m), fun b => ft.wr b ∨ (n ≤ b ∧ b < m), ft.tag⟩
def RegRel (n : Nat) (ρ : Env) (r : Nat → Value) (tmps : Array Value) : Prop :=
  ∀ t, r t = unk ∨ (VOk n (r t) ∧ tmps.getD t undef = ren ρ (r t))
def CellsRel (n : Nat) (ρ : Env) (b : Nat) (c : List Value) (wr : Bool) (sz : Nat) (c' : Array Value) (fr : Nat × Nat) : Prop :=
  (∀ (i : Nat) (v : Value), c[i]? = some v → (v = unk ∧ wr = false) ∨ (VOk n v ∧ one v = true ∧ c'[i]? = some (ren ρ v))) ∧
  (sz = 0 → c'.size = c.length) ∧ (sz ≠ 0 → c'.size = ρ.cap b * sz ∧ c.length ≤ c'.size) ∧ (wr = true → fr.2 ≤ fr.1)
def MapRel (n : Nat) (ρ : Env) (es : List (Value × Value)) (es' : Array MapEntry) : Prop :=
  es'.size = es.length ∧ ∀ (i : Nat) (k v : Value), es[i]? = some (k, v) → VOk 0 k ∧ VOk n v ∧ ∃ e : MapEntry, es'[i]? = some e ∧ e.key = k ∧ e.val = ren ρ v ∧ e.born = i
def ORel (n : Nat) (ρ : Env) (b : Nat) : AObj → Option Obj → Prop
  | .dead, _ => True
  | .group _, _ => True
  | .cells c wr sz, some (.cells c' _ fr) => CellsRel n ρ b c wr sz c' fr
  | .map es _, some (.map es' clock) => MapRel n ρ es es' ∧ clock = es.length
  | .iter m k sn, some (.mapIter m' since seen last) => m < n ∧ m' = some (ρ.blk m) ∧ since = k ∧ last = k ∧ seen.toList = sn
  | .loop st pend fn r size params assign body dfr, some (.loop l) =>
    l.state = st ∧ l.pending = pend ∧ l.fn = fn ∧ RegRel n ρ r l.tmps ∧ l.tmps.size = size ∧ l.params = params ∧ l.assign = assign ∧ l.body = body ∧ l.defers = ρ.blk dfr ∧ dfr < n
  | .deferred, some (.deferred (some [])) => True
  | .chan cap, some (.chan cap' buf closed s r tm) => cap' = cap ∧ buf = #[] ∧ closed = false ∧ s = 0 ∧ r = 0 ∧ tm = false
  | _, _ => False
structure Frm where
  ob : Nat → Option Obj
  wr : Nat → Prop
structure HRel (ρ : Env) (h : List AObj) (FC : Frm) (w : World) (ft : Foot) : Prop where
  obj : ∀ (b : Nat) (o : AObj), h[b]? = some o → ORel h.length ρ b o w.heap[ρ.blk b]?
  inj : ∀ (b b' : Nat) (o o' : AObj), h[b]? = some o → h[b']? = some o' → o.live = true → o'.live = true → ρ.blk b = ρ.blk b' → b = b'
  rd : ∀ (b : Nat) (o : AObj), h[b]? = some o → o.live = true → ft.rd (ρ.blk b)
  wr : ∀ (b : Nat) (o : AObj), h[b]? = some o → o.wrt = true → ft.wr (ρ.blk b)
  lt : ∀ b : Nat, ft.rd b → b < w.heap.size
  sub : ∀ b, ft.wr b → ft.rd b
  kept : ∀ (b : Nat) (o : Obj), FC.ob b = some o → w.heap[b]? = some o ∧ ft.rd b ∧ ∀ (a : Nat) (oa : AObj), h[a]? = some oa → oa.wrt = true → ρ.blk a ≠ b
  keptW : ∀ b, FC.wr b → ft.wr b
  tag : ∀ (b : Nat) (x : Nat), h[b]? = some (.group x) → ft.tag = x + 32 * ρ.blk b
structure RelyW (ft : Foot) (w w₁ : World) : Prop where
  heap : ∀ b, ft.rd b → w₁.heap[b]? = w.heap[b]?
  size : w.heap.size ≤ w₁.heap.size
  tape : w₁.tape = w.tape
  os : w₁.os = w.os
  output : w₁.output = w.output
def EvOk (ft : Foot) (e : Event) : Prop :=
  match e.loc with
  | .cell a => e.sync = false ∧ ft.rd a.block ∧ (e.write = true → ft.wr a.block)
  | .obj r => e.sync = false ∧ ft.rd r ∧ (e.write = true → ft.wr r)
  | .mark .noRoom => True
  | .mark (.extern _) => True
  | _ => False
structure GuarW (ft : Foot) (w w' : World) (es : Array Event) : Prop where
  heap : ∀ b, b < w.heap.size → ¬ ft.wr b → w'.heap[b]? = w.heap[b]?
  size : w.heap.size ≤ w'.heap.size
  tape : w'.tape = w.tape
  os : w'.os = w.os
  output : w'.output = w.output
  evs : ∀ e ∈ es, EvOk ft e
structure Closed (P : Program) (main : Bool) (J : Goroutine → World → Foot → Prop) : Prop where
  rely : ∀ {g w ft w₁}, J g w ft → RelyW ft w w₁ → J g w₁ ft
  step : ∀ {g w ft}, g.status = .running → (∀ w₁, RelyW ft w w₁ → ∃ g' w' es, stepG P main g w₁ = .go g' w' es ∧ g'.status = .running ∧ GuarW ft w₁ w' es ∧
    J g' w' (ft.ext w₁.heap.size w'.heap.size)) → J g w ft
section
variable {ρ ρ' : Env} {h h' : List AObj} {FC : Frm} {w w' w₁ w₂ : World} {ft : Foot} {n m : Nat} {b : Nat}
theorem RelyW.refl (ft : Foot) (w : World) : RelyW ft w w := ⟨fun _ _ => rfl, Nat.le_refl _, rfl, rfl, rfl⟩
theorem RelyW.trans (h : RelyW ft w w₁) (h' : RelyW ft w₁ w₂) : RelyW ft w w₂ :=
  ⟨fun b hb => (h'.heap b hb).trans (h.heap b hb), Nat.le_trans h.size h'.size, h'.tape.trans h.tape, h'.os.trans h.os, h'.output.trans h.output⟩
theorem GuarW.refl (ft : Foot) (w : World) : GuarW ft w w #[] := ⟨fun _ _ _ => rfl, Nat.le_refl _, rfl, rfl, rfl, fun _ h => by simp at h⟩
theorem RegRel.congr (he : Env.upto n ρ ρ') (hn : n ≤ m) {r : Nat → Value} {tmps : Array Value} (hr : RegRel n ρ r tmps) : RegRel m ρ' r tmps := by
  intro t
  rcases hr t with h | ⟨h1, h2⟩
  · exact .inl h
  · exact .inr ⟨VOk.mono hn _ h1, by rw [h2, ren_congr he _ h1]⟩
theorem ORel.congr (he : Env.upto n ρ ρ') (hn : n ≤ m) (hb : b < n) {o : AObj} {x : Option Obj} (ho : ORel n ρ b o x) : ORel m ρ' b o x := by
  cases o with
  | dead => trivial
  | group x => trivial
  | cells c wr sz =>
    match x, ho with
    | some (.cells c' ty fr), ho =>
      obtain ⟨h1, h2, h3, h4⟩ := ho
      refine ⟨fun i v hv => ?_, h2, fun hz => by rw [(he b hb).2]; exact h3 hz, h4⟩
      rcases h1 i v hv with u | ⟨a1, a2, a3⟩
      · exact .inl u
      · exact .inr ⟨VOk.mono hn _ a1, a2, by rw [a3, ren_congr he _ a1]⟩
  | map es wr =>
    match x, ho with
    | some (.map es' _), ⟨ho, hcl⟩ =>
      refine ⟨⟨ho.1, fun i k v hv => ?_⟩, hcl⟩
      obtain ⟨a1, a2, e, a3, a4, a5, a6⟩ := ho.2 i k v hv
      exact ⟨a1, VOk.mono hn _ a2, e, a3, a4, by rw [a5, ren_congr he _ a2], a6⟩
  | iter m k sn =>
    match x, ho with
    | some (.mapIter m' since seen last), ho =>
      obtain ⟨a1, a2, a3⟩ := ho
      exact ⟨Nat.lt_of_lt_of_le a1 hn, by rw [a2, (he m a1).1], a3⟩
  | loop st pend fn r size params assign body dfr =>
    match x, ho with
    | some (.loop l), ho =>
      obtain ⟨a1, a2, a3, a4, a5, a6, a7, a8, a9, a10⟩ := ho
      exact ⟨a1, a2, a3, a4.congr he hn, a5, a6, a7, a8, by rw [a9, (he _ a10).1], by omega⟩
  | deferred =>
    match x, ho with
    | some (.deferred (some [])), _ => trivial
  | chan cap =>
    match x, ho with
    | some (.chan _ _ _ _ _ _), ho => exact ho
theorem HRel.live_lt (H : HRel ρ h FC w ft) {o : AObj} (hb : h[b]? = some o) (hl : o.live = true) : ρ.blk b < w.heap.size := H.lt _ (H.rd b o hb hl)
theorem HRel.rely (H : HRel ρ h FC w ft) (hr : RelyW ft w w₁) : HRel ρ h FC w₁ ft where
  obj := fun b o hb => by
    cases hl : o.live with
    | false => cases o <;> first | trivial | cases hl
    | true => rw [hr.heap _ (H.rd b o hb hl)]; exact H.obj b o hb
  inj := H.inj
  rd := H.rd
  wr := H.wr
  lt := fun b hb => Nat.lt_of_lt_of_le (H.lt b hb) hr.size
  sub := H.sub
  kept := fun b o hb => by
    obtain ⟨a1, a2, a3⟩ := H.kept b o hb
    exact ⟨by rw [hr.heap b a2]; exact a1, a2, a3⟩
  keptW := H.keptW
  tag := H.tag
theorem Foot.ext_self (ft : Foot) (n : Nat) : ft.ext n n = ft := by
  cases ft
  simp only [Foot.ext, Foot.mk.injEq]
  exact ⟨by funext b; simp; omega, by funext b; simp; omega, trivial⟩
end
def RunsTo {α : Type} (P : Program) (X : Event → Prop) (s : Sem α) (w : World) (Q : α → World → Prop) : Prop :=
  ∀ es : Array Event, (∀ e ∈ es, X e) → ∃ v w' es', s.runT P w es = (.ok v w', es') ∧ (∀ e ∈ es', X e) ∧ Q v w'
section
variable {α β : Type} {P : Program} {X : Event → Prop} {w : World} {Q : α → World → Prop} {R : β → World → Prop}
theorem RunsTo.pure {a : α} (h : Q a w) : RunsTo P X (Pure.pure a) w Q := fun es he => ⟨a, w, es, rfl, he, h⟩
theorem RunsTo.bind {s : Sem α} {f : α → Sem β} (h : RunsTo P X s w fun a w' => RunsTo P X (f a) w' R) : RunsTo P X (s >>= f) w R := by
  intro es he
  obtain ⟨v, w1, es1, h1, h2, h3⟩ := h es he
  obtain ⟨u, w2, es2, g1, g2, g3⟩ := h3 es1 h2
  refine ⟨u, w2, es2, ?_, g2, g3⟩
  show (s.bind f).runT P w es = _
  rw [Sem.runT_bind', h1]
  exact g1
theorem RunsTo.map {s : Sem α} {f : α → β} (h : RunsTo P X s w fun a w' => R (f a) w') : RunsTo P X (Functor.map f s) w R := by
  show RunsTo P X (s.bind fun a => Sem.pure (f a)) w R
  exact RunsTo.bind (f := fun a => Sem.pure (f a)) (by
    intro es he
    obtain ⟨v, w1, es1, h1, h2, h3⟩ := h es he
    exact ⟨v, w1, es1, h1, h2, RunsTo.pure h3⟩)
theorem RunsTo.mono {s : Sem α} {Q' : α → World → Prop} (h : RunsTo P X s w Q) (hq : ∀ a w', Q a w' → Q' a w') : RunsTo P X s w Q' := by
  intro es he
  obtain ⟨v, w1, es1, h1, h2, h3⟩ := h es he
  exact ⟨v, w1, es1, h1, h2, hq _ _ h3⟩
theorem RunsTo.load {a : Addr} {v : Value} {Q : Value → World → Prop} (hc : w.cell? a = some v) (hx : X ⟨.cell a, false, false⟩) (h : Q v w) : RunsTo P X (Go.load a) w Q := by
  intro es he
  refine ⟨v, w, es.push ⟨.cell a, false, false⟩, ?_, ?_, h⟩
  · unfold Go.load
    unfold Sem.runT
    rw [hc]
    rfl
  · intro e hm
    rcases Array.mem_push.1 hm with h | rfl
    · exact he e h
    · exact hx
theorem RunsTo.store {a : Addr} {v u : Value} {Q : Unit → World → Prop} (hc : w.cell? a = some u) (hf : w.frozen? a = false) (ho : one v = true) (hx : X ⟨.cell a, true, false⟩) (h : Q () (w.setCell a v)) : RunsTo P X (Go.store a v) w Q := by
  intro es he
  refine ⟨(), w.setCell a v, es.push ⟨.cell a, true, false⟩, ?_, ?_, h⟩
  · unfold Go.store
    cases v <;> first | (cases ho; done) | (unfold Sem.runT; rw [hc, hf]; rfl)
  · intro e hm
    rcases Array.mem_push.1 hm with h | rfl
    · exact he e h
    · exact hx
theorem RunsTo.new {o : Obj} {Q : Nat → World → Prop} (h : Q w.heap.size { w with heap := w.heap.push o }) : RunsTo P X (newObj o) w Q :=
  fun es he => ⟨_, _, es, rfl, he, h⟩
theorem RunsTo.program {Q : Program → World → Prop} (h : Q P w) : RunsTo P X Go.program w Q := fun es he => ⟨_, _, es, rfl, he, h⟩
theorem RunsTo.mark {m : Mark} {Q : Unit → World → Prop} (hx : X ⟨.mark m, false, true⟩) (h : Q () w) : RunsTo P X (Go.mark m) w Q := by
  intro es he
  refine ⟨(), w, _, rfl, ?_, h⟩
  intro e hm
  rcases Array.mem_push.1 hm with h | rfl
  · exact he e h
  · exact hx
theorem RunsTo.frozen {a : Addr} {Q : Bool → World → Prop} (h : Q (w.frozen? a) w) : RunsTo P X (Go.frozen a) w Q := fun es he => ⟨_, _, es, rfl, he, h⟩
theorem RunsTo.choose {q : Question} {Q : Nat → World → Prop} (h : ∀ k d, (q.forced = true → k = 0) → (q.forced = false → ∃ t, k = q.cut t) → Q k { w with drawn := d }) : RunsTo P X (Go.choose q) w Q := by
  intro es he
  unfold Go.choose
  unfold Sem.runT
  cases hq : q.forced with
  | true => exact ⟨0, w, es, rfl, he, h 0 w.drawn (fun _ => rfl) (fun e => by rw [hq] at e; cases e)⟩
  | false => exact ⟨_, _, es, rfl, he, h _ _ (fun e => by rw [hq] at e; cases e) (fun _ => ⟨_, rfl⟩)⟩
theorem RunsTo.getObj {r : Nat} {o : Obj} {Q : Obj → World → Prop} (ho : w.heap[r]? = some o) (hc : ∀ c t f, o ≠ .cells c t f) (hx : X ⟨.obj r, false, o.isChan⟩) (h : Q o w) : RunsTo P X (Go.getObj r) w Q := by
  intro es he
  refine ⟨o, w, es.push ⟨.obj r, false, o.isChan⟩, ?_, ?_, h⟩
  · unfold Go.getObj
    unfold Sem.runT
    rw [ho]
    cases o <;> first | rfl | exact absurd rfl (hc _ _ _)
  · intro e hm
    rcases Array.mem_push.1 hm with h | rfl
    · exact he e h
    · exact hx
theorem RunsTo.setObj {r : Nat} {o x : Obj} {Q : Unit → World → Prop} (ho : w.heap[r]? = some x) (hc : ∀ c t f, x ≠ .cells c t f) (hx : X ⟨.obj r, true, o.isChan⟩) (h : Q () { w with heap := w.heap.setIfInBounds r o }) : RunsTo P X (Go.setObj r o) w Q := by
  intro es he
  refine ⟨(), _, es.push ⟨.obj r, true, o.isChan⟩, ?_, ?_, h⟩
  · unfold Go.setObj
    unfold Sem.runT
    rw [ho]
    cases x <;> first | rfl | exact absurd rfl (hc _ _ _)
  · intro e hm
    rcases Array.mem_push.1 hm with h | rfl
    · exact he e h
    · exact hx
end
section
variable {P : Program} {X : Event → Prop} {w : World}
theorem RunsTo.typeInfo {t : TypeId} {i : TypeInfo} {Q : TypeInfo → World → Prop} (hi : P.info? t = some i) (h : Q i w) : RunsTo P X (Go.typeInfo t) w Q := by
  unfold Go.typeInfo
  refine RunsTo.bind (RunsTo.program ?_)
  simp only [hi]
  exact RunsTo.pure h
theorem RunsTo.underlying {t : TypeId} {d : TypeDesc} {Q : TypeDesc → World → Prop} (hi : P.underlying t = some d) (h : Q d w) : RunsTo P X (Go.underlying t) w Q := by
  unfold Go.underlying
  refine RunsTo.bind (RunsTo.program ?_)
  simp only [hi]
  exact RunsTo.pure h
theorem RunsTo.sizeOf {t : TypeId} {i : TypeInfo} {Q : Nat → World → Prop} (hi : P.info? t = some i) (h : Q i.size w) : RunsTo P X (Go.sizeOf t) w Q := by
  unfold Go.sizeOf
  exact RunsTo.bind (RunsTo.typeInfo hi (RunsTo.pure h))
theorem RunsTo.zeroValue {t : TypeId} {i : TypeInfo} {z : Value} {Q : Value → World → Prop} (hi : P.info? t = some i) (hz : i.zero = some z) (h : Q z w) : RunsTo P X (Go.zeroValue t) w Q := by
  unfold Go.zeroValue
  refine RunsTo.bind (RunsTo.typeInfo hi ?_)
  simp only [hz]
  exact RunsTo.pure h
def isAggD : TypeDesc → Bool
  | .struct _ | .array _ _ => true
  | _ => false
theorem RunsTo.isAgg {t : TypeId} {d : TypeDesc} {Q : Bool → World → Prop} (hi : P.underlying t = some d) (h : Q (isAggD d) w) : RunsTo P X (Go.isAgg t) w Q := by
  unfold Go.isAgg
  refine RunsTo.bind (RunsTo.underlying hi ?_)
  cases d <;> exact RunsTo.pure h
end
structure Stays (ft : Foot) (w w' : World) : Prop where
  heap : ∀ b, b < w.heap.size → ¬ ft.wr b → w'.heap[b]? = w.heap[b]?
  size : w.heap.size ≤ w'.heap.size
  tape : w'.tape = w.tape
  os : w'.os = w.os
  output : w'.output = w.output
theorem Stays.refl (ft : Foot) (w : World) : Stays ft w w := ⟨fun _ _ _ => rfl, Nat.le_refl _, rfl, rfl, rfl⟩
theorem Stays.trans {ft : Foot} {w w₁ w₂ : World} (h : Stays ft w w₁) (h' : Stays ft w₁ w₂) : Stays ft w w₂ :=
  ⟨fun b hb hw => (h'.heap b (Nat.lt_of_lt_of_le hb h.size) hw).trans (h.heap b hb hw), Nat.le_trans h.size h'.size, h'.tape.trans h.tape, h'.os.trans h.os, h'.output.trans h.output⟩
theorem Stays.guar {ft : Foot} {w w' : World} {es : Array Event} (h : Stays ft w w') (he : ∀ e ∈ es, EvOk ft e) : GuarW ft w w' es :=
  ⟨h.heap, h.size, h.tape, h.os, h.output, he⟩
theorem Stays.drawn (ft : Foot) (w : World) (d : Nat) : Stays ft w { w with drawn := d } := ⟨fun _ _ _ => rfl, Nat.le_refl _, rfl, rfl, rfl⟩
structure Goes1 (ρ : Env) (h : List AObj) (FC : Frm) (w : World) (ft : Foot) (ρ' : Env) (h' : List AObj) (w' : World) : Prop where
  rel : HRel ρ' h' FC w' (ft.ext w.heap.size w'.heap.size)
  upto : Env.upto h.length ρ ρ'
  len : h.length ≤ h'.length
  stays : Stays ft w w'
section
variable {ρ ρ' : Env} {h h' : List AObj} {FC : Frm} {w w' w₁ : World} {ft : Foot} {b : Nat}
theorem HRel.of_drawn (H : HRel ρ h FC w ft) (d : Nat) : HRel ρ h FC { w with drawn := d } ft := ⟨H.obj, H.inj, H.rd, H.wr, H.lt, H.sub, H.kept, H.keptW, H.tag⟩
theorem Goes1.refl (H : HRel ρ h FC w ft) : Goes1 ρ h FC w ft ρ h w :=
  ⟨by rw [Foot.ext_self]; exact H, Env.upto_refl _ _, Nat.le_refl _, Stays.refl _ _⟩
theorem HRel.cell (H : HRel ρ h FC w ft) {c : List Value} {wr : Bool} {sz off : Nat} {v : Value} (hb : h[b]? = some (.cells c wr sz)) (hv : c[off]? = some v) (hu : wr = true ∨ kn1 v = true) :
    w.cell? ⟨ρ.blk b, off, none⟩ = some (ren ρ v) ∧ VOk h.length v ∧ one v = true := by
  have := H.obj b _ hb
  match hw : w.heap[ρ.blk b]?, this with
  | some (.cells c' ty fr), ho =>
    rcases ho.1 off v hv with ⟨rfl, rfl⟩ | ⟨a1, a2, a3⟩
    · rcases hu with hu | hu
      · cases hu
      · exact absurd hu (by simp [kn1, unk])
    · exact ⟨by simp [World.cell?, hw, a3], a1, a2⟩
theorem HRel.frozen (H : HRel ρ h FC w ft) {c : List Value} {sz off : Nat} (hb : h[b]? = some (.cells c true sz)) : w.frozen? ⟨ρ.blk b, off, none⟩ = false := by
  have := H.obj b _ hb
  match hw : w.heap[ρ.blk b]?, this with
  | some (.cells c' ty (lo, hi)), ho =>
    have := ho.2.2.2 rfl
    simp only at this
    simp [World.frozen?, hw]
    omega
theorem set_get {α : Type} {l : List α} {b i : Nat} {x y : α} (hi : (l.set b x)[i]? = some y) : (i = b ∧ y = x ∧ b < l.length) ∨ (i ≠ b ∧ l[i]? = some y) := by
  rw [List.getElem?_set] at hi
  split at hi
  · rename_i e
    split at hi
    · cases hi; exact .inl ⟨e.symm, rfl, by omega⟩
    · cases hi
  · rename_i e
    exact .inr ⟨fun x => e x.symm, hi⟩
theorem HRel.setCell (H : HRel ρ h FC w ft) {c : List Value} {sz off : Nat} {v : Value} (hb : h[b]? = some (.cells c true sz)) (ho : off < c.length) (hv : VOk h.length v) (h1 : one v = true) :
    HRel ρ (h.set b (.cells (c.set off v) true sz)) FC (w.setCell ⟨ρ.blk b, off, none⟩ (ren ρ v)) ft := by
  have hb' := H.obj b _ hb
  have hlt := H.live_lt hb rfl
  have hoth : ∀ x, x ≠ ρ.blk b → (w.setCell ⟨ρ.blk b, off, none⟩ (ren ρ v)).heap[x]? = w.heap[x]? := by
    intro x hx
    simp [World.setCell, Array.getElem?_modify, Ne.symm hx]
  refine ⟨fun i o hi => ?_, fun i j o o' hi hj l1 l2 e => ?_, fun i o hi hl => ?_, fun i o hi hl => ?_, fun x hx => ?_, H.sub, fun x o hx => ?_, H.keptW, fun i x hi => (by
    rcases set_get hi with ⟨rfl, e, _⟩ | ⟨_, hi⟩
    · cases e
    · exact H.tag i x hi)⟩
  · rw [List.length_set]
    rcases set_get hi with ⟨rfl, rfl, _⟩ | ⟨hne, hi⟩
    · match hw : w.heap[ρ.blk i]?, hb' with
      | some (.cells c' ty fr), hb' =>
        rw [show (w.setCell ⟨ρ.blk i, off, none⟩ (ren ρ v)).heap[ρ.blk i]? = some (.cells (c'.setIfInBounds off (ren ρ v)) ty fr) from by simp [World.setCell, Array.getElem?_modify, hw]]
        obtain ⟨g1, g2, g3, g4⟩ := hb'
        refine ⟨fun k u hk => ?_, fun hz => by simpa using g2 hz, fun hz => by simpa using g3 hz, g4⟩
        rw [List.getElem?_set] at hk
        split at hk
        · rename_i e
          subst e
          obtain rfl : v = u := by simpa [ho] using hk
          have hsz : off < c'.size := by
            rcases Nat.eq_zero_or_pos sz with z | z
            · have := g2 z; omega
            · have := (g3 (by omega)).2; omega
          exact .inr ⟨hv, h1, by simp [hsz]⟩
        · rename_i e
          obtain ⟨a1, a2, a3⟩ := (g1 k u hk).resolve_left (fun x => by cases x.2)
          exact .inr ⟨a1, a2, by rw [Array.getElem?_setIfInBounds_ne e]; exact a3⟩
    · by_cases hl : o.live = true
      · have hx : ρ.blk i ≠ ρ.blk b := fun e => hne (H.inj i b o _ hi hb hl rfl e)
        rw [hoth _ hx]
        exact H.obj i o hi
      · cases o <;> first | trivial | exact absurd rfl hl
  · have gi : ∃ oi, h[i]? = some oi ∧ oi.live = true := by
      rcases set_get hi with ⟨rfl, rfl, _⟩ | ⟨_, hi⟩
      · exact ⟨_, hb, rfl⟩
      · exact ⟨_, hi, l1⟩
    have gj : ∃ oj, h[j]? = some oj ∧ oj.live = true := by
      rcases set_get hj with ⟨rfl, rfl, _⟩ | ⟨_, hj⟩
      · exact ⟨_, hb, rfl⟩
      · exact ⟨_, hj, l2⟩
    obtain ⟨oi, a1, a2⟩ := gi
    obtain ⟨oj, b1, b2⟩ := gj
    exact H.inj i j oi oj a1 b1 a2 b2 e
  · rcases set_get hi with ⟨rfl, rfl, _⟩ | ⟨_, hi⟩
    · exact H.rd _ _ hb rfl
    · exact H.rd _ _ hi hl
  · rcases set_get hi with ⟨rfl, rfl, _⟩ | ⟨_, hi⟩
    · exact H.wr _ _ hb rfl
    · exact H.wr _ _ hi hl
  · have := H.lt x hx
    simpa [World.setCell] using this
  · obtain ⟨a1, a2, a3⟩ := H.kept x o hx
    refine ⟨?_, a2, fun a oa ha hw => ?_⟩
    · rw [hoth x (fun e => a3 b _ hb rfl e.symm)]
      exact a1
    · rcases set_get ha with ⟨rfl, rfl, _⟩ | ⟨_, ha⟩
      · exact a3 _ _ hb rfl
      · exact a3 _ _ ha hw
theorem stays_setCell {a : Addr} {v : Value} (hw : ft.wr a.block) : Stays ft w (w.setCell a v) := by
  refine ⟨fun x _ hx => ?_, by simp [World.setCell], rfl, rfl, rfl⟩
  have : a.block ≠ x := fun e => hx (e ▸ hw)
  simp [World.setCell, Array.getElem?_modify, this]
def Env.put (ρ : Env) (n B κ : Nat) : Env := ⟨fun b => if b = n then B else ρ.blk b, fun b => if b = n then κ else ρ.cap b⟩
theorem Env.put_upto (ρ : Env) (n B κ : Nat) : Env.upto n ρ (ρ.put n B κ) := fun b hb => by
  have : b ≠ n := by omega
  simp [Env.put, this]
theorem Env.put_self (ρ : Env) (n B κ : Nat) : (ρ.put n B κ).blk n = B ∧ (ρ.put n B κ).cap n = κ := by simp [Env.put]
theorem HRel.push (H : HRel ρ h FC w ft) (o : AObj) (x : Obj) (κ : Nat) (ho : ORel (h.length + 1) (ρ.put h.length w.heap.size κ) h.length o (some x)) (d : Nat) (hng : ∀ y, o ≠ .group y := by intro y e; cases e) :
    Goes1 ρ h FC w ft (ρ.put h.length w.heap.size κ) (h ++ [o]) { w with heap := w.heap.push x, drawn := d } := by
  have hup := Env.put_upto ρ h.length w.heap.size κ
  have hold : ∀ i oi, h[i]? = some oi → (ρ.put h.length w.heap.size κ).blk i = ρ.blk i := fun i oi hi => (hup i (List.getElem?_eq_some_iff.1 hi).1).1
  have hnew := (Env.put_self ρ h.length w.heap.size κ).1
  have get : ∀ {i oi}, (h ++ [o])[i]? = some oi → (i = h.length ∧ oi = o) ∨ h[i]? = some oi := by
    intro i oi hi
    rw [List.getElem?_append] at hi
    split at hi
    · exact .inr hi
    · rename_i hge
      have : i - h.length = 0 := by
        have := (List.getElem?_eq_some_iff.1 hi).1
        simp at this
        omega
      rw [this] at hi
      simp at hi
      exact .inl ⟨by omega, hi.symm⟩
  have hpush : ∀ i, i < w.heap.size → (w.heap.push x)[i]? = w.heap[i]? := fun i hi => by rw [Array.getElem?_push_lt hi, Array.getElem?_eq_getElem hi]
  refine ⟨⟨fun i oi hi => ?_, fun i j oi oj hi hj l1 l2 e => ?_, fun i oi hi hl => ?_, fun i oi hi hl => ?_, fun y hy => ?_, fun y hy => ?_, fun y oy hy => ?_, fun y hy => .inl (H.keptW y hy), fun i y hi => (by
    rcases get hi with ⟨_, e⟩ | hi
    · exact absurd e.symm (hng y)
    · rw [(hup i (List.getElem?_eq_some_iff.1 hi).1).1]
      exact H.tag i y hi)⟩, hup, by simp, ⟨fun y hy _ => hpush y hy, by simp, rfl, rfl, rfl⟩⟩
  · rw [List.length_append]
    rcases get hi with ⟨rfl, rfl⟩ | hi
    · rw [hnew]
      simpa using ho
    · rw [hold i oi hi]
      by_cases hl : oi.live = true
      · show ORel _ _ _ _ (w.heap.push x)[ρ.blk i]?
        rw [hpush _ (H.live_lt hi hl)]
        exact (H.obj i oi hi).congr hup (by simp) (List.getElem?_eq_some_iff.1 hi).1
      · cases oi <;> first | trivial | exact absurd rfl hl
  · rcases get hi with ⟨ei, -⟩ | hi2
    · rcases get hj with ⟨ej, -⟩ | hj2
      · omega
      · subst ei
        rw [hnew, hold j oj hj2] at e
        have := H.live_lt hj2 l2
        omega
    · rcases get hj with ⟨ej, -⟩ | hj2
      · subst ej
        rw [hnew, hold i oi hi2] at e
        have := H.live_lt hi2 l1
        omega
      · rw [hold i oi hi2, hold j oj hj2] at e
        exact H.inj i j oi oj hi2 hj2 l1 l2 e
  · rcases get hi with ⟨rfl, rfl⟩ | hi
    · rw [hnew]; exact .inr ⟨Nat.le_refl _, by simp⟩
    · rw [hold i oi hi]; exact .inl (H.rd i oi hi hl)
  · rcases get hi with ⟨rfl, rfl⟩ | hi
    · rw [hnew]; exact .inr ⟨Nat.le_refl _, by simp⟩
    · rw [hold i oi hi]; exact .inl (H.wr i oi hi hl)
  · rcases hy with hy | hy
    · have := H.lt y hy
      simp; omega
    · exact hy.2
  · rcases hy with hy | hy
    · exact .inl (H.sub y hy)
    · exact .inr hy
  · obtain ⟨a1, a2, a3⟩ := H.kept y oy hy
    have hylt := H.lt y a2
    refine ⟨by show (w.heap.push x)[y]? = _; rw [hpush y hylt]; exact a1, .inl a2, fun a oa ha hw => ?_⟩
    rcases get ha with ⟨rfl, rfl⟩ | ha
    · rw [hnew]; omega
    · rw [hold a oa ha]; exact a3 a oa ha hw
theorem HRel.alloc (H : HRel ρ h FC w ft) (l : List Value) (ty : TypeId) (hl : ∀ v ∈ l, VOk h.length v ∧ one v = true) (d : Nat) :
    Goes1 ρ h FC w ft (ρ.put h.length w.heap.size 0) (h ++ [.cells l true 0]) { w with heap := w.heap.push (.cells ⟨l.map (ren ρ)⟩ ty), drawn := d } := by
  refine H.push (.cells l true 0) (.cells ⟨l.map (ren ρ)⟩ ty) 0 ?_ d
  refine (⟨fun i v hv => ?_, fun _ => by simp, fun hz => absurd rfl hz, fun _ => Nat.le_refl _⟩ : CellsRel (h.length + 1) (ρ.put h.length w.heap.size 0) h.length l true 0 ⟨l.map (ren ρ)⟩ (0, 0))
  obtain ⟨a1, a2⟩ := hl v (List.mem_of_getElem? hv)
  refine .inr ⟨VOk.mono (by omega) _ a1, a2, ?_⟩
  rw [ren_congr (Env.put_upto ρ h.length w.heap.size 0) _ a1]
  simp [hv]
end
abbrev ptr (b o : Nat) : Value := .pointer (some ⟨b, o, none⟩)
abbrev vint (n : Int) : Value := .int .i64 n
def plainC : Value → Bool
  | .bool _ | .int _ _ | .float _ _ | .string _ | .pointer none | .slice none _ _ | .map none | .chan none | .nilFunc | .nilIface => true
  | _ => false
def ev (r : Nat → Value) : Operand → Value
  | .tmp t => r t
  | .const v => bif plainC v then v else unk
  | .func f => .func (.func f) #[] #[]
  | .global _ => unk
def tk (P : Program) (t : TypeId) : Option (Bool × Nat) :=
  match P.underlying t, P.info? t with
  | some d, some i => some (isAggD d, i.size)
  | _, _ => none
def zc (P : Program) (t : TypeId) : Option (List Value) :=
  match P.info? t with
  | some i => match i.zero with
    | some z => bif z.cells.toList.all plainC then some z.cells.toList else none
    | none => none
  | none => none
def wrAt : List Value → Nat → List Value → List Value
  | c, _, [] => c
  | c, off, v :: vs => wrAt (c.set off v) (off + 1) vs
def kn (l : List Value) : Bool := l.all kn1
def aLoad (g : Bool) (s : Nat) (p : Value) (h : List AObj) (K : Value → Prop) : Prop :=
  match p with
  | .pointer (some ⟨b, off, none⟩) => match h[b]? with
    | some (.cells c _ _) => bif g then off + s ≤ c.length ∧ kn ((c.drop off).take s) = true ∧ K (.agg ⟨(c.drop off).take s⟩) else match c[off]? with
      | some v => kn1 v = true ∧ K v
      | none => False
    | _ => False
  | _ => False
def aStore (s : Nat) (p v : Value) (h : List AObj) (K : List AObj → Prop) : Prop :=
  match p with
  | .pointer (some ⟨b, off, none⟩) => match h[b]? with
    | some (.cells c true sz) => v.cells.size = s ∧ v.cells.toList.all one = true ∧ off + s ≤ c.length ∧ K (h.set b (.cells (wrAt c off v.cells.toList) true sz))
    | _ => False
  | _ => False
def aAlloc (l : List Value) (h : List AObj) (K : Value → List AObj → Prop) : Prop := K (ptr h.length 0) (h ++ [.cells l true 0])
def aBox (v : Value) (h : List AObj) (K : Value → List AObj → Prop) : Prop :=
  v.cells.toList.all one = true ∧ K (ptr h.length 0) (h ++ [.cells v.cells.toList true 0])
def aFill : List Value → List (Nat × Nat × Value) → (List Value → Prop) → Prop
  | c, [], K => K c
  | c, (off, s, v) :: ps, K => v.cells.size = s ∧ v.cells.toList.all one = true ∧ off + s ≤ c.length ∧ aFill (wrAt c off v.cells.toList) ps K
def aField (g : Bool) (s off : Nat) (x : Value) (K : Value → Prop) : Prop :=
  match x with
  | .agg ⟨c⟩ => bif g then off + s ≤ c.length ∧ K (.agg ⟨(c.drop off).take s⟩) else match c[off]? with
    | some v => K v
    | none => False
  | _ => False
def aOff (p : Value) (off : Nat) (K : Value → Prop) : Prop :=
  match p with
  | .pointer (some ⟨b, o, none⟩) => K (ptr b (o + off))
  | _ => False
def aIdx (s : Nat) (x i : Value) (K : Value → Prop) : Prop :=
  match x, i with
  | .slice (some ⟨b, o, none⟩) n _, .int _ j => (0 ≤ j ∧ j < n) ∧ K (ptr b (o + j.toNat * s))
  | _, _ => False
def aIdxA (len s : Nat) (x i : Value) (K : Value → Prop) : Prop :=
  match x, i with
  | .pointer (some ⟨b, o, none⟩), .int _ j => (0 ≤ j ∧ j < len) ∧ K (ptr b (o + j.toNat * s))
  | _, _ => False
def aInt (op : BinOp) (k : IntKind) (a b : Int) (K : Value → Prop) : Prop :=
  match op with
  | .add => K (.int k (k.wrap (a + b)))
  | .sub => K (.int k (k.wrap (a - b)))
  | .mul => K (.int k (k.wrap (a * b)))
  | .quo => b ≠ 0 ∧ K (.int k (k.wrap (a.tdiv b)))
  | .rem => b ≠ 0 ∧ K (.int k (a.tmod b))
  | .and => K (.int k (k.wrap (BitVec.ofInt k.bits a &&& BitVec.ofInt k.bits b).toNat))
  | .or => K (.int k (k.wrap (BitVec.ofInt k.bits a ||| BitVec.ofInt k.bits b).toNat))
  | .xor => K (.int k (k.wrap (BitVec.ofInt k.bits a ^^^ BitVec.ofInt k.bits b).toNat))
  | .andNot => K (.int k (k.wrap (BitVec.ofInt k.bits a &&& ~~~ BitVec.ofInt k.bits b).toNat))
  | .shl | .shr => False
  | .eql => K (.bool (a == b))
  | .neq => K (.bool (a != b))
  | .lss => K (.bool (decide (a < b)))
  | .leq => K (.bool (decide (a ≤ b)))
  | .gtr => K (.bool (decide (a > b)))
  | .geq => K (.bool (decide (a ≥ b)))
def aShift (op : BinOp) (k : IntKind) (a b : Int) (K : Value → Prop) : Prop :=
  0 ≤ b ∧ match op with
    | .shl => K (.int k (k.wrap (a * 2 ^ min b.toNat k.bits)))
    | .shr => K (.int k (a.fdiv (2 ^ min b.toNat k.bits)))
    | _ => False
def partV (P : Program) (t : TypeId) (c : List Value) (off : Nat) : Option Value :=
  match tk P t with
  | some (true, s) => some (.agg ⟨(c.drop off).take s⟩)
  | some (false, _) => c[off]?
  | none => none
def teqFields (P : Program) (cmp : TypeId → Value → Value → Option Bool) (xs ys : List Value) : List Field → Option Bool
  | [] => some true
  | f :: fs =>
    bif f.name == "_" then teqFields P cmp xs ys fs else
    match partV P f.type xs f.offset, partV P f.type ys f.offset with
    | some a, some b => match cmp f.type a b with
      | some true => teqFields P cmp xs ys fs
      | some false => some false
      | none => none
    | _, _ => none
def teqElems (P : Program) (cmp : TypeId → Value → Value → Option Bool) (xs ys : List Value) (elem : TypeId) (s : Nat) : Nat → Nat → Option Bool
  | _, 0 => some true
  | i, m + 1 =>
    match partV P elem xs (i * s), partV P elem ys (i * s) with
    | some a, some b => match cmp elem a b with
      | some true => teqElems P cmp xs ys elem s (i + 1) m
      | some false => some false
      | none => none
    | _, _ => none
def teq (P : Program) : Nat → TypeId → Value → Value → Option Bool
  | 0, _, _, _ => none
  | d + 1, t, x, y =>
    match P.underlying t, x, y with
    | some .bool, .bool a, .bool b => some (a == b)
    | some (.int _), .int k a, .int k' b => bif k == k' then some (a == b) else none
    | some .string, .string a, .string b => some (a == b)
    | some (.struct fields), .agg ⟨xs⟩, .agg ⟨ys⟩ => bif P.stoodInHeld t then none else teqFields P (teq P d) xs ys fields.toList
    | some (.array len elem), .agg ⟨xs⟩, .agg ⟨ys⟩ => match tk P elem with
      | some (_, s) => teqElems P (teq P d) xs ys elem s 0 len
      | none => none
    | some (.slice _), .slice none _ _, .slice b _ _ => some b.isNone
    | some (.slice _), .slice _ _ _, .slice none _ _ => some false
    | some (.map _ _), .map none, .map b => some b.isNone
    | some (.map _ _), .map _, .map none => some false
    | some (.func _ _ _), .nilFunc, .nilFunc => some true
    | some (.func _ _ _), .nilFunc, .func _ _ _ => some false
    | some (.func _ _ _), .func _ _ _, .nilFunc => some false
    | _, _, _ => none
def room : Nat := 1073741824
def aEq (P : Program) (neg : Bool) (t : TypeId) (x y : Value) (K : Value → Prop) : Prop :=
  match teq P 10000 t x y with
  | some r => P.eqGuardType P.depth t = false ∧ K (.bool (bif neg then !r else r))
  | none => False
def aStr (op : BinOp) (a b : ByteArray) (K : Value → Prop) : Prop :=
  match op with
  | .eql => K (.bool (a.toList == b.toList))
  | .neq => K (.bool (!(a.toList == b.toList)))
  | .add => a.size + b.size ≤ room ∧ K (.string (a ++ b))
  | _ => False
def aBin (P : Program) (op : BinOp) (t : TypeId) (x y : Value) (K : Value → Prop) : Prop :=
  match x, y with
  | .int k a, .int k' b => match op with
    | .shl => aShift .shl k a b K
    | .shr => aShift .shr k a b K
    | op => k = k' ∧ aInt op k a b K
  | .string a, .string b => aStr op a b K
  | x, y => match op with
    | .eql => aEq P false t x y K
    | .neq => aEq P true t x y K
    | _ => False
def aUn (op : UnOp) (x : Value) (K : Value → Prop) : Prop :=
  match op, x with
  | .not, .bool b => K (.bool (!b))
  | .neg, .int k a => K (.int k (k.wrap (-a)))
  | _, _ => False
def aConv (P : Program) (dst : TypeId) (x : Value) (K : Value → Prop) : Prop :=
  match P.underlying dst, x with
  | some (.int k), .int _ n => K (.int k (k.wrap n))
  | _, _ => False
def byteOf : Value → Option UInt8
  | .int .u8 n => some (UInt8.ofNat n.toNat)
  | _ => none
def bytesOf : List Value → Option (List UInt8)
  | [] => some []
  | v :: l => match byteOf v, bytesOf l with
    | some b, some bs => some (b :: bs)
    | _, _ => none
def aB2S (x : Value) (h : List AObj) (K : Value → Prop) : Prop :=
  match x with
  | .slice none _ _ => K (.string ⟨#[]⟩)
  | .slice (some ⟨b, o, none⟩) n _ => match h[b]? with
    | some (.cells c _ _) => o + n ≤ c.length ∧ match bytesOf ((c.drop o).take n) with
      | some bs => K (.string ⟨⟨bs⟩⟩)
      | none => False
    | _ => False
  | _ => False
def aIdxStr (x i : Value) (K : Value → Prop) : Prop :=
  match x, i with
  | .string ⟨⟨s⟩⟩, .int _ j => 0 ≤ j ∧ match s[j.toNat]? with
    | some b => K (.int .u8 b.toNat)
    | none => False
  | _, _ => False
def aIdxV (len s : Nat) (g : Bool) (x i : Value) (K : Value → Prop) : Prop :=
  match i with
  | .int _ j => (0 ≤ j ∧ j < len) ∧ aField g s (j.toNat * s) x K
  | _ => False
def aCapS (x : Value) (K : Value → Prop) : Prop :=
  match x with
  | .slice _ _ c => c < fz ∧ K (vint c)
  | _ => False
def bnd (d : Nat) : Option Value → Option Nat
  | none => some d
  | some (.int _ n) => bif decide (0 ≤ n) then some n.toNat else none
  | _ => none
def aSlStr (x : Value) (lo hi : Option Value) (K : Value → Prop) : Prop :=
  match x with
  | .string ⟨⟨s⟩⟩ => match bnd 0 lo, bnd s.length hi with
    | some l, some u => (l ≤ u ∧ u ≤ s.length) ∧ K (.string ⟨⟨(s.take u).drop l⟩⟩)
    | _, _ => False
  | _ => False
def aSl2 (s : Nat) (x : Value) (lo hi : Option Value) (h : List AObj) (K : Value → Prop) : Prop :=
  match x with
  | .slice base n c => match bnd 0 lo, bnd n hi with
    | some l, some u => l ≤ u ∧ match base with
      | none => (c = 0 ∧ u = 0) ∧ K (.slice none 0 0)
      | some ⟨b, o, none⟩ => (c < fz → u ≤ c ∧ K (.slice (some ⟨b, bif Nat.beq c l then o else o + l * s, none⟩) (u - l) (c - l))) ∧ (fz ≤ c → match h[b]? with
        | some (.cells cs _ sz) => (c = fz ∧ sz = s ∧ 0 < s ∧ u * s ≤ cs.length ∧ (l = 0 ∨ (l + 1) * s ≤ cs.length)) ∧ K (.slice (some ⟨b, o + l * s, none⟩) (u - l) (fz + l))
        | _ => False)
      | _ => False
    | _, _ => False
  | _ => False
def aSlA (len s : Nat) (x : Value) (lo hi : Option Value) (K : Value → Prop) : Prop :=
  match x with
  | .pointer (some ⟨b, o, none⟩) => match bnd 0 lo, bnd len hi with
    | some l, some u => (l ≤ u ∧ u ≤ len ∧ len ≤ room) ∧ K (.slice (some ⟨b, bif Nat.beq len l then o else o + l * s, none⟩) (u - l) (len - l))
    | _, _ => False
  | _ => False
def aExt (x : Value) (i : Nat) (K : Value → Prop) : Prop :=
  match x with
  | .tuple ⟨a :: b :: l⟩ => match (a :: b :: l)[i]? with
    | some v => K v
    | none => False
  | .tuple ⟨[.bool b]⟩ => i = 0 ∧ K (.bool b)
  | _ => False
def aNil (x : Value) (K : Value → Prop) : Prop :=
  match x with
  | .pointer (some a) => K (.pointer (some a))
  | .func (.func g) a b => K (.func (.func g) a b)
  | .func (.yield l) a b => K (.func (.yield l) a b)
  | _ => False
def aLenS (x : Value) (K : Value → Prop) : Prop :=
  match x with
  | .slice _ n _ => K (vint n)
  | _ => False
def aLenStr (x : Value) (K : Value → Prop) : Prop :=
  match x with
  | .string s => K (vint s.size)
  | _ => False
def aLenM (x : Value) (h : List AObj) (K : Value → Prop) : Prop :=
  match x with
  | .map none => K (vint 0)
  | .map (some b) => match h[b]? with
    | some (.map es _) => K (vint es.length)
    | _ => False
  | _ => False
def aMin (x : Value) (l : List Value) (K : Value → Prop) : Prop :=
  match l with
  | [] => K x
  | y :: l => match x, y with
    | .int k a, .int _ b => aMin (.int k (if b < a then b else a)) l K
    | _, _ => False
def aMax (x : Value) (l : List Value) (K : Value → Prop) : Prop :=
  match l with
  | [] => K x
  | y :: l => match x, y with
    | .int k a, .int _ b => aMax (.int k (if b > a then b else a)) l K
    | _, _ => False
def zrep (z : List Value) : Nat → List Value
  | 0 => []
  | n + 1 => z ++ zrep z n
def aMkC (s : Value) (h : List AObj) (K : Value → List AObj → Prop) : Prop :=
  match s with
  | .int _ n => (0 ≤ n ∧ n ≤ 1000000) ∧ K (.chan (some h.length)) (h ++ [.chan n.toNat])
  | _ => False
def aMkS (z : List Value) (l c : Value) (h : List AObj) (K : Value → List AObj → Prop) : Prop :=
  match l, c with
  | .int _ l, .int _ c => 0 ≤ l ∧ l ≤ c ∧ c ≤ room ∧ K (.slice (some ⟨h.length, 0, none⟩) l.toNat c.toNat) (h ++ [.cells (zrep z c.toNat) true 0])
  | _, _ => False
def srcCells (s n : Nat) (y : Value) (h : List AObj) (K : List Value → Prop) : Prop :=
  match y with
  | .slice none _ _ => n = 0 ∧ K []
  | .slice (some ⟨b, o, none⟩) _ _ => (n = 0 → K []) ∧ (n ≠ 0 → match h[b]? with
    | some (.cells c _ _) => o + n * s ≤ c.length ∧ kn ((c.drop o).take (n * s)) = true ∧ K ((c.drop o).take (n * s))
    | _ => False)
  | _ => False
def aApp (s : Nat) (x y : Value) (h : List AObj) (K : Value → List AObj → Prop) : Prop :=
  match x, y with
  | .slice base n c, .slice yb m yc => n + m ≤ room ∧ srcCells s m (.slice yb m yc) h fun ys =>
    match base with
    | none => (n = 0 ∧ c = 0) ∧ ((m = 0 → K (.slice none 0 0) h) ∧ (m ≠ 0 → K (.slice (some ⟨h.length, 0, none⟩) m fz) (h ++ [.cells ys true s])))
    | some ⟨b, o, none⟩ => match h[b]? with
      | some (.cells cs wr sz) => (o + n * s ≤ cs.length ∧ kn ((cs.drop o).take (n * s)) = true) ∧
        (c < fz → ((n + m ≤ c → wr = true ∧ o + (n + m) * s ≤ cs.length ∧ K (.slice base (n + m) c) (h.set b (.cells (wrAt cs (o + n * s) ys) wr sz))) ∧
          (c < n + m → K (.slice (some ⟨h.length, 0, none⟩) (n + m) fz) (h ++ [.cells ((cs.drop o).take (n * s) ++ ys) true s])))) ∧
        (fz ≤ c → c = fz ∧ wr = true ∧ o = 0 ∧ sz = s ∧ K (.slice (some ⟨h.length, 0, none⟩) (n + m) fz) (h.set b .dead ++ [.cells (cs.take (n * s) ++ ys) true s]))
      | _ => False
    | _ => False
  | _, _ => False
def aAppZ (s : Nat) (z : List Value) (x y : Value) (h : List AObj) (K : Value → List AObj → Prop) : Prop :=
  match x, y with
  | .slice none n c, .int .i64 m => (n = 0 ∧ c = 0 ∧ 0 ≤ m ∧ m ≤ room) ∧ (m = 0 → K (.slice none 0 0) h) ∧ (m ≠ 0 → K (.slice (some ⟨h.length, 0, none⟩) m.toNat fz) (h ++ [.cells (zrep z m.toNat) true s]))
  | _, _ => False
def aCopy (s : Nat) (x y : Value) (h : List AObj) (K : Value → List AObj → Prop) : Prop :=
  match x, y with
  | .slice base n _, .slice _ m _ => srcCells s (min m n) y h fun ys =>
    match base with
    | none => K (vint (min m n : Nat)) h
    | some ⟨b, o, none⟩ => match h[b]? with
      | some (.cells cs true sz) => o + (min m n) * s ≤ cs.length ∧ K (vint (min m n : Nat)) (h.set b (.cells (wrAt cs o ys) true sz))
      | _ => False
    | _ => False
  | _, _ => False
def aSl3 (x : Value) (hi mx : Value) (h : List AObj) (K : Value → Prop) : Prop :=
  match x, hi, mx with
  | .slice base _ c, .int _ a, .int _ m => 0 ≤ a ∧ (a ≤ m ∧ m ≤ room) ∧ ((c < fz → m ≤ c) ∧ (fz ≤ c → match base with
      | some ⟨b, o, none⟩ => match h[b]? with
        | some (.cells cs _ sz) => c = fz ∧ sz ≠ 0 ∧ o = 0 ∧ m.toNat * sz ≤ cs.length
        | _ => False
      | _ => False)) ∧ K (.slice base a.toNat m.toNat)
  | _, _, _ => False
def mfind (P : Program) (kt : TypeId) (k : Value) : List (Value × Value) → Option (Option Value)
  | [] => some none
  | (a, v) :: es => match teq P 10000 kt k a with
    | some true => some (some v)
    | some false => mfind P kt k es
    | none => none
def kOk (P : Program) : Nat → TypeId → Value → Bool
  | 0, _, _ => false
  | n + 1, t, v => match P.underlying t, v with
    | some (.array len elem), .agg ⟨cs⟩ => match tk P elem with
      | some (_, s) => (List.range len).all fun i => match partV P elem cs (i * s) with
        | some x => kOk P n elem x
        | none => false
      | none => false
    | some (.struct fields), .agg ⟨cs⟩ => fields.toList.all fun f => f.name == "_" || match partV P f.type cs f.offset with
      | some x => kOk P n f.type x
      | none => false
    | some (.bool), .bool _ => true
    | some (.int _), .int _ _ => true
    | some (.string), .string _ => true
    | _, _ => false
def zv1 (P : Program) (t : TypeId) : Option Value :=
  match P.info? t with
  | some i => match i.zero with
    | some z => bif plainC z then some z else none
    | none => none
  | none => none
def aLook (P : Program) (mt : TypeId) (ok : Bool) (m k : Value) (h : List AObj) (K : Value → Prop) : Prop :=
  match P.underlying mt, m with
  | some (.map kt vt), .map (some b) => match h[b]?, zv1 P vt with
    | some (.map es _), some z => kOk P 10000 kt k = true ∧ match mfind P kt k es with
      | some (some v) => K (bif ok then .tuple ⟨[v, .bool true]⟩ else v)
      | some none => K (bif ok then .tuple ⟨[z, .bool false]⟩ else z)
      | none => False
    | _, _ => False
  | _, _ => False
def aUpd (P : Program) (mt : TypeId) (m k v : Value) (h : List AObj) (K : List AObj → Prop) : Prop :=
  match P.underlying mt, m with
  | some (.map kt _), .map (some b) => match h[b]? with
    | some (.map es true) => kOk P 10000 kt k = true ∧ VOk 0 k ∧ mfind P kt k es = some none ∧ K (h.set b (.map (es ++ [(k, v)]) true))
    | _ => False
  | _, _ => False
def skey (P : Program) (mt : TypeId) : Bool :=
  match P.underlying mt with
  | some (.map kt _) => match P.underlying kt with
    | some (.struct _) => true
    | _ => false
  | _ => false
open Classical in
/-- The entries behind an update. -/
noncomputable def updL (k v : Value) : List (Value × Value) → List (Value × Value)
  | [] => [(k, v)]
  | (a, u) :: es => if k = a then (k, v) :: es else (a, u) :: updL k v es
open Classical in
/-- An update, whether or not the key is there. -/
def aUpdX (P : Program) (mt : TypeId) (m k v : Value) (h : List AObj) (K : List AObj → Prop) : Prop :=
  match P.underlying mt, m with
  | some (.map kt _), .map (some b) => match h[b]? with
    | some (.map es true) => kOk P 10000 kt k = true ∧ VOk 0 k ∧ Instr.sameBits 10000 k k = true ∧ (∀ e ∈ es, teq P 10000 kt k e.1 = some (decide (k = e.1))) ∧ K (h.set b (.map (updL k v es) true))
    | _ => False
  | _, _ => False
def aRange (P : Program) (t : TypeId) (x : Value) (h : List AObj) (K : Value → List AObj → Prop) : Prop :=
  match P.underlying t, x with
  | some (.map _ _), .map (some m) => match h[m]? with
    | some (.map es _) => K (.pointer (some ⟨h.length, 0, none⟩)) (h ++ [.iter m es.length []])
    | _ => False
  | _, _ => False
def aNext (x : Value) (h : List AObj) (K : Value → List AObj → Prop) : Prop :=
  match x with
  | .pointer (some ⟨b, 0, none⟩) => match h[b]? with
    | some (.iter m k sn) => match h[m]? with
      | some (.map es _) => es.length = k ∧ (∀ (i : Nat) (a u : Value), es[i]? = some (a, u) → i ∉ sn → K (.tuple ⟨[.bool true, a, u]⟩) (h.set b (.iter m k (sn ++ [i])))) ∧ ((∀ i, i < k → i ∈ sn) → K (.tuple ⟨[.bool false]⟩) h)
      | _ => False
    | _ => False
  | _ => False
def aEntry (x : Value) (h : List AObj) (K : Value → Prop) : Prop :=
  match x with
  | .pointer (some ⟨b, 0, none⟩) => match h[b]? with
    | some (.iter m k sn) => match h[m]?, sn.getLast? with
      | some (.map es _), some i => match es[i]? with
        | some (a, u) => es.length = k ∧ K (.tuple ⟨[a, u]⟩)
        | none => False
      | _, _ => False
    | _ => False
  | _ => False
def fo (P : Program) (s : TypeId) (f : Nat) : Option Nat :=
  match P.underlying s with
  | some (.struct fs) => match fs[f]? with
    | some fld => match P.info? fld.type with
      | some i => bif i.size == 0 then none else some fld.offset
      | none => none
    | none => none
  | _ => none
def places (P : Program) (t : TypeId) (ps : List (Nat × Value)) : Option (List (Nat × Nat × Value)) :=
  match P.underlying t with
  | some (.struct fs) => bif fs.toList.all (fun f => (P.info? f.type).isSome) then ps.mapM fun (i, v) => match fs[i]? with
      | some f => (tk P f.type).map fun x => (f.offset, x.2, v)
      | none => none
    else none
  | some (.array _ e) => match tk P e with
    | some (_, s) => some (ps.map fun (i, v) => (i * s, s, v))
    | none => none
  | some (.slice e) => match tk P e with
    | some (_, s) => some (ps.map fun (i, v) => (i * s, s, v))
    | none => none
  | _ => none
def aggT (P : Program) (t : TypeId) : Bool :=
  match P.underlying t with
  | some d => isAggD d
  | none => false
def aop (P : Program) (o : Op) (r : Nat → Value) (h : List AObj) (K : Value → List AObj → Prop) : Prop :=
  match o with
  | .move x => K (ev r x) h
  | .assign x => K (ev r x) h
  | .pick c a b => match ev r c with
    | .bool t => K (bif t then ev r a else ev r b) h
    | _ => False
  | .alloc t => match zc P t with
    | some l => aAlloc l h K
    | none => False
  | .box _ x => aBox (ev r x) h K
  | .build t ps => match zc P t, places P t (ps.toList.map fun (i, x) => (i, ev r x)) with
    | some z, some l => bif aggT P t then aFill z l fun c => K (.agg ⟨c⟩) h else False
    | _, _ => False
  | .buildSlice t n ps => match P.underlying t with
    | some (.slice e) => match zc P e, tk P e, places P t (ps.toList.map fun (i, x) => (i, ev r x)) with
      | some z, some (_, s), some l => (n * s ≤ 16777216 ∧ n ≤ 16777216 ∧ z.length = s) ∧ aFill (zrep z n) l fun c => K (.slice (some ⟨h.length, 0, none⟩) n n) (h ++ [.cells c true 0])
      | _, _, _ => False
    | _ => False
  | .load t x => match tk P t with
    | some (g, s) => aLoad g s (ev r x) h fun v => K v h
    | none => False
  | .store t x y => match tk P t with
    | some (_, s) => aStore s (ev r x) (ev r y) h fun h' => K unk h'
    | none => False
  | .nilCheck x => aNil (ev r x) fun v => K v h
  | .binOp op t x y _ => aBin P op t (ev r x) (ev r y) fun v => K v h
  | .unOp op _ x => aUn op (ev r x) fun v => K v h
  | .convert s d x => match P.underlying s with
    | some (.int _) => aConv P d (ev r x) fun v => K v h
    | some (.slice e) => match P.underlying d, P.underlying e with
      | some .string, some (.int .u8) => aB2S (ev r x) h fun v => K v h
      | _, _ => False
    | _ => False
  | .makeFunc (.func f) first cap => ((first.toList ++ cap.toList).all fun x => one (ev r x)) = true ∧ K (.func (.func f) ⟨first.toList.map (ev r)⟩ ⟨cap.toList.map (ev r)⟩) h
  | .makeMap _ none => K (.map (some h.length)) (h ++ [.map [] true])
  | .makeChan t s => match P.underlying t with
    | some (.chan _ e) => match P.info? e with
      | some i => i.bytes ≤ 1024 ∧ aMkC (ev r s) h K
      | none => False
    | _ => False
  | .makeSlice t l c => match P.underlying t with
    | some (.slice e) => match zc P e, tk P e, P.info? e with
      | some z, some (_, s), some i => (z.length = s ∧ i.bytes ≤ 1024) ∧ aMkS z (ev r l) (ev r c) h K
      | _, _, _ => False
    | _ => False
  | .slice t x none (some hi) (some mx) => match P.underlying t with
    | some (.slice e) => match P.info? e with
      | some _ => aSl3 (ev r x) (ev r hi) (ev r mx) h fun v => K v h
      | none => False
    | _ => False
  | .slice t x lo hi none => match P.underlying t with
    | some .string => aSlStr (ev r x) (lo.map (ev r)) (hi.map (ev r)) fun v => K v h
    | some (.slice e) => match tk P e with
      | some (_, s) => aSl2 s (ev r x) (lo.map (ev r)) (hi.map (ev r)) h fun v => K v h
      | none => False
    | some (.array n e) => match tk P e with
      | some (_, s) => aSlA n s (ev r x) (lo.map (ev r)) (hi.map (ev r)) fun v => K v h
      | none => False
    | _ => False
  | .index t x i => match P.underlying t with
    | some .string => aIdxStr (ev r x) (ev r i) fun v => K v h
    | some (.array n e) => match tk P e with
      | some (g, s) => aIdxV n s g (ev r x) (ev r i) fun v => K v h
      | none => False
    | _ => False
  | .fieldAddr t x f => match fo P t f with
    | some o => aOff (ev r x) o fun v => K v h
    | none => False
  | .field t x f => match P.underlying t with
    | some (.struct fs) => match fs[f]? with
      | some fld => match tk P fld.type with
        | some (g, s) => aField g s fld.offset (ev r x) fun v => K v h
        | none => False
      | none => False
    | _ => False
  | .indexAddr t x i => match P.underlying t with
    | some (.slice e) => match tk P e with
      | some (_, s) => aIdx s (ev r x) (ev r i) fun v => K v h
      | none => False
    | some (.array n e) => match tk P e with
      | some (_, s) => aIdxA n s (ev r x) (ev r i) fun v => K v h
      | none => False
    | _ => False
  | .lookup t m k ok => aLook P t ok (ev r m) (ev r k) h fun v => K v h
  | .mapUpdate t m k v => (VOk h.length (ev r v) ∧ one (ev r v) = true) ∧ bif skey P t then aUpdX P t (ev r m) (ev r k) (ev r v) h fun h' => K unk h' else aUpd P t (ev r m) (ev r k) (ev r v) h fun h' => K unk h'
  | .insert t m k v => (VOk h.length (ev r v) ∧ one (ev r v) = true) ∧ aUpdX P t (ev r m) (ev r k) (ev r v) h fun h' => K unk h'
  | .range t x => aRange P t (ev r x) h K
  | .next x false => aNext (ev r x) h K
  | .entry x => aEntry (ev r x) h fun v => K v h
  | .extract t i => aExt (ev r t) i fun v => K v h
  | .call { callee := .builtin b, args, argTypes } => match b, args.toList, argTypes.toList with
    | .len, [x], [t] => match P.underlying t with
      | some .string => aLenStr (ev r x) fun v => K v h
      | some (.slice _) => aLenS (ev r x) fun v => K v h
      | some (.map _ _) => aLenM (ev r x) h fun v => K v h
      | some (.array n _) => K (vint n) h
      | _ => False
    | .cap, [x], [t] => match P.underlying t with
      | some (.slice _) => aCapS (ev r x) fun v => K v h
      | _ => False
    | .min, x :: l, _ => aMin (ev r x) (l.map (ev r)) fun v => K v h
    | .max, x :: l, _ => aMax (ev r x) (l.map (ev r)) fun v => K v h
    | .append, [x, y], [t, u] => match P.underlying t, P.underlying u with
      | some (.slice e), some (.slice _) => match zc P e, tk P e, P.info? e with
        | some z, some (_, s), some i => (z.length = s ∧ 0 < s ∧ 0 < i.bytes ∧ i.bytes ≤ 1024) ∧ aApp s (ev r x) (ev r y) h K
        | _, _, _ => False
      | some (.slice e), some (.int _) => match zc P e, tk P e, P.info? e with
        | some z, some (_, s), some i => (z.length = s ∧ 0 < s ∧ 0 < i.bytes ∧ i.bytes ≤ 1024) ∧ aAppZ s z (ev r x) (ev r y) h K
        | _, _, _ => False
      | _, _ => False
    | .copy, [x, y], [t, u] => match P.underlying t, P.underlying u with
      | some (.slice e), some (.slice _) => match tk P e with
        | some (_, s) => 0 < s ∧ aCopy s (ev r x) (ev r y) h K
        | none => False
      | _, _ => False
    | _, _, _ => False
  | _ => False
def VRel (n : Nat) (ρ : Env) (v c : Value) : Prop := v = unk ∨ (VOk n v ∧ c = ren ρ v)
theorem vrel_undef (n : Nat) (ρ : Env) : VRel n ρ undef undef := .inr ⟨by simp [undef, VOk, AOk, LOk], by simp [undef, ren, renA, renL]⟩
theorem add_mk (b o j : Nat) : (⟨b, o, none⟩ : Addr).add j = ⟨b, o + j, none⟩ := by
  unfold Addr.add
  split
  · rename_i h; subst h; rfl
  · rfl
theorem tk_some {P : Program} {t : TypeId} {g : Bool} {s : Nat} (h : tk P t = some (g, s)) : ∃ d i, P.underlying t = some d ∧ P.info? t = some i ∧ isAggD d = g ∧ i.size = s := by
  unfold tk at h
  split at h
  · rename_i d i hd hi
    simp only [Option.some.injEq, Prod.mk.injEq] at h
    exact ⟨d, i, hd, hi, h.1, h.2⟩
  · cases h
theorem evOk_read {ft : Foot} {a : Addr} (h : ft.rd a.block) : EvOk ft ⟨.cell a, false, false⟩ := ⟨rfl, h, fun e => by cases e⟩
theorem evOk_write {ft : Foot} {a : Addr} (h : ft.rd a.block) (h' : ft.wr a.block) : EvOk ft ⟨.cell a, true, false⟩ := ⟨rfl, h, fun _ => h'⟩
theorem evOk_get {ft : Foot} {r : Nat} (h : ft.rd r) : EvOk ft ⟨.obj r, false, false⟩ := ⟨rfl, h, fun e => by cases e⟩
theorem evOk_set {ft : Foot} {r : Nat} (h : ft.rd r) (h' : ft.wr r) : EvOk ft ⟨.obj r, true, false⟩ := ⟨rfl, h, fun _ => h'⟩
section
variable {P : Program} {X : Event → Prop} {w : World}
theorem RunsTo.loadCellsFrom {a : Addr} {Q : Array Value → World → Prop} : ∀ (l : List Value) (i : Nat) (acc : Array Value),
    (∀ j v, l[j]? = some v → w.cell? (a.add (i + j)) = some v ∧ X ⟨.cell (a.add (i + j)), false, false⟩) → Q ⟨acc.toList ++ l⟩ w → RunsTo P X (Go.loadCellsFrom a i l.length acc) w Q
  | [], i, acc, _, hq => by
    simp only [List.length_nil, Go.loadCellsFrom]
    exact RunsTo.pure (by simpa using hq)
  | v :: l, i, acc, hc, hq => by
    simp only [List.length_cons, Go.loadCellsFrom]
    have h0 := hc 0 v rfl
    refine RunsTo.bind (RunsTo.load (by simpa using h0.1) (by simpa using h0.2) ?_)
    refine RunsTo.loadCellsFrom l (i + 1) (acc.push v) (fun j u hu => ?_) (by simpa using hq)
    have := hc (j + 1) u (by simpa using hu)
    rw [show i + 1 + j = i + (j + 1) from by omega]
    exact this
theorem RunsTo.loadCells {a : Addr} {Q : Array Value → World → Prop} (l : List Value) {n : Nat} (hn : n = l.length)
    (hc : ∀ j v, l[j]? = some v → w.cell? (a.add j) = some v ∧ X ⟨.cell (a.add j), false, false⟩) (hq : Q ⟨l⟩ w) : RunsTo P X (Go.loadCells a n) w Q := by
  subst hn
  unfold Go.loadCells
  exact RunsTo.loadCellsFrom l 0 #[] (fun j v h => by simpa using hc j v h) (by simpa using hq)
end
theorem LOk_slice {n : Nat} {c : List Value} (h : ∀ (i : Nat) (v : Value), c[i]? = some v → VOk n v) (off s : Nat) : LOk n ((c.drop off).take s) := by
  rw [LOk_iff]
  intro v hv
  obtain ⟨i, hi⟩ := List.getElem?_of_mem hv
  rw [List.getElem?_take] at hi
  split at hi
  · rw [List.getElem?_drop] at hi
    exact h _ _ hi
  · cases hi
section
variable {P : Program} {ρ : Env} {h : List AObj} {FC : Frm} {w : World} {ft : Foot}
theorem kn_get {l : List Value} {i : Nat} {v : Value} (h : kn l = true) (hv : l[i]? = some v) : kn1 v = true := by
  unfold kn at h
  rw [List.all_eq_true] at h
  exact h v (List.mem_of_getElem? hv)
theorem HRel.cellOk (H : HRel ρ h FC w ft) {b : Nat} {c : List Value} {wr : Bool} {sz off : Nat} {v : Value} (hb : h[b]? = some (.cells c wr sz)) (hv : c[off]? = some v) : VOk h.length v := by
  have := H.obj b _ hb
  match hw : w.heap[ρ.blk b]?, this with
  | some (.cells c' ty fr), ho =>
    rcases ho.1 off v hv with ⟨rfl, _⟩ | ⟨a1, _⟩
    · simp [unk, VOk, AOk, LOk]
    · exact a1
theorem sound_load (H : HRel ρ h FC w ft) {t : TypeId} {g : Bool} {s : Nat} {p : Value} {K : Value → Prop} (ht : tk P t = some (g, s)) (hK : aLoad g s p h K)
    {Q : Value → World → Prop} (hQ : ∀ v, K v → VOk h.length v → Q (ren ρ v) w) : RunsTo P (EvOk ft) (Instr.loadAt t (ren ρ p)) w Q := by
  obtain ⟨d, i, hd, hi, hg, hs⟩ := tk_some ht
  unfold aLoad at hK
  split at hK
  · rename_i b off
    split at hK
    · rename_i c wr sz hb
      have hrd : ft.rd (ρ.blk b) := H.rd b _ hb rfl
      simp only [ren, renAddr, Instr.loadAt, Instr.sureAddr]
      refine RunsTo.bind (RunsTo.pure ?_)
      unfold loadVar
      refine RunsTo.bind (RunsTo.isAgg hd ?_)
      rw [hg]
      cases g with
      | true =>
        simp only [cond_true] at hK
        simp only [if_true]
        refine RunsTo.bind (RunsTo.sizeOf hi ?_)
        have hlen : ((c.drop off).take s).length = s := by simp; omega
        refine RunsTo.bind (RunsTo.loadCells (((c.drop off).take s).map (ren ρ)) (by rw [List.length_map, hlen, hs]) (fun j v hv => ?_) (RunsTo.pure ?_))
        · rw [List.getElem?_map] at hv
          obtain ⟨u, hu, rfl⟩ := Option.map_eq_some_iff.1 hv
          rw [List.getElem?_take] at hu
          split at hu
          · rw [List.getElem?_drop] at hu
            rw [add_mk]
            exact ⟨(H.cell hb hu (.inr (kn_get hK.2.1 (by rw [List.getElem?_take, if_pos (by assumption), List.getElem?_drop]; exact hu)))).1, evOk_read hrd⟩
          · cases hu
        · have := hQ _ hK.2.2 (by
            simp only [VOk, AOk]
            exact LOk_slice (fun i v hv => H.cellOk hb hv) off s)
          simpa [ren, renA, renL_eq] using this
      | false =>
        simp only [cond_false] at hK
        split at hK
        · rename_i v hv
          have hc := H.cell hb hv (.inr hK.1)
          exact RunsTo.load hc.1 (evOk_read hrd) (hQ v hK.2 hc.2.1)
        · exact hK.elim
    · exact hK.elim
  · exact hK.elim
theorem sound_storeCells {b sz : Nat} : ∀ (vs : List Value) (h : List AObj) (w : World) (c : List Value) (off i : Nat), HRel ρ h FC w ft → h[b]? = some (.cells c true sz) → off + i + vs.length ≤ c.length →
    (∀ v ∈ vs, VOk h.length v ∧ one v = true) → ∀ {Q : Unit → World → Prop},
    (∀ w', HRel ρ (h.set b (.cells (wrAt c (off + i) vs) true sz)) FC w' ft → Stays ft w w' → w'.heap.size = w.heap.size → Q () w') →
    RunsTo P (EvOk ft) (storeCells ⟨ρ.blk b, off, none⟩ (vs.map (ren ρ)) i) w Q
  | [], h, w, c, off, i, H, hb, _, _, Q, hQ => by
    simp only [List.map_nil, storeCells]
    refine RunsTo.pure (hQ w ?_ (Stays.refl _ _) rfl)
    have : h.set b (.cells (wrAt c (off + i) []) true sz) = h := by
      simp only [wrAt]
      exact List.ext_getElem? fun j => by
        rw [List.getElem?_set]
        split
        · rename_i e
          subst e
          rw [hb]
          simp [(List.getElem?_eq_some_iff.1 hb).1]
        · rfl
    rw [this]
    exact H
  | v :: vs, h, w, c, off, i, H, hb, hl, hv, Q, hQ => by
    simp only [List.map_cons, storeCells]
    simp only [List.length_cons] at hl
    have hv0 := hv v (by simp)
    have hoff : off + i < c.length := by omega
    obtain ⟨u, hu⟩ : ∃ u, c[off + i]? = some u := ⟨_, List.getElem?_eq_getElem hoff⟩
    have hc := H.cell hb hu (.inl rfl)
    rw [add_mk]
    refine RunsTo.bind (RunsTo.store hc.1 (H.frozen hb) (by rw [one_ren]; exact hv0.2) (evOk_write (H.rd b _ hb rfl) (H.wr b _ hb rfl)) ?_)
    have H1 := H.setCell hb hoff hv0.1 hv0.2
    have hlt : b < h.length := (List.getElem?_eq_some_iff.1 hb).1
    refine sound_storeCells (b := b) (sz := sz) vs _ _ (c.set (off + i) v) off (i + 1) H1 (by rw [List.getElem?_set]; simp [hlt]) (by simp; omega) (fun x hx => by rw [List.length_set]; exact hv x (by simp [hx])) (fun w' H' hs hz => ?_)
    refine hQ w' ?_ ((stays_setCell (H.wr b _ hb rfl)).trans hs) (by rw [hz]; simp [World.setCell])
    simpa [wrAt, List.set_set, Nat.add_assoc] using H'
theorem wrAt_length : ∀ (vs c : List Value) (off : Nat), (wrAt c off vs).length = c.length
  | [], c, off => rfl
  | v :: vs, c, off => by simp [wrAt, wrAt_length vs]
theorem sound_store (H : HRel ρ h FC w ft) {t : TypeId} {g : Bool} {s : Nat} {p v : Value} {K : List AObj → Prop} (ht : tk P t = some (g, s)) (hv : VOk h.length v) (hK : aStore s p v h K)
    {Q : Unit → World → Prop} (hQ : ∀ h' w', K h' → Goes1 ρ h FC w ft ρ h' w' → Q () w') : RunsTo P (EvOk ft) (Instr.storeAt t (ren ρ p) (ren ρ v)) w Q := by
  obtain ⟨d, i, hd, hi, hg, hs⟩ := tk_some ht
  unfold aStore at hK
  split at hK
  · rename_i b off
    split at hK
    · rename_i c sz hb
      obtain ⟨h1, h2, h3, h4⟩ := hK
      simp only [ren, renAddr, Instr.storeAt, Instr.sureAddr]
      refine RunsTo.bind (RunsTo.pure ?_)
      unfold storeVar
      refine RunsTo.bind (RunsTo.sizeOf hi ?_)
      have hsz : (ren ρ v).cells.size = i.size := by rw [cells_ren, Array.size_map, h1, hs]
      rw [if_neg (by simpa using hsz)]
      have hlist : (ren ρ v).cells.toList = v.cells.toList.map (ren ρ) := by rw [cells_ren, Array.toList_map]
      rw [hlist]
      refine sound_storeCells v.cells.toList h w c off 0 H hb (by simpa [h1] using h3) (fun x hx => ⟨cells_ok hv x hx, by simpa using (List.all_eq_true.1 h2) x hx⟩) (fun w' H' hs' hz => hQ _ _ h4 ?_)
      exact ⟨by rw [hz, Foot.ext_self]; exact H', Env.upto_refl _ _, by simp, hs'⟩
    · exact hK.elim
  · exact hK.elim
theorem sound_newRow (H : HRel ρ h FC w ft) {t : TypeId} {l : List Value} {K : Value → List AObj → Prop} (hl : ∀ v ∈ l, VOk h.length v ∧ one v = true) (hK : aAlloc l h K)
    {Q : Addr → World → Prop} (hQ : ∀ v h' ρ' w' a, K v h' → v = ptr h.length 0 → h' = h ++ [.cells l true 0] → VOk h'.length v → ren ρ' v = .pointer (some a) → a = ⟨ρ'.blk h.length, 0, none⟩ → Goes1 ρ h FC w ft ρ' h' w' → Q a w') :
    RunsTo P (EvOk ft) (newRow t ⟨l.map (ren ρ)⟩) w Q := by
  unfold newRow
  have G := H.alloc l t hl w.drawn
  refine RunsTo.bind (RunsTo.new (RunsTo.pure ?_))
  refine hQ _ _ _ _ _ hK rfl rfl (by simp [VOk, AddrOk]) ?_ ?_ G
  · simp [ren, renAddr, Env.put]
  · simp [Env.put]
theorem plain_ok {v : Value} (h : plainC v = true) (n : Nat) (ρ : Env) : VOk n v ∧ ren ρ v = v ∧ one v = true := by
  cases v with
  | pointer a => cases a <;> first | (cases h; done) | exact ⟨by simp [VOk], by simp [ren], rfl⟩
  | slice a _ _ => cases a <;> first | (cases h; done) | exact ⟨by simp [VOk], by simp [ren], rfl⟩
  | map a => cases a <;> first | (cases h; done) | exact ⟨by simp [VOk], by simp [ren], rfl⟩
  | chan a => cases a <;> first | (cases h; done) | exact ⟨by simp [VOk], by simp [ren], rfl⟩
  | bool _ => exact ⟨by simp [VOk], by simp [ren], rfl⟩
  | int _ _ => exact ⟨by simp [VOk], by simp [ren], rfl⟩
  | float _ _ => exact ⟨by simp [VOk], by simp [ren], rfl⟩
  | string _ => exact ⟨by simp [VOk], by simp [ren], rfl⟩
  | nilFunc => exact ⟨by simp [VOk], by simp [ren], rfl⟩
  | nilIface => exact ⟨by simp [VOk], by simp [ren], rfl⟩
  | _ => cases h
theorem map_plain {l : List Value} (h : l.all plainC = true) (ρ : Env) : l.map (ren ρ) = l := by
  conv => rhs; rw [← List.map_id l]
  exact List.map_congr_left fun v hv => (plain_ok ((List.all_eq_true.1 h) v hv) 0 ρ).2.1
theorem zc_some {P : Program} {t : TypeId} {l : List Value} (h : zc P t = some l) : ∃ i z, P.info? t = some i ∧ i.zero = some z ∧ z.cells.toList = l ∧ l.all plainC = true := by
  unfold zc at h
  split at h
  · rename_i i hi
    split at h
    · rename_i z hz
      cases hb : z.cells.toList.all plainC with
      | true =>
        rw [hb] at h
        simp only [cond_true, Option.some.injEq] at h
        subst h
        exact ⟨i, z, hi, hz, rfl, hb⟩
      | false => rw [hb] at h; cases h
    · cases h
  · cases h
theorem sound_alloc (H : HRel ρ h FC w ft) {t : TypeId} {l : List Value} {K : Value → List AObj → Prop} (hz : zc P t = some l) (hK : aAlloc l h K)
    {Q : Value → World → Prop} (hQ : ∀ v h' ρ' w', K v h' → VOk h'.length v → Goes1 ρ h FC w ft ρ' h' w' → Q (ren ρ' v) w') :
    RunsTo P (EvOk ft) (Instr.alloc t true (.tuple #[])) w Q := by
  obtain ⟨i, z, hi, hzz, hl, hp⟩ := zc_some hz
  unfold Instr.alloc
  refine RunsTo.bind (RunsTo.zeroValue hi hzz ?_)
  unfold newVar
  have e : z.cells = ⟨l.map (ren ρ)⟩ := by rw [map_plain hp ρ, ← hl]
  simp only [e]
  refine RunsTo.bind (sound_newRow H (fun v hv => ?_) hK fun v h' ρ' w' a hk _ _ hv he _ G => RunsTo.pure ?_)
  · have := plain_ok ((List.all_eq_true.1 hp) v hv) h.length ρ
    exact ⟨this.1, this.2.2⟩
  · rw [← he]
    exact hQ v h' ρ' w' hk hv G
theorem sound_box (H : HRel ρ h FC w ft) {t : TypeId} {x : Value} {K : Value → List AObj → Prop} (hx : VOk h.length x) (hK : aBox x h K)
    {Q : Value → World → Prop} (hQ : ∀ v h' ρ' w', K v h' → VOk h'.length v → Goes1 ρ h FC w ft ρ' h' w' → Q (ren ρ' v) w') :
    RunsTo P (EvOk ft) (Instr.box t (ren ρ x)) w Q := by
  unfold Instr.box newVar
  have e : (ren ρ x).cells = ⟨x.cells.toList.map (ren ρ)⟩ := by rw [cells_ren]; cases x.cells; simp
  simp only [e]
  refine RunsTo.bind (sound_newRow H (fun v hv => ?_) (K := K) hK.2 fun v h' ρ' w' a hk _ _ hv he _ G => RunsTo.pure ?_)
  · exact ⟨cells_ok hx v hv, by simpa using (List.all_eq_true.1 hK.1) v hv⟩
  · rw [← he]
    exact hQ v h' ρ' w' hk hv G
end
theorem renA_mk (ρ : Env) (c : List Value) : renA ρ ⟨c⟩ = ⟨c.map (ren ρ)⟩ := by simp [renA, renL_eq]
section
variable {P : Program} {X : Event → Prop} {w : World} {ρ : Env} {n : Nat}
theorem LOk_get {c : List Value} (h : LOk n c) {i : Nat} {v : Value} (hi : c[i]? = some v) : VOk n v := (LOk_iff c).1 h v (List.mem_of_getElem? hi)
theorem partV_run {t : TypeId} {c : List Value} {off : Nat} {v : Value} (h : partV P t c off = some v) {Q : Value → World → Prop} (hQ : Q (ren ρ v) w) :
    RunsTo P X (part t ⟨c.map (ren ρ)⟩ off) w Q := by
  unfold partV at h
  split at h
  · rename_i s ht
    obtain ⟨d, i, hd, hi, hg, hs⟩ := tk_some ht
    simp only [Option.some.injEq] at h
    subst h
    unfold part
    refine RunsTo.bind (RunsTo.isAgg hd ?_)
    rw [hg]
    simp only [if_true]
    refine RunsTo.bind (RunsTo.sizeOf hi (RunsTo.pure ?_))
    have : (Array.mk (c.map (ren ρ))).extract off (off + i.size) = ⟨((c.drop off).take s).map (ren ρ)⟩ := by
      simp [hs, List.extract_eq_take_drop, List.map_take, List.map_drop]
    rw [this]
    simpa [ren, renA_mk] using hQ
  · rename_i s ht
    obtain ⟨d, i, hd, hi, hg, hs⟩ := tk_some ht
    unfold part
    refine RunsTo.bind (RunsTo.isAgg hd ?_)
    rw [hg]
    simp only [Bool.false_eq_true, if_false]
    have : (Array.mk (c.map (ren ρ)))[off]? = some (ren ρ v) := by simp [h]
    rw [this]
    exact RunsTo.pure hQ
  · cases h
theorem partV_ok {t : TypeId} {c : List Value} {off : Nat} {v : Value} (h : partV P t c off = some v) (hc : LOk n c) : VOk n v := by
  unfold partV at h
  split at h
  · simp only [Option.some.injEq] at h
    subst h
    simp only [VOk, AOk]
    exact LOk_slice (fun i v hv => LOk_get hc hv) _ _
  · exact LOk_get hc h
  · cases h
theorem teqFields_run {d : Nat} {xs ys : List Value} (ih : ∀ t x y r, teq P d t x y = some r → ∀ {Q : Bool → World → Prop}, Q r w → RunsTo P X (Op.equalIn d t (ren ρ x) (ren ρ y)) w Q) :
    ∀ (fs : List Field) (r : Bool), teqFields P (teq P d) xs ys fs = some r → ∀ {Q : Option Bool × PUnit → World → Prop},
      Q (if r then none else some false, ⟨⟩) w →
      RunsTo P X (forIn fs ((none, ⟨⟩) : Option Bool × PUnit) fun f _ => (do
        if f.name ≠ "_" then
          if !(← Op.equalIn d f.type (← part f.type ⟨xs.map (ren ρ)⟩ f.offset) (← part f.type ⟨ys.map (ren ρ)⟩ f.offset)) then
            pure (.done (some false, ⟨⟩))
          else pure (.yield (none, ⟨⟩))
        else pure (.yield (none, ⟨⟩)) : Sem (ForInStep (Option Bool × PUnit)))) w Q
  | [], r, h, Q, hQ => by
    simp only [teqFields, Option.some.injEq] at h
    subst h
    simp only [forIn]
    exact RunsTo.pure hQ
  | f :: fs, r, h, Q, hQ => by
    rw [List.forIn_cons]
    simp only [teqFields] at h
    cases hn : f.name == "_" with
    | true =>
      rw [hn] at h
      simp only [cond_true] at h
      have hn' : f.name = "_" := by simpa using hn
      refine RunsTo.bind ?_
      rw [if_neg (by simpa using hn')]
      refine RunsTo.pure ?_
      exact teqFields_run ih fs r h hQ
    | false =>
      rw [hn] at h
      simp only [cond_false] at h
      have hn' : f.name ≠ "_" := by simpa using hn
      refine RunsTo.bind ?_
      rw [if_pos hn']
      split at h
      · rename_i a b ha hb
        refine RunsTo.bind (partV_run ha (RunsTo.bind (partV_run hb ?_)))
        split at h
        · rename_i hc
          refine RunsTo.bind (ih _ _ _ _ hc ?_)
          simp only [Bool.not_true, Bool.false_eq_true, if_false]
          refine RunsTo.pure ?_
          exact teqFields_run ih fs r h hQ
        · rename_i hc
          simp only [Option.some.injEq] at h
          subst h
          refine RunsTo.bind (ih _ _ _ _ hc ?_)
          simp only [Bool.not_false, if_true]
          refine RunsTo.pure (RunsTo.pure ?_)
          simpa using hQ
        · cases h
      · cases h
theorem teqElems_run {d : Nat} {xs ys : List Value} {elem : TypeId} {s : Nat} (ih : ∀ t x y r, teq P d t x y = some r → ∀ {Q : Bool → World → Prop}, Q r w → RunsTo P X (Op.equalIn d t (ren ρ x) (ren ρ y)) w Q) :
    ∀ (m i : Nat) (r : Bool), teqElems P (teq P d) xs ys elem s i m = some r → ∀ {Q : Option Bool × PUnit → World → Prop},
      Q (if r then none else some false, ⟨⟩) w →
      RunsTo P X (forIn (List.range' i m 1) ((none, ⟨⟩) : Option Bool × PUnit) fun i _ => (do
          if !(← Op.equalIn d elem (← part elem ⟨xs.map (ren ρ)⟩ (i * s)) (← part elem ⟨ys.map (ren ρ)⟩ (i * s))) then
            pure (.done (some false, ⟨⟩))
          else pure (.yield (none, ⟨⟩)) : Sem (ForInStep (Option Bool × PUnit)))) w Q
  | 0, i, r, h, Q, hQ => by
    simp only [teqElems, Option.some.injEq] at h
    subst h
    simp only [List.range'_zero, forIn]
    exact RunsTo.pure hQ
  | m + 1, i, r, h, Q, hQ => by
    rw [List.range'_succ, List.forIn_cons]
    simp only [teqElems] at h
    split at h
    · rename_i a b ha hb
      refine RunsTo.bind (RunsTo.bind (partV_run ha (RunsTo.bind (partV_run hb ?_))))
      split at h
      · rename_i hc
        refine RunsTo.bind (ih _ _ _ _ hc ?_)
        simp only [Bool.not_true, Bool.false_eq_true, if_false]
        refine RunsTo.pure ?_
        exact teqElems_run ih m (i + 1) r h hQ
      · rename_i hc
        simp only [Option.some.injEq] at h
        subst h
        refine RunsTo.bind (ih _ _ _ _ hc ?_)
        simp only [Bool.not_false, if_true]
        refine RunsTo.pure (RunsTo.pure ?_)
        simpa using hQ
      · cases h
    · cases h
theorem teq_run : ∀ (d : Nat) (t : TypeId) (x y : Value) (r : Bool), teq P d t x y = some r → ∀ {Q : Bool → World → Prop}, Q r w → RunsTo P X (Op.equalIn d t (ren ρ x) (ren ρ y)) w Q
  | 0, _, _, _, _, h, _, _ => by cases h
  | d + 1, t, x, y, r, h, Q, hQ => by
    simp only [teq] at h
    unfold Op.equalIn
    split at h
    all_goals try (cases h; done)
    · rename_i a b hu
      simp only [Option.some.injEq] at h; subst h
      refine RunsTo.bind (RunsTo.underlying hu ?_)
      simp only [ren]
      exact RunsTo.pure hQ
    · rename_i k1 k a k' b hu
      refine RunsTo.bind (RunsTo.underlying hu ?_)
      simp only [ren]
      cases hk : k == k' with
      | true =>
        rw [hk] at h
        simp only [cond_true, Option.some.injEq] at h; subst h
        rw [if_pos (by simpa using hk)]
        exact RunsTo.pure hQ
      | false => rw [hk] at h; cases h
    · rename_i a b hu
      simp only [Option.some.injEq] at h; subst h
      refine RunsTo.bind (RunsTo.underlying hu ?_)
      simp only [ren]
      exact RunsTo.pure hQ
    · rename_i fields xs ys hu
      cases hs : P.stoodInHeld t with
      | true => rw [hs] at h; cases h
      | false =>
        rw [hs] at h
        simp only [cond_false] at h
        refine RunsTo.bind (RunsTo.underlying hu ?_)
        simp only [ren, renA_mk]
        refine RunsTo.bind (RunsTo.program ?_)
        rw [hs, if_neg (by simp), ← Array.forIn_toList]
        refine RunsTo.bind ?_
        refine teqFields_run (fun t x y r h _ hq => teq_run d t x y r h hq) fields.toList r h ?_
        cases r with
        | true => simp only [if_true]; exact RunsTo.pure hQ
        | false => simp only [Bool.false_eq_true, if_false]; exact RunsTo.pure hQ
    · rename_i len elem xs ys hu
      split at h
      · rename_i g s ht
        obtain ⟨_, i, _, hi, _, hs⟩ := tk_some ht
        refine RunsTo.bind (RunsTo.underlying hu ?_)
        simp only [ren, renA_mk]
        refine RunsTo.bind (RunsTo.sizeOf hi ?_)
        rw [hs, Std.Legacy.Range.forIn_eq_forIn_range']
        refine RunsTo.bind ?_
        simp only [Std.Legacy.Range.size, Nat.sub_zero, Nat.add_sub_cancel, Nat.div_one]
        refine teqElems_run (fun t x y r h _ hq => teq_run d t x y r h hq) len 0 r h ?_
        cases r with
        | true => simp only [if_true]; exact RunsTo.pure hQ
        | false => simp only [Bool.false_eq_true, if_false]; exact RunsTo.pure hQ
      · cases h
    · rename_i e n1 c1 a n2 c2 hu
      simp only [Option.some.injEq] at h; subst h
      refine RunsTo.bind (RunsTo.underlying hu ?_)
      cases a <;> simp only [ren] <;> exact RunsTo.pure hQ
    · rename_i hne hu
      simp only [Option.some.injEq] at h; subst h
      refine RunsTo.bind (RunsTo.underlying hu ?_)
      rename_i a _ _ _ _
      cases a with
      | none => exact absurd rfl hne
      | some a => simp only [ren]; exact RunsTo.pure hQ
    · rename_i b hu
      simp only [Option.some.injEq] at h; subst h
      refine RunsTo.bind (RunsTo.underlying hu ?_)
      cases b <;> simp only [ren] <;> exact RunsTo.pure hQ
    · rename_i hne hu
      simp only [Option.some.injEq] at h; subst h
      refine RunsTo.bind (RunsTo.underlying hu ?_)
      rename_i a
      cases a with
      | none => exact absurd rfl hne
      | some a => simp only [ren]; exact RunsTo.pure hQ
    all_goals
      rename_i hu
      simp only [Option.some.injEq] at h; subst h
      refine RunsTo.bind (RunsTo.underlying hu ?_)
      simp only [ren]
      exact RunsTo.pure hQ
end
theorem not_undef_of_one {v : Value} (h : one v = true) : v ≠ unk := by
  rintro rfl
  cases h
section
variable {P : Program} {X : Event → Prop} {w : World} {ρ : Env} {n : Nat} {r : Nat → Value} {a : Act}
theorem ev_rel (hr : RegRel n ρ r a.tmps) (x : Operand) : VRel n ρ (ev r x) (a.eval x) := by
  cases x with
  | tmp t => exact hr t
  | const v =>
    simp only [ev, Act.eval]
    cases h : plainC v with
    | true =>
      have := plain_ok h n ρ
      exact .inr ⟨this.1, by simp [this.2.1]⟩
    | false => exact .inl rfl
  | func f => exact .inr ⟨by simp [ev, VOk, FnOk, AOk, LOk], by simp [ev, Act.eval, ren, renFn, renA, renL]⟩
  | global g => exact .inl rfl
theorem VRel.val {v c : Value} (h : VRel n ρ v c) (hv : v ≠ unk) : VOk n v ∧ c = ren ρ v := h.resolve_left hv
theorem aFill_run : ∀ (ps : List (Nat × Nat × Value)) (c : List Value) {K : List Value → Prop}, aFill c ps K → LOk n c → c.all one = true → (∀ p ∈ ps, VOk n p.2.2) →
    ∃ c', K c' ∧ LOk n c' ∧ c'.all one = true ∧ c'.length = c.length ∧ ∀ (pl : Nat → Option (Nat × Nat)) (vs : List (Nat × Value)),
      vs.map (fun p => ((pl p.1).map fun x => (x.1, x.2, p.2))) = ps.map some → Instr.fill pl ⟨c.map (ren ρ)⟩ (vs.map fun p => (p.1, ren ρ p.2)) = some ⟨c'.map (ren ρ)⟩
  | [], c, K, h, hc, ho, _ => ⟨c, h, hc, ho, rfl, fun pl vs hv => by
      have : vs = [] := by cases vs <;> simp_all
      subst this
      simp [Instr.fill]⟩
  | (off, s, v) :: ps, c, K, h, hc, ho, hp => by
    simp only [aFill] at h
    obtain ⟨h1, h2, h3, h4⟩ := h
    have hv : VOk n v := hp (off, s, v) (by simp)
    have hvo : ∀ x ∈ v.cells.toList, one x = true := by simpa using List.all_eq_true.1 h2
    have key : ∀ (us c : List Value) (off : Nat), LOk n c → c.all one = true → (∀ x ∈ us, VOk n x ∧ one x = true) → LOk n (wrAt c off us) ∧ (wrAt c off us).all one = true := by
      intro us
      induction us with
      | nil => intro c off hc ho _; exact ⟨hc, ho⟩
      | cons u us ih =>
        intro c off hc ho hu
        have hu0 := hu u (by simp)
        refine ih _ _ ?_ ?_ fun x hx => hu x (by simp [hx])
        · rw [LOk_iff] at hc ⊢
          intro x hx
          rcases List.mem_or_eq_of_mem_set hx with hx | rfl
          · exact hc x hx
          · exact hu0.1
        · rw [List.all_eq_true] at ho ⊢
          intro x hx
          rcases List.mem_or_eq_of_mem_set hx with hx | rfl
          · exact ho x hx
          · exact hu0.2
    obtain ⟨k1, k2⟩ := key v.cells.toList c off hc ho fun x hx => ⟨cells_ok hv x hx, hvo x hx⟩
    obtain ⟨c', g1, g2, g3, g4, g5⟩ := aFill_run ps _ h4 k1 k2 fun p hp' => hp p (by simp [hp'])
    refine ⟨c', g1, g2, g3, by rw [g4, wrAt_length], fun pl vs hvs => ?_⟩
    cases vs with
    | nil => cases hvs
    | cons p vs =>
      obtain ⟨i, u⟩ := p
      simp only [List.map_cons, List.cons.injEq] at hvs
      obtain ⟨e1, e2⟩ := hvs
      obtain ⟨⟨o', s'⟩, hpl, e3⟩ := Option.map_eq_some_iff.1 e1
      simp only [Prod.mk.injEq] at e3
      obtain ⟨rfl, rfl, rfl⟩ := e3
      simp only [List.map_cons, Instr.fill, hpl]
      have hsz : (ren ρ u).cells.size = s' := by rw [cells_ren, Array.size_map, h1]
      rw [if_neg (by simp [hsz]; omega)]
      have fold : ∀ (us : List Value) (c : List Value) (k : Nat), ((us.map (ren ρ)).zipIdx k).foldl (fun (cs : Array Value) (p : Value × Nat) => cs.setIfInBounds (o' + p.2) p.1) (⟨c.map (ren ρ)⟩ : Array Value) = (⟨(wrAt c (o' + k) us).map (ren ρ)⟩ : Array Value) := by
        intro us
        induction us with
        | nil => intro c k; rfl
        | cons x us ih =>
          intro c k
          simp only [List.map_cons, List.zipIdx_cons, List.foldl_cons, wrAt]
          rw [show o' + k + 1 = o' + (k + 1) from by omega, ← ih]
          congr 1
          simp [List.map_set]
      have hz : ((ren ρ u).cells.zipIdx.foldl (fun cs (x : Value × Nat) => cs.setIfInBounds (o' + x.2) x.1) (⟨c.map (ren ρ)⟩ : Array Value)) = (⟨(wrAt c o' u.cells.toList).map (ren ρ)⟩ : Array Value) := by
        have := fold u.cells.toList c 0
        rw [← Array.foldl_toList]
        simpa [cells_ren] using this
      rw [hz]
      exact g5 pl vs e2
end
section
variable {P : Program} {ρ : Env} {h : List AObj} {FC : Frm} {w : World} {ft : Foot}
theorem sound_field {x : Value} {t : TypeId} {f : Nat} {fs : Array Field} {fld : Field} {g : Bool} {s : Nat} {K : Value → Prop} {X : Event → Prop} {n : Nat}
    (hu : P.underlying t = some (.struct fs)) (hf : fs[f]? = some fld) (ht : tk P fld.type = some (g, s)) (hx : VOk n x) (hK : aField g s fld.offset x K)
    {Q : Value → World → Prop} (hQ : ∀ v, K v → VOk n v → Q (ren ρ v) w) : RunsTo P X (Instr.field t (ren ρ x) f) w Q := by
  unfold aField at hK
  split at hK
  · rename_i c
    simp only [VOk, AOk] at hx
    unfold Instr.field
    refine RunsTo.bind (RunsTo.underlying hu ?_)
    simp only [hf, ren, renA_mk, asAgg]
    refine RunsTo.bind (RunsTo.pure ?_)
    cases g with
    | true =>
      simp only [cond_true] at hK
      have hp : partV P fld.type c fld.offset = some (.agg ⟨(c.drop fld.offset).take s⟩) := by simp [partV, ht]
      exact partV_run hp (hQ _ hK.2 (partV_ok hp hx))
    | false =>
      simp only [cond_false] at hK
      split at hK
      · rename_i v hv
        have hp : partV P fld.type c fld.offset = some v := by simp [partV, ht, hv]
        exact partV_run hp (hQ _ hK (partV_ok hp hx))
      · exact hK.elim
  · exact hK.elim
theorem sound_fieldAddr {x : Value} {t : TypeId} {f o : Nat} {K : Value → Prop} {X : Event → Prop} {n : Nat} (hf : fo P t f = some o) (hx : VOk n x) (hK : aOff x o K)
    {Q : Value → World → Prop} (hQ : ∀ v, K v → VOk n v → Q (ren ρ v) w) : RunsTo P X (Instr.fieldAt t (ren ρ x) f) w Q := by
  unfold aOff at hK
  split at hK
  · rename_i b off
    unfold fo at hf
    split at hf
    · rename_i fs hu
      split at hf
      · rename_i fld hfld
        split at hf
        · rename_i i hi
          cases hz : i.size == 0 with
          | true => rw [hz] at hf; cases hf
          | false =>
            rw [hz] at hf
            simp only [cond_false, Option.some.injEq] at hf
            subst hf
            unfold Instr.fieldAt
            refine RunsTo.bind (RunsTo.underlying hu ?_)
            simp only [hfld, ren, renAddr, Instr.sureAddr]
            refine RunsTo.bind (RunsTo.pure (RunsTo.bind ?_))
            unfold fieldPlace
            refine RunsTo.bind (RunsTo.sizeOf hi ?_)
            rw [if_neg (by simpa using hz), add_mk]
            refine RunsTo.pure (RunsTo.pure ?_)
            have := hQ _ hK (by simp only [VOk, AddrOk] at hx ⊢; exact ⟨hx.1, trivial⟩)
            simpa [ptr, ren, renAddr] using this
        · cases hf
      · cases hf
    · cases hf
  · exact hK.elim
theorem sound_index {x i : Value} {t e : TypeId} {g : Bool} {s : Nat} {K : Value → Prop} {X : Event → Prop} {n : Nat} (hu : P.underlying t = some (.slice e)) (ht : tk P e = some (g, s)) (hx : VOk n x) (hK : aIdx s x i K)
    {Q : Value → World → Prop} (hQ : ∀ v, K v → VOk n v → Q (ren ρ v) w) : RunsTo P X (Instr.indexAt t (ren ρ x) (ren ρ i)) w Q := by
  obtain ⟨d, ti, hd, hi, hg, hs⟩ := tk_some ht
  unfold aIdx at hK
  split at hK
  · rename_i b o m c k j
    unfold Instr.indexAt
    simp only [ren, asIntOf, renAddr]
    refine RunsTo.bind (RunsTo.pure (RunsTo.bind (RunsTo.underlying hu (RunsTo.bind (RunsTo.pure ?_)))))
    refine RunsTo.bind (RunsTo.underlying hu ?_)
    simp only
    rw [if_pos hK.1]
    refine RunsTo.bind (RunsTo.sizeOf hi (RunsTo.pure ?_))
    rw [add_mk, hs]
    have := hQ _ hK.2 (by simp only [VOk, AddrOk] at hx ⊢; exact ⟨hx.1, trivial⟩)
    simpa [ptr, ren, renAddr] using this
  · exact hK.elim
theorem sound_indexA {x i : Value} {t e : TypeId} {len : Nat} {g : Bool} {s : Nat} {K : Value → Prop} {X : Event → Prop} {n : Nat} (hu : P.underlying t = some (.array len e)) (ht : tk P e = some (g, s)) (hx : VOk n x) (hK : aIdxA len s x i K)
    {Q : Value → World → Prop} (hQ : ∀ v, K v → VOk n v → Q (ren ρ v) w) : RunsTo P X (Instr.indexAt t (ren ρ x) (ren ρ i)) w Q := by
  obtain ⟨d, ti, hd, hi, hg, hs⟩ := tk_some ht
  unfold aIdxA at hK
  split at hK
  · rename_i b o k j
    unfold Instr.indexAt
    simp only [ren, asIntOf, renAddr, Instr.sureAddr]
    refine RunsTo.bind (RunsTo.pure (RunsTo.bind (RunsTo.underlying hu ?_)))
    refine RunsTo.bind (RunsTo.bind (RunsTo.pure (RunsTo.pure (RunsTo.bind (RunsTo.underlying hu ?_)))))
    simp only
    rw [if_pos hK.1]
    refine RunsTo.bind (RunsTo.sizeOf hi (RunsTo.pure ?_))
    rw [add_mk, hs]
    have := hQ _ hK.2 (by simp only [VOk, AddrOk] at hx ⊢; exact ⟨hx.1, trivial⟩)
    simpa [ptr, ren, renAddr] using this
  · exact hK.elim
end
section
variable {P : Program} {X : Event → Prop} {w : World} {ρ : Env} {n : Nat}
theorem aFill_one : ∀ (ps : List (Nat × Nat × Value)) (c : List Value) {K : List Value → Prop}, aFill c ps K → ∀ p ∈ ps, p.2.2 ≠ unk
  | [], _, _, _, _, hp => by cases hp
  | (off, s, v) :: ps, c, K, h, p, hp => by
    simp only [aFill] at h
    rcases List.mem_cons.1 hp with rfl | hp
    · rintro rfl
      have := h.2.1
      simp [unk, Value.cells, one] at this
    · exact aFill_one ps _ h.2.2.2 p hp
theorem mapM_some {α β : Type} {f : α → Option β} : ∀ (l : List α) (ps : List β), l.mapM f = some ps → l.map f = ps.map some
  | [], ps, h => by
    simp only [List.mapM_nil, pure, Option.some.injEq] at h
    subst h; rfl
  | a :: l, ps, h => by
    rw [List.mapM_cons] at h
    cases ha : f a with
    | none => rw [ha] at h; cases h
    | some b =>
      rw [ha] at h
      cases hl : l.mapM f with
      | none => rw [hl] at h; cases h
      | some bs =>
        rw [hl] at h
        simp only [bind, Option.bind, pure, Option.some.injEq] at h
        subst h
        simp [ha, mapM_some l bs hl]
theorem RunsTo.mapM {α β : Type} {f : α → Sem β} {g : α → β} {Q : List β → World → Prop} : ∀ (l : List α), (∀ a ∈ l, ∀ {R : β → World → Prop}, R (g a) w → RunsTo P X (f a) w R) → Q (l.map g) w → RunsTo P X (l.mapM f) w Q
  | [], _, hQ => by
    rw [List.mapM_nil]
    exact RunsTo.pure hQ
  | a :: l, h, hQ => by
    rw [List.mapM_cons]
    refine RunsTo.bind (h a (by simp) ?_)
    refine RunsTo.bind (RunsTo.mapM l (fun b hb => h b (by simp [hb])) ?_)
    exact RunsTo.pure hQ
theorem LOk_zrep {z : List Value} (hz : LOk n z) : ∀ m, LOk n (zrep z m)
  | 0 => by simp [zrep, LOk]
  | m + 1 => by
    have := LOk_zrep hz m
    rw [LOk_iff] at *
    intro v hv
    simp only [zrep, List.mem_append] at hv
    exact hv.elim (hz v) (this v)
theorem all_zrep {z : List Value} {p : Value → Bool} (hz : z.all p = true) : ∀ m, (zrep z m).all p = true
  | 0 => rfl
  | m + 1 => by simp only [zrep, List.all_append, hz, all_zrep hz m, Bool.and_self]
theorem length_zrep (z : List Value) : ∀ m, (zrep z m).length = m * z.length
  | 0 => by simp [zrep]
  | m + 1 => by simp only [zrep, List.length_append, length_zrep z m, Nat.succ_mul]; omega
theorem get_zrep (z : List Value) : ∀ m i, i < m * z.length → (zrep z m)[i]? = z[i % z.length]?
  | 0, i, h => by simp at h
  | m + 1, i, h => by
    simp only [zrep]
    rw [List.getElem?_append]
    split
    · rename_i hl
      rw [Nat.mod_eq_of_lt hl]
    · rename_i hl
      rw [Nat.succ_mul] at h
      rw [get_zrep z m (i - z.length) (by omega), ← Nat.mod_eq_sub_mod (by omega)]
theorem zrep_range (z : List Value) (m : Nat) (d : Value) : (List.range (m * z.length)).map (fun i => (z[i % z.length]?).getD d) = zrep z m := by
  refine List.ext_getElem? fun i => ?_
  rw [List.getElem?_map]
  by_cases h : i < m * z.length
  · rw [List.getElem?_range h, get_zrep z m i h]
    have hz : i % z.length < z.length := Nat.mod_lt _ (by
      rcases Nat.eq_zero_or_pos z.length with h0 | h0
      · rw [h0] at h; omega
      · exact h0)
    simp [List.getElem?_eq_getElem hz]
  · rw [List.getElem?_eq_none (by simpa using h), List.getElem?_eq_none (by rw [length_zrep]; omega)]
    rfl
end
section
variable {P : Program} {ρ : Env} {h : List AObj} {FC : Frm} {w : World} {ft : Foot} {X : Event → Prop} {n : Nat}
theorem parts_rel {r : Nat → Value} {a : Act} (hr : RegRel n ρ r a.tmps) (ps : Array (Nat × Operand)) (hne : ∀ p ∈ ps.toList, ev r p.2 ≠ unk) :
    (ps.map fun (i, x) => (i, a.eval x)).toList = (ps.toList.map fun (p : Nat × Operand) => (p.1, ev r p.2)).map fun p => (p.1, ren ρ p.2) := by
  rw [Array.toList_map, List.map_map]
  refine List.map_congr_left fun p hp => ?_
  have := (ev_rel hr p.2).val (hne p hp)
  simp [this.2]
theorem sound_build {t : TypeId} {ps : List (Nat × Value)} {z : List Value} {l : List (Nat × Nat × Value)} {K : Value → Prop} (hz : zc P t = some z) (hp : places P t ps = some l)
    (hok : ∀ p ∈ ps, VOk n p.2) (hs : (∃ fs, P.underlying t = some (.struct fs)) ∨ ∃ m e, P.underlying t = some (.array m e)) (hK : aFill z l fun c => K (.agg ⟨c⟩))
    (cps : Array (Nat × Value)) (hcps : cps.toList = ps.map fun p => (p.1, ren ρ p.2))
    {Q : Value → World → Prop} (hQ : ∀ v, K v → VOk n v → Q (ren ρ v) w) : RunsTo P X (Instr.build t cps) w Q := by
  obtain ⟨i, zv, hi, hzz, hl, hpl⟩ := zc_some hz
  have hzc : zv.cells = ⟨z.map (ren ρ)⟩ := by rw [map_plain hpl ρ, ← hl]
  have hzok : LOk n z := (LOk_iff z).2 fun v hv => (plain_ok (List.all_eq_true.1 hpl v hv) n ρ).1
  have hzone : z.all one = true := List.all_eq_true.2 fun v hv => (plain_ok (List.all_eq_true.1 hpl v hv) n ρ).2.2
  have hlok : ∀ p ∈ l, VOk n p.2.2 := by
    have gen : ∀ (f : Nat × Value → Option (Nat × Nat × Value)), (∀ p q, f p = some q → q.2.2 = p.2) → ps.mapM f = some l → ∀ p ∈ l, VOk n p.2.2 := by
      intro f hf hm p hpm
      have h1 := mapM_some ps l hm
      have : some p ∈ l.map some := List.mem_map.2 ⟨p, hpm, rfl⟩
      rw [← h1] at this
      obtain ⟨q, hq, he⟩ := List.mem_map.1 this
      rw [hf q p he]
      exact hok q hq
    unfold places at hp
    split at hp
    · rename_i fs hu
      cases hb : fs.toList.all fun f => (P.info? f.type).isSome with
      | false => rw [hb] at hp; cases hp
      | true =>
        rw [hb] at hp
        refine gen _ (fun p q hq => ?_) hp
        dsimp only at hq
        split at hq
        · obtain ⟨x, _, rfl⟩ := Option.map_eq_some_iff.1 hq; rfl
        · cases hq
    · split at hp
      · simp only [Option.some.injEq] at hp
        subst hp
        intro p hp
        obtain ⟨q, hq, rfl⟩ := List.mem_map.1 hp
        exact hok q hq
      · cases hp
    · split at hp
      · simp only [Option.some.injEq] at hp
        subst hp
        intro p hp
        obtain ⟨q, hq, rfl⟩ := List.mem_map.1 hp
        exact hok q hq
      · cases hp
    · cases hp
  obtain ⟨c', k1, k2, k3, _, k5⟩ := aFill_run (ρ := ρ) l z hK hzok hzone hlok
  have fin := hQ _ k1 (by simpa [VOk, AOk] using k2)
  unfold Instr.build
  refine RunsTo.bind (RunsTo.zeroValue hi hzz ?_)
  simp only [hzc]
  rcases hs with ⟨fs, hu⟩ | ⟨m, e, hu⟩
  · refine RunsTo.bind (RunsTo.underlying hu ?_)
    simp only
    unfold places at hp
    simp only [hu] at hp
    cases hb : fs.toList.all fun f => (P.info? f.type).isSome with
    | false => rw [hb] at hp; cases hp
    | true =>
      rw [hb] at hp
      simp only [cond_true] at hp
      rw [Array.mapM_eq_mapM_toList]
      refine RunsTo.bind (RunsTo.map (RunsTo.mapM (g := fun f => (f.offset, ((P.info? f.type).map (·.size)).getD 0)) fs.toList (fun f hf R hR => ?_) ?_))
      · have := List.all_eq_true.1 hb f hf
        obtain ⟨fi, hfi⟩ := Option.isSome_iff_exists.1 this
        rw [hfi] at hR
        exact RunsTo.bind (RunsTo.sizeOf hfi (RunsTo.pure hR))
      · rw [hcps]
        have := k5 (fun i => (fs.toList.map fun f => (f.offset, ((P.info? f.type).map (·.size)).getD 0)).toArray[i]?) ps (by
          rw [← mapM_some ps l hp]
          refine List.map_congr_left fun p hmem => ?_
          simp only [List.getElem?_toArray, List.getElem?_map, Array.getElem?_toList]
          cases hfp : fs[p.1]? with
          | none => simp
          | some f =>
            have hfm : f ∈ fs.toList := Array.mem_toList_iff.2 (Array.mem_of_getElem? hfp)
            obtain ⟨fi, hfi⟩ := Option.isSome_iff_exists.1 (List.all_eq_true.1 hb f hfm)
            have hpp : (tk P f.type).isSome = true := by
              have h1 := mapM_some ps l hp
              cases ht : tk P f.type with
              | some _ => rfl
              | none =>
                have : (none : Option (Nat × Nat × Value)) ∈ l.map some := by
                  rw [← h1]
                  exact List.mem_map.2 ⟨p, hmem, by simp [hfp, ht]⟩
                simp at this
            obtain ⟨x, hx⟩ := Option.isSome_iff_exists.1 hpp
            obtain ⟨g, s⟩ := x
            obtain ⟨_, fi', _, hfi', _, hss⟩ := tk_some hx
            rw [hfi] at hfi'
            cases hfi'
            simp [hfi, hx, hss])
        simp only [this]
        refine RunsTo.pure ?_
        simpa [ren, renA_mk] using fin
  · refine RunsTo.bind (RunsTo.underlying hu ?_)
    simp only
    unfold places at hp
    simp only [hu] at hp
    split at hp
    · rename_i g s hte
      obtain ⟨_, fi, _, hfi, _, hss⟩ := tk_some hte
      simp only [Option.some.injEq] at hp
      subst hp
      refine RunsTo.bind (RunsTo.sizeOf hfi ?_)
      rw [hcps]
      have := k5 (fun i => some (i * fi.size, fi.size)) ps (by simp [hss])
      simp only [this]
      refine RunsTo.pure ?_
      simpa [ren, renA_mk] using fin
    · cases hp
end
section
variable {P : Program} {ρ : Env} {h : List AObj} {FC : Frm} {w : World} {ft : Foot}
theorem zero_row {z : List Value} {m s : Nat} (hs : z.length = s) : (Array.range (m * s)).map (fun i => (⟨z⟩ : Array Value)[i % (⟨z⟩ : Array Value).size]!) = ⟨zrep z m⟩ := by
  subst hs
  have := zrep_range z m default
  rw [← this]
  apply Array.ext'
  simp only [Array.toList_map, Array.toList_range]
  refine List.map_congr_left fun i _ => ?_
  simp [getElem!_def]
  cases z[i % z.length]? <;> rfl
theorem sound_buildSlice (H : HRel ρ h FC w ft) {t e : TypeId} {g : Bool} {s m : Nat} {ps : List (Nat × Value)} {z : List Value} {l : List (Nat × Nat × Value)} {K : Value → List AObj → Prop}
    (hu : P.underlying t = some (.slice e)) (hz : zc P e = some z) (ht : tk P e = some (g, s)) (hp : places P t ps = some l) (hok : ∀ p ∈ ps, VOk h.length p.2) (hsz : m * s ≤ 16777216) (hm : m ≤ 16777216) (hzs : z.length = s)
    (hK : aFill (zrep z m) l fun c => K (.slice (some ⟨h.length, 0, none⟩) m m) (h ++ [.cells c true 0]))
    (cps : Array (Nat × Value)) (hcps : cps.toList = ps.map fun p => (p.1, ren ρ p.2))
    {Q : Value → World → Prop} (hQ : ∀ v h' ρ' w', K v h' → VOk h'.length v → Goes1 ρ h FC w ft ρ' h' w' → Q (ren ρ' v) w') : RunsTo P (EvOk ft) (Instr.buildSlice t m cps) w Q := by
  obtain ⟨i, zv, hi, hzz, hl, hpl⟩ := zc_some hz
  obtain ⟨_, ti, _, hti, _, hss⟩ := tk_some ht
  have hzc : zv.cells = ⟨z⟩ := by rw [← hl]
  have hzok : LOk h.length z := (LOk_iff z).2 fun v hv => (plain_ok (List.all_eq_true.1 hpl v hv) _ ρ).1
  have hzone : z.all one = true := List.all_eq_true.2 fun v hv => (plain_ok (List.all_eq_true.1 hpl v hv) 0 ρ).2.2
  have hzp : (zrep z m).map (ren ρ) = zrep z m := map_plain (all_zrep hpl m) ρ
  unfold places at hp
  simp only [hu, ht, Option.some.injEq] at hp
  subst hp
  obtain ⟨c', k1, k2, k3, _, k5⟩ := aFill_run (ρ := ρ) _ _ hK (LOk_zrep hzok m) (all_zrep hzone m) (by
    intro p hp
    obtain ⟨q, hq, rfl⟩ := List.mem_map.1 hp
    exact hok q hq)
  have := k5 (fun i => some (i * s, s)) ps (by simp)
  unfold Instr.buildSlice
  refine RunsTo.bind (RunsTo.underlying hu ?_)
  simp only
  refine RunsTo.bind (RunsTo.sizeOf hti ?_)
  rw [hss, if_neg (by omega)]
  have fin : ∀ zero : Array Value, (Array.range (m * s)).map (fun i => zero[i % zero.size]!) = ⟨zrep z m⟩ → RunsTo P (EvOk ft) (do
      let some cells := Instr.fill (fun i => some (i * s, s)) ((Array.range (m * s)).map (fun i => zero[i % zero.size]!)) cps.toList | stuck "buildSlice: a part of the wrong size"
      pure (.slice (some (← newRow e cells)) m m)) w Q := by
    intro zero hzero
    rw [hzero, hcps, ← hzp, this]
    refine RunsTo.bind (sound_newRow H (fun v hv => ⟨(LOk_iff c').1 k2 v hv, List.all_eq_true.1 k3 v hv⟩) (K := fun v h' => K (.slice (some ⟨h.length, 0, none⟩) m m) h') k1 fun v h' ρ' w' a hk _ e1 hv _ e2 G => RunsTo.pure ?_)
    have := hQ _ h' ρ' w' hk (by rw [e1]; simp only [VOk, AddrOk, List.length_append, List.length_cons, List.length_nil]; exact ⟨by omega, trivial⟩) G
    have hfz : ¬ fz ≤ m := by unfold fz; omega
    simpa [ren, renAddr, renCap, hfz, e2] using this
  by_cases h0 : m * s = 0
  · rw [if_pos h0]
    refine RunsTo.bind (RunsTo.pure ?_)
    refine fin #[] ?_
    rw [h0]
    have : zrep z m = [] := List.eq_nil_of_length_eq_zero (by rw [length_zrep, hzs, h0])
    rw [this]; simp
  · rw [if_neg h0]
    refine RunsTo.bind (RunsTo.zeroValue hi hzz (RunsTo.bind (RunsTo.pure ?_)))
    refine fin _ ?_
    rw [hzc]
    exact zero_row hzs
theorem sound_makeSlice (H : HRel ρ h FC w ft) {t e : TypeId} {g : Bool} {s : Nat} {z : List Value} {i : TypeInfo} {l c : Value} {K : Value → List AObj → Prop}
    (hu : P.underlying t = some (.slice e)) (hz : zc P e = some z) (ht : tk P e = some (g, s)) (hi : P.info? e = some i) (hzs : z.length = s) (hby : i.bytes ≤ 1024)
    (hK : aMkS z l c h K)
    {Q : Value → World → Prop} (hQ : ∀ v h' ρ' w', K v h' → VOk h'.length v → Goes1 ρ h FC w ft ρ' h' w' → Q (ren ρ' v) w') : RunsTo P (EvOk ft) (Instr.makeSlice t (ren ρ l) (ren ρ c)) w Q := by
  obtain ⟨i', zv, hi', hzz, hl, hpl⟩ := zc_some hz
  obtain ⟨_, ti, _, hti, _, hss⟩ := tk_some ht
  have : i' = i := by rw [hi] at hi'; cases hi'; rfl
  subst this
  have : ti = i' := by rw [hi] at hti; cases hti; rfl
  subst this
  have hzc : zv.cells = ⟨z⟩ := by rw [← hl]
  unfold aMkS at hK
  split at hK
  · rename_i k1 l k2 c
    obtain ⟨b1, b2, b3, hK⟩ := hK
    unfold room at b3
    have wrapl : IntKind.i64.wrap l = l := by
      unfold IntKind.wrap
      simp [IntKind.bits, IntKind.signed]
      omega
    have wrapc : IntKind.i64.wrap c = c := by
      unfold IntKind.wrap
      simp [IntKind.bits, IntKind.signed]
      omega
    have hbc : (ti.bytes : Int) * c ≤ 1024 * 1073741824 := Int.le_trans (Int.mul_le_mul_of_nonneg_right (by omega) (by omega)) (Int.mul_le_mul_of_nonneg_left (by omega) (by omega))
    have hbc' : c.toNat * ti.bytes ≤ 1024 * 1073741824 := by
      have : ((c.toNat * ti.bytes : Nat) : Int) = ti.bytes * c := by rw [Int.natCast_mul, Int.toNat_of_nonneg (by omega), Int.mul_comm]
      omega
    unfold Instr.makeSlice
    refine RunsTo.bind (RunsTo.underlying hu ?_)
    simp only [ren, asInt, asIntOf]
    refine RunsTo.bind (RunsTo.bind (RunsTo.pure (RunsTo.pure ?_)))
    refine RunsTo.bind (RunsTo.bind (RunsTo.pure (RunsTo.pure ?_)))
    refine RunsTo.bind (RunsTo.typeInfo hti ?_)
    simp only [wrapl, wrapc]
    rw [if_neg (by simp; omega)]
    have rest : RunsTo P (EvOk ft) (do
        let n := c.toNat * (← sizeOf e)
        let zero ← if n = 0 then pure #[] else do pure (← zeroValue e).cells
        let a ← newRow e ((Array.range n).map (zero[· % zero.size]!))
        pure (.slice (some a) l.toNat c.toNat)) w Q := by
      refine RunsTo.bind (RunsTo.sizeOf hti ?_)
      rw [hss]
      have hzp : (zrep z c.toNat).map (ren ρ) = zrep z c.toNat := map_plain (all_zrep hpl _) ρ
      have hpz := all_zrep hpl c.toNat
      have fin : ∀ zero : Array Value, (Array.range (c.toNat * s)).map (fun i => zero[i % zero.size]!) = ⟨zrep z c.toNat⟩ → RunsTo P (EvOk ft) (do
          let a ← newRow e ((Array.range (c.toNat * s)).map (zero[· % zero.size]!))
          pure (.slice (some a) l.toNat c.toNat)) w Q := by
        intro zero hzero
        rw [hzero, ← hzp]
        refine RunsTo.bind (sound_newRow H (fun v hv => ?_) (K := fun v h' => K (.slice (some ⟨h.length, 0, none⟩) l.toNat c.toNat) h') hK fun v h' ρ' w' a hk _ e1 hv _ e2 G => RunsTo.pure ?_)
        · have := plain_ok (List.all_eq_true.1 hpz v hv) h.length ρ
          exact ⟨this.1, this.2.2⟩
        have := hQ _ h' ρ' w' hk (by rw [e1]; simp only [VOk, AddrOk, List.length_append, List.length_cons, List.length_nil]; exact ⟨by omega, trivial⟩) G
        have hfz : ¬ fz ≤ c.toNat := by unfold fz; omega
        simpa [ren, renAddr, renCap, hfz, e2] using this
      by_cases h0 : c.toNat * s = 0
      · simp only [h0, if_true]
        refine RunsTo.bind (RunsTo.pure ?_)
        have := fin #[] (by
          rw [h0]
          have : zrep z c.toNat = [] := List.eq_nil_of_length_eq_zero (by rw [length_zrep, hzs, h0])
          rw [this]; simp)
        rw [h0] at this
        exact this
      · simp only [h0, if_false]
        refine RunsTo.bind (RunsTo.zeroValue hti hzz (RunsTo.bind (RunsTo.pure ?_)))
        refine fin _ ?_
        rw [hzc]
        exact zero_row hzs
    unfold askRoom roomBytes
    rw [if_neg (by omega)]
    exact RunsTo.bind (RunsTo.pure rest)
  · exact hK.elim
theorem sound_makeMap (H : HRel ρ h FC w ft) {t : TypeId} {K : Value → List AObj → Prop} (hK : K (.map (some h.length)) (h ++ [.map [] true]))
    {Q : Value → World → Prop} (hQ : ∀ v h' ρ' w', K v h' → VOk h'.length v → Goes1 ρ h FC w ft ρ' h' w' → Q (ren ρ' v) w') : RunsTo P (EvOk ft) (Instr.makeMap t none) w Q := by
  have G := H.push (.map [] true) (.map #[] 0) 0 (by exact ⟨⟨rfl, fun i k v hv => by simp at hv⟩, rfl⟩) w.drawn
  unfold Instr.makeMap
  refine RunsTo.bind (RunsTo.new (RunsTo.pure ?_))
  have := hQ _ _ _ _ hK (by simp [VOk]) G
  simpa [ren, Env.put] using this
theorem sound_makeChan (H : HRel ρ h FC w ft) {t : TypeId} {e : TypeId} {i : TypeInfo} {v v' : Value} {K : Value → List AObj → Prop} (hu : ∃ d, P.underlying t = some (.chan d e)) (hi : P.info? e = some i) (hb : i.bytes ≤ 1024) (hv : v' = ren ρ v) (hK : aMkC v h K)
    {Q : Value → World → Prop} (hQ : ∀ v h' ρ' w', K v h' → VOk h'.length v → Goes1 ρ h FC w ft ρ' h' w' → Q (ren ρ' v) w') : RunsTo P (EvOk ft) (Instr.makeChan t v') w Q := by
  obtain ⟨d, hu⟩ := hu
  unfold aMkC at hK
  split at hK
  · rename_i kd n
    obtain ⟨⟨h0, h1⟩, hK⟩ := hK
    subst hv
    have G := H.push (.chan n.toNat) (.chan n.toNat #[] false 0 0 false) 0 (by exact ⟨rfl, rfl, rfl, rfl, rfl, rfl⟩) w.drawn
    have hbn : ((i.bytes : Nat) : Int) * n ≤ 1024 * 1000000 := Int.mul_le_mul (by omega) h1 h0 (by omega)
    have hmx : IntKind.i64.max = 9223372036854775807 := by decide
    unfold Instr.makeChan
    refine RunsTo.bind (RunsTo.pure (a := n) ?_)
    refine RunsTo.bind (RunsTo.underlying hu ?_)
    simp only
    refine RunsTo.bind (RunsTo.typeInfo hi ?_)
    rw [if_neg (by rw [hmx]; omega)]
    refine RunsTo.bind (RunsTo.new (RunsTo.pure ?_))
    have := hQ _ _ _ _ hK (by simp [VOk]) G
    simpa [ren, Env.put] using this
  · exact hK.elim
end
def wrArr : Array Value → Nat → List Value → Array Value
  | c, _, [] => c
  | c, i, v :: vs => wrArr (c.setIfInBounds i v) (i + 1) vs
theorem wrArr_size : ∀ (vs : List Value) (c : Array Value) (i : Nat), (wrArr c i vs).size = c.size
  | [], _, _ => rfl
  | v :: vs, c, i => by simp [wrArr, wrArr_size vs]
theorem wrArr_get : ∀ (vs : List Value) (c : Array Value) (i k : Nat), i + vs.length ≤ c.size → (wrArr c i vs)[k]? = if i ≤ k ∧ k < i + vs.length then vs[k - i]? else c[k]?
  | [], c, i, k, _ => by simp [wrArr]; intro h1 h2; omega
  | v :: vs, c, i, k, h => by
    simp only [List.length_cons] at h
    simp only [wrArr]
    rw [wrArr_get vs _ (i + 1) k (by simp; omega)]
    simp only [List.length_cons]
    by_cases hk : k = i
    · subst hk
      have hk : k < c.size := by omega
      rw [if_neg (by omega), if_pos (by omega)]
      simp [hk]
    · by_cases h2 : i + 1 ≤ k ∧ k < i + 1 + vs.length
      · rw [if_pos h2, if_pos (by omega), show k - i = (k - (i + 1)) + 1 from by omega, List.getElem?_cons_succ]
      · rw [if_neg h2, if_neg (by omega), Array.getElem?_setIfInBounds_ne (Ne.symm hk)]
section
variable {P : Program} {X : Event → Prop}
theorem RunsTo.storeCells {B off : Nat} {ty : TypeId} {fr : Nat × Nat} (hfr : fr.2 ≤ fr.1) (hX : ∀ o, X ⟨.cell ⟨B, o, none⟩, true, false⟩) : ∀ (vs : List Value) (i : Nat) (w : World) (c : Array Value) {Q : Unit → World → Prop},
    w.heap[B]? = some (.cells c ty fr) → off + i + vs.length ≤ c.size → (∀ v ∈ vs, one v = true) →
    (∀ w', w'.heap[B]? = some (.cells (wrArr c (off + i) vs) ty fr) → (∀ x, x ≠ B → w'.heap[x]? = w.heap[x]?) → w'.heap.size = w.heap.size → w'.tape = w.tape → w'.os = w.os → w'.output = w.output → Q () w') →
    RunsTo P X (Go.storeCells ⟨B, off, none⟩ vs i) w Q
  | [], i, w, c, Q, hw, _, _, hQ => by
    simp only [Go.storeCells]
    exact RunsTo.pure (hQ w hw (fun _ _ => rfl) rfl rfl rfl rfl)
  | v :: vs, i, w, c, Q, hw, hl, ho, hQ => by
    simp only [Go.storeCells]
    simp only [List.length_cons] at hl
    rw [add_mk]
    have hoff : off + i < c.size := by omega
    refine RunsTo.bind (RunsTo.store (u := c[off + i]) (by simp [World.cell?, hw, hoff]) (by simp [World.frozen?, hw]; omega) (ho v (by simp)) (hX _) ?_)
    refine RunsTo.storeCells (ty := ty) (fr := fr) hfr hX vs (i + 1) _ (c.setIfInBounds (off + i) v) (by simp [World.setCell, Array.getElem?_modify, hw]) (by simp; omega) (fun x hx => ho x (by simp [hx])) (fun w' h1 h2 h3 h4 h5 h6 => ?_)
    refine hQ w' (by rw [h1]; simp [wrArr, Nat.add_assoc]) (fun x hx => ?_) (by rw [h3]; simp [World.setCell]) h4 h5 h6
    rw [h2 x hx]
    simp [World.setCell, Array.getElem?_modify, Ne.symm hx]
end
section
variable {P : Program} {ρ : Env} {h : List AObj} {FC : Frm} {w : World} {ft : Foot}
theorem HRel.kill (H : HRel ρ h FC w ft) (b : Nat) : HRel ρ (h.set b .dead) FC w ft := by
  have get : ∀ {i o}, (h.set b .dead)[i]? = some o → o.live = true → h[i]? = some o ∧ i ≠ b := by
    intro i o hi hl
    rcases set_get hi with ⟨rfl, rfl, _⟩ | ⟨hne, hi⟩
    · cases hl
    · exact ⟨hi, hne⟩
  refine ⟨fun i o hi => ?_, fun i j o o' hi hj l1 l2 e => H.inj i j o o' (get hi l1).1 (get hj l2).1 l1 l2 e, fun i o hi hl => H.rd i o (get hi hl).1 hl, fun i o hi hw => ?_, H.lt, H.sub, fun x o hx => ?_, H.keptW, fun i x hi => (by
    rcases set_get hi with ⟨rfl, e, _⟩ | ⟨_, hi⟩
    · cases e
    · exact H.tag i x hi)⟩
  · by_cases hl : o.live = true
    · rw [List.length_set]; exact H.obj i o (get hi hl).1
    · cases o <;> first | trivial | exact absurd rfl hl
  · refine H.wr i o (get hi ?_).1 hw
    cases o <;> first | rfl | cases hw
  · obtain ⟨a1, a2, a3⟩ := H.kept x o hx
    refine ⟨a1, a2, fun a oa ha hw => a3 a oa (get ha ?_).1 hw⟩
    cases oa <;> first | rfl | cases hw
theorem srcCells_run (H : HRel ρ h FC w ft) {s m : Nat} {y : Value} {K : List Value → Prop} (hK : srcCells s m y h K) {Q : Array Value → World → Prop}
    (hQ : ∀ ys, K ys → ys.length = m * s → (∀ v ∈ ys, VOk h.length v ∧ one v = true) → Q ⟨ys.map (ren ρ)⟩ w) : RunsTo P (EvOk ft) (Builtin.firstCells s m (ren ρ y)) w Q := by
  unfold srcCells at hK
  split at hK
  · obtain ⟨rfl, hK⟩ := hK
    simp only [ren, Builtin.firstCells]
    exact RunsTo.pure (hQ [] hK (by simp) (by simp))
  · rename_i b o n c
    by_cases hm : m = 0
    · subst hm
      simp only [ren, renAddr, Builtin.firstCells]
      exact RunsTo.loadCells [] (by simp) (fun j v hv => by cases hv) (hQ [] (hK.1 rfl) (by simp) (by simp))
    replace hK := hK.2 hm
    split at hK
    · rename_i cs wr sz hb
      obtain ⟨h1, hkn, h2⟩ := hK
      simp only [ren, renAddr, Builtin.firstCells]
      refine RunsTo.loadCells (((cs.drop o).take (m * s)).map (ren ρ)) (by simp; omega) (fun j v hv => ?_) (hQ _ h2 (by simp; omega) fun v hv => ?_)
      · rw [List.getElem?_map] at hv
        obtain ⟨u, hu, rfl⟩ := Option.map_eq_some_iff.1 hv
        rw [List.getElem?_take] at hu
        split at hu
        · rw [List.getElem?_drop] at hu
          rw [add_mk]
          exact ⟨(H.cell hb hu (.inr (kn_get hkn (by rw [List.getElem?_take, if_pos (by assumption), List.getElem?_drop]; exact hu)))).1, evOk_read (H.rd b _ hb rfl)⟩
        · cases hu
      · obtain ⟨i, hi⟩ := List.getElem?_of_mem hv
        have hk1 := kn_get hkn hi
        rw [List.getElem?_take] at hi
        split at hi
        · rw [List.getElem?_drop] at hi
          exact ⟨(H.cell hb hi (.inr hk1)).2.1, (H.cell hb hi (.inr hk1)).2.2⟩
        · cases hi
    · exact hK.elim
  · exact hK.elim
theorem nextcap_le (need old : Nat) (hlt : old < need) : Builtin.nextslicecap need old ≤ 2 * need + 1000 := by
  unfold Builtin.nextslicecap
  split
  · omega
  · split
    · omega
    · simp only [Builtin.growBy]
      repeat' split
      all_goals omega
theorem grow_run (H : HRel ρ h FC w ft) {e : TypeId} {i : TypeInfo} {s need old : Nat} {zv : Value} {l : List Value} (hi : P.info? e = some i) (hzz : i.zero = some zv) (hzs : zv.cells.size = s) (hs : 0 < s)
    (hl : ∀ v ∈ l, VOk h.length v ∧ one v = true) (hlen : l.length = need * s) {Q : Value → World → Prop}
    (hQ : ∀ ρ' w', Goes1 ρ h FC w ft ρ' (h ++ [.cells l true s]) w' → Q (ren ρ' (.slice (some ⟨h.length, 0, none⟩) need fz)) w') (getold getnew : Sem (Array Value))
    (hold : ∀ d, ∀ {R : Array Value → World → Prop}, R ⟨(l.take (old * s)).map (ren ρ)⟩ { w with drawn := d } → RunsTo P (EvOk ft) getold { w with drawn := d } R)
    (hnew : ∀ d, ∀ {R : Array Value → World → Prop}, R ⟨(l.drop (old * s)).map (ren ρ)⟩ { w with drawn := d } → RunsTo P (EvOk ft) getnew { w with drawn := d } R) (sCap : Nat) :
    RunsTo P (EvOk ft) (do
      let newCap ← choose (.appendCap need sCap e)
      askRoom (newCap * (← typeInfo e).bytes)
      let old ← getold
      let new ← getnew
      let rest := Builtin.zeroCells (← zeroValue e).cells (newCap - need)
      pure (.slice (some (← newRow e (old ++ new ++ rest))) need newCap)) w Q := by
  refine RunsTo.bind (RunsTo.choose fun newCap d _ hq => ?_)
  obtain ⟨t, ht⟩ := hq rfl
  have hge : need ≤ newCap := by rw [ht]; simp [Question.cut]
  refine RunsTo.bind (RunsTo.typeInfo hi ?_)
  have rest : RunsTo P (EvOk ft) (do
      let old ← getold
      let new ← getnew
      let rest := Builtin.zeroCells (← zeroValue e).cells (newCap - need)
      pure (.slice (some (← newRow e (old ++ new ++ rest))) need newCap)) { w with drawn := d } Q := by
    refine RunsTo.bind (hold d (RunsTo.bind (hnew d ?_)))
    refine RunsTo.bind (RunsTo.zeroValue hi hzz ?_)
    have hcat : (Array.mk ((l.take (old * s)).map (ren ρ)) ++ Array.mk ((l.drop (old * s)).map (ren ρ))) = ⟨l.map (ren ρ)⟩ := by
      simp
    rw [hcat]
    unfold newRow
    refine RunsTo.bind (RunsTo.bind (RunsTo.new (RunsTo.pure (RunsTo.pure ?_))))
    have hzsize : (Builtin.zeroCells zv.cells (newCap - need)).size = (newCap - need) * s := by simp [Builtin.zeroCells, hzs]
    have := hQ _ _ (H.push (.cells l true s) (.cells ((⟨l.map (ren ρ)⟩ : Array Value) ++ Builtin.zeroCells zv.cells (newCap - need)) e) newCap (by
      refine (⟨fun k v hv => ?_, fun hz => absurd hz (by omega), fun _ => ⟨?_, by simp⟩, fun _ => Nat.le_refl _⟩ : CellsRel (h.length + 1) (ρ.put h.length w.heap.size newCap) h.length l true s ((⟨l.map (ren ρ)⟩ : Array Value) ++ Builtin.zeroCells zv.cells (newCap - need)) (0, 0))
      · obtain ⟨a1, a2⟩ := hl v (List.mem_of_getElem? hv)
        refine .inr ⟨VOk.mono (Nat.le_succ _) _ a1, a2, ?_⟩
        rw [ren_congr (Env.put_upto ρ h.length w.heap.size newCap) _ a1]
        have hk := (List.getElem?_eq_some_iff.1 hv).1
        rw [Array.getElem?_append, if_pos (by simpa using hk)]
        simp [hv]
      · rw [(Env.put_self ρ h.length w.heap.size newCap).2, Array.size_append, hzsize]
        simp only [List.size_toArray, List.length_map, hlen]
        rw [← Nat.add_mul]
        congr 1
        omega) d)
    simpa [ren, renAddr, renCap, Env.put] using this
  unfold askRoom
  split
  · exact RunsTo.bind (RunsTo.mark trivial rest)
  · exact RunsTo.bind (RunsTo.pure rest)
end
section
variable {P : Program} {ρ : Env} {h : List AObj} {FC : Frm} {w : World} {ft : Foot}
theorem srcCells_imp {s m : Nat} {y : Value} {K : List Value → Prop} (hK : srcCells s m y h K) : ∃ ys, K ys ∧ ∀ K' : List Value → Prop, K' ys → srcCells s m y h K' := by
  unfold srcCells at hK
  split at hK
  · exact ⟨[], hK.2, fun K' h' => ⟨hK.1, h'⟩⟩
  · by_cases hm : m = 0
    · exact ⟨[], hK.1 hm, fun K' h' => ⟨fun _ => h', fun hn => absurd hm hn⟩⟩
    replace hK := hK.2 hm
    split at hK
    · rename_i hb
      exact ⟨_, hK.2.2, fun K' h' => by unfold srcCells; simp only [hb]; exact ⟨fun e => absurd e hm, fun _ => ⟨hK.1, hK.2.1, h'⟩⟩⟩
    · exact hK.elim
  · exact hK.elim
theorem HRel.over (H : HRel ρ h FC w ft) {b : Nat} {cs ys : List Value} {s m : Nat} (hb : h[b]? = some (.cells cs true s)) (hs : 0 < s) (hm : m ≤ cs.length) (hys : ∀ v ∈ ys, VOk h.length v ∧ one v = true)
    {w' : World} {c' : Array Value} {ty : TypeId} {fr : Nat × Nat} (hw : w.heap[ρ.blk b]? = some (.cells c' ty fr)) (hle : m + ys.length ≤ c'.size)
    (h1 : w'.heap[ρ.blk b]? = some (.cells (wrArr c' m (ys.map (ren ρ))) ty fr)) (h2 : ∀ x, x ≠ ρ.blk b → w'.heap[x]? = w.heap[x]?) (h3 : w'.heap.size = w.heap.size) (h4 : w'.tape = w.tape) (h5 : w'.os = w.os) (h6 : w'.output = w.output) :
    Goes1 ρ h FC w ft (ρ.put h.length (ρ.blk b) (ρ.cap b)) (h.set b .dead ++ [.cells (cs.take m ++ ys) true s]) w' := by
  have hup := Env.put_upto ρ h.length (ρ.blk b) (ρ.cap b)
  have hnew := Env.put_self ρ h.length (ρ.blk b) (ρ.cap b)
  have hblt : b < h.length := (List.getElem?_eq_some_iff.1 hb).1
  have hB := H.obj b _ hb
  rw [hw] at hB
  obtain ⟨g1, g2, g3, g4⟩ := hB
  have get : ∀ {i o}, (h.set b .dead ++ [.cells (cs.take m ++ ys) true s])[i]? = some o → o.live = true → (i = h.length ∧ o = .cells (cs.take m ++ ys) true s) ∨ (h[i]? = some o ∧ i ≠ b ∧ i < h.length) := by
    intro i o hi hl
    rw [List.getElem?_append] at hi
    split at hi
    · rename_i hlt
      rw [List.length_set] at hlt
      rcases set_get hi with ⟨rfl, rfl, _⟩ | ⟨hne, hi⟩
      · cases hl
      · exact .inr ⟨hi, hne, hlt⟩
    · rename_i hge
      simp only [List.length_set] at hi hge
      have : i - h.length = 0 := by
        have := (List.getElem?_eq_some_iff.1 hi).1
        simp at this
        omega
      rw [this] at hi
      simp at hi
      exact .inl ⟨by omega, hi.symm⟩
  have blk : ∀ i, i < h.length → (ρ.put h.length (ρ.blk b) (ρ.cap b)).blk i = ρ.blk i := fun i hi => (hup i hi).1
  have ne : ∀ {i o}, h[i]? = some o → o.live = true → i ≠ b → ρ.blk i ≠ ρ.blk b := fun hi hl hne e => hne (H.inj _ _ _ _ hi hb hl rfl e)
  have hft : ft.ext w.heap.size w'.heap.size = ft := by rw [h3, Foot.ext_self]
  refine ⟨?_, hup, by simp, ⟨fun x _ hx => h2 x (fun e => hx (e ▸ H.wr b _ hb rfl)), by omega, h4, h5, h6⟩⟩
  rw [hft]
  refine ⟨fun i o hi => ?_, fun i j oi oj hi hj l1 l2 e => ?_, fun i o hi hl => ?_, fun i o hi hwr => ?_, fun x hx => by rw [h3]; exact H.lt x hx, H.sub, fun x o hx => ?_, H.keptW, fun i x hi => (by
    rw [List.getElem?_append] at hi
    split at hi
    · rcases set_get hi with ⟨rfl, e, _⟩ | ⟨_, hi⟩
      · cases e
      · rw [(hup i (List.getElem?_eq_some_iff.1 hi).1).1]
        exact H.tag i x hi
    · have := List.mem_of_getElem? hi
      simp at this)⟩
  · by_cases hl : o.live = true
    · have hlen : (h.set b AObj.dead ++ [AObj.cells (cs.take m ++ ys) true s]).length = h.length + 1 := by simp
      rw [hlen]
      rcases get hi hl with ⟨rfl, rfl⟩ | ⟨hi, hne, hlt⟩
      · rw [hnew.1, h1]
        refine (⟨fun k v hv => ?_, fun hz => absurd hz (by omega), fun hz => ?_, g4⟩ : CellsRel (h.length + 1) (ρ.put h.length (ρ.blk b) (ρ.cap b)) h.length (cs.take m ++ ys) true s (wrArr c' m (ys.map (ren ρ))) fr)
        · rw [List.getElem?_append] at hv
          rw [wrArr_get _ _ _ _ (by simpa using hle)]
          simp only [List.length_take, Nat.min_eq_left hm, List.length_map] at hv ⊢
          split at hv
          · rename_i hk
            rw [if_neg (by omega)]
            rw [List.getElem?_take, if_pos hk] at hv
            obtain ⟨a1, a2, a3⟩ := (g1 k v hv).resolve_left (fun x => by cases x.2)
            exact .inr ⟨VOk.mono (by omega) _ a1, a2, by rw [a3, ren_congr hup _ a1]⟩
          · rename_i hk
            have hk2 := (List.getElem?_eq_some_iff.1 hv).1
            rw [if_pos (by omega)]
            obtain ⟨a1, a2⟩ := hys v (List.mem_of_getElem? hv)
            exact .inr ⟨VOk.mono (by omega) _ a1, a2, by rw [List.getElem?_map, hv, ren_congr hup _ a1]; rfl⟩
        · rw [wrArr_size, hnew.2]
          refine ⟨(g3 hz).1, ?_⟩
          simp only [List.length_append, List.length_take, Nat.min_eq_left hm]
          omega
      · rw [blk i hlt, h2 _ (ne hi hl hne)]
        exact (H.obj i o hi).congr hup (by omega) hlt
    · cases o <;> first | trivial | exact absurd rfl hl
  · rcases get hi l1 with ⟨ei, -⟩ | ⟨hi2, ni, li⟩
    · rcases get hj l2 with ⟨ej, -⟩ | ⟨hj2, nj, lj⟩
      · omega
      · subst ei
        rw [hnew.1, blk j lj] at e
        exact absurd e.symm (ne hj2 l2 nj)
    · rcases get hj l2 with ⟨ej, -⟩ | ⟨hj2, nj, lj⟩
      · subst ej
        rw [hnew.1, blk i li] at e
        exact absurd e (ne hi2 l1 ni)
      · rw [blk i li, blk j lj] at e
        exact H.inj i j oi oj hi2 hj2 l1 l2 e
  · rcases get hi hl with ⟨rfl, rfl⟩ | ⟨hi, hne, hlt⟩
    · rw [hnew.1]; exact H.rd b _ hb rfl
    · rw [blk i hlt]; exact H.rd i o hi hl
  · have hl : o.live = true := by cases o <;> first | rfl | cases hwr
    rcases get hi hl with ⟨rfl, rfl⟩ | ⟨hi, hne, hlt⟩
    · rw [hnew.1]; exact H.wr b _ hb rfl
    · rw [blk i hlt]; exact H.wr i o hi hwr
  · obtain ⟨a1, a2, a3⟩ := H.kept x o hx
    refine ⟨by rw [h2 x (fun e => a3 b _ hb rfl e.symm)]; exact a1, a2, fun a oa ha hwr => ?_⟩
    have hl : oa.live = true := by cases oa <;> first | rfl | cases hwr
    rcases get ha hl with ⟨rfl, rfl⟩ | ⟨ha, hne, hlt⟩
    · rw [hnew.1]; exact a3 b _ hb rfl
    · rw [blk a hlt]; exact a3 a oa ha hwr
theorem app_fits {X : Event → Prop} {t u e e2 ty : TypeId} {s n m C : Nat} {i : TypeInfo} {B : Option Addr} {Y : Value} {ys : List Value} {Q : Value → World → Prop}
    (hu : P.underlying t = some (.slice e)) (hu2 : P.underlying u = some (.slice e2)) (hi : P.info? e = some i) (hs : i.size = s)
    (lenY : ∀ {R : Nat → World → Prop}, R m w → RunsTo P X (Builtin.lenOf Y) w R) (hfirst : ∀ {R : Array Value → World → Prop}, R ⟨ys⟩ w → RunsTo P X (Builtin.firstCells s m Y) w R) (hle : n + m ≤ C)
    (hst : ∀ a, B = some a → RunsTo P X (storeCells (a.add (n * s)) ys) w fun _ w' => Q (.slice B (n + m) C) w') (hno : B = none → Q (.slice B (n + m) C) w) :
    RunsTo P X (Builtin.append_ #[t, u] ty #[.slice B n C, Y]) w Q := by
  unfold Builtin.append_
  simp only [List.getElem?_toArray, List.getElem?_cons_zero, List.getElem?_cons_succ]
  refine RunsTo.bind (RunsTo.underlying hu ?_)
  simp only
  refine RunsTo.bind (RunsTo.sizeOf hi ?_)
  refine RunsTo.bind (RunsTo.underlying hu2 (RunsTo.bind (RunsTo.pure ?_)))
  simp only [Bool.false_eq_true, if_false, Bool.not_false, if_true]
  refine RunsTo.bind (lenY ?_)
  rw [if_pos hle, hs]
  refine RunsTo.bind (hfirst ?_)
  cases B with
  | none => exact RunsTo.pure (hno rfl)
  | some a => exact RunsTo.bind ((hst a rfl).mono fun _ _ hq => RunsTo.pure hq)
theorem app_grows {X : Event → Prop} {t u e e2 ty : TypeId} {s n m C : Nat} {i : TypeInfo} {B : Option Addr} {Y : Value} {Q : Value → World → Prop}
    (hu : P.underlying t = some (.slice e)) (hu2 : P.underlying u = some (.slice e2)) (hi : P.info? e = some i) (hs : i.size = s) (hb : 0 < i.bytes) (hb2 : i.bytes ≤ 1024) (hroom : n + m ≤ 1073741824)
    (lenY : ∀ {R : Nat → World → Prop}, R m w → RunsTo P X (Builtin.lenOf Y) w R) (hlt : C < n + m)
    (hg : RunsTo P X (do
      let newCap ← choose (.appendCap (n + m) C e)
      askRoom (newCap * (← typeInfo e).bytes)
      let old ← Builtin.firstCells s n (.slice B n C)
      let new ← Builtin.firstCells s m Y
      let rest := Builtin.zeroCells (← zeroValue e).cells (newCap - (n + m))
      pure (.slice (some (← newRow e (old ++ new ++ rest))) (n + m) newCap)) w Q) :
    RunsTo P X (Builtin.append_ #[t, u] ty #[.slice B n C, Y]) w Q := by
  unfold Builtin.append_
  simp only [List.getElem?_toArray, List.getElem?_cons_zero, List.getElem?_cons_succ]
  refine RunsTo.bind (RunsTo.underlying hu ?_)
  simp only
  refine RunsTo.bind (RunsTo.sizeOf hi ?_)
  refine RunsTo.bind (RunsTo.underlying hu2 (RunsTo.bind (RunsTo.pure ?_)))
  simp only [Bool.false_eq_true, if_false, Bool.not_false, if_true, false_or]
  refine RunsTo.bind (lenY ?_)
  rw [if_neg (by omega), hs]
  refine RunsTo.bind (RunsTo.typeInfo hi ?_)
  rw [if_neg (by omega)]
  refine RunsTo.bind (RunsTo.typeInfo hi ?_)
  have hnc := nextcap_le (n + m) C hlt
  have : Builtin.nextslicecap (n + m) C * i.bytes ≤ (2 * (n + m) + 1000) * 1024 := Nat.mul_le_mul hnc hb2
  rw [if_neg (by omega)]
  exact hg
theorem sound_append (H : HRel ρ h FC w ft) {t u e e2 ty : TypeId} {g : Bool} {s : Nat} {z : List Value} {i : TypeInfo} {x y : Value} {K : Value → List AObj → Prop}
    (hu : P.underlying t = some (.slice e)) (hu2 : P.underlying u = some (.slice e2)) (hz : zc P e = some z) (ht : tk P e = some (g, s)) (hi : P.info? e = some i) (hzs : z.length = s) (hs : 0 < s) (hby0 : 0 < i.bytes) (hby : i.bytes ≤ 1024)
    (hx : VOk h.length x) (hK : aApp s x y h K)
    {Q : Value → World → Prop} (hQ : ∀ v h' ρ' w', K v h' → VOk h'.length v → Goes1 ρ h FC w ft ρ' h' w' → Q (ren ρ' v) w') :
    RunsTo P (EvOk ft) (Builtin.append_ #[t, u] ty #[ren ρ x, ren ρ y]) w Q := by
  obtain ⟨i', zv, hi', hzz, hl, hpl⟩ := zc_some hz
  obtain ⟨_, ti, _, hti, _, hss⟩ := tk_some ht
  have : i' = i := by rw [hi] at hi'; cases hi'; rfl
  subst this
  have : ti = i' := by rw [hi] at hti; cases hti; rfl
  subst this
  have hzv : zv.cells.size = s := by rw [← hzs, ← hl]; simp
  unfold aApp at hK
  split at hK
  · rename_i base n c yb m yc
    obtain ⟨hroom, hsrc⟩ := hK
    unfold room at hroom
    obtain ⟨ys, hys, himp⟩ := srcCells_imp hsrc
    have first : ∀ d, ∀ {R : Array Value → World → Prop}, (ys.length = m * s → (∀ v ∈ ys, VOk h.length v ∧ one v = true) → R ⟨ys.map (ren ρ)⟩ { w with drawn := d }) → RunsTo P (EvOk ft) (Builtin.firstCells s m (ren ρ (.slice yb m yc))) { w with drawn := d } R := by
      intro d R hR
      refine srcCells_run (H.of_drawn d) (himp (fun zs => zs = ys) rfl) fun zs hzs h1 h2 => ?_
      subst hzs
      exact hR h1 h2
    obtain ⟨hyl, hyok⟩ : ys.length = m * s ∧ ∀ v ∈ ys, VOk h.length v ∧ one v = true := by
      obtain ⟨_, _, _, _, _, hf⟩ := first w.drawn (R := fun _ _ => ys.length = m * s ∧ ∀ v ∈ ys, VOk h.length v ∧ one v = true) (fun h1 h2 => ⟨h1, h2⟩) #[] (by simp)
      exact hf
    have lenY : ∀ {R : Nat → World → Prop}, R m w → RunsTo P (EvOk ft) (Builtin.lenOf (ren ρ (.slice yb m yc))) w R := by
      intro R hR
      cases yb <;> simp only [ren, Builtin.lenOf] <;> exact RunsTo.pure hR
    have first0 : ∀ {R : Array Value → World → Prop}, R ⟨ys.map (ren ρ)⟩ w → RunsTo P (EvOk ft) (Builtin.firstCells s m (ren ρ (.slice yb m yc))) w R := fun hR => first w.drawn fun _ _ => hR
    have okS : ∀ {h' : List AObj} {n' c' : Nat}, h.length < h'.length → VOk h'.length (.slice (some ⟨h.length, 0, none⟩) n' c') := fun hl => by simp only [VOk, AddrOk]; exact ⟨hl, trivial⟩
    split at hys
    · -- nil
      obtain ⟨⟨rfl, rfl⟩, h1, h2⟩ := hys
      simp only [ren]
      by_cases hm : m = 0
      · subst hm
        refine app_fits hu hu2 hi hss lenY first0 (by omega) (fun a ha => by cases ha) (fun _ => ?_)
        have := hQ _ _ _ _ (h1 rfl) (by simp [VOk]) (Goes1.refl H)
        simpa [ren] using this
      · refine app_grows hu hu2 hi hss hby0 hby (by omega) lenY (by omega) ?_
        refine grow_run H hi hzz hzv hs (l := ys) (old := 0) hyok (by rw [hyl]; simp) (fun ρ' w' G => ?_) _ _ (fun d R hR => ?_) (fun d R hR => first d fun _ _ => by simpa using hR) _
        · have := hQ _ _ _ _ (h2 hm) (okS (by simp)) G
          simpa using this
        · simp only [Builtin.firstCells]
          exact RunsTo.pure (by simpa using hR)
    · rename_i b o
      split at hys
      · rename_i cs wr sz hb
        obtain ⟨⟨g1, gkn⟩, g2, g3⟩ := hys
        have hrd := H.rd b _ hb rfl
        simp only [ren, renAddr]
        -- the old elements
        have oldRun : ∀ d, ∀ {R : Array Value → World → Prop} (C : Nat), R ⟨((cs.drop o).take (n * s)).map (ren ρ)⟩ { w with drawn := d } → RunsTo P (EvOk ft) (Builtin.firstCells s n (.slice (some ⟨ρ.blk b, o, none⟩) n C)) { w with drawn := d } R := by
          intro d R C hR
          simp only [Builtin.firstCells]
          refine RunsTo.loadCells (((cs.drop o).take (n * s)).map (ren ρ)) (by simp; omega) (fun j v hv => ?_) hR
          rw [List.getElem?_map] at hv
          obtain ⟨u, hu, rfl⟩ := Option.map_eq_some_iff.1 hv
          rw [List.getElem?_take] at hu
          split at hu
          · rw [List.getElem?_drop] at hu
            rw [add_mk]
            exact ⟨((H.of_drawn d).cell hb hu (.inr (kn_get gkn (by rw [List.getElem?_take, if_pos (by assumption), List.getElem?_drop]; exact hu)))).1, evOk_read hrd⟩
          · cases hu
        have oldOk : ∀ v ∈ (cs.drop o).take (n * s), VOk h.length v ∧ one v = true := by
          intro v hv
          obtain ⟨k, hk⟩ := List.getElem?_of_mem hv
          have hk1 := kn_get gkn hk
          rw [List.getElem?_take] at hk
          split at hk
          · rw [List.getElem?_drop] at hk
            exact (H.cell hb hk (.inr hk1)).2
          · cases hk
        have oldLen : ((cs.drop o).take (n * s)).length = n * s := by simp; omega
        have catOk : ∀ v ∈ (cs.drop o).take (n * s) ++ ys, VOk h.length v ∧ one v = true := by
          intro v hv
          rcases List.mem_append.1 hv with hv | hv
          · exact oldOk v hv
          · exact hyok v hv
        have catLen : ((cs.drop o).take (n * s) ++ ys).length = (n + m) * s := by rw [List.length_append, oldLen, hyl, Nat.add_mul]
        have catTake : ((cs.drop o).take (n * s) ++ ys).take (n * s) = (cs.drop o).take (n * s) := by rw [List.take_append_of_le_length (by omega), List.take_of_length_le (by omega)]
        have catDrop : ((cs.drop o).take (n * s) ++ ys).drop (n * s) = ys := by rw [List.drop_append_of_le_length (by omega), List.drop_eq_nil_of_le (by omega), List.nil_append]
        by_cases hc : c < fz
        · obtain ⟨k1, k2⟩ := g2 hc
          have hren : renCap ρ b c = c := by unfold renCap; rw [if_neg (by omega)]
          rw [hren]
          by_cases hle : n + m ≤ c
          · obtain ⟨rfl, k3, k4⟩ := k1 hle
            refine app_fits hu hu2 hi hss lenY first0 hle (fun a ha => ?_) (fun ha => by cases ha)
            cases ha
            rw [add_mk]
            refine sound_storeCells ys h w cs (o + n * s) 0 H hb (by rw [hyl]; rw [Nat.add_mul] at k3; omega) hyok (fun w' H' st hz => ?_)
            have := hQ _ _ ρ w' k4 (by simp only [VOk, AddrOk, List.length_set] at hx ⊢; exact hx) ⟨by rw [hz, Foot.ext_self]; exact H', Env.upto_refl _ _, by simp, st⟩
            simpa [ren, renAddr, hren] using this
          · refine app_grows hu hu2 hi hss hby0 hby hroom lenY (by omega) ?_
            refine grow_run H hi hzz hzv hs (l := (cs.drop o).take (n * s) ++ ys) (old := n) catOk catLen (fun ρ' w' G => hQ _ _ _ _ (k2 (by omega)) (okS (by simp)) G) _ _ (fun d R hR => oldRun d c (by rw [catTake] at hR; exact hR)) (fun d R hR => first d fun _ _ => by rw [catDrop] at hR; exact hR) _
        · obtain ⟨rfl, rfl, rfl, rfl, k4⟩ := g3 (by omega)
          have hren : renCap ρ b fz = ρ.cap b := by simp [renCap]
          rw [hren]
          have hcat0 : (cs.drop 0).take (n * sz) ++ ys = cs.take (n * sz) ++ ys := by simp
          by_cases hle : n + m ≤ ρ.cap b
          · refine app_fits hu hu2 hi hss lenY first0 hle (fun a ha => ?_) (fun ha => by cases ha)
            cases ha
            rw [add_mk]
            have hB := H.obj b _ hb
            match hw : w.heap[ρ.blk b]?, hB with
            | some (.cells c' cty fr), hB =>
              obtain ⟨q1, q2, q3, q4⟩ := hB
              have hcap : c'.size = ρ.cap b * sz := (q3 (by omega)).1
              have hfit : n * sz + ys.length ≤ c'.size := by
                rw [hyl, hcap, ← Nat.add_mul]
                exact Nat.mul_le_mul_right _ hle
              refine RunsTo.storeCells (ty := cty) (fr := fr) (q4 rfl) (fun _ => evOk_write hrd (H.wr b _ hb rfl)) (ys.map (ren ρ)) 0 w c' hw (by simpa using hfit) (fun v hv => ?_) (fun w' r1 r2 r3 r4 r5 r6 => ?_)
              · obtain ⟨u, hu, rfl⟩ := List.mem_map.1 hv
                rw [one_ren]; exact (hyok u hu).2
              · have G := H.over (m := n * sz) hb hs (by omega) hyok hw hfit (by simpa using r1) r2 r3 r4 r5 r6
                have := hQ _ _ _ _ k4 (okS (by simp)) G
                simpa [ren, renAddr, renCap, Env.put] using this
          · refine app_grows hu hu2 hi hss hby0 hby hroom lenY (by omega) ?_
            have H₁ := H.kill b
            have hlen₁ : (h.set b .dead).length = h.length := by simp
            refine grow_run H₁ hi hzz hzv hs (l := cs.take (n * sz) ++ ys) (old := n) (by rw [hlen₁, ← hcat0]; exact catOk) (by rw [← hcat0]; exact catLen) (fun ρ' w' G => ?_) _ _ (fun d R hR => oldRun d _ (by rw [← hcat0, catTake] at hR; exact hR)) (fun d R hR => first d fun _ _ => by rw [← hcat0, catDrop] at hR; exact hR) _
            rw [hlen₁]
            refine hQ _ _ _ _ k4 (okS (by simp)) ?_
            obtain ⟨e1, e2, e3, e4⟩ := G
            rw [hlen₁] at e2 e3
            exact ⟨e1, e2, e3, e4⟩
      · exact hys.elim
    · exact hys.elim
  · exact hK.elim
end
section
variable {P : Program} {ρ : Env} {h : List AObj} {FC : Frm} {w : World} {ft : Foot}
theorem sound_slice3 {X : Event → Prop} (H : HRel ρ h FC w ft) {t e : TypeId} {x hi mx : Value} {K : Value → Prop} {i : TypeInfo} (hu : P.underlying t = some (.slice e)) (hi0 : P.info? e = some i) (hx : VOk h.length x) (hK : aSl3 x hi mx h K)
    {Q : Value → World → Prop} (hQ : ∀ v, K v → VOk h.length v → Q (ren ρ v) w) : RunsTo P X (Instr.slice t (ren ρ x) none (some (ren ρ hi)) (some (ren ρ mx))) w Q := by
  unfold aSl3 at hK
  split at hK
  · rename_i base n c k1 a k2 m
    obtain ⟨h1, ⟨h2, hr⟩, h3, h5⟩ := hK
    unfold room at hr
    have main : ∀ C, m.toNat ≤ C → m ≤ C → RunsTo P X (Instr.slice t (.slice (base.map (renAddr ρ)) n C) none (some (.int k1 a)) (some (.int k2 m))) w Q := by
      intro C hC hC'
      unfold Instr.slice
      refine RunsTo.bind (RunsTo.underlying hu ?_)
      simp only
      unfold Instr.sliceBounds
      simp only [Instr.sliceBound, asIntOf]
      refine RunsTo.bind (RunsTo.bind (RunsTo.bind (RunsTo.pure ?_)))
      simp only
      rw [if_pos ⟨by omega, hC'⟩]
      refine RunsTo.pure (RunsTo.bind (RunsTo.bind (RunsTo.pure ?_)))
      simp only
      rw [if_pos ⟨by omega, by omega⟩]
      refine RunsTo.pure (RunsTo.bind (RunsTo.pure (RunsTo.pure ?_)))
      simp only
      refine RunsTo.bind (RunsTo.sizeOf hi0 (RunsTo.pure ?_))
      have e1 : (if m.toNat = 0 then base.map (renAddr ρ) else (base.map (renAddr ρ)).map fun x => x.add (0 * i.size)) = base.map (renAddr ρ) := by
        split
        · rfl
        · cases base <;> simp [Addr.add]
      rw [e1]
      have := hQ _ h5 (by cases base <;> simp only [VOk] at hx ⊢; exact hx)
      have hfz : ¬ fz ≤ m.toNat := by unfold fz; omega
      cases base <;> simpa [ren, renCap, hfz] using this
    by_cases hc : c < fz
    · have hm := h3.1 hc
      have hren : ∀ b, renCap ρ b c = c := by intro b; unfold renCap; rw [if_neg (by omega)]
      have := main c (by omega) hm
      cases base <;> simpa [ren, hren] using this
    · have hm := h3.2 (by omega)
      split at hm
      · rename_i b o
        split at hm
        · rename_i cs wr sz hb
          obtain ⟨rfl, q1, rfl, q2⟩ := hm
          have hB := H.obj b _ hb
          match hw : w.heap[ρ.blk b]?, hB with
          | some (.cells c' cty fr), hB =>
            obtain ⟨_, _, p3, _⟩ := hB
            have h6 := p3 q1
            have : m.toNat * sz ≤ ρ.cap b * sz := by omega
            have h7 : m.toNat ≤ ρ.cap b := Nat.le_of_mul_le_mul_right this (by omega)
            have := main (ρ.cap b) h7 (by omega)
            simpa [ren, renCap] using this
        · exact hm.elim
      · exact hm.elim
  · exact hK.elim
theorem sound_len {X : Event → Prop} {t : TypeId} {e : TypeId} {n : Nat} {x : Value} {K : Value → Prop} {ty : TypeId} (hu : P.underlying t = some (.slice e)) (hK : aLenS x K)
    {Q : Value → World → Prop} (hQ : ∀ v, K v → VOk n v → Q (ren ρ v) w) : RunsTo P X (Builtin.len_ #[t] ty #[ren ρ x]) w Q := by
  unfold aLenS at hK
  split at hK
  · rename_i b m c
    unfold Builtin.len_
    simp only [List.getElem?_toArray, List.getElem?_cons_zero]
    refine RunsTo.bind (RunsTo.underlying hu ?_)
    have := hQ _ hK (by simp [VOk])
    cases b <;> simp only [ren] <;> exact RunsTo.pure (by simpa [ren, vint, goInt] using this)
  · exact hK.elim
theorem sound_lenStr {X : Event → Prop} {t : TypeId} {n : Nat} {x : Value} {K : Value → Prop} {ty : TypeId} (hu : P.underlying t = some .string) (hK : aLenStr x K)
    {Q : Value → World → Prop} (hQ : ∀ v, K v → VOk n v → Q (ren ρ v) w) : RunsTo P X (Builtin.len_ #[t] ty #[ren ρ x]) w Q := by
  unfold aLenStr at hK
  split at hK
  · unfold Builtin.len_
    simp only [List.getElem?_toArray, List.getElem?_cons_zero]
    refine RunsTo.bind (RunsTo.underlying hu ?_)
    have := hQ _ hK (by simp [VOk])
    simp only [ren]
    exact RunsTo.pure (by simpa [ren, vint, goInt] using this)
  · exact hK.elim
theorem sound_lenArr {X : Event → Prop} {t e : TypeId} {n m : Nat} {x : Value} {K : Value → Prop} {ty : TypeId} (hu : P.underlying t = some (.array m e)) (hK : K (vint m))
    {Q : Value → World → Prop} (hQ : ∀ v, K v → VOk n v → Q (ren ρ v) w) : RunsTo P X (Builtin.len_ #[t] ty #[x]) w Q := by
  unfold Builtin.len_
  simp only [List.getElem?_toArray, List.getElem?_cons_zero]
  refine RunsTo.bind (RunsTo.underlying hu ?_)
  have := hQ _ hK (by simp [VOk])
  exact RunsTo.pure (by simpa [ren, vint, goInt] using this)
theorem HRel.getMap (H : HRel ρ h FC w ft) {b : Nat} {es : List (Value × Value)} {wr : Bool} (hb : h[b]? = some (.map es wr)) :
    ∃ es' clock, w.heap[ρ.blk b]? = some (.map es' clock) ∧ MapRel h.length ρ es es' := by
  have hB := H.obj b _ hb
  match hw : w.heap[ρ.blk b]?, hB with
  | some (.map es' clock), hB => exact ⟨es', clock, rfl, hB.1⟩
theorem HRel.getMapC (H : HRel ρ h FC w ft) {b : Nat} {es : List (Value × Value)} {wr : Bool} (hb : h[b]? = some (.map es wr)) :
    ∃ es', w.heap[ρ.blk b]? = some (.map es' es.length) ∧ MapRel h.length ρ es es' := by
  have hB := H.obj b _ hb
  match hw : w.heap[ρ.blk b]?, hB with
  | some (.map es' clock), hB =>
    obtain ⟨h1, rfl⟩ := hB
    exact ⟨es', rfl, h1⟩
theorem HRel.getIter (H : HRel ρ h FC w ft) {b m k : Nat} {sn : List Nat} (hb : h[b]? = some (.iter m k sn)) :
    w.heap[ρ.blk b]? = some (.mapIter (some (ρ.blk m)) k ⟨sn⟩ k) ∧ m < h.length := by
  have hB := H.obj b _ hb
  match hw : w.heap[ρ.blk b]?, hB with
  | some (.mapIter m' since ⟨seen⟩ last), hB =>
    obtain ⟨h0, rfl, rfl, rfl, h1⟩ := hB
    simp only at h1
    subst h1
    exact ⟨rfl, h0⟩
theorem sound_lenM (H : HRel ρ h FC w ft) {t k e : TypeId} {n : Nat} {x : Value} {K : Value → Prop} {ty : TypeId} (hu : P.underlying t = some (.map k e)) (hK : aLenM x h K)
    {Q : Value → World → Prop} (hQ : ∀ v, K v → VOk n v → Q (ren ρ v) w) : RunsTo P (EvOk ft) (Builtin.len_ #[t] ty #[ren ρ x]) w Q := by
  unfold aLenM at hK
  split at hK
  · unfold Builtin.len_
    simp only [List.getElem?_toArray, List.getElem?_cons_zero]
    refine RunsTo.bind (RunsTo.underlying hu ?_)
    have := hQ _ hK (by simp [VOk])
    simp only [ren]
    exact RunsTo.pure (by simpa [ren, vint, goInt] using this)
  · rename_i b
    split at hK
    · rename_i es wr hb
      obtain ⟨es', clock, hw, hm⟩ := H.getMap hb
      have := hQ _ hK (by simp [VOk])
      unfold Builtin.len_
      simp only [List.getElem?_toArray, List.getElem?_cons_zero]
      refine RunsTo.bind (RunsTo.underlying hu ?_)
      simp only [ren]
      refine RunsTo.bind (RunsTo.getObj hw (fun _ _ _ e => by cases e) (evOk_get (H.rd b _ hb rfl)) ?_)
      exact RunsTo.pure (by simpa [ren, vint, goInt, hm.1] using this)
    · exact hK.elim
  · exact hK.elim
theorem minmax_run {X : Event → Prop} {n : Nat} (mx : Bool) : ∀ (l : List Value) (x : Value) {K : Value → Prop}, (match mx with | true => aMax x l K | false => aMin x l K) → VOk n x →
    ∀ {Q : Value → World → Prop}, (∀ v, K v → VOk n v → Q (ren ρ v) w) → RunsTo P X ((l.map (ren ρ)).foldlM (match mx with | true => Builtin.max2 | false => Builtin.min2) (ren ρ x)) w Q
  | [], x, K, hK, hx, Q, hQ => by
    simp only [List.map_nil, List.foldlM_nil]
    cases mx <;> exact RunsTo.pure (hQ x (by simpa [aMax, aMin] using hK) hx)
  | y :: l, x, K, hK, hx, Q, hQ => by
    simp only [List.map_cons, List.foldlM_cons]
    cases mx with
    | true =>
      simp only [aMax] at hK
      split at hK
      · rename_i k a k' b
        simp only [ren, Builtin.max2]
        refine RunsTo.bind (RunsTo.pure ?_)
        have := minmax_run (X := X) true l (.int k (if b > a then b else a)) hK (by simp [VOk]) hQ
        simpa [ren] using this
      · exact hK.elim
    | false =>
      simp only [aMin] at hK
      split at hK
      · rename_i k a k' b
        simp only [ren, Builtin.min2]
        refine RunsTo.bind (RunsTo.pure ?_)
        have := minmax_run (X := X) false l (.int k (if b < a then b else a)) hK (by simp [VOk]) hQ
        simpa [ren] using this
      · exact hK.elim
def EntL (n : Nat) (ρ : Env) : List (Value × Value) → List MapEntry → Prop
  | [], [] => True
  | (k, v) :: es, e :: l => (VOk 0 k ∧ VOk n v ∧ e.key = k ∧ e.val = ren ρ v) ∧ EntL n ρ es l
  | _, _ => False
theorem MapRel.ent {n : Nat} {es : List (Value × Value)} {es' : Array MapEntry} (hm : MapRel n ρ es es') : ∀ (i : Nat) (k v : Value), es[i]? = some (k, v) → VOk 0 k ∧ VOk n v ∧ ∃ e : MapEntry, es'.toList[i]? = some e ∧ e.key = k ∧ e.val = ren ρ v := fun i k v hk => by
  obtain ⟨a1, a2, e, a3, a4, a5, _⟩ := hm.2 i k v hk
  exact ⟨a1, a2, e, by simpa using a3, a4, a5⟩
theorem EntL_of {n : Nat} : ∀ (es : List (Value × Value)) (l : List MapEntry), l.length = es.length →
    (∀ (i : Nat) (k v : Value), es[i]? = some (k, v) → VOk 0 k ∧ VOk n v ∧ ∃ e : MapEntry, l[i]? = some e ∧ e.key = k ∧ e.val = ren ρ v) → EntL n ρ es l
  | [], [], _, _ => trivial
  | [], _ :: _, h, _ => by simp at h
  | _ :: _, [], h, _ => by simp at h
  | (k, v) :: es, e :: l, h, hi => by
    obtain ⟨a1, a2, e', a3, a4, a5⟩ := hi 0 k v rfl
    simp only [List.getElem?_cons_zero, Option.some.injEq] at a3
    subst a3
    exact ⟨⟨a1, a2, a4, a5⟩, EntL_of es l (by simpa using h) fun i k v hk => by simpa using hi (i + 1) k v (by simpa using hk)⟩
theorem ren_int {v : Value} {k : IntKind} {n : Int} (h : ren ρ v = .int k n) : v = .int k n := by
  cases v with
  | pointer x => cases x <;> simp [ren] at h
  | slice x _ _ => cases x <;> simp [ren] at h
  | map x => cases x <;> simp [ren] at h
  | chan x => cases x <;> simp [ren] at h
  | int _ _ => simpa [ren] using h
  | _ => simp [ren] at h
theorem ren_string {v : Value} {s : ByteArray} (h : ren ρ v = .string s) : v = .string s := by
  cases v with
  | pointer x => cases x <;> simp [ren] at h
  | slice x _ _ => cases x <;> simp [ren] at h
  | map x => cases x <;> simp [ren] at h
  | chan x => cases x <;> simp [ren] at h
  | string _ => simpa [ren] using h
  | _ => simp [ren] at h
theorem ren_bool {v : Value} {s : Bool} (h : ren ρ v = .bool s) : v = .bool s := by
  cases v with
  | pointer x => cases x <;> simp [ren] at h
  | slice x _ _ => cases x <;> simp [ren] at h
  | map x => cases x <;> simp [ren] at h
  | chan x => cases x <;> simp [ren] at h
  | bool _ => simpa [ren] using h
  | _ => simp [ren] at h
theorem sameNow_teq {d : TypeDesc} {kt : TypeId} {k a : Value} {b b' : Bool} (hu : P.underlying kt = some d) (h1 : Instr.sameNow d (ren ρ k) a = some b) (h2 : teq P 10000 kt k a = some b') : b = b' := by
  rw [show (10000 : Nat) = 9999 + 1 from rfl] at h2
  unfold teq at h2
  simp only [hu] at h2
  unfold Instr.sameNow at h1
  split at h1
  · rename_i hk
    have := ren_int hk
    subst this
    split at h1
    · rename_i e
      subst e
      simp at h1 h2
      rw [← h1, ← h2]
    · cases h1
  · rename_i hk
    have := ren_string hk
    subst this
    simp at h1 h2
    rw [← h1, ← h2]
  · rename_i hk
    have := ren_bool hk
    subst this
    simp at h1 h2
    rw [← h1, ← h2]
  · cases h1
theorem findNow_mfind {n : Nat} {d : TypeDesc} {kt : TypeId} {k : Value} (hu : P.underlying kt = some d) : ∀ (es : List (Value × Value)) (l : List MapEntry) (i : Nat) (x : Option (Nat × Value)) (r : Option Value),
    EntL n ρ es l → Instr.findNow d (ren ρ k) l i = some x → mfind P kt k es = some r → x.map (·.2) = r.map (ren ρ)
  | [], [], i, x, r, _, h1, h2 => by
    simp only [Instr.findNow, Option.some.injEq] at h1
    simp only [mfind, Option.some.injEq] at h2
    subst h1; subst h2; rfl
  | [], _ :: _, _, _, _, h, _, _ => h.elim
  | _ :: _, [], _, _, _, h, _, _ => h.elim
  | (a, v) :: es, e :: l, i, x, r, h, h1, h2 => by
    obtain ⟨⟨_, _, a3, a4⟩, hr⟩ := h
    simp only [Instr.findNow] at h1
    simp only [mfind] at h2
    split at h1
    · rename_i hs
      rw [a3] at hs
      split at h2
      · simp only [Option.some.injEq] at h1 h2
        subst h1; subst h2
        simp [a4]
      · rename_i ht
        have := sameNow_teq hu hs ht
        cases this
      · cases h2
    · rename_i hs
      rw [a3] at hs
      split at h2
      · rename_i ht
        have := sameNow_teq hu hs ht
        cases this
      · exact findNow_mfind hu es l (i + 1) x r hr h1 h2
      · cases h2
    · cases h1
theorem findAsking_run {X : Event → Prop} {n : Nat} {kt : TypeId} {k : Value} : ∀ (es : List (Value × Value)) (l : List MapEntry) (i : Nat) (r : Option Value),
    EntL n ρ es l → mfind P kt k es = some r → ∀ {Q : Option (Nat × Value) → World → Prop}, (∀ x, x.map (·.2) = r.map (ren ρ) → Q x w) → RunsTo P X (Instr.findAsking kt (ren ρ k) l i) w Q
  | [], [], i, r, _, h2, Q, hQ => by
    simp only [mfind, Option.some.injEq] at h2
    subst h2
    simp only [Instr.findAsking]
    exact RunsTo.pure (hQ _ rfl)
  | [], _ :: _, _, _, h, _, _, _ => h.elim
  | _ :: _, [], _, _, h, _, _, _ => h.elim
  | (a, v) :: es, e :: l, i, r, h, h2, Q, hQ => by
    obtain ⟨⟨a1, _, a3, a4⟩, hr⟩ := h
    simp only [mfind] at h2
    simp only [Instr.findAsking]
    have hkey : e.key = ren ρ a := by rw [a3, ren0 a a1]
    rw [hkey]
    split at h2
    · rename_i ht
      simp only [Option.some.injEq] at h2
      subst h2
      refine RunsTo.bind ?_
      unfold Op.equal
      exact teq_run 10000 kt k a true ht (by simp only [if_true]; exact RunsTo.pure (hQ _ (by simp [a4])))
    · rename_i ht
      refine RunsTo.bind ?_
      unfold Op.equal
      exact teq_run 10000 kt k a false ht (by simp only [Bool.false_eq_true, if_false]; exact findAsking_run es l (i + 1) r hr h2 hQ)
    · cases h2
end
section
variable {P : Program} {X : Event → Prop} {w : World} {ρ : Env}
theorem RunsTo.forUnit {α : Type} {f : α → PUnit → Sem (ForInStep PUnit)} {Q : PUnit → World → Prop} : ∀ (l : List α), (∀ a ∈ l, ∀ {R : ForInStep PUnit → World → Prop}, R (.yield ⟨⟩) w → RunsTo P X (f a ⟨⟩) w R) → Q ⟨⟩ w → RunsTo P X (forIn l ⟨⟩ f) w Q
  | [], _, hQ => by simp only [forIn]; exact RunsTo.pure hQ
  | a :: l, hf, hQ => by
    rw [List.forIn_cons]
    exact RunsTo.bind (hf a (by simp) (RunsTo.forUnit l (fun b hb => hf b (by simp [hb])) hQ))
theorem kOk_run {empty : Bool} : ∀ (n : Nat) (t : TypeId) (v : Value), kOk P n t v = true → ∀ {Q : Unit → World → Prop}, Q () w → RunsTo P X (Instr.checkKey empty n t (ren ρ v)) w Q
  | 0, _, _, h, _, _ => by cases h
  | n + 1, t, v, h, Q, hQ => by
    simp only [kOk] at h
    unfold Instr.checkKey
    split at h
    · rename_i len elem cs hu
      split at h
      · rename_i g s ht
        obtain ⟨_, i, _, hi, _, hs⟩ := tk_some ht
        refine RunsTo.bind (RunsTo.underlying hu ?_)
        simp only [ren, renA_mk]
        rw [Std.Legacy.Range.forIn_eq_forIn_range']
        refine RunsTo.bind (RunsTo.forUnit _ (fun a ha R hR => ?_) (RunsTo.pure hQ))
        have hlt : a < len := by
          simp only [Std.Legacy.Range.size, List.mem_range'] at ha
          omega
        have hka := (List.all_eq_true.1 h) a (by simpa using hlt)
        split at hka
        · rename_i x hx
          refine RunsTo.bind (RunsTo.sizeOf hi ?_)
          rw [hs]
          refine RunsTo.bind (partV_run hx (RunsTo.bind (kOk_run n elem x hka (RunsTo.pure hR))))
        · cases hka
      · cases h
    · rename_i fields cs hu
      refine RunsTo.bind (RunsTo.underlying hu ?_)
      simp only [ren, renA_mk]
      rw [← Array.forIn_toList]
      refine RunsTo.bind (RunsTo.forUnit _ (fun f hf R hR => ?_) (RunsTo.pure hQ))
      have hkf := (List.all_eq_true.1 h) f hf
      by_cases hn : f.name = "_"
      · rw [if_neg (by simpa using hn)]
        exact RunsTo.pure hR
      · rw [if_pos hn]
        have hn' : (f.name == "_") = false := by simpa using hn
        rw [hn', Bool.false_or] at hkf
        split at hkf
        · rename_i x hx
          exact RunsTo.bind (partV_run hx (RunsTo.bind (kOk_run n f.type x hkf (RunsTo.pure hR))))
        · cases hkf
    · rename_i hu
      refine RunsTo.bind (RunsTo.underlying hu ?_)
      exact RunsTo.pure hQ
    · rename_i hu
      refine RunsTo.bind (RunsTo.underlying hu ?_)
      exact RunsTo.pure hQ
    · rename_i hu
      refine RunsTo.bind (RunsTo.underlying hu ?_)
      exact RunsTo.pure hQ
    · cases h
end
section
variable {P : Program} {ρ : Env} {h : List AObj} {FC : Frm} {w : World} {ft : Foot}
theorem findKey_run {X : Event → Prop} {n : Nat} {kt : TypeId} {k : Value} {d : TypeDesc} (hu : P.underlying kt = some d) (es : List (Value × Value)) (l : List MapEntry) (r : Option Value)
    (he : EntL n ρ es l) (h2 : mfind P kt k es = some r) {Q : Option (Nat × Value) → World → Prop} (hQ : ∀ x, x.map (·.2) = r.map (ren ρ) → Q x w) : RunsTo P X (Instr.findKey kt (ren ρ k) l) w Q := by
  unfold Instr.findKey
  refine RunsTo.bind (RunsTo.underlying hu ?_)
  split
  · rename_i x hx
    exact RunsTo.pure (hQ x (findNow_mfind hu es l 0 x r he hx h2))
  · exact findAsking_run es l 0 r he h2 hQ
theorem mfind_ok {n : Nat} {kt : TypeId} {k : Value} : ∀ (es : List (Value × Value)) (l : List MapEntry) (v : Value), EntL n ρ es l → mfind P kt k es = some (some v) → VOk n v
  | [], _, _, _, h => by simp [mfind] at h
  | _ :: _, [], _, h, _ => h.elim
  | (a, u) :: es, e :: l, v, he, h => by
    simp only [mfind] at h
    split at h
    · simp only [Option.some.injEq] at h
      subst h
      exact he.1.2.1
    · exact mfind_ok es l v he.2 h
    · cases h
theorem zv1_some {t : TypeId} {z : Value} (h : zv1 P t = some z) : ∃ i, P.info? t = some i ∧ i.zero = some z ∧ plainC z = true := by
  unfold zv1 at h
  split at h
  · rename_i i hi
    split at h
    · rename_i z' hz
      cases hb : plainC z' with
      | true =>
        rw [hb] at h
        simp only [cond_true, Option.some.injEq] at h
        subst h
        exact ⟨i, hi, hz, hb⟩
      | false => rw [hb] at h; cases h
    · cases h
  · cases h
theorem sound_lookup (H : HRel ρ h FC w ft) {t : TypeId} {ok : Bool} {m k : Value} {K : Value → Prop} (hK : aLook P t ok m k h K)
    {Q : Value → World → Prop} (hQ : ∀ v, K v → VOk h.length v → Q (ren ρ v) w) : RunsTo P (EvOk ft) (Instr.lookup t (ren ρ m) (ren ρ k) ok) w Q := by
  unfold aLook at hK
  split at hK
  · rename_i kt vt b hu
    split at hK
    · rename_i es wr z hb hz
      obtain ⟨h1, h2⟩ := hK
      obtain ⟨iz, hiz, hzz, hpl⟩ := zv1_some hz
      obtain ⟨es', clock, hw, hm⟩ := H.getMap hb
      have hE : EntL h.length ρ es es'.toList := EntL_of es es'.toList (by simpa using hm.1) hm.ent
      have hkd : ∃ d, P.underlying kt = some d := by
        cases hd : P.underlying kt with
        | some d => exact ⟨d, rfl⟩
        | none => rw [show (10000 : Nat) = 9999 + 1 from rfl] at h1; unfold kOk at h1; simp [hd] at h1
      obtain ⟨d, hd⟩ := hkd
      unfold Instr.lookup
      refine RunsTo.bind (RunsTo.underlying hu ?_)
      simp only [ren]
      refine RunsTo.bind (RunsTo.getObj hw (fun _ _ _ e => by cases e) (evOk_get (H.rd b _ hb rfl)) ?_)
      simp only
      refine RunsTo.bind (RunsTo.pure ?_)
      refine RunsTo.bind (kOk_run 10000 kt k h1 ?_)
      split at h2
      · rename_i v hf
        refine RunsTo.bind (findKey_run hd es es'.toList (some v) hE hf fun x hx => ?_)
        obtain ⟨⟨j, u⟩, rfl⟩ : ∃ p, x = some p := by
          cases x with
          | none => simp at hx
          | some p => exact ⟨p, rfl⟩
        simp only [Option.map_some, Option.some.injEq] at hx
        subst hx
        simp only
        have hv := mfind_ok es es'.toList v hE hf
        refine RunsTo.bind (RunsTo.pure ?_)
        cases ok with
        | true =>
          have := hQ _ h2 (by simp [VOk, AOk, LOk, hv])
          exact RunsTo.pure (by simpa [ren, renA, renL] using this)
        | false =>
          have := hQ _ h2 (by simpa using hv)
          exact RunsTo.pure (by simpa using this)
      · rename_i hf
        refine RunsTo.bind (findKey_run hd es es'.toList none hE hf fun x hx => ?_)
        obtain rfl : x = none := by
          cases x with
          | none => rfl
          | some p => simp at hx
        simp only
        refine RunsTo.bind (RunsTo.zeroValue hiz hzz (RunsTo.bind (RunsTo.pure ?_)))
        have := plain_ok hpl h.length ρ
        cases ok with
        | true =>
          have := hQ _ h2 (by simp [VOk, AOk, LOk, this.1])
          exact RunsTo.pure (by simpa [ren, renA, renL, (plain_ok hpl h.length ρ).2.1] using this)
        | false =>
          have := hQ _ h2 (by simpa using this.1)
          exact RunsTo.pure (by simpa [(plain_ok hpl h.length ρ).2.1] using this)
      · exact h2.elim
    · exact hK.elim
  · exact hK.elim
end
section
variable {P : Program} {ρ : Env} {h : List AObj} {FC : Frm} {w : World} {ft : Foot}
theorem HRel.setBlk (H : HRel ρ h FC w ft) {b : Nat} {o o₀ : AObj} {x : Obj} (hb : h[b]? = some o₀) (hw : o₀.wrt = true) (hl : o.live = true) (ho : ORel h.length ρ b o (some x)) :
    Goes1 ρ h FC w ft ρ (h.set b o) { w with heap := w.heap.setIfInBounds (ρ.blk b) x } := by
  have hlive : o₀.live = true := by cases o₀ <;> first | rfl | cases hw
  have hlt := H.live_lt hb hlive
  have hblt : b < h.length := (List.getElem?_eq_some_iff.1 hb).1
  have hother : ∀ i, i ≠ ρ.blk b → (w.heap.setIfInBounds (ρ.blk b) x)[i]? = w.heap[i]? := fun i hi => Array.getElem?_setIfInBounds_ne (Ne.symm hi)
  have hself : (w.heap.setIfInBounds (ρ.blk b) x)[ρ.blk b]? = some x := by simp [hlt]
  have get : ∀ {i oi}, (h.set b o)[i]? = some oi → ∃ oi', h[i]? = some oi' ∧ (i = b ∧ oi = o ∨ i ≠ b ∧ oi = oi') := by
    intro i oi hi
    rcases set_get hi with ⟨rfl, rfl, _⟩ | ⟨hne, hi⟩
    · exact ⟨o₀, hb, .inl ⟨rfl, rfl⟩⟩
    · exact ⟨oi, hi, .inr ⟨hne, rfl⟩⟩
  have getl : ∀ {i : Nat} {oi : AObj}, (h.set b o)[i]? = some oi → oi.live = true → ∃ oi' : AObj, h[i]? = some oi' ∧ oi'.live = true := by
    intro i oi hi hl
    obtain ⟨oi', h1, h2⟩ := get hi
    rcases h2 with ⟨rfl, rfl⟩ | ⟨_, rfl⟩
    · rw [hb] at h1; cases h1; exact ⟨_, hb, hlive⟩
    · exact ⟨_, h1, hl⟩
  refine ⟨?_, Env.upto_refl _ _, by simp, ⟨fun i _ hi => hother i (fun e => hi (e ▸ H.wr b _ hb hw)), by simp, rfl, rfl, rfl⟩⟩
  have hsz : ({ w with heap := w.heap.setIfInBounds (ρ.blk b) x } : World).heap.size = w.heap.size := by simp
  rw [hsz, Foot.ext_self]
  refine ⟨fun i oi hi => ?_, fun i j oi oj hi hj l1 l2 e => ?_, fun i oi hi hl => ?_, fun i oi hi hwr => ?_, fun y hy => by rw [hsz]; exact H.lt y hy, H.sub, fun y oy hy => ?_, H.keptW, fun i y hi => (by
    obtain ⟨oi', h1, h2⟩ := get hi
    rcases h2 with ⟨_, e⟩ | ⟨_, e⟩
    · rw [← e] at hl
      cases hl
    · rw [← e] at h1
      exact H.tag i y h1)⟩
  · rw [List.length_set]
    obtain ⟨oi', h1, h2⟩ := get hi
    rcases h2 with ⟨rfl, rfl⟩ | ⟨hne, rfl⟩
    · show ORel _ _ _ _ (w.heap.setIfInBounds (ρ.blk i) x)[ρ.blk i]?
      rw [hself]; exact ho
    · by_cases hli : oi.live = true
      · show ORel _ _ _ _ (w.heap.setIfInBounds (ρ.blk b) x)[ρ.blk i]?
        rw [hother _ (fun e => hne (H.inj i b _ _ h1 hb hli hlive e))]
        exact H.obj i _ h1
      · cases oi <;> first | trivial | exact absurd rfl hli
  · obtain ⟨oi', h1, m1⟩ := getl hi l1
    obtain ⟨oj', h2, m2⟩ := getl hj l2
    exact H.inj i j _ _ h1 h2 m1 m2 e
  · obtain ⟨oi', h1, m1⟩ := getl hi hl
    exact H.rd i _ h1 m1
  · obtain ⟨oi', h1, h2⟩ := get hi
    rcases h2 with ⟨rfl, rfl⟩ | ⟨hne, rfl⟩
    · exact H.wr _ _ hb hw
    · exact H.wr i _ h1 hwr
  · obtain ⟨a1, a2, a3⟩ := H.kept y oy hy
    refine ⟨?_, a2, fun a oa ha hwr => ?_⟩
    · show (w.heap.setIfInBounds (ρ.blk b) x)[y]? = _
      rw [hother y (fun e => a3 b _ hb hw e.symm)]
      exact a1
    · obtain ⟨oi', h1, h2⟩ := get ha
      rcases h2 with ⟨rfl, rfl⟩ | ⟨hne, rfl⟩
      · exact a3 _ _ hb hw
      · exact a3 a _ h1 hwr
theorem sound_update (H : HRel ρ h FC w ft) {t : TypeId} {m k v : Value} {K : List AObj → Prop} (hv : VOk h.length v) (hK : aUpd P t m k v h K)
    {Q : Unit → World → Prop} (hQ : ∀ h' w', K h' → Goes1 ρ h FC w ft ρ h' w' → Q () w') : RunsTo P (EvOk ft) (Instr.mapUpdate t (ren ρ m) (ren ρ k) (ren ρ v)) w Q := by
  unfold aUpd at hK
  split at hK
  · rename_i kt vt b hu
    split at hK
    · rename_i es hb
      obtain ⟨h1, hk0, h2, h3⟩ := hK
      obtain ⟨es', hw, hm⟩ := H.getMapC hb
      have hE : EntL h.length ρ es es'.toList := EntL_of es es'.toList (by simpa using hm.1) hm.ent
      have hkd : ∃ d, P.underlying kt = some d := by
        cases hd : P.underlying kt with
        | some d => exact ⟨d, rfl⟩
        | none => rw [show (10000 : Nat) = 9999 + 1 from rfl] at h1; unfold kOk at h1; simp [hd] at h1
      obtain ⟨d, hd⟩ := hkd
      unfold Instr.mapUpdate
      refine RunsTo.bind (RunsTo.underlying hu ?_)
      simp only [ren]
      refine RunsTo.bind (RunsTo.getObj hw (fun _ _ _ e => by cases e) (evOk_get (H.rd b _ hb rfl)) ?_)
      simp only
      refine RunsTo.bind (kOk_run 10000 kt k h1 ?_)
      refine RunsTo.bind (findKey_run hd es es'.toList none hE h2 fun x hx => ?_)
      obtain rfl : x = none := by
        cases x with
        | none => rfl
        | some p => simp at hx
      simp only
      refine RunsTo.setObj hw (fun _ _ _ e => by cases e) (evOk_set (H.rd b _ hb rfl) (H.wr b _ hb rfl)) ?_
      refine hQ _ _ h3 (H.setBlk hb rfl rfl ?_)
      refine ⟨(⟨by simp [hm.1], fun i k' v' hi => ?_⟩ : MapRel h.length ρ (es ++ [(k, v)]) (es'.push { key := ren ρ k, val := ren ρ v, born := es.length })), by simp⟩
      rw [List.getElem?_append] at hi
      split at hi
      · rename_i hlt
        obtain ⟨a1, a2, e, a3, a4, a5⟩ := hm.2 i k' v' hi
        exact ⟨a1, a2, e, by rw [Array.getElem?_push_lt (by rw [hm.1]; exact hlt)]; rw [← a3]; exact (Array.getElem?_eq_getElem _).symm, a4, a5⟩
      · rename_i hge
        have hi0 : i - es.length = 0 := by
          have := (List.getElem?_eq_some_iff.1 hi).1
          simp at this
          omega
        rw [hi0] at hi
        simp only [List.getElem?_cons_zero, Option.some.injEq, Prod.mk.injEq] at hi
        obtain ⟨rfl, rfl⟩ := hi
        have : i = es'.size := by rw [hm.1]; omega
        subst this
        exact ⟨hk0, hv, _, by simp; rfl, ren0 _ hk0, rfl, hm.1.symm⟩
    · exact hK.elim
  · exact hK.elim
open Classical in
theorem findNow_at {n : Nat} {d : TypeDesc} {kt : TypeId} {k : Value} (hu : P.underlying kt = some d) : ∀ (es : List (Value × Value)) (l : List MapEntry) (i : Nat) (x : Option (Nat × Value)),
    EntL n ρ es l → (∀ e ∈ es, teq P 10000 kt k e.1 = some (decide (k = e.1))) → Instr.findNow d (ren ρ k) l i = some x → (x = none ∧ ∀ e ∈ es, k ≠ e.1) ∨ ∃ j u, x = some (i + j, u) ∧ (∃ v, es[j]? = some (k, v)) ∧ ∀ m, m < j → ∀ e, es[m]? = some e → k ≠ e.1
  | [], [], i, x, _, _, h1 => by
    simp only [Instr.findNow, Option.some.injEq] at h1
    exact .inl ⟨h1.symm, fun e he => by cases he⟩
  | [], _ :: _, _, _, h, _, _ => h.elim
  | _ :: _, [], _, _, h, _, _ => h.elim
  | (a, v) :: es, e :: l, i, x, h, h2, h1 => by
    obtain ⟨⟨_, _, a3, a4⟩, hr⟩ := h
    have ht := h2 (a, v) (by simp)
    simp only [Instr.findNow] at h1
    split at h1
    · rename_i hs
      rw [a3] at hs
      have := sameNow_teq hu hs ht
      have hk : k = a := by simpa using this.symm
      simp only [Option.some.injEq] at h1
      exact .inr ⟨0, e.val, by rw [← h1]; rfl, ⟨v, by rw [hk]; rfl⟩, fun m hm => by omega⟩
    · rename_i hs
      rw [a3] at hs
      have := sameNow_teq hu hs ht
      have hk : k ≠ a := by simpa using this.symm
      rcases findNow_at hu es l (i + 1) x hr (fun e he => h2 e (by simp [he])) h1 with ⟨e1, e2⟩ | ⟨j, u, e1, e2, e3⟩
      · exact .inl ⟨e1, fun e he => (List.mem_cons.1 he).elim (fun e => by rw [e]; exact hk) (e2 e)⟩
      · refine .inr ⟨j + 1, u, by rw [e1]; congr 2; omega, by simpa using e2, fun m hm e he => ?_⟩
        cases m with
        | zero =>
          simp only [List.getElem?_cons_zero, Option.some.injEq] at he
          rw [← he]
          exact hk
        | succ m => exact e3 m (by omega) e (by simpa using he)
    · cases h1
open Classical in
theorem findAsking_at {X : Event → Prop} {n : Nat} {kt : TypeId} {k : Value} : ∀ (es : List (Value × Value)) (l : List MapEntry) (i : Nat),
    EntL n ρ es l → (∀ e ∈ es, teq P 10000 kt k e.1 = some (decide (k = e.1))) → ∀ {Q : Option (Nat × Value) → World → Prop}, (∀ x, ((x = none ∧ ∀ e ∈ es, k ≠ e.1) ∨ ∃ j u, x = some (i + j, u) ∧ (∃ v, es[j]? = some (k, v)) ∧ ∀ m, m < j → ∀ e, es[m]? = some e → k ≠ e.1) → Q x w) → RunsTo P X (Instr.findAsking kt (ren ρ k) l i) w Q
  | [], [], i, _, _, Q, hQ => by
    simp only [Instr.findAsking]
    exact RunsTo.pure (hQ _ (.inl ⟨rfl, fun e he => by cases he⟩))
  | [], _ :: _, _, h, _, _, _ => h.elim
  | _ :: _, [], _, h, _, _, _ => h.elim
  | (a, v) :: es, e :: l, i, h, h2, Q, hQ => by
    obtain ⟨⟨a1, _, a3, a4⟩, hr⟩ := h
    have ht := h2 (a, v) (by simp)
    simp only [Instr.findAsking]
    have hkey : e.key = ren ρ a := by rw [a3, ren0 a a1]
    rw [hkey]
    refine RunsTo.bind ?_
    unfold Op.equal
    by_cases hk : k = a
    · refine teq_run 10000 kt k a true (by rw [ht]; simp [hk]) (by simp only [if_true]; exact RunsTo.pure (hQ _ (.inr ⟨0, e.val, rfl, ⟨v, by rw [hk]; rfl⟩, fun m hm => by omega⟩)))
    · refine teq_run 10000 kt k a false (by rw [ht]; simp [hk]) (by
        simp only [Bool.false_eq_true, if_false]
        refine findAsking_at es l (i + 1) hr (fun e he => h2 e (by simp [he])) fun x hx => hQ x ?_
        rcases hx with ⟨e1, e2⟩ | ⟨j, u, e1, e2, e3⟩
        · exact .inl ⟨e1, fun e he => (List.mem_cons.1 he).elim (fun e => by rw [e]; exact hk) (e2 e)⟩
        · refine .inr ⟨j + 1, u, by rw [e1]; congr 2; omega, by simpa using e2, fun m hm e he => ?_⟩
          cases m with
          | zero =>
            simp only [List.getElem?_cons_zero, Option.some.injEq] at he
            rw [← he]
            exact hk
          | succ m => exact e3 m (by omega) e (by simpa using he))
theorem updL_none {k v : Value} : ∀ {es : List (Value × Value)}, (∀ e ∈ es, k ≠ e.1) → updL k v es = es ++ [(k, v)]
  | [], _ => rfl
  | (a, u) :: es, h => by
    have hk : k ≠ a := h (a, u) (by simp)
    simp only [updL, if_neg hk, List.cons_append]
    rw [updL_none fun e he => h e (by simp [he])]
theorem updL_at {k v : Value} : ∀ {es : List (Value × Value)} {j : Nat}, (∃ u, es[j]? = some (k, u)) → (∀ m, m < j → ∀ e, es[m]? = some e → k ≠ e.1) → updL k v es = es.set j (k, v)
  | [], j, h, _ => by obtain ⟨u, h⟩ := h; simp at h
  | (a, u) :: es, 0, h, _ => by
    obtain ⟨u', h⟩ := h
    simp only [List.getElem?_cons_zero, Option.some.injEq, Prod.mk.injEq] at h
    simp only [updL, List.set_cons_zero]
    rw [if_pos h.1.symm]
  | (a, u) :: es, j + 1, h, h2 => by
    have hk : k ≠ a := h2 0 (by omega) (a, u) rfl
    simp only [updL, if_neg hk, List.set_cons_succ]
    rw [updL_at (by simpa using h) fun m hm e he => h2 (m + 1) (by omega) e (by simpa using he)]
theorem sound_updateX (H : HRel ρ h FC w ft) {t : TypeId} {m k v : Value} {K : List AObj → Prop} (hv : VOk h.length v) (hK : aUpdX P t m k v h K)
    {Q : Unit → World → Prop} (hQ : ∀ h' w', K h' → Goes1 ρ h FC w ft ρ h' w' → Q () w') : RunsTo P (EvOk ft) (Instr.mapUpdate t (ren ρ m) (ren ρ k) (ren ρ v)) w Q := by
  unfold aUpdX at hK
  split at hK
  · rename_i kt vt b hu
    split at hK
    · rename_i es hb
      obtain ⟨h1, hk0, hsb, h2, h3⟩ := hK
      obtain ⟨es', hw, hm⟩ := H.getMapC hb
      have hE : EntL h.length ρ es es'.toList := EntL_of es es'.toList (by simpa using hm.1) hm.ent
      have hkd : ∃ d, P.underlying kt = some d := by
        cases hd : P.underlying kt with
        | some d => exact ⟨d, rfl⟩
        | none => rw [show (10000 : Nat) = 9999 + 1 from rfl] at h1; unfold kOk at h1; simp [hd] at h1
      obtain ⟨d, hd⟩ := hkd
      unfold Instr.mapUpdate
      refine RunsTo.bind (RunsTo.underlying hu ?_)
      simp only [ren]
      refine RunsTo.bind (RunsTo.getObj hw (fun _ _ _ e => by cases e) (evOk_get (H.rd b _ hb rfl)) ?_)
      simp only
      refine RunsTo.bind (kOk_run 10000 kt k h1 ?_)
      have key : ∀ x : Option (Nat × Value), ((x = none ∧ ∀ e ∈ es, k ≠ e.1) ∨ ∃ j u, x = some (0 + j, u) ∧ (∃ v, es[j]? = some (k, v)) ∧ ∀ m, m < j → ∀ e, es[m]? = some e → k ≠ e.1) → RunsTo P (EvOk ft) (match x with
          | some (i, _) => do
            let key ← Instr.keyThatStays (((es'[i]?).map (·.key)).getD (ren ρ k)) (ren ρ k)
            Go.setObj (ρ.blk b) (.map (es'.modify i fun e => { e with key, val := ren ρ v }) es.length)
          | none => Go.setObj (ρ.blk b) (.map (es'.push { key := ren ρ k, val := ren ρ v, born := es.length }) (es.length + 1))) w Q := by
        intro x hx
        rcases hx with ⟨rfl, hn⟩ | ⟨j, u, rfl, ⟨v0, hj⟩, hn⟩
        · simp only
          rw [updL_none hn] at h3
          refine RunsTo.setObj hw (fun _ _ _ e => by cases e) (evOk_set (H.rd b _ hb rfl) (H.wr b _ hb rfl)) ?_
          refine hQ _ _ h3 (H.setBlk hb rfl rfl ?_)
          refine ⟨(⟨by simp [hm.1], fun i k' v' hi => ?_⟩ : MapRel h.length ρ (es ++ [(k, v)]) (es'.push { key := ren ρ k, val := ren ρ v, born := es.length })), by simp⟩
          rw [List.getElem?_append] at hi
          split at hi
          · rename_i hlt
            obtain ⟨a1, a2, e, a3, a4, a5⟩ := hm.2 i k' v' hi
            exact ⟨a1, a2, e, by rw [Array.getElem?_push_lt (by rw [hm.1]; exact hlt)]; rw [← a3]; exact (Array.getElem?_eq_getElem _).symm, a4, a5⟩
          · rename_i hge
            have hi0 : i - es.length = 0 := by
              have := (List.getElem?_eq_some_iff.1 hi).1
              simp at this
              omega
            rw [hi0] at hi
            simp only [List.getElem?_cons_zero, Option.some.injEq, Prod.mk.injEq] at hi
            obtain ⟨rfl, rfl⟩ := hi
            have : i = es'.size := by rw [hm.1]; omega
            subst this
            exact ⟨hk0, hv, _, by simp; rfl, ren0 _ hk0, rfl, hm.1.symm⟩
        · simp only [Nat.zero_add]
          obtain ⟨_, _, e, a3, a4, a5, a6⟩ := hm.2 j k v0 hj
          have hjl : j < es'.size := (Array.getElem?_eq_some_iff.1 a3).1
          have hkr : ren ρ k = k := ren0 k hk0
          have hst : Instr.keyThatStays (((es'[j]?).map (·.key)).getD (ren ρ k)) (ren ρ k) = pure (ren ρ k) := by
            rw [a3]
            simp only [Option.map_some, Option.getD_some, a4, hkr]
            unfold Instr.keyThatStays
            rw [hsb]
            rfl
          rw [hst]
          refine RunsTo.bind (RunsTo.pure ?_)
          rw [updL_at ⟨v0, hj⟩ hn] at h3
          refine RunsTo.setObj hw (fun _ _ _ e => by cases e) (evOk_set (H.rd b _ hb rfl) (H.wr b _ hb rfl)) ?_
          refine hQ _ _ h3 (H.setBlk hb rfl rfl ?_)
          refine ⟨(⟨by simp [hm.1], fun i k' v' hi => ?_⟩ : MapRel h.length ρ (es.set j (k, v)) (es'.modify j fun e => { e with key := ren ρ k, val := ren ρ v })), by simp⟩
          rw [List.getElem?_set] at hi
          split at hi
          · rename_i hji
            subst hji
            split at hi
            · cases hi
              refine ⟨hk0, hv, { e with key := ren ρ k, val := ren ρ v }, ?_, hkr, rfl, a6⟩
              rw [Array.getElem?_modify, if_pos rfl, a3]
              rfl
            · cases hi
          · rename_i hji
            obtain ⟨b1, b2, e', b3, b4, b5⟩ := hm.2 i k' v' hi
            exact ⟨b1, b2, e', by rw [Array.getElem?_modify, if_neg hji]; exact b3, b4, b5⟩
      refine RunsTo.bind ?_
      unfold Instr.findKey
      refine RunsTo.bind (RunsTo.underlying hd ?_)
      split
      · rename_i x hx
        exact RunsTo.pure (key x (findNow_at hd es es'.toList 0 x hE h2 hx))
      · exact findAsking_at es es'.toList 0 hE h2 fun x hx => key x hx
    · exact hK.elim
  · exact hK.elim
theorem sound_range (H : HRel ρ h FC w ft) {t : TypeId} {x : Value} {K : Value → List AObj → Prop} (hK : aRange P t x h K)
    {Q : Value → World → Prop} (hQ : ∀ v h' ρ' w', K v h' → VOk h'.length v → Goes1 ρ h FC w ft ρ' h' w' → Q (ren ρ' v) w') : RunsTo P (EvOk ft) (Instr.range t (ren ρ x)) w Q := by
  unfold aRange at hK
  split at hK
  · rename_i kt vt m hu
    split at hK
    · rename_i es wr hb
      obtain ⟨es', hw, hm⟩ := H.getMapC hb
      have hml : m < h.length := (List.getElem?_eq_some_iff.1 hb).1
      have G := H.push (.iter m es.length []) (.mapIter (some (ρ.blk m)) es.length #[] es.length) 0 (by
        refine ⟨by omega, ?_, rfl, rfl, rfl⟩
        rw [(Env.put_upto ρ h.length w.heap.size 0 m hml).1]) w.drawn
      unfold Instr.range
      refine RunsTo.bind (RunsTo.underlying hu ?_)
      simp only [ren]
      refine RunsTo.bind (RunsTo.getObj hw (fun _ _ _ e => by cases e) (evOk_get (H.rd m _ hb rfl)) ?_)
      refine RunsTo.bind (RunsTo.pure (RunsTo.bind (RunsTo.new (RunsTo.pure ?_))))
      have := hQ _ _ _ _ hK (by simp [VOk, AddrOk]) G
      simpa [ren, renAddr, Env.put] using this
    · exact hK.elim
  · exact hK.elim
theorem sound_next (H : HRel ρ h FC w ft) {t : TypeId} {x : Value} {K : Value → List AObj → Prop} (hK : aNext x h K)
    {Q : Value → World → Prop} (hQ : ∀ v h' w', K v h' → VOk h'.length v → Goes1 ρ h FC w ft ρ h' w' → Q (ren ρ v) w') : RunsTo P (EvOk ft) (Instr.next (ren ρ x) false t) w Q := by
  unfold aNext at hK
  split at hK
  · rename_i b
    split at hK
    · rename_i m k0 sn hb
      split at hK
      · rename_i es wr hmb
        obtain ⟨hlen, hnx, hov⟩ := hK
        subst hlen
        obtain ⟨hwi, hml⟩ := H.getIter hb
        obtain ⟨es', hw, hm⟩ := H.getMapC hmb
        have hborn : ∀ (i : Nat) (e : MapEntry), es'[i]? = some e → e.born = i := fun i e he => by
          have hlt : i < es.length := by rw [← hm.1]; exact (Array.getElem?_eq_some_iff.1 he).1
          obtain ⟨_, _, e', a3, _, _, a6⟩ := hm.2 i es[i].1 es[i].2 (by rw [List.getElem?_eq_getElem hlt])
          rw [he] at a3
          cases a3
          exact a6
        unfold Instr.next
        simp only [ren, renAddr]
        refine RunsTo.bind (RunsTo.getObj hwi (fun _ _ _ e => by cases e) (evOk_get (H.rd b _ hb rfl)) ?_)
        simp only
        refine RunsTo.bind (RunsTo.getObj hw (fun _ _ _ e => by cases e) (evOk_get (H.rd m _ hmb rfl)) ?_)
        simp only
        have hgone : (!(⟨sn⟩ : Array Nat).isEmpty && !es'.isEmpty && es'.all (fun e => decide (e.born ≥ es.length))) = false := by
          by_cases he : es'.isEmpty = true
          · simp [he]
          · have h0 : 0 < es'.size := by
              rcases Nat.eq_zero_or_pos es'.size with h0 | h0
              · exact absurd (by simp [Array.isEmpty, h0]) he
              · exact h0
            have : es'.all (fun e => decide (e.born ≥ es.length)) = false := by
              rw [Array.all_eq_false]
              refine ⟨0, h0, ?_⟩
              have := hborn 0 es'[0] (Array.getElem?_eq_getElem h0)
              have h1 := hm.1
              simp
              omega
            simp [this]
        simp only [hgone, Bool.false_eq_true, if_false]
        generalize hleft : es'.filter (fun e => !(⟨sn⟩ : Array Nat).contains e.born) = left
        have hmem : ∀ e ∈ left, ∃ i, es'[i]? = some e ∧ e.born = i ∧ i < es.length ∧ i ∉ sn := fun e he => by
          rw [← hleft, Array.mem_filter] at he
          obtain ⟨i, hi⟩ := Array.getElem?_of_mem he.1
          have hb := hborn i e hi
          have hlt := (Array.getElem?_eq_some_iff.1 hi).1
          have h1 := hm.1
          refine ⟨i, hi, hb, by omega, fun hs => ?_⟩
          have := he.2
          rw [hb] at this
          simp [hs] at this
        have hold : left.filter (fun e => decide (e.born < es.length)) = left := by
          rw [Array.filter_eq_self]
          intro e he
          obtain ⟨i, _, hb, hlt, _⟩ := hmem e he
          simpa [hb] using hlt
        have hnew : left.filter (fun e => decide (e.born ≥ es.length)) = #[] := by
          rw [Array.filter_eq_empty_iff]
          intro e he
          obtain ⟨i, _, hb, hlt, _⟩ := hmem e he
          simp [hb]
          omega
        rw [hold, hnew]
        have gd : ∀ d, Goes1 ρ h FC w ft ρ h { w with drawn := d } := fun d => ⟨by rw [Foot.ext_self]; exact H.of_drawn d, Env.upto_refl _ _, Nat.le_refl _, Stays.drawn ft w d⟩
        by_cases he : left = #[]
        · subst he
          refine RunsTo.bind (RunsTo.choose fun c d hf _ => ?_)
          obtain rfl : c = 0 := hf (by simp [Question.forced])
          have hv := hQ (.tuple ⟨[.bool false]⟩) h { w with drawn := d } (hov fun i hi => ?_) (by simp [VOk, AOk, LOk]) (gd d)
          · have hc0 : ((if (#[] : Array MapEntry).isEmpty = true then #[none] else #[]) ++ Array.map some ((#[] : Array MapEntry) ++ #[]))[0]? = some none := by simp
            rw [hc0]
            exact RunsTo.pure (by simpa [ren, renA, renL] using hv)
          · have hil : i < es'.size := by rw [hm.1]; omega
            by_cases hs : i ∈ sn
            · exact hs
            · have : es'[i] ∈ (#[] : Array MapEntry) := by
                rw [← hleft, Array.mem_filter]
                refine ⟨Array.getElem_mem hil, ?_⟩
                rw [hborn i es'[i] (Array.getElem?_eq_getElem hil)]
                simp [hs]
              simp at this
        · have hne : left.isEmpty = false := by simpa [Array.isEmpty_iff] using he
          have hpos : 0 < left.size := by
            rcases Nat.eq_zero_or_pos left.size with h0 | h0
            · exact absurd (Array.eq_empty_of_size_eq_zero h0) he
            · exact h0
          have hc : ((if left.isEmpty = true then #[none] else #[]) ++ Array.map some (left ++ #[])) = left.map some := by simp [hne]
          rw [hc]
          refine RunsTo.bind (RunsTo.choose fun c d hf hg => ?_)
          have hcl : c < left.size := by
            cases hq : (Question.mapNext (left.map some).size).forced with
            | true => rw [hf hq]; exact hpos
            | false =>
              obtain ⟨t, rfl⟩ := hg hq
              simp only [Question.cut, Array.size_map]
              exact Nat.mod_lt _ hpos
          have hcc : (left.map some)[c]? = some (some left[c]) := by
            rw [Array.getElem?_map, Array.getElem?_eq_getElem hcl]
            rfl
          rw [hcc]
          simp only
          obtain ⟨i, hi, hb', hik, hns⟩ := hmem left[c] (Array.getElem_mem hcl)
          have hil : i < es.length := by omega
          obtain ⟨b1, b2, e', b3, b4, b5, _⟩ := hm.2 i es[i].1 es[i].2 (by rw [List.getElem?_eq_getElem hil])
          rw [hi] at b3
          obtain rfl : left[c] = e' := Option.some.inj b3
          refine RunsTo.bind (RunsTo.setObj (x := .mapIter (some (ρ.blk m)) es.length ⟨sn⟩ es.length) hwi (fun _ _ _ e => by cases e) (evOk_set (H.rd b _ hb rfl) (H.wr b _ hb rfl)) ?_)
          have hd := (H.of_drawn d).setBlk hb rfl (o :=   .iter m es.length (sn ++ [i])) (x := .mapIter (some (ρ.blk m)) es.length ((⟨sn⟩ : Array Nat).push left[c].born) es.length) rfl ⟨hml, rfl, rfl, rfl, by rw [hb']; simp⟩
          have hv := hQ (.tuple ⟨[.bool true, es[i].1, es[i].2]⟩) _ _ (hnx i es[i].1 es[i].2 (by rw [List.getElem?_eq_getElem hil]) hns) ⟨trivial, VOk.mono (Nat.zero_le _) _ b1, by rw [List.length_set]; exact b2, trivial⟩ ⟨hd.rel, hd.upto, hd.len, (Stays.drawn ft w d).trans hd.stays⟩
          refine RunsTo.pure ?_
          simpa [ren, renA, renL, b4, b5, ren0 _ b1] using hv
      · exact hK.elim
    · exact hK.elim
  · exact hK.elim
theorem sound_entry (H : HRel ρ h FC w ft) {x : Value} {K : Value → Prop} (hK : aEntry x h K)
    {Q : Value → World → Prop} (hQ : ∀ v, K v → VOk h.length v → Q (ren ρ v) w) : RunsTo P (EvOk ft) (Instr.entry (ren ρ x)) w Q := by
  unfold aEntry at hK
  split at hK
  · rename_i b
    split at hK
    · rename_i m k sn hb
      split at hK
      · rename_i es wr i hmb hlast
        split at hK
        · rename_i a u hi
          obtain ⟨hlen, hK⟩ := hK
          obtain ⟨hwi, hml⟩ := H.getIter hb
          obtain ⟨es', hw, hm⟩ := H.getMapC hmb
          obtain ⟨b1, b2, e', b3, b4, b5, b6⟩ := hm.2 i a u hi
          have hborn : ∀ (j : Nat) (e : MapEntry), es'[j]? = some e → e.born = j := fun j e he => by
            have hlt : j < es.length := by rw [← hm.1]; exact (Array.getElem?_eq_some_iff.1 he).1
            obtain ⟨_, _, e', a3, _, _, a6⟩ := hm.2 j es[j].1 es[j].2 (by rw [List.getElem?_eq_getElem hlt])
            rw [he] at a3
            cases a3
            exact a6
          have hfind : es'.find? (fun e => e.born == i) = some e' := by
            have hlt := (Array.getElem?_eq_some_iff.1 b3).1
            cases hf : es'.find? (fun e => e.born == i) with
            | none =>
              have := Array.find?_eq_none.1 hf e' (Array.mem_of_getElem? b3)
              simp [b6] at this
            | some e2 =>
              have h2 := Array.find?_some hf
              have hmem := Array.mem_of_find?_eq_some hf
              obtain ⟨j, hj⟩ := Array.getElem?_of_mem hmem
              have := hborn j e2 hj
              have h3 : e2.born = i := by simpa using h2
              have : j = i := by omega
              subst this
              rw [b3] at hj
              exact hj.symm
          unfold Instr.entry
          simp only [ren, renAddr]
          refine RunsTo.bind (RunsTo.getObj hwi (fun _ _ _ e => by cases e) (evOk_get (H.rd b _ hb rfl)) ?_)
          have hback : (⟨sn⟩ : Array Nat).back? = some i := by simpa [Array.back?_eq_getElem?, List.getLast?_eq_getElem?] using hlast
          simp only [hback]
          refine RunsTo.bind (RunsTo.getObj hw (fun _ _ _ e => by cases e) (evOk_get (H.rd m _ hmb rfl)) ?_)
          have hck : (es.length != k) = false := by simp [hlen]
          simp only [hck, Bool.false_eq_true, if_false, hfind]
          have hv := hQ _ hK (by simp [VOk, AOk, LOk, VOk.mono (Nat.zero_le _) _ b1, b2])
          exact RunsTo.pure (by simpa [ren, renA, renL, b4, b5, ren0 _ b1] using hv)
        · exact hK.elim
      · exact hK.elim
    · exact hK.elim
  · exact hK.elim
theorem sound_int {X : Event → Prop} {t : TypeId} {op : BinOp} {k : IntKind} {a b : Int} {K : Value → Prop} {n : Nat} (hK : aInt op k a b K) {Q : Value → World → Prop} (hQ : ∀ v, K v → VOk n v → Q (ren ρ v) w) :
    RunsTo P X (binOp op t (.int k a) (.int k b)) w Q := by
  have fin : ∀ v, K v → plainC v = true → RunsTo P X (pure v) w Q := fun v hv hp => by
    have := hQ v hv (plain_ok hp n ρ).1
    rw [(plain_ok hp n ρ).2.1] at this
    exact RunsTo.pure this
  cases op <;> simp only [aInt] at hK <;> simp only [binOp, ne_eq, not_true, if_false, Op.intArith, Op.intDiv, Op.intBits, Op.intCmp]
  all_goals first
    | exact fin _ hK rfl
    | (rw [if_neg hK.1]; exact fin _ hK.2 rfl)
    | exact hK.elim
end
def NxRel (n : Nat) (ρ : Env) (v : Value) (nx : Next) : Prop := (nx = .skip ∧ v = unk) ∨ ∃ c, nx = .value c ∧ VRel n ρ v c
section
variable {P : Program} {ρ : Env} {h : List AObj} {FC : Frm} {w : World} {ft : Foot}
theorem eqGuard_run {X : Event → Prop} {op : BinOp} {t : TypeId} {x y : Operand} {a b : Value} {Q : Unit → World → Prop} (hn : a ≠ .nilIface) (hg : P.eqGuardType P.depth t = false ∨ (∀ c, a ≠ .agg c)) (hQ : Q () w) :
    RunsTo P X (eqGuard op t x y a b) w Q := by
  have main : RunsTo P X (match a, b with
      | .nilIface, .nilIface => do
        if (x matches .const _) || (y matches .const _) then return
        if ← Op.eqGuardIn Op.maxDepth t a b then unsupported (.noEntry "binop/eql: two nil values of an interface type with methods, neither of them the literal nil")
      | .agg _, .agg _ => do
        if !(← program).eqGuardType (← program).depth t then return
        if ← Op.eqGuardIn Op.maxDepth t a b then unsupported (.noEntry "binop/eql: two nil values of an interface type with methods, in a part of a struct or an array")
      | _, _ => pure ()) w Q := by
    split
    · exact absurd rfl hn
    · refine RunsTo.bind (RunsTo.program (RunsTo.bind (RunsTo.program ?_)))
      have := hg.resolve_right fun x => x _ rfl
      rw [this]
      exact RunsTo.pure hQ
    · exact RunsTo.pure hQ
  unfold eqGuard
  cases op <;> first | exact RunsTo.pure hQ | exact main
theorem teq_noIface {n : Nat} {t : TypeId} {x y : Value} {r : Bool} (h : teq P n t x y = some r) : x ≠ .nilIface ∧ x ≠ unk ∧ y ≠ unk := by
  cases n with
  | zero => cases h
  | succ n =>
    unfold teq at h
    refine ⟨?_, ?_, ?_⟩
    · rintro rfl
      revert h
      cases P.underlying t with
      | none => simp
      | some d => cases d <;> simp
    · rintro rfl
      revert h
      cases P.underlying t with
      | none => simp
      | some d => cases d <;> simp [unk]
    · rintro rfl
      revert h
      cases P.underlying t with
      | none => simp
      | some d => cases d <;> cases x <;> simp [unk]
theorem binOp_eql {n : Nat} {t : TypeId} {x y : Value} {r : Bool} (h : teq P n t x y = some r) (hi : ∀ k a k' b, x = .int k a → y = .int k' b → False) (hs : ∀ a b, x = .string a → y = .string b → False) :
    binOp .eql t (ren ρ x) (ren ρ y) = (do pure (.bool (← Op.equal t (ren ρ x) (ren ρ y)))) := by
  cases n with
  | zero => cases h
  | succ n =>
    unfold teq at h
    split at h
    all_goals first
      | (cases h; done)
      | exact (hi _ _ _ _ rfl rfl).elim
      | exact (hs _ _ rfl rfl).elim
      | rfl
      | (rename_i a _ _ _; cases a <;> rfl)
      | (rename_i a _ _ _ _; cases a <;> rfl)
      | (rename_i a _ _ _ _ _ _; cases a <;> rfl)
      | (rename_i a _ _ _ _ _; cases a <;> rfl)
      | (rename_i a _ _; cases a <;> rfl)
      | (rename_i a _; cases a <;> rfl)
theorem binOp_neq {n : Nat} {t : TypeId} {x y : Value} {r : Bool} (h : teq P n t x y = some r) (hi : ∀ k a k' b, x = .int k a → y = .int k' b → False) (hs : ∀ a b, x = .string a → y = .string b → False) :
    binOp .neq t (ren ρ x) (ren ρ y) = (do pure (.bool (!(← Op.equal t (ren ρ x) (ren ρ y))))) := by
  cases n with
  | zero => cases h
  | succ n =>
    unfold teq at h
    split at h
    all_goals first
      | (cases h; done)
      | exact (hi _ _ _ _ rfl rfl).elim
      | exact (hs _ _ rfl rfl).elim
      | rfl
      | (rename_i a _ _ _; cases a <;> rfl)
      | (rename_i a _ _ _ _; cases a <;> rfl)
      | (rename_i a _ _ _ _ _ _; cases a <;> rfl)
      | (rename_i a _ _ _ _ _; cases a <;> rfl)
      | (rename_i a _ _; cases a <;> rfl)
      | (rename_i a _; cases a <;> rfl)
theorem VRel.not {n : Nat} {v c : Value} (h : VRel n ρ v c) (hv : v ≠ unk) : c = ren ρ v := (h.val hv).2
theorem ren_nilIface {v : Value} (h : v ≠ .nilIface) : ren ρ v ≠ .nilIface := by
  cases v with
  | pointer x => cases x <;> simp [ren]
  | slice x _ _ => cases x <;> simp [ren]
  | map x => cases x <;> simp [ren]
  | chan x => cases x <;> simp [ren]
  | nilIface => exact absurd rfl h
  | _ => simp [ren]
theorem sound_bin {X : Event → Prop} {op : BinOp} {t : TypeId} {xo yo : Operand} {x y cx cy : Value} {K : Value → Prop} {n : Nat} (hx : VRel n ρ x cx) (hy : VRel n ρ y cy) (hK : aBin P op t x y K)
    {Q : Value → World → Prop} (hQ : ∀ v, K v → VOk n v → Q (ren ρ v) w) : RunsTo P X (do eqGuard op t xo yo cx cy; binOp op t cx cy) w Q := by
  unfold aBin at hK
  split at hK
  · rename_i k a k' b
    have ex := hx.not (by simp [unk])
    have ey := hy.not (by simp [unk])
    subst ex; subst ey
    simp only [ren]
    refine RunsTo.bind (eqGuard_run (by simp) (.inr (by simp)) ?_)
    have sh : ∀ op', aShift op' k a b K → op' = .shl ∨ op' = .shr → RunsTo P X (Op.shift op' k a k' b) w Q := by
      intro op' hs ho
      obtain ⟨h1, h2⟩ := hs
      have fin : ∀ v, K v → plainC v = true → RunsTo P X (pure v) w Q := fun v hv hp => by
        have := hQ v hv (plain_ok hp n ρ).1
        rw [(plain_ok hp n ρ).2.1] at this
        exact RunsTo.pure this
      unfold Op.shift
      rw [if_neg (by omega)]
      rcases ho with rfl | rfl
      · exact fin _ h2 rfl
      · exact fin _ h2 rfl
    split at hK
    · exact sh _ hK (.inl rfl)
    · exact sh _ hK (.inr rfl)
    · obtain ⟨rfl, hK⟩ := hK
      exact sound_int hK hQ
  · rename_i a b
    have ex := hx.not (by simp [unk])
    have ey := hy.not (by simp [unk])
    subst ex; subst ey
    simp only [ren]
    refine RunsTo.bind (eqGuard_run (by simp) (.inr (by simp)) ?_)
    have fin : ∀ v, K v → plainC v = true → RunsTo P X (pure v) w Q := fun v hv hp => by
      have := hQ v hv (plain_ok hp n ρ).1
      rw [(plain_ok hp n ρ).2.1] at this
      exact RunsTo.pure this
    unfold aStr at hK
    split at hK
    · exact fin _ hK rfl
    · exact fin _ hK rfl
    · obtain ⟨h1, h2⟩ := hK
      unfold room at h1
      simp only [binOp, Op.stringOp]
      rw [if_neg (by simp [IntKind.max, IntKind.signed, IntKind.bits]; omega)]
      exact fin _ h2 rfl
    · exact hK.elim
  · rename_i hno hns
    have main : ∀ neg, aEq P neg t x y K → op = (bif neg then .neq else .eql) → RunsTo P X (do eqGuard op t xo yo cx cy; binOp op t cx cy) w Q := by
      intro neg he ho
      unfold aEq at he
      split at he
      · rename_i r ht
        obtain ⟨h1, h2⟩ := he
        obtain ⟨n1, n2, n3⟩ := teq_noIface ht
        have ex := hx.not n2
        have ey := hy.not n3
        subst ex; subst ey
        refine RunsTo.bind (eqGuard_run (ren_nilIface n1) (.inl h1) ?_)
        have hres := hQ _ h2 (by simp [VOk])
        simp only [ren] at hres
        have run : ∀ {R : Bool → World → Prop}, R r w → RunsTo P X (Op.equal t (ren ρ x) (ren ρ y)) w R := fun hR => teq_run 10000 t x y r ht hR
        cases neg with
        | false =>
          simp only [cond_false] at ho hres
          subst ho
          rw [binOp_eql ht hno hns]
          exact RunsTo.bind (run (RunsTo.pure hres))
        | true =>
          simp only [cond_true] at ho hres
          subst ho
          rw [binOp_neq ht hno hns]
          exact RunsTo.bind (run (RunsTo.pure hres))
      · exact he.elim
    split at hK
    · exact main false hK rfl
    · exact main true hK rfl
    · exact hK.elim
end
section
variable {P : Program} {ρ : Env} {h : List AObj} {FC : Frm} {w : World} {ft : Foot}
theorem byteOf_ren {v : Value} {b : UInt8} (hv : byteOf v = some b) : ∃ n, v = .int .u8 n ∧ b = UInt8.ofNat n.toNat := by
  unfold byteOf at hv
  split at hv
  · exact ⟨_, rfl, (Option.some.inj hv).symm⟩
  · cases hv
theorem runs_bytes {X : Event → Prop} {f : Value → ByteArray → Sem (ForInStep ByteArray)} (hf : ∀ (n : Int) (r : ByteArray) {Q : ForInStep ByteArray → World → Prop}, Q (.yield (r.push (UInt8.ofNat n.toNat))) w → RunsTo P X (f (.int .u8 n) r) w Q) :
    ∀ (l : List Value) (bs : List UInt8) (s : List UInt8) {Q : ByteArray → World → Prop}, bytesOf l = some bs → Q ⟨⟨s ++ bs⟩⟩ w → RunsTo P X (forIn (l.map (ren ρ)) (⟨⟨s⟩⟩ : ByteArray) f) w Q
  | [], bs, s, Q, hb, hq => by
    cases hb
    simp only [List.map_nil, List.forIn_nil]
    exact RunsTo.pure (by simpa using hq)
  | v :: l, bs, s, Q, hb, hq => by
    simp only [bytesOf] at hb
    split at hb
    · rename_i b bs' h1 h2
      cases hb
      obtain ⟨n, rfl, rfl⟩ := byteOf_ren h1
      simp only [List.map_cons, ren, List.forIn_cons]
      refine RunsTo.bind (hf n _ ?_)
      simp only
      have e : (⟨⟨s⟩⟩ : ByteArray).push (UInt8.ofNat n.toNat) = ⟨⟨s ++ [UInt8.ofNat n.toNat]⟩⟩ := by simp [ByteArray.push]
      rw [e]
      exact runs_bytes hf l bs' _ h2 (by simpa using hq)
    · cases hb
theorem sound_b2s (H : HRel ρ h FC w ft) {s d e : TypeId} {x : Value} {K : Value → Prop} (hs : P.underlying s = some (.slice e)) (hd : P.underlying d = some .string) (he : P.underlying e = some (.int .u8)) (hK : aB2S x h K)
    {Q : Value → World → Prop} (hQ : ∀ v, K v → VOk h.length v → Q (ren ρ v) w) : RunsTo P (EvOk ft) (convert s d (ren ρ x)) w Q := by
  unfold aB2S at hK
  split at hK
  · rename_i n c
    simp only [ren]
    unfold convert
    refine RunsTo.bind (RunsTo.underlying hs (RunsTo.bind (RunsTo.underlying hd ?_)))
    simp only
    refine RunsTo.bind (RunsTo.underlying he ?_)
    simp only [Conv.bytesToString]
    exact RunsTo.pure (hQ _ hK (by simp [VOk]))
  · rename_i b o n c
    split at hK
    · rename_i cs wr sz hb
      obtain ⟨h1, hK⟩ := hK
      split at hK
      · rename_i bs hbs
        simp only [ren, renAddr]
        unfold convert
        refine RunsTo.bind (RunsTo.underlying hs (RunsTo.bind (RunsTo.underlying hd ?_)))
        simp only
        refine RunsTo.bind (RunsTo.underlying he ?_)
        simp only [Conv.bytesToString]
        refine RunsTo.bind (RunsTo.loadCells (((cs.drop o).take n).map (ren ρ)) (by simp; omega) (fun j v hv => ?_) ?_)
        · rw [List.getElem?_map] at hv
          obtain ⟨u, hu, rfl⟩ := Option.map_eq_some_iff.1 hv
          have hk1 : kn1 u = true := by
            have : ∀ (l : List Value) (bs : List UInt8), bytesOf l = some bs → ∀ u ∈ l, kn1 u = true := by
              intro l
              induction l with
              | nil => intro bs _ u hu; cases hu
              | cons v l ih =>
                intro bs hb u hu
                simp only [bytesOf] at hb
                split at hb
                · rename_i b bs' h1 h2
                  obtain ⟨n, rfl, _⟩ := byteOf_ren h1
                  rcases List.mem_cons.1 hu with rfl | hu
                  · rfl
                  · exact ih bs' h2 u hu
                · cases hb
            exact this _ _ hbs u (List.mem_of_getElem? hu)
          rw [List.getElem?_take] at hu
          split at hu
          · rw [List.getElem?_drop] at hu
            rw [add_mk]
            exact ⟨(H.cell hb hu (.inr hk1)).1, evOk_read (H.rd b _ hb rfl)⟩
          · cases hu
        · simp only [List.forIn_toArray]
          refine RunsTo.bind (runs_bytes (fun n r Q hq => ?_) _ bs [] hbs ?_)
          · first
              | exact RunsTo.pure hq
              | exact RunsTo.bind (RunsTo.pure (RunsTo.pure hq))
          · simp only [List.nil_append]
            exact RunsTo.pure (hQ _ hK (by simp [VOk]))
      · exact hK.elim
    · exact hK.elim
  · exact hK.elim
theorem ba_get (l : List UInt8) (i : Nat) : (⟨⟨l⟩⟩ : ByteArray)[i]? = l[i]? := by
  by_cases hi : i < l.length
  · rw [List.getElem?_eq_getElem hi]
    have : i < (⟨⟨l⟩⟩ : ByteArray).size := hi
    rw [getElem?_pos (⟨⟨l⟩⟩ : ByteArray) i this]
    rfl
  · rw [List.getElem?_eq_none (by omega)]
    have : ¬ i < (⟨⟨l⟩⟩ : ByteArray).size := hi
    rw [getElem?_neg (⟨⟨l⟩⟩ : ByteArray) i this]
theorem sound_idxStr {X : Event → Prop} {t : TypeId} {x i : Value} {K : Value → Prop} {n : Nat} (hu : P.underlying t = some .string) (hK : aIdxStr x i K)
    {Q : Value → World → Prop} (hQ : ∀ v, K v → VOk n v → Q (ren ρ v) w) : RunsTo P X (Instr.index t (ren ρ x) (ren ρ i)) w Q := by
  unfold aIdxStr at hK
  split at hK
  · rename_i s k j
    obtain ⟨h0, hK⟩ := hK
    split at hK
    · rename_i b hb
      unfold Instr.index
      simp only [ren, asIntOf]
      refine RunsTo.bind (RunsTo.pure (RunsTo.bind (RunsTo.underlying hu ?_)))
      simp only
      rw [if_pos h0, ba_get, hb]
      exact RunsTo.pure (hQ _ hK (by simp [VOk]))
    · exact hK.elim
  · exact hK.elim
theorem sound_idxV {X : Event → Prop} {t e : TypeId} {x i : Value} {g : Bool} {s len : Nat} {K : Value → Prop} {n : Nat} (hu : P.underlying t = some (.array len e)) (ht : tk P e = some (g, s)) (hx : VOk n x) (hK : aIdxV len s g x i K)
    {Q : Value → World → Prop} (hQ : ∀ v, K v → VOk n v → Q (ren ρ v) w) : RunsTo P X (Instr.index t (ren ρ x) (ren ρ i)) w Q := by
  obtain ⟨d, ti, hd, hti, hg, hs⟩ := tk_some ht
  unfold aIdxV at hK
  split at hK
  · rename_i k j
    obtain ⟨h0, hK⟩ := hK
    unfold aField at hK
    split at hK
    · rename_i c
      simp only [VOk, AOk] at hx
      unfold Instr.index
      simp only [ren, asIntOf, renA_mk]
      refine RunsTo.bind (RunsTo.pure (RunsTo.bind (RunsTo.underlying hu ?_)))
      simp only
      rw [if_pos h0]
      refine RunsTo.bind (RunsTo.sizeOf hti ?_)
      rw [hs]
      cases g with
      | true =>
        simp only [cond_true] at hK
        have hp : partV P e c (j.toNat * s) = some (.agg ⟨(c.drop (j.toNat * s)).take s⟩) := by simp [partV, ht]
        exact partV_run hp (hQ _ hK.2 (partV_ok hp hx))
      | false =>
        simp only [cond_false] at hK
        split at hK
        · rename_i v hv
          have hp : partV P e c (j.toNat * s) = some v := by simp [partV, ht, hv]
          exact partV_run hp (hQ _ hK (partV_ok hp hx))
        · exact hK.elim
    · exact hK.elim
  · exact hK.elim
theorem sound_capS {X : Event → Prop} {t : TypeId} {e : TypeId} {n : Nat} {x : Value} {K : Value → Prop} {ty : TypeId} (hu : P.underlying t = some (.slice e)) (hK : aCapS x K)
    {Q : Value → World → Prop} (hQ : ∀ v, K v → VOk n v → Q (ren ρ v) w) : RunsTo P X (Builtin.cap_ #[t] ty #[ren ρ x]) w Q := by
  unfold aCapS at hK
  split at hK
  · rename_i b m c
    unfold Builtin.cap_
    simp only [List.getElem?_toArray, List.getElem?_cons_zero]
    refine RunsTo.bind (RunsTo.underlying hu ?_)
    have := hQ _ hK.2 (by simp [VOk])
    have e1 : ∀ b, renCap ρ b c = c := fun b => by unfold renCap; rw [if_neg (Nat.not_le.2 hK.1)]
    cases b <;> simp only [ren, e1] <;> exact RunsTo.pure (by simpa [ren, vint, goInt] using this)
  · exact hK.elim
theorem sound_appendZ (H : HRel ρ h FC w ft) {t u e ty : TypeId} {ku : IntKind} {g : Bool} {s : Nat} {z : List Value} {i : TypeInfo} {x y : Value} {K : Value → List AObj → Prop}
    (hu : P.underlying t = some (.slice e)) (hu2 : P.underlying u = some (.int ku)) (hz : zc P e = some z) (ht : tk P e = some (g, s)) (hi : P.info? e = some i) (hzs : z.length = s) (hs : 0 < s) (hby0 : 0 < i.bytes) (hby : i.bytes ≤ 1024)
    (hK : aAppZ s z x y h K)
    {Q : Value → World → Prop} (hQ : ∀ v h' ρ' w', K v h' → VOk h'.length v → Goes1 ρ h FC w ft ρ' h' w' → Q (ren ρ' v) w') :
    RunsTo P (EvOk ft) (Builtin.append_ #[t, u] ty #[ren ρ x, ren ρ y]) w Q := by
  obtain ⟨i', zv, hi', hzz, hl, hpl⟩ := zc_some hz
  obtain ⟨_, ti, _, hti, _, hss⟩ := tk_some ht
  have : i' = i := by rw [hi] at hi'; cases hi'; rfl
  subst this
  have : ti = i' := by rw [hi] at hti; cases hti; rfl
  subst this
  have hzv : zv.cells = ⟨z⟩ := by rw [← hl]
  have hzsz : zv.cells.size = s := by rw [hzv, ← hzs]; rfl
  unfold aAppZ at hK
  split at hK
  · rename_i n c m
    obtain ⟨⟨rfl, rfl, h0, hr⟩, h1, h2⟩ := hK
    have hr : m ≤ 1073741824 := hr
    have hwrap : IntKind.i64.wrap m = m := by
      simp only [IntKind.wrap, IntKind.bits, IntKind.signed]
      simp
      split <;> omega
    have hmb : m * (ti.bytes : Int) ≤ 1073741824 * 1024 := Int.mul_le_mul hr (by omega) (by omega) (by omega)
    simp only [ren]
    unfold Builtin.append_
    simp only [List.getElem?_toArray, List.getElem?_cons_zero, List.getElem?_cons_succ]
    refine RunsTo.bind (RunsTo.underlying hu ?_)
    simp only
    refine RunsTo.bind (RunsTo.sizeOf hi ?_)
    refine RunsTo.bind (RunsTo.underlying hu2 (RunsTo.bind (RunsTo.pure ?_)))
    simp only [if_true, asInt, asIntOf]
    refine RunsTo.bind (RunsTo.bind (RunsTo.pure (RunsTo.pure ?_)))
    simp only [hwrap]
    rw [if_neg (by omega)]
    refine RunsTo.bind (RunsTo.typeInfo hi ?_)
    rw [if_neg (by omega)]
    refine RunsTo.bind (RunsTo.pure ?_)
    by_cases hm : m = 0
    · subst hm
      simp only [Int.toNat_zero, Nat.add_zero, Nat.le_refl, if_true, Nat.zero_mul, Bool.not_true, Bool.false_eq_true, if_false]
      refine RunsTo.bind (RunsTo.pure (RunsTo.pure ?_))
      have := hQ _ _ ρ w (h1 rfl) (by simp [VOk]) (Goes1.refl H)
      simpa [ren] using this
    · have hlt : ¬ (0 + m.toNat ≤ 0) := by omega
      rw [if_neg hlt]
      have hne : ¬ (m.toNat * ti.size = 0) := by
        rw [hss]
        intro e
        rcases Nat.mul_eq_zero.1 e with e | e <;> omega
      simp only [true_or, and_true, Bool.not_true, Bool.false_eq_true, if_false]
      have hzok : ∀ v ∈ zrep z m.toNat, VOk h.length v ∧ one v = true := fun v hv => by
        have hp := List.all_eq_true.1 (all_zrep hpl m.toNat) v hv
        exact ⟨(plain_ok hp h.length ρ).1, (plain_ok hp 0 ρ).2.2⟩
      have hzp : (zrep z m.toNat).map (ren ρ) = zrep z m.toNat := map_plain (all_zrep hpl m.toNat) ρ
      have hmax : ¬ (((0 + m.toNat : Nat) : Int) > IntKind.i64.max) := by
        simp [IntKind.max, IntKind.bits, IntKind.signed]
        omega
      refine RunsTo.bind (RunsTo.typeInfo hi ?_)
      rw [if_neg hmax]
      refine RunsTo.bind (RunsTo.typeInfo hi ?_)
      have hnc := nextcap_le (0 + m.toNat) 0 (by omega)
      have : Builtin.nextslicecap (0 + m.toNat) 0 * ti.bytes ≤ (2 * (0 + m.toNat) + 1000) * 1024 := Nat.mul_le_mul hnc hby
      rw [if_neg (show ¬ (Builtin.nextslicecap (0 + m.toNat) 0 * ti.bytes > 2 ^ 48) by omega)]
      refine grow_run H hi hzz hzsz hs (l := zrep z m.toNat) (old := 0) hzok (by rw [length_zrep, hzs]; simp) (fun ρ' w' G => ?_) _ _ (fun d R hR => ?_) (fun d R hR => ?_) _
      · have := hQ _ _ _ _ (h2 hm) (by simp only [VOk, AddrOk]; exact ⟨by simp, trivial⟩) G
        simpa using this
      · simp only [Builtin.firstCells]
        exact RunsTo.pure (by simpa using hR)
      · rw [if_neg hne]
        refine RunsTo.bind (RunsTo.zeroValue hi hzz (RunsTo.pure ?_))
        have e : Builtin.zeroCells zv.cells m.toNat = ⟨zrep z m.toNat⟩ := by
          unfold Builtin.zeroCells
          rw [hzv]
          have := zero_row (z := z) (m := m.toNat) (s := z.length) rfl
          simpa using this
        rw [e]
        rw [Nat.zero_mul, List.drop_zero, hzp] at hR
        exact hR
  · exact hK.elim
theorem bnd_some {d : Nat} {o : Option Value} {l : Nat} (hb : bnd d o = some l) : (o = none ∧ l = d) ∨ ∃ k n, o = some (.int k n) ∧ 0 ≤ n ∧ l = n.toNat := by
  unfold bnd at hb
  split at hb
  · exact .inl ⟨rfl, (Option.some.inj hb).symm⟩
  · rename_i k n
    by_cases hn : 0 ≤ n
    · rw [decide_eq_true hn] at hb
      exact .inr ⟨k, n, rfl, hn, (Option.some.inj hb).symm⟩
    · rw [decide_eq_false hn] at hb
      cases hb
  · cases hb
theorem bounds_run {X : Event → Prop} {isS : Bool} {len cap : Nat} {lo hi : Option Value} {l u : Nat} (hl : bnd 0 lo = some l) (hu : bnd len hi = some u) (h1 : l ≤ u) (h2 : u ≤ cap)
    {Q : Nat × Nat × Nat → World → Prop} (hQ : Q (l, u, cap) w) : RunsTo P X (Instr.sliceBounds isS len cap (lo.map (ren ρ)) (hi.map (ren ρ)) none) w Q := by
  unfold Instr.sliceBounds
  refine RunsTo.bind (RunsTo.pure ?_)
  rcases bnd_some hu with ⟨rfl, rfl⟩ | ⟨k, n, rfl, hn, rfl⟩
  · simp only [Option.map_none]
    refine RunsTo.bind (RunsTo.pure ?_)
    rcases bnd_some hl with ⟨rfl, rfl⟩ | ⟨k, m, rfl, hm, rfl⟩
    · simp only [Option.map_none]
      exact RunsTo.bind (RunsTo.pure (RunsTo.pure hQ))
    · simp only [Option.map_some, ren, Instr.sliceBound, asIntOf]
      refine RunsTo.bind (RunsTo.bind (RunsTo.pure ?_))
      simp only
      rw [if_pos ⟨hm, by omega⟩]
      exact RunsTo.pure (RunsTo.pure hQ)
  · simp only [Option.map_some, ren, Instr.sliceBound, asIntOf]
    refine RunsTo.bind (RunsTo.bind (RunsTo.pure ?_))
    simp only
    rw [if_pos ⟨hn, by omega⟩]
    refine RunsTo.pure ?_
    rcases bnd_some hl with ⟨rfl, rfl⟩ | ⟨k, m, rfl, hm, rfl⟩
    · simp only [Option.map_none]
      exact RunsTo.bind (RunsTo.pure (RunsTo.pure hQ))
    · simp only [Option.map_some, ren]
      refine RunsTo.bind (RunsTo.bind (RunsTo.pure ?_))
      simp only
      rw [if_pos ⟨hm, by omega⟩]
      exact RunsTo.pure (RunsTo.pure hQ)
theorem ba_part (s : List UInt8) (l u : Nat) (_h1 : l ≤ u) (_h2 : u ≤ s.length) : (⟨⟨s⟩⟩ : ByteArray).extract l u = ⟨⟨(s.take u).drop l⟩⟩ := by
  apply ByteArray.ext
  simp [ByteArray.data_extract, List.extract, List.drop_take]
theorem sound_slStr {X : Event → Prop} {t : TypeId} {x : Value} {lo hi : Option Value} {K : Value → Prop} {n : Nat} (hu : P.underlying t = some .string) (hK : aSlStr x lo hi K)
    {Q : Value → World → Prop} (hQ : ∀ v, K v → VOk n v → Q (ren ρ v) w) : RunsTo P X (Instr.sliceAt t (ren ρ x) (lo.map (ren ρ)) (hi.map (ren ρ)) none) w Q := by
  unfold aSlStr at hK
  split at hK
  · rename_i s
    split at hK
    · rename_i l u h1 h2
      obtain ⟨⟨a1, a2⟩, hK⟩ := hK
      unfold Instr.sliceAt
      refine RunsTo.bind (RunsTo.underlying hu ?_)
      simp only [ren]
      unfold Instr.slice
      refine RunsTo.bind (RunsTo.underlying hu ?_)
      simp only [Option.isSome_none, Bool.false_eq_true, if_false]
      refine RunsTo.bind (bounds_run (cap := s.length) h1 h2 a1 a2 ?_)
      simp only
      refine RunsTo.pure ?_
      rw [ba_part s l u a1 a2]
      exact hQ _ hK (by simp [VOk])
    · exact hK.elim
  · exact hK.elim
theorem sound_sl2 {X : Event → Prop} (H : HRel ρ h FC w ft) {t e : TypeId} {g : Bool} {s : Nat} {x : Value} {lo hi : Option Value} {K : Value → Prop} (hu : P.underlying t = some (.slice e)) (ht : tk P e = some (g, s)) (hx : VOk h.length x) (hK : aSl2 s x lo hi h K)
    {Q : Value → World → Prop} (hQ : ∀ v, K v → VOk h.length v → Q (ren ρ v) w) : RunsTo P X (Instr.sliceAt t (ren ρ x) (lo.map (ren ρ)) (hi.map (ren ρ)) none) w Q := by
  obtain ⟨d, ti, hd, hti, hg, hs⟩ := tk_some ht
  unfold aSl2 at hK
  split at hK
  · rename_i base n c
    split at hK
    · rename_i l u h1 h2
      obtain ⟨a1, hK⟩ := hK
      have main : ∀ (B : Option Addr) (C : Nat), u ≤ C → Q (.slice (if C = l then B else B.map fun x => x.add (l * s)) (u - l) (C - l)) w → RunsTo P X (Instr.sliceAt t (.slice B n C) (lo.map (ren ρ)) (hi.map (ren ρ)) none) w Q := by
        intro B C hC hq
        unfold Instr.sliceAt
        refine RunsTo.bind (RunsTo.underlying hu ?_)
        simp only
        unfold Instr.slice
        refine RunsTo.bind (RunsTo.underlying hu ?_)
        simp only
        refine RunsTo.bind (bounds_run (cap := C) h1 h2 a1 hC ?_)
        simp only
        refine RunsTo.bind (RunsTo.sizeOf hti (RunsTo.pure ?_))
        rw [hs]
        exact hq
      split at hK
      · obtain ⟨⟨rfl, rfl⟩, hK⟩ := hK
        have : l = 0 := by omega
        subst this
        have := main none 0 (Nat.le_refl _) (by simpa [ren] using hQ _ hK (by simp [VOk]))
        simpa [ren] using this
      · rename_i b o
        have ok : ∀ o' n' c', VOk h.length (.slice (some ⟨b, o', none⟩) n' c') := fun o' n' c' => by
          simp only [VOk, AddrOk] at hx ⊢
          exact ⟨hx.1, trivial⟩
        by_cases hc : c < fz
        · obtain ⟨a2, hK⟩ := hK.1 hc
          have e1 : renCap ρ b c = c := by unfold renCap; rw [if_neg (by omega)]
          have e2 : renCap ρ b (c - l) = c - l := by unfold renCap; rw [if_neg (by omega)]
          have := main (some ⟨ρ.blk b, o, none⟩) c a2 (by
            have := hQ _ hK (ok _ _ _)
            simp only [ren, renAddr, e2] at this
            by_cases hcl : c = l
            · subst hcl
              rw [if_pos rfl]
              simpa using this
            · have : Nat.beq c l = false := by
                cases hb : Nat.beq c l with
                | false => rfl
                | true => exact absurd (Nat.eq_of_beq_eq_true hb) hcl
              rename_i t2
              rw [this] at t2
              rw [if_neg hcl]
              simpa [add_mk] using t2)
          simpa [ren, renAddr, e1] using this
        · replace hK := hK.2 (by omega)
          split at hK
          · rename_i cs wr sz hb
            obtain ⟨⟨q1, q2, hsp, a3, a4⟩, hK⟩ := hK
            subst q1
            subst q2
            have hB := H.obj b _ hb
            have hcap : u ≤ ρ.cap b ∧ (l = 0 ∨ l + 1 ≤ ρ.cap b) := by
              match hw : w.heap[ρ.blk b]?, hB with
              | some (.cells c' cty fr), hB =>
                obtain ⟨_, _, p3, _⟩ := hB
                have h6 := p3 (by omega)
                exact ⟨Nat.le_of_mul_le_mul_right (by omega : u * sz ≤ ρ.cap b * sz) hsp, a4.imp id fun a => Nat.le_of_mul_le_mul_right (by omega : (l + 1) * sz ≤ ρ.cap b * sz) hsp⟩
            have e1 : renCap ρ b fz = ρ.cap b := by unfold renCap; rw [if_pos (Nat.le_refl _), Nat.sub_self, Nat.sub_zero]
            have e2 : renCap ρ b (fz + l) = ρ.cap b - l := by unfold renCap; rw [if_pos (Nat.le_add_right _ _), Nat.add_sub_cancel_left]
            have := main (some ⟨ρ.blk b, o, none⟩) (ρ.cap b) hcap.1 (by
              have := hQ _ hK (ok _ _ _)
              simp only [ren, renAddr, e2] at this
              rcases hcap.2 with rfl | hl
              · split
                · simpa using this
                · simpa [add_mk] using this
              · rw [if_neg (by omega)]
                simpa [add_mk] using this)
            simpa [ren, renAddr, e1] using this
          · exact hK.elim
      · exact hK.elim
    · exact hK.elim
  · exact hK.elim
theorem sound_slA {X : Event → Prop} {t e : TypeId} {g : Bool} {s len : Nat} {x : Value} {lo hi : Option Value} {K : Value → Prop} {n : Nat} (hu : P.underlying t = some (.array len e)) (ht : tk P e = some (g, s)) (hx : VOk n x) (hK : aSlA len s x lo hi K)
    {Q : Value → World → Prop} (hQ : ∀ v, K v → VOk n v → Q (ren ρ v) w) : RunsTo P X (Instr.sliceAt t (ren ρ x) (lo.map (ren ρ)) (hi.map (ren ρ)) none) w Q := by
  obtain ⟨d, ti, hd, hti, hg, hs⟩ := tk_some ht
  unfold aSlA at hK
  split at hK
  · rename_i b o
    split at hK
    · rename_i l u h1 h2
      obtain ⟨⟨a1, a2, hlen⟩, hK⟩ := hK
      have hlen : len < fz := Nat.lt_of_le_of_lt hlen (by decide)
      have hv := hQ _ hK (by simp only [VOk, AddrOk] at hx ⊢; exact ⟨hx.1, trivial⟩)
      unfold Instr.sliceAt
      refine RunsTo.bind (RunsTo.underlying hu ?_)
      simp only [ren, renAddr, Instr.sureAddr]
      refine RunsTo.bind (RunsTo.pure ?_)
      refine RunsTo.bind (bounds_run (cap := len) h1 h2 a1 a2 ?_)
      simp only
      refine RunsTo.bind (RunsTo.sizeOf hti (RunsTo.pure ?_))
      rw [hs]
      have e2 : renCap ρ b (len - l) = len - l := by unfold renCap; rw [if_neg (by omega)]
      simp only [ren, renAddr, e2] at hv
      by_cases hcl : len = l
      · subst hcl
        rw [if_pos rfl]
        simpa using hv
      · have hb : Nat.beq len l = false := by
          cases hb : Nat.beq len l with
          | false => rfl
          | true => exact absurd (Nat.eq_of_beq_eq_true hb) hcl
        rw [hb] at hv
        rw [if_neg hcl]
        simpa [add_mk] using hv
    · exact hK.elim
  · exact hK.elim
theorem sound_copy (H : HRel ρ h FC w ft) {t u e e2 ty : TypeId} {g : Bool} {s : Nat} {x y : Value} {K : Value → List AObj → Prop} (hu : P.underlying t = some (.slice e)) (_hu2 : P.underlying u = some (.slice e2)) (ht : tk P e = some (g, s)) (hK : aCopy s x y h K)
    {Q : Value → World → Prop} (hQ : ∀ v h' w', K v h' → VOk h'.length v → Goes1 ρ h FC w ft ρ h' w' → Q (ren ρ v) w') : RunsTo P (EvOk ft) (Builtin.copy_ #[t, u] ty #[ren ρ x, ren ρ y]) w Q := by
  obtain ⟨d, ti, hd, hti, hg, hs⟩ := tk_some ht
  unfold aCopy at hK
  split at hK
  · rename_i base n c yb m yc
    have hlen : ∀ {Q : Nat → World → Prop}, Q m w → RunsTo P (EvOk ft) (Builtin.lenOf (ren ρ (.slice yb m yc))) w Q := fun hq => by
      cases yb <;> exact RunsTo.pure hq
    have hx : ∃ B C, ren ρ (.slice base n c) = .slice B n C ∧ B = base.map (renAddr ρ) := by
      cases base with
      | none => exact ⟨none, c, rfl, rfl⟩
      | some a => exact ⟨_, _, rfl, rfl⟩
    obtain ⟨B, C, hB, hBe⟩ := hx
    rw [hB]
    unfold Builtin.copy_
    simp only [List.getElem?_toArray, List.getElem?_cons_zero, List.getElem?_cons_succ]
    refine RunsTo.bind (RunsTo.underlying hu ?_)
    simp only
    refine RunsTo.bind (hlen ?_)
    refine RunsTo.bind (RunsTo.sizeOf hti ?_)
    rw [hs]
    refine RunsTo.bind (srcCells_run H hK fun ys hK1 hys hyok => ?_)
    clear hK
    have hK := hK1
    clear hK1
    subst hBe
    split at hK
    · simp only [Option.map_none]
      refine RunsTo.bind (RunsTo.pure (RunsTo.pure ?_))
      have := hQ _ h w hK (by simp [VOk]) (Goes1.refl H)
      simpa [ren, vint, goInt] using this
    · rename_i b o
      split at hK
      · rename_i cs sz hb
        obtain ⟨a1, hK⟩ := hK
        simp only [Option.map_some, renAddr]
        refine RunsTo.bind (sound_storeCells ys h w cs o 0 H hb (by rw [hys]; simpa using a1) hyok (fun w' H' hst hz => ?_))
        have := hQ _ _ w' hK (by simp [VOk]) ⟨by rw [hz, Foot.ext_self]; simpa using H', Env.upto_refl _ _, by simp, hst⟩
        refine RunsTo.pure ?_
        simpa [ren, vint, goInt] using this
      · exact hK.elim
    · exact hK.elim
  · exact hK.elim
end
end Go.Proofs.Ythnccaajpdnndaa
