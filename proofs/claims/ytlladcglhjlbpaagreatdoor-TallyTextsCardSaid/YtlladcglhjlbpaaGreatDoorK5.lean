/- Parts of the proof, 5. No conditions. -/
import Derived.Test.YtlladcglhjlbpaaGreatDoorK4
import Derived.Conc.MarkLaws
import Derived.Conc.AtomicLaws2
import Derived.Test.YtlladcglhjlbpaaGreatDoorK3
import Derived.Lib.IndexEntry
import Derived.Lib.Bytealg
import Derived.RunT
import Derived.Test.YtlladcglhjlbpaaGreatDoorK2
import Derived.Lib.Index
import Derived.Lib.IndexLaws
import Derived.Lib.RabinKarp
namespace Go.Proofs.YtlladcglhjlbpaaGreatDoor
open Go.Conc
def RunsX {α : Type} (P : Program) (s : Go.Sem α) (w : World) (v : α) (w' : World) (es : List Event) : Prop := ∀ acc : Array Event,s.runT P w acc = (.ok v w',acc ++ es.toArray)
section
variable {α β : Type} {P : Program} {w w1 w2 w' : World}
theorem RunsX.of {s : Go.Sem α} {v : α} {es : List Event} (h1 : s.run P w = .ok v w') (h2 : ∀ acc,s.events P w acc = acc ++ es.toArray) : RunsX P s w v w' es := fun acc => by
 rw [Sem.runT_eq,h1,h2]
theorem RunsX.pure {a : α} : RunsX P (Pure.pure a) w a w [] := fun acc => by
 show (Result.ok a w,acc) = _
 simp
theorem RunsX.bind {s : Go.Sem α} {f : α → Go.Sem β} {v : α} {u : β} {e1 e2 : List Event} (h : RunsX P s w v w1 e1) (h2 : RunsX P (f v) w1 u w2 e2) : RunsX P (s >>= f) w u w2 (e1 ++ e2) := by
 intro acc
 show (s.bind f).runT P w acc = _
 rw [Sem.runT_bind',h acc]
 show (f v).runT P w1 (acc ++ e1.toArray) = _
 rw [h2]
 simp
theorem RunsX.program : RunsX P Go.program w P w [] := fun acc => by
 show (Result.ok P w,acc) = _
 simp
theorem RunsX.mark {m : Mark} : RunsX P (Go.mark m) w () w [⟨.mark m,false,true⟩] := fun acc => by
 show (Result.ok () w,acc.push _) = _
 simp
structure IsExt (P : Program) (g : FuncId) (fn : Func) (e : Array Value → Go.Sem Value) : Prop where
 here : P.funcs[g]? = some fn
 name : (fn.name == "runtime.NumGoroutine") = false
 body : fn.body.isNone = true
 next : Extern.findNext fn = none
 find : Extern.find fn = some e
variable {main : Bool} {J : JT} {g : FuncId} {cargs : List Value} {b : FB} {a : Act} {ops : Array Oper} {i : Nat} {rest : List Nat} {o : Oper} {k : List Item} {cs : List Frame} {w' : World} {fn : Func}
theorem runs_ext {e : Array Value → Go.Sem Value} (E : IsExt P g fn e) {args : Array Value} {v : Value} {es : List Event} (h : RunsX P (e args) w v w' es) : RunsX P (callFunc g args) w (.value v) w' (⟨.mark (.extern g),false,true⟩ :: es) := by
 unfold callFunc
 refine RunsX.bind (e1 := []) RunsX.program ?_
 simp only [E.here,E.name,E.body,E.next,E.find]
 refine RunsX.bind (e1 := [⟨.mark (.extern g),false,true⟩]) RunsX.mark ?_
 have := RunsX.bind (f := fun v => (Pure.pure (Next.value v) : Go.Sem Next)) h RunsX.pure
 rw [List.append_nil] at this
 exact this
theorem site_step {e : Array Value → Go.Sem Value} (S : Site P g cargs b a ops i o) (E : IsExt P g fn e) {v : Value} {es : List Event} (h : RunsX P (e ⟨cargs⟩) w v w' es) (hs : ∀ x ∈ es,x.sync = true ∧ ∀ f,x.loc ≠ .mark (.extern f)) :
  stepG P main (G (b.at a (.inRegion ops (i :: rest) :: k)) cs) w = .go (G (b.at (a.put o.dst v) (.inRegion ops rest :: k)) cs) w' es.toArray := by
 have hr : (execOp a.eval o).runT P w #[] = (.ok (.value v) w',#[⟨.mark (.extern g),false,true⟩] ++ es.toArray) := by
  rw [S.calls,runs_ext E h #[]]
  simp
 have hf := FB.finish_at b a ops i rest k v
 rw [S.here] at hf
 simp only [Option.bind_some] at hf
 have hk' : (b.kind == CallKind.early) = false := by simpa using S.kind
 rw [stepG_op S.here S.wanted S.nodef,← hf]
 simp only [stepG.apply,hr,if_true]
 have hz := seen_entry (P := P) b.fn g es.toArray (by simpa using hs)
 rw [show (#[⟨.mark (.extern g),false,true⟩] ++ es.toArray : Array Event) = (⟨.mark (.extern g),false,true⟩ :: es).toArray by simp] at hz
 simp [G,FB.at,hk',GStep.after,hz]
theorem IsExt.not {e : Array Value → Go.Sem Value} (E : IsExt P g fn e) : g < P.funcs.size ∧ callable P g = false := by
 refine ⟨(Array.getElem?_eq_some_iff.1 E.here).1,?_⟩
 have hb : fn.body.isSome = false := by
  have := E.body
  cases h : fn.body with
  | none => rfl
  | some c => rw [h] at this; cases this
 unfold callable
 rw [E.here]
 simp [hb]
end
section
variable {P : Program} {main : Bool} {J : JT} {g : FuncId} {fn : Func}
theorem good_same (hJ : Closed P main J) {e : Array Value → Go.Sem Value} (E : IsExt P g fn e) {v : Value} {h : List AObj} {K : Value → List AObj → Prop} (hv : v ≠ unk)
  (hrun : ∀ c w,RunsX P (e ⟨[c]⟩) w c w []) (hK : K v h) : Good P J g [v] h K :=
 .inr ⟨E.not,fun b a ops i rest o k cs ρ FC w ft cargs S H hr hl hc => hJ.step rfl fun w₁ h₁ => by
  match cargs,hl with
  | [c],_ =>
   have h0 : VRel h.length ρ v c := hr 0
   exact ⟨_,w₁,#[],site_step S E (hrun c _) (by simp),rfl,GuarW.refl _ _,by
    rw [Foot.ext_self]
    exact hc v h ρ w₁ ft c hK (H.rely h₁) (Env.upto_refl _ _) (Nat.le_refl _) h0⟩⟩
theorem RunsX.choose {q : Question} {w : World} (hq : q.forced = false) : ∃ T d,RunsX P (Go.choose q) w (q.cut T) { w with drawn := d } [] := by
 refine ⟨w.tape w.drawn q,w.drawn + 1,fun acc => ?_⟩
 unfold Go.choose
 unfold Sem.runT
 rw [hq]
 simp
theorem RunsX.newObj {o : Obj} {w : World} : RunsX P (Go.newObj o) w w.heap.size { w with heap := w.heap.push o } [] := fun acc => by
 show (Result.ok _ _,acc) = _
 simp
theorem RunsX.underlying {t : TypeId} {d : TypeDesc} {w : World} (hu : P.underlying t = some d) : RunsX P (Go.underlying t) w d w [] := by
 unfold Go.underlying
 refine RunsX.bind (e1 := []) (e2 := []) RunsX.program ?_
 simp only [hu]
 exact RunsX.pure
theorem digits_size : ∀ (n t : Nat) (acc : Array Value),(Extern.BytealgMakeNoZero.digits n t acc).size = acc.size + n
 | 0,_,acc => by simp [Extern.BytealgMakeNoZero.digits]
 | n + 1,t,acc => by
  simp only [Extern.BytealgMakeNoZero.digits]
  rw [digits_size n]
  simp
  omega
theorem digits_plain (ρ : Env) (m : Nat) : ∀ (n t : Nat) (acc : Array Value),(∀ v ∈ acc,VOk m v ∧ one v = true ∧ ren ρ v = v) → ∀ v ∈ Extern.BytealgMakeNoZero.digits n t acc,VOk m v ∧ one v = true ∧ ren ρ v = v
 | 0,_,acc,ha => by simpa [Extern.BytealgMakeNoZero.digits] using ha
 | n + 1,t,acc,ha => by
  simp only [Extern.BytealgMakeNoZero.digits]
  refine digits_plain ρ m n _ _ fun v hv => ?_
  rcases Array.mem_push.1 hv with hv | rfl
  ·exact ha v hv
  ·exact ⟨by simp [VOk],rfl,by simp [ren]⟩
theorem runs_mnz {params results : Array TypeId} {t e : TypeId} (ht : results[0]? = some t) (hu : P.underlying t = some (.slice e)) {n : Int} (h0 : 0 ≤ n) (h1 : n ≤ 1000000) (w : World) :
  ∃ C B d es,n.toNat ≤ C ∧ (es = [] ∨ es = [⟨.mark .noRoom,false,true⟩]) ∧
   RunsX P (Extern.BytealgMakeNoZero.makeNoZero params results #[.int .i64 n]) w (.slice (some ⟨w.heap.size,0,none⟩) n.toNat C) { w with heap := w.heap.push (.cells (Extern.BytealgMakeNoZero.digits C B #[]) e),drawn := d } es := by
 obtain ⟨T,d,hT⟩ := RunsX.choose (P := P) (q := .appendCap n.toNat 0 e) (w := w) rfl
 obtain ⟨T2, d2, hT2⟩ := RunsX.choose (P := P) (q := .extern "internal/bytealg.MakeNoZero.bytes" 0) (w := { w with drawn := d }) rfl
 have hge : n.toNat ≤ (Question.appendCap n.toNat 0 e).cut T := by simp [Question.cut]
 generalize (Question.appendCap n.toNat 0 e).cut T = C at hT hge
 generalize (Question.extern "internal/bytealg.MakeNoZero.bytes" 0).cut T2 = B at hT2
 have room : ∃ es,(es = [] ∨ es = [⟨.mark .noRoom,false,true⟩]) ∧ RunsX P (askRoom C) { w with drawn := d } () { w with drawn := d } es := by
  unfold askRoom
  split
  ·exact ⟨_,.inr rfl,RunsX.mark⟩
  ·exact ⟨_,.inl rfl,RunsX.pure⟩
 obtain ⟨es,hes,hroom⟩ := room
 refine ⟨C,B,d2,es,hge,hes,?_⟩
 have ed : Extern.BytealgMakeNoZero.makeNoZero params results #[.int .i64 n] = (do
   let some t := results[0]? | stuck "bytealg.MakeNoZero: no result type"
   let .slice elem ← Go.underlying t | stuck "bytealg.MakeNoZero: slice type expected"
   if n < 0 || n > 2 ^ 48 then runtimePanic (.error "makeslice: len out of range")
   let cap ← Go.choose (.appendCap n.toNat 0 elem)
   askRoom cap
   let bytes ← Go.choose (.extern "internal/bytealg.MakeNoZero.bytes" 0)
   let a ← newRow elem (Extern.BytealgMakeNoZero.digits cap bytes #[])
   pure (.slice (some a) n.toNat cap)) := rfl
 rw [ed]
 simp only [ht]
 refine RunsX.bind (e1 := []) (e2 := es) (RunsX.underlying hu) ?_
 simp only
 rw [if_neg (by simp; omega)]
 refine RunsX.bind (e1 := []) (e2 := es) hT ?_
 have : es = es ++ [] := by simp
 rw [this]
 refine RunsX.bind hroom ?_
 refine RunsX.bind (e1 := []) (e2 := []) hT2 ?_
 unfold newRow
 refine RunsX.bind (e1 := []) (e2 := []) (RunsX.bind (e1 := []) (e2 := []) RunsX.newObj RunsX.pure) RunsX.pure
theorem good_mnz (hJ : Closed P main J) {params results : Array TypeId} (E : IsExt P g fn (Extern.BytealgMakeNoZero.makeNoZero params results)) {t e : TypeId} (ht : results[0]? = some t) (hu : P.underlying t = some (.slice e)) {n : Int} (h0 : 0 ≤ n) (h1 : n ≤ 1000000)
  {h : List AObj} {K : Value → List AObj → Prop} (hK : ∀ cs : List Value,cs.length = n.toNat → K (.slice (some ⟨h.length,0,none⟩) n.toNat fz) (h ++ [.typed true e cs true])) : Good P J g [vint n] h K :=
 .inr ⟨E.not,fun b a ops i rest o k cs ρ FC w ft cargs S H hr hl hc => hJ.step rfl fun w₁ h₁ => by
  match cargs,hl with
  | [c],_ =>
   have hv0 : VRel h.length ρ (vint n) c := hr 0
   obtain rfl : c = .int .i64 n := by
    rcases hv0 with e | ⟨_,e⟩
    ·cases e
    ·simpa [ren] using e
   obtain ⟨C,B,d,es,hge,hes,hrun⟩ := runs_mnz (P := P) (params := params) ht hu h0 h1 w₁
   have H₁ := H.rely h₁
   have hsz := digits_size C B #[]
   have hpl := fun m ρ' => digits_plain ρ' m C B #[] (by simp)
   generalize Extern.BytealgMakeNoZero.digits C B #[] = D at hrun hsz hpl
   have hsz : D.size = C := by simpa using hsz
   have G := H₁.push (.typed true e (D.toList.take n.toNat) true) (.cells D e) C (by
    refine ⟨(⟨fun i v hv => ?_,fun hz => absurd hz (by decide),fun _ => ⟨?_,by simp; exact Nat.min_le_right _ _⟩,fun _ => Nat.le_refl _⟩ : CellsRel (h.length + 1) (ρ.put h.length w₁.heap.size C) h.length (D.toList.take n.toNat) true 1 D (0,0)),fun _ => rfl,fun e => by cases e⟩
    ·have hm : v ∈ D := by
      have := List.mem_of_mem_take (List.mem_of_getElem? hv)
      simpa using this
     obtain ⟨a1,a2,a3⟩ := hpl (h.length + 1) (ρ.put h.length w₁.heap.size C) v hm
     refine .inr ⟨a1,a2,?_⟩
     rw [a3]
     rw [List.getElem?_take] at hv
     split at hv
     ·simpa using hv
     ·cases hv
    ·rw [(Env.put_self ρ h.length w₁.heap.size C).2,hsz,Nat.mul_one]) d (fun y e => by cases e)
   obtain ⟨G1,G2,G3,G4⟩ := G
   refine ⟨_,_,es.toArray,site_step S E hrun (by rcases hes with rfl | rfl <;> simp),rfl,⟨G4.heap,G4.size,G4.tape,G4.os,G4.output,fun x hx => ?_⟩,?_⟩
   ·rcases hes with rfl | rfl
    ·simp at hx
    ·simp at hx
     subst hx
     trivial
   ·refine hc _ _ _ _ _ _ (hK (D.toList.take n.toNat) (by simp; omega)) G1 G2 G3 (.inr ⟨by simp [VOk,AddrOk],?_⟩)
    simp [ren,renAddr,renCap,Env.put]⟩
end
section
variable {P : Program} {main : Bool} {J : JT} {g : FuncId} {fn : Func} {h : List AObj} {K : Value → List AObj → Prop}
theorem good_run (hJ : Closed P main J) {e : Array Value → Go.Sem Value} (E : IsExt P g fn e) {args : List Value}
  (hrun : ∀ (ρ : Env) (FC : Frm) (w : World) (ft : Foot) (cargs : List Value),HRel ρ h FC w ft → (∀ i : Nat,VRel h.length ρ (args.getD i unk) (cargs.getD i undef)) → cargs.length = args.length →
   RunsTo P (EvOk ft) (e ⟨cargs⟩) w fun cv w' => ∃ v h' ρ',K v h' ∧ Goes1 ρ h FC w ft ρ' h' w' ∧ VRel h'.length ρ' v cv) : Good P J g args h K :=
 .inr ⟨E.not,fun b a ops i rest o k cs ρ FC w ft cargs S H hr hl hc => hJ.step rfl fun w₁ h₁ => by
  have H₁ := H.rely h₁
  have hcall : RunsTo P (EvOk ft) (callFunc g ⟨cargs⟩) w₁ fun nx w' => ∃ cv v h' ρ',nx = .value cv ∧ K v h' ∧ Goes1 ρ h FC w₁ ft ρ' h' w' ∧ VRel h'.length ρ' v cv := by
   unfold callFunc
   refine RunsTo.bind (RunsTo.program ?_)
   simp only [E.here,E.name,E.body,E.next,E.find]
   refine RunsTo.bind (RunsTo.mark trivial ?_)
   refine RunsTo.bind ((hrun ρ FC w₁ ft cargs H₁ hr hl).mono fun cv w' ⟨v,h',ρ',k1,k2,k3⟩ => RunsTo.pure ⟨cv,v,h',ρ',rfl,k1,k2,k3⟩)
  obtain ⟨nx,w',es,hr2,he,cv,v,h',ρ',rfl,hK,g',hv⟩ := hcall #[] (by simp)
  have hes : ∀ e ∈ seen P b.fn es,EvOk ft e := fun e hm => he e (mem_seen hm)
  have hf := FB.finish_at b a ops i rest k cv
  rw [S.here] at hf
  simp only [Option.bind_some] at hf
  have hk' : (b.kind == CallKind.early) = false := by simpa using S.kind
  refine ⟨G (b.at (a.put o.dst cv) (.inRegion ops rest :: k)) cs,w',seen P b.fn es,?_,rfl,g'.stays.guar hes,?_⟩
  ·rw [stepG_op S.here S.wanted S.nodef,← hf]
   simp only [stepG.apply,(S.calls w₁).trans hr2,if_true]
   simp [G,FB.at,hk',GStep.after]
  ·exact hc v h' ρ' w' _ cv hK g'.rel g'.upto g'.len hv⟩
theorem good_plain (hJ : Closed P main J) {e : Array Value → Go.Sem Value} (E : IsExt P g fn e) {args : List Value} {v : Value} (hv : VOk 0 v) (hren : ∀ ρ,ren ρ v = v)
  (hrun : ∀ (ρ : Env) (FC : Frm) (w : World) (ft : Foot) (cargs : List Value),HRel ρ h FC w ft → (∀ i : Nat,VRel h.length ρ (args.getD i unk) (cargs.getD i undef)) → cargs.length = args.length → RunsX P (e ⟨cargs⟩) w v w []) (hK : K v h) : Good P J g args h K :=
 good_run hJ E fun ρ FC w ft cargs H hr hl es he => by
  refine ⟨v,w,es,?_,he,v,h,ρ,hK,Goes1.refl H,.inr ⟨VOk.mono (Nat.zero_le _) _ hv,(hren ρ).symm⟩⟩
  simpa using hrun ρ FC w ft cargs H hr hl es
theorem arg_str {n : Nat} {ρ : Env} {s : ByteArray} {c : Value} (h : VRel n ρ (.string s) c) : c = .string s := by
 rcases h with e | ⟨_,e⟩
 ·cases e
 ·simpa [ren] using e
theorem arg_int {n : Nat} {ρ : Env} {k : IntKind} {i : Int} {c : Value} (h : VRel n ρ (.int k i) c) : c = .int k i := by
 rcases h with e | ⟨_,e⟩
 ·cases e
 ·simpa [ren] using e
theorem good_count (hJ : Closed P main J) (E : IsExt P g fn Extern.BytealgCount.count) {s : List UInt8} {c : UInt8} (hK : K (.int .i64 (s.count c : Nat)) h) : Good P J g [.string ⟨⟨s⟩⟩,.int .u8 c.toNat] h K :=
 good_plain hJ E (by simp [VOk]) (fun ρ => by simp [ren]) (fun ρ FC w ft cargs H hr hl => by
  match cargs,hl with
  | [a,b],_ =>
   obtain rfl := arg_str (hr 0)
   obtain rfl := arg_int (hr 1)
   refine RunsX.of ?_ fun acc => ?_
   ·rw [show (⟨[.string ⟨⟨s⟩⟩,.int .u8 c.toNat]⟩ : Array Value) = #[.string ⟨⟨s⟩⟩,.int .u8 c.toNat] from rfl,Lib.run_countString]
    simp [Lib.countByte]
   ·change Sem.events P (do
     let b ← Extern.Bytes.bytesOf (.string ⟨⟨s⟩⟩)
     let c' ← Extern.Bytes.asByte (.int .u8 c.toNat)
     pure (goInt (b.foldl (fun n x => if x == c' then n + 1 else n) (0 : Nat)))) w acc = _
    simp [Extern.Bytes.bytesOf,Extern.Bytes.asByte]) hK
theorem good_idxB (hJ : Closed P main J) (E : IsExt P g fn Extern.BytealgIndexByte.indexByte) {s : List UInt8} {c : UInt8} (hK : K (.int .i64 (Lib.indexByte s c)) h) : Good P J g [.string ⟨⟨s⟩⟩,.int .u8 c.toNat] h K :=
 good_plain hJ E (by simp [VOk]) (fun ρ => by simp [ren]) (fun ρ FC w ft cargs H hr hl => by
  match cargs,hl with
  | [a,b],_ =>
   obtain rfl := arg_str (hr 0)
   obtain rfl := arg_int (hr 1)
   refine RunsX.of ?_ fun acc => ?_
   ·rw [show (⟨[.string ⟨⟨s⟩⟩,.int .u8 c.toNat]⟩ : Array Value) = #[.string ⟨⟨s⟩⟩,.int .u8 c.toNat] from rfl,Lib.run_indexByteString]
    simp
   ·change Sem.events P (do
     let b ← Extern.Bytes.bytesOf (.string ⟨⟨s⟩⟩)
     let c' ← Extern.Bytes.asByte (.int .u8 c.toNat)
     match (List.range b.size).find? fun i => b[i]! == c' with
     | some i => pure (goInt i)
     | none => pure (goInt (-1))) w acc = _
    simp only [Extern.Bytes.bytesOf,Extern.Bytes.asByte,Sem.events_bind,Sem.run_pure,Sem.events_pure,Result.evThen]
    split <;> simp) hK
theorem good_idxS (hJ : Closed P main J) (E : IsExt P g fn Extern.BytealgIndex.index) {s u : List UInt8} {gm : Nat} {m : Int} (hg : P.globals.findIdx? (·.name == "internal/bytealg.MaxLen") = some gm) (hm : h[gm]? = some (.typed false gm [.int .i64 m] false))
  (h2 : 2 ≤ u.length) (hb : (u.length : Int) ≤ m) (ha : s.length < 1000000) (hK : K (.int .i64 (Lib.index s u)) h) : Good P J g [.string ⟨⟨s⟩⟩,.string ⟨⟨u⟩⟩] h K :=
 good_run hJ E (fun ρ FC w ft cargs H hr hl => by
  match cargs,hl with
  | [a,b],_ =>
   obtain rfl := arg_str (hr 0)
   obtain rfl := arg_str (hr 1)
   have ho := H.obj gm _ hm
   have hrd := H.rd gm _ hm rfl
   match hw : w.heap[ρ.blk gm]?,ho with
   | some (.cells c' ty fr),ho =>
    obtain ⟨hc,_,hl⟩ := ho
    have hl := hl rfl
    have h0 := hc.1 0 (.int .i64 m) rfl
    have h0 : c'[0]? = some (.int .i64 m) := by
     rcases h0 with ⟨e,_⟩ | ⟨_,_,e⟩
     ·cases e
     ·simpa [ren] using e
    rw [hl] at hw hrd
    have hcell : w.cell? ⟨gm,0,none⟩ = some (.int .i64 m) := by
     simp [World.cell?,hw,h0]
    have hrun := Lib.run_indexString (P := P) ⟨⟨s⟩⟩ ⟨⟨u⟩⟩ w gm m hg hcell (by simpa [ByteArray.size] using h2) (by simpa [ByteArray.size] using hb) (by simp [ByteArray.size]; omega)
    intro es he
    have hev : (Extern.BytealgIndex.index #[.string ⟨⟨s⟩⟩,.string ⟨⟨u⟩⟩]).events P w es = es.push ⟨.cell ⟨gm,0,none⟩,false,false⟩ := by
     change Sem.events P (do
      let a' ← Extern.Bytes.bytesOf (.string ⟨⟨s⟩⟩)
      let b' ← Extern.Bytes.bytesOf (.string ⟨⟨u⟩⟩)
      if b'.size < 2 || (b'.size : Int) > (← Extern.BytealgIndex.maxLen) then
       unsupported (.noEntry "extern/internal/bytealg.Index.length")
      if a'.size ≥ 2 ^ 32 - 15 then
       unsupported (.noEntry "extern/internal/bytealg.Index: a haystack of 2^32 - 15 bytes or more")
      match (List.range (a'.size + 1 - b'.size)).find? fun i => a'.extract i (i + b'.size) == b' with
      | some i => pure (goInt i)
      | none => pure (goInt (-1))) w es = _
     have hmax : (Extern.BytealgIndex.maxLen).run P w = .ok m w := by
      simp [Extern.BytealgIndex.maxLen,globalAddr,hg,hcell,asInt,asIntOf,Result.andThen]
     have hmev : (Extern.BytealgIndex.maxLen).events P w es = es.push ⟨.cell ⟨gm,0,none⟩,false,false⟩ := by
      simp [Extern.BytealgIndex.maxLen,globalAddr,hg,hcell,asInt,asIntOf]
      rfl
     have h2' : ¬ (u.length < 2) := by omega
     have hb' : ¬ (m < (u.length : Int)) := by omega
     have ha' : ¬ (s.length ≥ 2 ^ 32 - 15) := by omega
     simp only [Extern.Bytes.bytesOf,Sem.events_bind,Sem.run_bind,Sem.run_pure,Sem.events_pure,Result.evThen,hmax,hmev]
     simp only [ByteArray.size,List.size_toArray,h2',hb',ha',decide_false,Bool.or_self,Bool.false_eq_true,if_false,Sem.run_pure,Sem.events_pure,Sem.events_bind,Sem.run_bind,Result.evThen]
     split <;> simp
    refine ⟨_,w,es.push ⟨.cell ⟨gm,0,none⟩,false,false⟩,Prod.ext ((Sem.runT_fst P _ w es).trans hrun) hev,fun e hm => ?_,_,h,ρ,hK,Goes1.refl H,.inr ⟨by simp [VOk],by simp [ren]⟩⟩
    rcases Array.mem_push.1 hm with hm | rfl
    ·exact he e hm
    ·exact ⟨rfl,hrd,fun x => by cases x⟩)
end
end Go.Proofs.YtlladcglhjlbpaaGreatDoor
namespace Go.Proofs.YtlladcglhjlbpaaGreatDoor
open Go.Conc Go.Proofs.Tryz
set_option maxRecDepth 100000
set_option maxHeartbeats 4000000
set_option linter.unusedVariables false
section
variable {main : Bool} {J : JT} {n0 : Nat} {h : List AObj} {K : Value → List AObj → Prop}
theorem at27 : prog.funcs[27]? = some f27 := by kernel_rfl
theorem body27 : f27.body = some (codeOf f27) := by kernel_rfl
def pl27 : Plans := []
def ct27 : Cuts := .go
theorem pok27 : plansOk prog pl27 (codeOf f27) = true := by kernel_rfl
theorem e27 {a0 : Value} : W prog J 6 h.length 27 (codeOf f27) (RG.mk (regs [a0]) []) h (RetQ prog [.tmp 2] h.length K) =
(Good prog J 51 [a0,(Value.string { data := #[32] })] h fun v1 h2 =>
aBin prog .add 9 v1 (Value.string { data := #[10] }) fun v3 =>
retL h.length K [] [v3] h2) := top_eq pok27 ct27 (by kernel_rfl)
theorem g27 (hJ : Closed prog main J) {a0 : Value} (hs : heapOk h → W prog J 6 h.length 27 (codeOf f27) (RG.mk (regs [a0]) []) h (RetQ prog [.tmp 2] h.length K)) : Good prog J 27 [a0] h K :=
 good_of_W hJ mixed at27 body27 (by kernel_rfl) (Nat.le_of_ble_eq_true rfl) hs
theorem at28 : prog.funcs[28]? = some f28 := by kernel_rfl
theorem body28 : f28.body = some (codeOf f28) := by kernel_rfl
def pl28 : Plans := []
def ct28 : Cuts := .go
theorem pok28 : plansOk prog pl28 (codeOf f28) = true := by kernel_rfl
theorem e28 {a0 a1 : Value} : W prog J 10 h.length 28 (codeOf f28) (RG.mk (regs [a0,a1]) []) h (RetQ prog [.tmp 4] h.length K) =
(aBin prog .add 9 a0 (Value.string { data := #[61] }) fun v1 =>
Good prog J 31 [a1] h fun v2 h3 =>
aBin prog .add 9 v1 v2 fun v4 =>
retL h.length K [] [v4] h3) := top_eq pok28 ct28 (by kernel_rfl)
theorem g28 (hJ : Closed prog main J) {a0 a1 : Value} (hs : heapOk h → W prog J 10 h.length 28 (codeOf f28) (RG.mk (regs [a0,a1]) []) h (RetQ prog [.tmp 4] h.length K)) : Good prog J 28 [a0,a1] h K :=
 good_of_W hJ mixed at28 body28 (by kernel_rfl) (Nat.le_of_ble_eq_true rfl) hs
theorem at29 : prog.funcs[29]? = some f29 := by kernel_rfl
theorem body29 : f29.body = some (codeOf f29) := by kernel_rfl
def pl29 : Plans := [(1,false,.take 0 (.take 1 (.take 2 (.take 5 (.take 6 (.last 3 true (.take 4 (.last 7 true (.take 8 (.take 9 (.fin)))))))))))]
def ct29 : Cuts := .go
theorem pok29 : plansOk prog pl29 (codeOf f29) = true := by kernel_rfl
theorem e29 {a0 a1 : Value} : W prog J 14 h.length 29 (codeOf f29) (RG.mk (regs [a0,a1]) []) h (RetQ prog [.tmp 4] h.length K) =
(aBox a1 h fun v1 h2 =>
(∃ B,aOff v1 0 fun v3 =>
aLoad false 1 v3 h2 fun v4 =>
RdOk (some B) (ptrBlk v3) ∧ (aOff v1 1 fun v5 =>
aLoad false 1 v5 h2 fun v6 =>
RdOk (some B) (ptrBlk v5) ∧ (Good prog J 28 [a0,v4] h2 fun v7 h8 =>
SameB (some B) h2 h8 ∧ (aBin prog .add 9 v7 (Value.string { data := #[46,46] }) fun v9 =>
Good prog J 31 [v6] h8 fun v10 h11 =>
SameB (some B) h2 h11 ∧ (aBin prog .add 9 v9 v10 fun v12 =>
retL h.length K [] [v12] h11)))))) := top_eq pok29 ct29 (by kernel_rfl)
theorem g29 (hJ : Closed prog main J) {a0 a1 : Value} (hs : heapOk h → W prog J 14 h.length 29 (codeOf f29) (RG.mk (regs [a0,a1]) []) h (RetQ prog [.tmp 4] h.length K)) : Good prog J 29 [a0,a1] h K :=
 good_of_W hJ mixed at29 body29 (by kernel_rfl) (Nat.le_of_ble_eq_true rfl) hs
theorem at9 : prog.funcs[9]? = some f9 := by kernel_rfl
theorem body9 : f9.body = some (codeOf f9) := by kernel_rfl
def pl9 : Plans := [(4,false,.take 0 (.take 1 (.take 3 (.take 4 (.take 6 (.take 7 (.last 2 true (.last 5 true (.last 8 true (.last 9 true (.last 10 true (.take 11 (.fin))))))))))))),
 (13,false,.take 0 (.take 1 (.take 2 (.take 4 (.take 5 (.take 7 (.take 8 (.take 10 (.take 11 (.last 3 true (.last 6 true (.last 9 true (.last 12 true (.last 13 true (.last 14 true (.take 15 (.take 16 (.fin))))))))))))))))))]
def ct9 : Cuts := .go
theorem pok9 : plansOk prog pl9 (codeOf f9) = true := by kernel_rfl
theorem e9 {a0 : Value} : W prog J 68 h.length 9 (codeOf f9) (RG.mk (regs [a0]) []) h (RetQ prog [.tmp 2,.tmp 3] h.length K) =
(aBox a0 h fun v1 h2 =>
aLoad true 6 v1 h2 fun v3 =>
Good prog J 26 [v3] h2 fun v4 h5 =>
aBin prog .neq 36 v4 (vint 0) fun v6 =>
cnd v6
(retL h.length K [] [(Value.string { data := #[] }),v4] h5)
((∃ B,aOff v1 0 fun v7 =>
aLoad false 1 v7 h5 fun v8 =>
RdOk (some B) (ptrBlk v7) ∧ (aOff v1 1 fun v9 =>
aLoad true 2 v9 h5 fun v10 =>
RdOk (some B) (ptrBlk v9) ∧ (aOff v1 4 fun v11 =>
aLoad false 1 v11 h5 fun v12 =>
RdOk (some B) (ptrBlk v11) ∧ (Good prog J 28 [(Value.string { data := #[103,97,116,101,115] }),v8] h5 fun v13 h14 =>
SameB (some B) h5 h14 ∧ (Good prog J 29 [(Value.string { data := #[102,105,114,115,116] }),v10] h14 fun v15 h16 =>
SameB (some B) h5 h16 ∧ (Good prog J 28 [(Value.string { data := #[108,111,115,116] }),v12] h16 fun v17 h18 =>
SameB (some B) h5 h18 ∧ ((((3 * 1 : Nat) ≤ 16777216 ∧ (3 : Nat) ≤ 16777216 ∧ List.length [(Value.string { data := #[] })] = 1) ∧ aFill (zrep [(Value.string { data := #[] })] 3) [(0,1,v13),(1,1,v15),(2,1,v17)] fun c19 =>
aNewS 3 c19 h18 fun v20 h21 =>
SameB (some B) h5 h21 ∧ (Good prog J 27 [v20] h21 fun v22 h23 =>
SameB (some B) h5 h23 ∧ (aOff v1 3 fun v24 =>
aLoad false 1 v24 h23 fun v25 =>
aLenS v25 fun v26 =>
Sem J 68 h.length 9 (subC yp1 (codeOf f9)) (RG.p (RG.p (RG.p (RG.p (RG.p (RG.p (RG.p (RG.p (RG.p (RG.p (RG.p (RG.p (RG.p (RG.p (RG.p (RG.p (RG.p (RG.p (RG.p (RG.p (RG.p (RG.p (RG.p (RG.p (RG.mk (regs [a0]) []) 1 v1) 2 (Value.string { data := #[] })) 3 (vint 0)) 10 v3) 11 v4) 4 v4) 12 v4) 13 v6) 15 v7) 16 v8) 18 v9) 19 v10) 21 v11) 22 v12) 17 v13) 20 v15) 23 v17) 24 v20) 25 v22) 5 v22) 26 v24) 27 v25) 28 v26) 29 (vint 0)) h23 (contX pl9 prog J 68 h.length 9 ct9 yp1 (codeOf f9) [] (RetQ prog [.tmp 2,.tmp 3] h.length K)))))))))))))) := top_eq pok9 ct9 (by kernel_rfl)
theorem g9 (hJ : Closed prog main J) {a0 : Value} (hs : heapOk h → W prog J 68 h.length 9 (codeOf f9) (RG.mk (regs [a0]) []) h (RetQ prog [.tmp 2,.tmp 3] h.length K)) : Good prog J 9 [a0] h K :=
 good_of_W hJ mixed at9 body9 (by kernel_rfl) (Nat.le_of_ble_eq_true rfl) hs
theorem s9_1 {f : RG} {nx0 : RG → List AObj → Prop} : W prog J 68 n0 9 (subC yp6 (codeOf f9)) f h (thenK nx0 (contX pl9 prog J 68 n0 9 ct9 yp1 (codeOf f9) [] (RetQ prog [.tmp 2,.tmp 3] n0 K))) =
(aBin prog .lss 3 (f.r 29) (f.r 28) fun v1 =>
cnd v1
(aIdx 2 (f.r 27) (f.r 29) fun v2 =>
aLoad true 2 v2 h fun v3 =>
aAlloc [(vint 0),(vint 0)] h fun v4 h5 =>
aStore 2 v4 v3 h5 fun h6 =>
aLoad true 2 v4 h6 fun v7 =>
Good prog J 29 [(Value.string { data := #[99,104,97,110,103,101] }),v7] h6 fun v8 h9 =>
(((1 * 1 : Nat) ≤ 16777216 ∧ (1 : Nat) ≤ 16777216 ∧ List.length [(Value.string { data := #[] })] = 1) ∧ aFill (zrep [(Value.string { data := #[] })] 1) [(0,1,v8)] fun c10 =>
aNewS 1 c10 h9 fun v11 h12 =>
Good prog J 27 [v11] h12 fun v13 h14 =>
aBin prog .add 9 (f.r 5) v13 fun v15 =>
aBin prog .add 3 (f.r 29) (vint 1) fun v16 =>
nx0 (RG.p (RG.p (RG.p (RG.p (RG.p (RG.p (RG.p (RG.p (RG.p (RG.p (RG.p (RG.p (RG.p f 30 v1) 31 v2) 32 v3) 7 v4) 33 (f.r 5)) 34 v7) 35 v8) 36 v11) 37 v13) 38 v15) 5 v15) 39 v16) 29 v16) h14))
(aOff (f.r 1) 5 fun v17 =>
aLoad false 1 v17 h fun v18 =>
aLenS v18 fun v19 =>
Sem J 68 n0 9 (subC yp0 (codeOf f9)) (RG.p (RG.p (RG.p (RG.p (RG.p f 30 v1) 40 v17) 41 v18) 42 v19) 43 (vint 0)) h (contX pl9 prog J 68 n0 9 ct9 yp0 (codeOf f9) [] (RetQ prog [.tmp 2,.tmp 3] n0 K)))) := sub_eq pok9 ct9 (by kernel_rfl)
theorem l9_1 (hJ : Closed prog main J) {S : Type} (μ : S → Nat) (I : S → RG → List AObj → Prop) (hI : ∀ s f h,I s f h → heapOk h → n0 ≤ h.length → W prog J 68 n0 9 (subC yp6 (codeOf f9)) f h (thenK (Nx n0 μ I s) (contX pl9 prog J 68 n0 9 ct9 yp1 (codeOf f9) [] (RetQ prog [.tmp 2,.tmp 3] n0 K))))
 {s : S} {f : RG} (hi : Gets n0 I s f h) : Sem J 68 n0 9 (subC yp1 (codeOf f9)) f h (contX pl9 prog J 68 n0 9 ct9 yp1 (codeOf f9) [] (RetQ prog [.tmp 2,.tmp 3] n0 K)) :=
 loop_rule hJ mixed (b := subC yp6 (codeOf f9)) (by kernel_rfl) μ I hI hi
theorem s9_2 {f : RG} {nx0 : RG → List AObj → Prop} : W prog J 68 n0 9 (subC yp4 (codeOf f9)) f h (thenK nx0 (contX pl9 prog J 68 n0 9 ct9 yp0 (codeOf f9) [] (RetQ prog [.tmp 2,.tmp 3] n0 K))) =
(aBin prog .lss 3 (f.r 43) (f.r 42) fun v1 =>
cnd v1
(aIdx 4 (f.r 41) (f.r 43) fun v2 =>
aLoad true 4 v2 h fun v3 =>
aAlloc [(vint 0),(vint 0),(vint 0),(vint 0)] h fun v4 h5 =>
aStore 4 v4 v3 h5 fun h6 =>
(∃ B,aOff v4 0 fun v7 =>
aLoad false 1 v7 h6 fun v8 =>
RdOk (some B) (ptrBlk v7) ∧ (aOff v4 1 fun v9 =>
aLoad false 1 v9 h6 fun v10 =>
RdOk (some B) (ptrBlk v9) ∧ (aOff v4 2 fun v11 =>
aLoad false 1 v11 h6 fun v12 =>
RdOk (some B) (ptrBlk v11) ∧ (aOff v4 3 fun v13 =>
aLoad false 1 v13 h6 fun v14 =>
RdOk (some B) (ptrBlk v13) ∧ (Good prog J 28 [(Value.string { data := #[103,97,116,101] }),v8] h6 fun v15 h16 =>
SameB (some B) h6 h16 ∧ (Good prog J 28 [(Value.string { data := #[109,97,110] }),v10] h16 fun v17 h18 =>
SameB (some B) h6 h18 ∧ (Good prog J 28 [(Value.string { data := #[110,117,109,98,101,114] }),v12] h18 fun v19 h20 =>
SameB (some B) h6 h20 ∧ (Good prog J 28 [(Value.string { data := #[101,114,114] }),v14] h20 fun v21 h22 =>
SameB (some B) h6 h22 ∧ ((((5 * 1 : Nat) ≤ 16777216 ∧ (5 : Nat) ≤ 16777216 ∧ List.length [(Value.string { data := #[] })] = 1) ∧ aFill (zrep [(Value.string { data := #[] })] 5) [(0,1,(Value.string { data := #[99,111,117,110,116] })),(1,1,v15),(2,1,v17),(3,1,v19),(4,1,v21)] fun c23 =>
aNewS 5 c23 h22 fun v24 h25 =>
SameB (some B) h6 h25 ∧ (Good prog J 27 [v24] h25 fun v26 h27 =>
SameB (some B) h6 h27 ∧ (aBin prog .add 9 (f.r 5) v26 fun v28 =>
aBin prog .add 3 (f.r 43) (vint 1) fun v29 =>
nx0 (RG.p (RG.p (RG.p (RG.p (RG.p (RG.p (RG.p (RG.p (RG.p (RG.p (RG.p (RG.p (RG.p (RG.p (RG.p (RG.p (RG.p (RG.p (RG.p (RG.p (RG.p (RG.p (RG.p f 44 v1) 45 v2) 46 v3) 9 v4) 47 (f.r 5)) 48 v7) 49 v8) 51 v9) 52 v10) 54 v11) 55 v12) 57 v13) 58 v14) 50 v15) 53 v17) 56 v19) 59 v21) 60 v24) 61 v26) 62 v28) 5 v28) 63 v29) 43 v29) h27)))))))))))))
((((1 * 1 : Nat) ≤ 16777216 ∧ (1 : Nat) ≤ 16777216 ∧ List.length [(Value.string { data := #[] })] = 1) ∧ aFill (zrep [(Value.string { data := #[] })] 1) [(0,1,(Value.string { data := #[116,97,108,108,105,101,100] }))] fun c30 =>
aNewS 1 c30 h fun v31 h32 =>
Good prog J 27 [v31] h32 fun v33 h34 =>
aBin prog .add 9 (f.r 5) v33 fun v35 =>
retL n0 K f.ds [v35,(vint 0)] h34))) := sub_eq pok9 ct9 (by kernel_rfl)
theorem l9_2 (hJ : Closed prog main J) {S : Type} (μ : S → Nat) (I : S → RG → List AObj → Prop) (hI : ∀ s f h,I s f h → heapOk h → n0 ≤ h.length → W prog J 68 n0 9 (subC yp4 (codeOf f9)) f h (thenK (Nx n0 μ I s) (contX pl9 prog J 68 n0 9 ct9 yp0 (codeOf f9) [] (RetQ prog [.tmp 2,.tmp 3] n0 K))))
 {s : S} {f : RG} (hi : Gets n0 I s f h) : Sem J 68 n0 9 (subC yp0 (codeOf f9)) f h (contX pl9 prog J 68 n0 9 ct9 yp0 (codeOf f9) [] (RetQ prog [.tmp 2,.tmp 3] n0 K)) :=
 loop_rule hJ mixed (b := subC yp4 (codeOf f9)) (by kernel_rfl) μ I hI hi
end
section
variable {main : Bool} {J : JT} {n0 : Nat} {h : List AObj} {K : Value → List AObj → Prop}
theorem at106 : prog.funcs[106]? = some f106 := by kernel_rfl
theorem body106 : f106.body = some (codeOf f106) := by kernel_rfl
def pl106 : Plans := []
def ct106 : Cuts := .bin (.go) (.bin (.go) (.cut (.bin (.go) (.cut (.go)))))
theorem pok106 : plansOk prog pl106 (codeOf f106) = true := by kernel_rfl
theorem e106 {a0 : Value} : W prog J 25 h.length 106 (codeOf f106) (RG.mk (regs [a0]) []) h (RetQ prog [.tmp 2] h.length K) =
(aBin prog .geq 61 a0 (Value.int .u64 4294967296) fun v1 =>
cnd v1
(aBin prog .shr 61 a0 (Value.int .u64 32) fun v2 =>
Hold (W prog J 25 h.length 106 (subC [1,1] (codeOf f106)) (RG.p (RG.p (RG.p (RG.p (RG.p (RG.p (RG.p (RG.mk (regs [a0]) []) 2 (vint 0)) 3 a0) 4 v1) 5 a0) 6 v2) 0 v2) 2 (vint 32)) h (contX pl106 prog J 25 h.length 106 ct106 [1,1] (codeOf f106) [] (RetQ prog [.tmp 2] h.length K))))
(Hold (W prog J 25 h.length 106 (subC [1,1] (codeOf f106)) (RG.p (RG.p (RG.p (RG.mk (regs [a0]) []) 2 (vint 0)) 3 a0) 4 v1) h (contX pl106 prog J 25 h.length 106 ct106 [1,1] (codeOf f106) [] (RetQ prog [.tmp 2] h.length K))))) := top_eq pok106 ct106 (by kernel_rfl)
theorem g106 (hJ : Closed prog main J) {a0 : Value} (hs : heapOk h → W prog J 25 h.length 106 (codeOf f106) (RG.mk (regs [a0]) []) h (RetQ prog [.tmp 2] h.length K)) : Good prog J 106 [a0] h K :=
 good_of_W hJ mixed at106 body106 (by kernel_rfl) (Nat.le_of_ble_eq_true rfl) hs
theorem s106_1 {f : RG} : W prog J 25 n0 106 (subC [1,1] (codeOf f106)) f h (contX pl106 prog J 25 n0 106 ct106 [1,1] (codeOf f106) [] (RetQ prog [.tmp 2] n0 K)) =
(aBin prog .geq 61 (f.r 0) (Value.int .u64 65536) fun v1 =>
cnd v1
(aBin prog .shr 61 (f.r 0) (Value.int .u64 16) fun v2 =>
aBin prog .add 3 (f.r 2) (vint 16) fun v3 =>
Hold (W prog J 25 n0 106 (subC [1,1,1] (codeOf f106)) (RG.p (RG.p (RG.p (RG.p (RG.p (RG.p (RG.p (RG.p f 7 (f.r 0)) 8 v1) 9 (f.r 0)) 10 v2) 0 v2) 11 (f.r 2)) 12 v3) 2 v3) h (contX pl106 prog J 25 n0 106 ct106 [1,1,1] (codeOf f106) [] (RetQ prog [.tmp 2] n0 K))))
(Hold (W prog J 25 n0 106 (subC [1,1,1] (codeOf f106)) (RG.p (RG.p f 7 (f.r 0)) 8 v1) h (contX pl106 prog J 25 n0 106 ct106 [1,1,1] (codeOf f106) [] (RetQ prog [.tmp 2] n0 K))))) := sub_eq pok106 ct106 (by kernel_rfl)
theorem s106_2 {f : RG} : W prog J 25 n0 106 (subC [1,1,1] (codeOf f106)) f h (contX pl106 prog J 25 n0 106 ct106 [1,1,1] (codeOf f106) [] (RetQ prog [.tmp 2] n0 K)) =
(aBin prog .geq 61 (f.r 0) (Value.int .u64 256) fun v1 =>
cnd v1
(aBin prog .shr 61 (f.r 0) (Value.int .u64 8) fun v2 =>
aBin prog .add 3 (f.r 2) (vint 8) fun v3 =>
aConvI .u8 v2 fun v4 =>
aIdxStr (Value.string { data := #[0,1,2,2,3,3,3,3,4,4,4,4,4,4,4,4,5,5,5,5,5,5,5,5,5,5,5,5,5,5,5,5,6,6,6,6,6,6,6,6,6,6,6,6,6,6,6,6,6,6,6,6,6,6,6,6,6,6,6,6,6,6,6,6,7,7,7,7,7,7,7,7,7,7,7,7,7,7,7,7,7,7,7,7,7,7,7,7,7,7,7,7,7,7,7,7,7,7,7,7,7,7,7,7,7,7,7,7,7,7,7,7,7,7,7,7,7,7,7,7,7,7,7,7,7,7,7,7,8,8,8,8,8,8,8,8,8,8,8,8,8,8,8,8,8,8,8,8,8,8,8,8,8,8,8,8,8,8,8,8,8,8,8,8,8,8,8,8,8,8,8,8,8,8,8,8,8,8,8,8,8,8,8,8,8,8,8,8,8,8,8,8,8,8,8,8,8,8,8,8,8,8,8,8,8,8,8,8,8,8,8,8,8,8,8,8,8,8,8,8,8,8,8,8,8,8,8,8,8,8,8,8,8,8,8,8,8,8,8,8,8,8,8,8,8,8,8,8,8,8,8,8,8,8,8,8] }) v4 fun v5 =>
aConvI .i64 v5 fun v6 =>
aBin prog .add 3 v3 v6 fun v7 =>
retL n0 K f.ds [v7] h)
(aConvI .u8 (f.r 0) fun v8 =>
aIdxStr (Value.string { data := #[0,1,2,2,3,3,3,3,4,4,4,4,4,4,4,4,5,5,5,5,5,5,5,5,5,5,5,5,5,5,5,5,6,6,6,6,6,6,6,6,6,6,6,6,6,6,6,6,6,6,6,6,6,6,6,6,6,6,6,6,6,6,6,6,7,7,7,7,7,7,7,7,7,7,7,7,7,7,7,7,7,7,7,7,7,7,7,7,7,7,7,7,7,7,7,7,7,7,7,7,7,7,7,7,7,7,7,7,7,7,7,7,7,7,7,7,7,7,7,7,7,7,7,7,7,7,7,7,8,8,8,8,8,8,8,8,8,8,8,8,8,8,8,8,8,8,8,8,8,8,8,8,8,8,8,8,8,8,8,8,8,8,8,8,8,8,8,8,8,8,8,8,8,8,8,8,8,8,8,8,8,8,8,8,8,8,8,8,8,8,8,8,8,8,8,8,8,8,8,8,8,8,8,8,8,8,8,8,8,8,8,8,8,8,8,8,8,8,8,8,8,8,8,8,8,8,8,8,8,8,8,8,8,8,8,8,8,8,8,8,8,8,8,8,8,8,8,8,8,8,8,8,8,8,8,8] }) v8 fun v9 =>
aConvI .i64 v9 fun v10 =>
aBin prog .add 3 (f.r 2) v10 fun v11 =>
retL n0 K f.ds [v11] h)) := sub_eq pok106 ct106 (by kernel_rfl)
theorem at105 : prog.funcs[105]? = some f105 := by kernel_rfl
theorem body105 : f105.body = some (codeOf f105) := by kernel_rfl
def pl105 : Plans := []
def ct105 : Cuts := .go
theorem pok105 : plansOk prog pl105 (codeOf f105) = true := by kernel_rfl
theorem e105 {a0 : Value} : W prog J 6 h.length 105 (codeOf f105) (RG.mk (regs [a0]) []) h (RetQ prog [.tmp 2] h.length K) =
(aBin prog .mul 3 a0 (vint 78913) fun v1 =>
aBin prog .shr 3 v1 (Value.int .u64 18) fun v2 =>
retL h.length K [] [v2] h) := top_eq pok105 ct105 (by kernel_rfl)
theorem g105 (hJ : Closed prog main J) {a0 : Value} (hs : heapOk h → W prog J 6 h.length 105 (codeOf f105) (RG.mk (regs [a0]) []) h (RetQ prog [.tmp 2] h.length K)) : Good prog J 105 [a0] h K :=
 good_of_W hJ mixed at105 body105 (by kernel_rfl) (Nat.le_of_ble_eq_true rfl) hs
theorem at107 : prog.funcs[107]? = some f107 := by kernel_rfl
theorem body107 : f107.body = some (codeOf f107) := by kernel_rfl
def pl107 : Plans := []
def ct107 : Cuts := .go
theorem pok107 : plansOk prog pl107 (codeOf f107) = true := by kernel_rfl
theorem e107 {a0 : Value} : W prog J 4 h.length 107 (codeOf f107) (RG.mk (regs [a0]) []) h (RetQ prog [.tmp 2] h.length K) =
(cnd a0
(retL h.length K [] [(vint 1)] h)
(retL h.length K [] [(vint 0)] h)) := top_eq pok107 ct107 (by kernel_rfl)
theorem g107 (hJ : Closed prog main J) {a0 : Value} (hs : heapOk h → W prog J 4 h.length 107 (codeOf f107) (RG.mk (regs [a0]) []) h (RetQ prog [.tmp 2] h.length K)) : Good prog J 107 [a0] h K :=
 good_of_W hJ mixed at107 body107 (by kernel_rfl) (Nat.le_of_ble_eq_true rfl) hs
theorem at95 : prog.funcs[95]? = some f95 := by kernel_rfl
theorem body95 : f95.body = some (codeOf f95) := by kernel_rfl
def pl95 : Plans := []
def ct95 : Cuts := .go
theorem pok95 : plansOk prog pl95 (codeOf f95) = true := by kernel_rfl
theorem e95 {a0 : Value} : W prog J 15 h.length 95 (codeOf f95) (RG.mk (regs [a0]) []) h (RetQ prog [.tmp 2] h.length K) =
(Good prog J 106 [a0] h fun v1 h2 =>
Good prog J 105 [v1] h2 fun v3 h4 =>
aIdxA 20 1 (gv h4 1) v3 fun v5 =>
aLoad false 1 v5 h4 fun v6 =>
aBin prog .geq 61 a0 v6 fun v7 =>
Good prog J 107 [v7] h4 fun v8 h9 =>
aBin prog .add 3 v3 v8 fun v10 =>
retL h.length K [] [v10] h9) := top_eq pok95 ct95 (by kernel_rfl)
theorem g95 (hJ : Closed prog main J) {a0 : Value} (hs : heapOk h → W prog J 15 h.length 95 (codeOf f95) (RG.mk (regs [a0]) []) h (RetQ prog [.tmp 2] h.length K)) : Good prog J 95 [a0] h K :=
 good_of_W hJ mixed at95 body95 (by kernel_rfl) (Nat.le_of_ble_eq_true rfl) hs
theorem at96 : prog.funcs[96]? = some f96 := by kernel_rfl
theorem body96 : f96.body = some (codeOf f96) := by kernel_rfl
def pl96 : Plans := [(7,true,.take 0 (.take 1 (.take 2 (.take 3 (.take 4 (.take 5 (.take 6 (.take 7 (.take 8 (.take 9 (.take 10 (.take 11 (.last 12 false (.take 13 (.last 14 false (.fin)))))))))))))))),
 (8,true,.take 0 (.take 1 (.take 2 (.take 3 (.take 4 (.take 5 (.take 6 (.take 7 (.take 8 (.take 9 (.take 10 (.take 11 (.last 12 false (.take 13 (.last 14 false (.fin)))))))))))))))),
 (9,true,.take 0 (.take 1 (.take 2 (.take 3 (.take 4 (.take 5 (.take 6 (.take 7 (.take 8 (.take 9 (.take 10 (.take 11 (.last 12 false (.take 13 (.last 14 false (.fin)))))))))))))))),
 (10,true,.take 0 (.take 1 (.take 2 (.take 3 (.take 4 (.take 5 (.take 6 (.take 7 (.take 8 (.take 9 (.take 10 (.take 11 (.last 12 false (.take 13 (.last 14 false (.fin)))))))))))))))),
 (17,true,.take 0 (.take 1 (.take 2 (.take 3 (.take 4 (.take 5 (.take 6 (.take 7 (.take 8 (.take 9 (.take 10 (.take 11 (.last 12 false (.take 13 (.last 14 false (.fin)))))))))))))))),
 (18,true,.take 0 (.take 1 (.take 2 (.take 3 (.take 4 (.take 5 (.take 6 (.take 7 (.take 8 (.take 9 (.take 10 (.take 11 (.last 12 false (.take 13 (.last 14 false (.fin)))))))))))))))),
 (23,true,.take 0 (.take 1 (.take 2 (.take 3 (.take 4 (.take 5 (.take 6 (.take 7 (.take 8 (.take 9 (.take 10 (.take 11 (.last 12 false (.take 13 (.last 14 false (.fin))))))))))))))))]
def ct96 : Cuts := .bin (.go) (.bin (.un (.un (.bin (.go) (.cut (.go))))) (.bin (.go) (.bin (.bin (.go) (.bin (.bin (.go) (.cut (.go))) (.go))) (.cut (.bin (.go) (.cut (.go)))))))
theorem pok96 : plansOk prog pl96 (codeOf f96) = true := by kernel_rfl
theorem e96 {a0 a1 : Value} : W prog J 167 h.length 96 (codeOf f96) (RG.mk (regs [a0,a1]) []) h (RetQ prog [] h.length K) =
(aLenS a0 fun v1 =>
Sem J 167 h.length 96 (subC [1,0,0] (codeOf f96)) (RG.p (RG.p (RG.p (RG.mk (regs [a0,a1]) []) 17 a0) 18 v1) 4 v1) h (contX pl96 prog J 167 h.length 96 ct96 [1,0,0] (codeOf f96) [] (RetQ prog [] h.length K))) := top_eq pok96 ct96 (by kernel_rfl)
theorem g96 (hJ : Closed prog main J) {a0 a1 : Value} (hs : heapOk h → W prog J 167 h.length 96 (codeOf f96) (RG.mk (regs [a0,a1]) []) h (RetQ prog [] h.length K)) : Good prog J 96 [a0,a1] h K :=
 good_of_W hJ mixed at96 body96 (by kernel_rfl) (Nat.le_of_ble_eq_true rfl) hs
theorem s96_1 {f : RG} {nx0 : RG → List AObj → Prop} : W prog J 167 n0 96 (subC [1,0,0,0] (codeOf f96)) f h (thenK nx0 (contX pl96 prog J 167 n0 96 ct96 [1,0,0] (codeOf f96) [] (RetQ prog [] n0 K))) =
(aBin prog .geq 3 (f.r 4) (vint 8) fun v1 =>
cnd v1
(Hold (W prog J 167 n0 96 (subC [1,0,0,0,1] (codeOf f96)) (RG.p (RG.p f 19 (f.r 4)) 20 v1) h (contX pl96 prog J 167 n0 96 ct96 [1,0,0,0,1] (codeOf f96) [nx0] (RetQ prog [] n0 K))))
(aConvI .u32 (f.r 1) fun v2 =>
aBin prog .geq 3 (f.r 4) (vint 4) fun v3 =>
cnd v3
(aBin prog .rem 184 v2 (Value.int .u32 10000) fun v4 =>
Hold (W prog J 167 n0 96 (subC [1,1,1,0,1,0,1] (codeOf f96)) (RG.p (RG.p (RG.p (RG.p (RG.p (RG.p (RG.p (RG.p (RG.p (RG.p f 19 (f.r 4)) 20 v1) 96 (f.r 1)) 97 v2) 12 v2) 98 (f.r 4)) 99 v3) 100 v2) 101 v4) 13 v4) h (contX pl96 prog J 167 n0 96 ct96 [1,1,1,0,1,0,1] (codeOf f96) [] (RetQ prog [] n0 K))))
(Hold (W prog J 167 n0 96 (subC [1,1,1,1] (codeOf f96)) (RG.p (RG.p (RG.p (RG.p (RG.p (RG.p (RG.p f 19 (f.r 4)) 20 v1) 96 (f.r 1)) 97 v2) 12 v2) 98 (f.r 4)) 99 v3) h (contX pl96 prog J 167 n0 96 ct96 [1,1,1,1] (codeOf f96) [] (RetQ prog [] n0 K)))))) := sub_eq pok96 ct96 (by kernel_rfl)
theorem l96_1 (hJ : Closed prog main J) {S : Type} (μ : S → Nat) (I : S → RG → List AObj → Prop) (hI : ∀ s f h,I s f h → heapOk h → n0 ≤ h.length → W prog J 167 n0 96 (subC [1,0,0,0] (codeOf f96)) f h (thenK (Nx n0 μ I s) (contX pl96 prog J 167 n0 96 ct96 [1,0,0] (codeOf f96) [] (RetQ prog [] n0 K))))
 {s : S} {f : RG} (hi : Gets n0 I s f h) : Sem J 167 n0 96 (subC [1,0,0] (codeOf f96)) f h (contX pl96 prog J 167 n0 96 ct96 [1,0,0] (codeOf f96) [] (RetQ prog [] n0 K)) :=
 loop_rule hJ mixed (b := subC [1,0,0,0] (codeOf f96)) (by kernel_rfl) μ I hI hi
theorem s96_4 {f : RG} : W prog J 167 n0 96 (subC [1,1,1,1] (codeOf f96)) f h (contX pl96 prog J 167 n0 96 ct96 [1,1,1,1] (codeOf f96) [] (RetQ prog [] n0 K)) =
(aBin prog .geq 3 (f.r 4) (vint 2) fun v1 =>
cnd v1
(aBin prog .rem 184 (f.r 12) (Value.int .u32 100) fun v2 =>
aBin prog .mul 184 v2 (Value.int .u32 2) fun v3 =>
aBin prog .quo 184 (f.r 12) (Value.int .u32 100) fun v4 =>
aBin prog .sub 3 (f.r 4) (vint 1) fun v5 =>
aBin prog .sub 3 (f.r 4) (vint 2) fun v6 =>
aBin prog .add 184 v3 (Value.int .u32 1) fun v7 =>
aIdxStr (Value.string { data := #[48,48,48,49,48,50,48,51,48,52,48,53,48,54,48,55,48,56,48,57,49,48,49,49,49,50,49,51,49,52,49,53,49,54,49,55,49,56,49,57,50,48,50,49,50,50,50,51,50,52,50,53,50,54,50,55,50,56,50,57,51,48,51,49,51,50,51,51,51,52,51,53,51,54,51,55,51,56,51,57,52,48,52,49,52,50,52,51,52,52,52,53,52,54,52,55,52,56,52,57,53,48,53,49,53,50,53,51,53,52,53,53,53,54,53,55,53,56,53,57,54,48,54,49,54,50,54,51,54,52,54,53,54,54,54,55,54,56,54,57,55,48,55,49,55,50,55,51,55,52,55,53,55,54,55,55,55,56,55,57,56,48,56,49,56,50,56,51,56,52,56,53,56,54,56,55,56,56,56,57,57,48,57,49,57,50,57,51,57,52,57,53,57,54,57,55,57,56,57,57] }) v7 fun v8 =>
aIdxStr (Value.string { data := #[48,48,48,49,48,50,48,51,48,52,48,53,48,54,48,55,48,56,48,57,49,48,49,49,49,50,49,51,49,52,49,53,49,54,49,55,49,56,49,57,50,48,50,49,50,50,50,51,50,52,50,53,50,54,50,55,50,56,50,57,51,48,51,49,51,50,51,51,51,52,51,53,51,54,51,55,51,56,51,57,52,48,52,49,52,50,52,51,52,52,52,53,52,54,52,55,52,56,52,57,53,48,53,49,53,50,53,51,53,52,53,53,53,54,53,55,53,56,53,57,54,48,54,49,54,50,54,51,54,52,54,53,54,54,54,55,54,56,54,57,55,48,55,49,55,50,55,51,55,52,55,53,55,54,55,55,55,56,55,57,56,48,56,49,56,50,56,51,56,52,56,53,56,54,56,55,56,56,56,57,57,48,57,49,57,50,57,51,57,52,57,53,57,54,57,55,57,56,57,57] }) v3 fun v9 =>
aIdx 1 (f.r 0) v5 fun v10 =>
aStore 1 v10 v8 h fun h11 =>
aIdx 1 (f.r 0) v6 fun v12 =>
aStore 1 v12 v9 h11 fun h13 =>
aBin prog .sub 3 (f.r 4) (vint 2) fun v14 =>
Hold (W prog J 167 n0 96 (subC yp8 (codeOf f96)) (RG.p (RG.p (RG.p (RG.p (RG.p (RG.p (RG.p (RG.p (RG.p (RG.p (RG.p (RG.p (RG.p (RG.p (RG.p (RG.p (RG.p (RG.p (RG.p (RG.p (RG.p (RG.p (RG.p (RG.p (RG.p f 138 (f.r 4)) 139 v1) 140 (f.r 12)) 141 v2) 142 v3) 16 v3) 143 (f.r 12)) 144 v4) 12 v4) 145 (f.r 0)) 146 (f.r 4)) 147 v5) 148 (f.r 0)) 149 (f.r 4)) 150 v6) 151 v3) 152 v7) 153 v8) 154 v3) 155 v9) 156 v10) 157 v12) 158 (f.r 4)) 159 v14) 4 v14) h13 (contX pl96 prog J 167 n0 96 ct96 yp8 (codeOf f96) [] (RetQ prog [] n0 K))))
(Hold (W prog J 167 n0 96 (subC yp8 (codeOf f96)) (RG.p (RG.p f 138 (f.r 4)) 139 v1) h (contX pl96 prog J 167 n0 96 ct96 yp8 (codeOf f96) [] (RetQ prog [] n0 K))))) := sub_eq pok96 ct96 (by kernel_rfl)
theorem s96_5 {f : RG} : W prog J 167 n0 96 (subC yp8 (codeOf f96)) f h (contX pl96 prog J 167 n0 96 ct96 yp8 (codeOf f96) [] (RetQ prog [] n0 K)) =
(aBin prog .gtr 3 (f.r 4) (vint 0) fun v1 =>
cnd v1
(aBin prog .add 184 (Value.int .u32 48) (f.r 12) fun v2 =>
aConvI .u8 v2 fun v3 =>
aIdx 1 (f.r 0) (vint 0) fun v4 =>
aStore 1 v4 v3 h fun h5 =>
retL n0 K f.ds [] h5)
(retL n0 K f.ds [] h)) := sub_eq pok96 ct96 (by kernel_rfl)
end
section
variable {main : Bool} {J : JT} {n0 : Nat} {h : List AObj} {K : Value → List AObj → Prop}
theorem at31 : prog.funcs[31]? = some f31 := by kernel_rfl
theorem body31 : f31.body = some (codeOf f31) := by kernel_rfl
def pl31 : Plans := []
def ct31 : Cuts := .go
theorem pok31 : plansOk prog pl31 (codeOf f31) = true := by kernel_rfl
theorem e31 {a0 : Value} : W prog J 5 h.length 31 (codeOf f31) (RG.mk (regs [a0]) []) h (RetQ prog [.tmp 2] h.length K) =
(Good prog J 55 [a0] h fun v1 h2 =>
retL h.length K [] [v1] h2) := top_eq pok31 ct31 (by kernel_rfl)
theorem g31 (hJ : Closed prog main J) {a0 : Value} (hs : heapOk h → W prog J 5 h.length 31 (codeOf f31) (RG.mk (regs [a0]) []) h (RetQ prog [.tmp 2] h.length K)) : Good prog J 31 [a0] h K :=
 good_of_W hJ mixed at31 body31 (by kernel_rfl) (Nat.le_of_ble_eq_true rfl) hs
theorem at55 : prog.funcs[55]? = some f55 := by kernel_rfl
theorem body55 : f55.body = some (codeOf f55) := by kernel_rfl
def pl55 : Plans := []
def ct55 : Cuts := .go
theorem pok55 : plansOk prog pl55 (codeOf f55) = true := by kernel_rfl
theorem e55 {a0 : Value} : W prog J 5 h.length 55 (codeOf f55) (RG.mk (regs [a0]) []) h (RetQ prog [.tmp 2] h.length K) =
(Good prog J 82 [a0,(vint 10)] h fun v1 h2 =>
retL h.length K [] [v1] h2) := top_eq pok55 ct55 (by kernel_rfl)
theorem g55 (hJ : Closed prog main J) {a0 : Value} (hs : heapOk h → W prog J 5 h.length 55 (codeOf f55) (RG.mk (regs [a0]) []) h (RetQ prog [.tmp 2] h.length K)) : Good prog J 55 [a0] h K :=
 good_of_W hJ mixed at55 body55 (by kernel_rfl) (Nat.le_of_ble_eq_true rfl) hs
theorem at82 : prog.funcs[82]? = some f82 := by kernel_rfl
theorem body82 : f82.body = some (codeOf f82) := by kernel_rfl
def pl82 : Plans := []
def ct82 : Cuts := .bin (.go) (.bin (.bin (.go) (.bin (.bin (.bin (.go) (.cut (.go))) (.bin (.go) (.bin (.go) (.bin (.go) (.cut (.go)))))) (.go))) (.go))
theorem pok82 : plansOk prog pl82 (codeOf f82) = true := by kernel_rfl
theorem e82 {a0 a1 : Value} : W prog J 54 h.length 82 (codeOf f82) (RG.mk (regs [a0,a1]) []) h (RetQ prog [.tmp 4] h.length K) =
(aBin prog .eql 3 a1 (vint 10) fun v1 =>
cnd v1
(aBin prog .leq 2 (vint 0) a0 fun v2 =>
cnd v2
(aBin prog .lss 2 a0 (vint 100) fun v3 =>
Hold (W prog J 54 h.length 82 (subC [1,0,1,0,0,1] (codeOf f82)) (RG.p (RG.p (RG.p (RG.p (RG.p (RG.p (RG.p (RG.p (RG.p (RG.p (RG.mk (regs [a0,a1]) []) 4 (Value.string { data := #[] })) 10 a1) 11 v1) 12 a0) 13 v2) 14 v2) 14 (Value.bool true)) 15 a0) 16 v3) 17 v3) h (contX pl82 prog J 54 h.length 82 ct82 [1,0,1,0,0,1] (codeOf f82) [] (RetQ prog [.tmp 4] h.length K))))
(Hold (W prog J 54 h.length 82 (subC [1,0,1,0,0,1] (codeOf f82)) (RG.p (RG.p (RG.p (RG.p (RG.p (RG.p (RG.p (RG.p (RG.p (RG.p (RG.mk (regs [a0,a1]) []) 4 (Value.string { data := #[] })) 10 a1) 11 v1) 12 a0) 13 v2) 14 v2) 14 (Value.bool false)) 15 undef) 16 undef) 17 (Value.bool false)) h (contX pl82 prog J 54 h.length 82 ct82 [1,0,1,0,0,1] (codeOf f82) [] (RetQ prog [.tmp 4] h.length K)))))
(aConvI .u64 a0 fun v4 =>
aBin prog .lss 2 a0 (vint 0) fun v5 =>
Good prog J 97 [(Value.slice none 0 0),v4,a1,v5,(Value.bool false)] h fun v6 h7 =>
aExt v6 0 fun v8 =>
aExt v6 1 fun v9 =>
retL h.length K [] [v9] h7)) := top_eq pok82 ct82 (by kernel_rfl)
theorem g82 (hJ : Closed prog main J) {a0 a1 : Value} (hs : heapOk h → W prog J 54 h.length 82 (codeOf f82) (RG.mk (regs [a0,a1]) []) h (RetQ prog [.tmp 4] h.length K)) : Good prog J 82 [a0,a1] h K :=
 good_of_W hJ mixed at82 body82 (by kernel_rfl) (Nat.le_of_ble_eq_true rfl) hs
theorem s82_1 {f : RG} : W prog J 54 n0 82 (subC [1,0,1,0,0,1] (codeOf f82)) f h (contX pl82 prog J 54 n0 82 ct82 [1,0,1,0,0,1] (codeOf f82) [] (RetQ prog [.tmp 4] n0 K)) =
(cnd (f.r 17)
(Good prog J 94 [(f.r 0)] h fun v1 h2 =>
retL n0 K f.ds [v1] h2)
(aAlloc [(Value.int .u8 0),(Value.int .u8 0),(Value.int .u8 0),(Value.int .u8 0),(Value.int .u8 0),(Value.int .u8 0),(Value.int .u8 0),(Value.int .u8 0),(Value.int .u8 0),(Value.int .u8 0),(Value.int .u8 0),(Value.int .u8 0),(Value.int .u8 0),(Value.int .u8 0),(Value.int .u8 0),(Value.int .u8 0),(Value.int .u8 0),(Value.int .u8 0),(Value.int .u8 0),(Value.int .u8 0),(Value.int .u8 0),(Value.int .u8 0),(Value.int .u8 0),(Value.int .u8 0)] h fun v3 h4 =>
aConvI .u64 (f.r 0) fun v5 =>
aBin prog .lss 2 (f.r 0) (vint 0) fun v6 =>
cnd v6
(aUn .neg v5 fun v7 =>
Hold (W prog J 54 n0 82 (subC yp23 (codeOf f82)) (RG.p (RG.p (RG.p (RG.p (RG.p (RG.p (RG.p (RG.p (RG.p f 5 v3) 20 (f.r 0)) 21 v5) 6 v5) 22 (f.r 0)) 23 v6) 24 v5) 25 v7) 6 v7) h4 (contX pl82 prog J 54 n0 82 ct82 yp23 (codeOf f82) [] (RetQ prog [.tmp 4] n0 K))))
(Hold (W prog J 54 n0 82 (subC yp23 (codeOf f82)) (RG.p (RG.p (RG.p (RG.p (RG.p (RG.p f 5 v3) 20 (f.r 0)) 21 v5) 6 v5) 22 (f.r 0)) 23 v6) h4 (contX pl82 prog J 54 n0 82 ct82 yp23 (codeOf f82) [] (RetQ prog [.tmp 4] n0 K)))))) := sub_eq pok82 ct82 (by kernel_rfl)
theorem s82_2 {f : RG} : W prog J 54 n0 82 (subC yp23 (codeOf f82)) f h (contX pl82 prog J 54 n0 82 ct82 yp23 (codeOf f82) [] (RetQ prog [.tmp 4] n0 K)) =
(Good prog J 95 [(f.r 6)] h fun v1 h2 =>
aBin prog .add 3 (vint 1) v1 fun v3 =>
aSlA 24 1 (f.r 5) (some (vint 1)) (some v3) fun v4 =>
Good prog J 96 [v4,(f.r 6)] h2 fun v5 h6 =>
aBin prog .lss 2 (f.r 0) (vint 0) fun v7 =>
cnd v7
(aIdxA 24 1 (f.r 5) (vint 0) fun v8 =>
aStore 1 v8 (Value.int .u8 45) h6 fun h9 =>
aBin prog .add 3 (vint 1) v1 fun v10 =>
aSlA 24 1 (f.r 5) none (some v10) fun v11 =>
aB2S v11 h9 fun v12 =>
retL n0 K f.ds [v12] h9)
(aBin prog .add 3 (vint 1) v1 fun v13 =>
aSlA 24 1 (f.r 5) (some (vint 1)) (some v13) fun v14 =>
aB2S v14 h6 fun v15 =>
retL n0 K f.ds [v15] h6)) := sub_eq pok82 ct82 (by kernel_rfl)
theorem at94 : prog.funcs[94]? = some f94 := by kernel_rfl
theorem body94 : f94.body = some (codeOf f94) := by kernel_rfl
def pl94 : Plans := []
def ct94 : Cuts := .go
theorem pok94 : plansOk prog pl94 (codeOf f94) = true := by kernel_rfl
theorem e94 {a0 : Value} : W prog J 15 h.length 94 (codeOf f94) (RG.mk (regs [a0]) []) h (RetQ prog [.tmp 2] h.length K) =
(aBin prog .lss 3 a0 (vint 10) fun v1 =>
cnd v1
(aBin prog .add 3 a0 (vint 1) fun v2 =>
aSlStr (Value.string { data := #[48,49,50,51,52,53,54,55,56,57,97,98,99,100,101,102,103,104,105,106,107,108,109,110,111,112,113,114,115,116,117,118,119,120,121,122] }) (some a0) (some v2) fun v3 =>
retL h.length K [] [v3] h)
(aBin prog .mul 3 a0 (vint 2) fun v4 =>
aBin prog .mul 3 a0 (vint 2) fun v5 =>
aBin prog .add 3 v5 (vint 2) fun v6 =>
aSlStr (Value.string { data := #[48,48,48,49,48,50,48,51,48,52,48,53,48,54,48,55,48,56,48,57,49,48,49,49,49,50,49,51,49,52,49,53,49,54,49,55,49,56,49,57,50,48,50,49,50,50,50,51,50,52,50,53,50,54,50,55,50,56,50,57,51,48,51,49,51,50,51,51,51,52,51,53,51,54,51,55,51,56,51,57,52,48,52,49,52,50,52,51,52,52,52,53,52,54,52,55,52,56,52,57,53,48,53,49,53,50,53,51,53,52,53,53,53,54,53,55,53,56,53,57,54,48,54,49,54,50,54,51,54,52,54,53,54,54,54,55,54,56,54,57,55,48,55,49,55,50,55,51,55,52,55,53,55,54,55,55,55,56,55,57,56,48,56,49,56,50,56,51,56,52,56,53,56,54,56,55,56,56,56,57,57,48,57,49,57,50,57,51,57,52,57,53,57,54,57,55,57,56,57,57] }) (some v4) (some v6) fun v7 =>
retL h.length K [] [v7] h)) := top_eq pok94 ct94 (by kernel_rfl)
theorem g94 (hJ : Closed prog main J) {a0 : Value} (hs : heapOk h → W prog J 15 h.length 94 (codeOf f94) (RG.mk (regs [a0]) []) h (RetQ prog [.tmp 2] h.length K)) : Good prog J 94 [a0] h K :=
 good_of_W hJ mixed at94 body94 (by kernel_rfl) (Nat.le_of_ble_eq_true rfl) hs
end
section
variable {main : Bool} {J : JT} {n0 : Nat} {h : List AObj} {K : Value → List AObj → Prop}
theorem at92 : prog.funcs[92]? = some f92 := by kernel_rfl
theorem body92 : f92.body = some (codeOf f92) := by kernel_rfl
def pl92 : Plans := []
def ct92 : Cuts := .go
theorem pok92 : plansOk prog pl92 (codeOf f92) = true := by kernel_rfl
theorem e92 {a0 : Value} : W prog J 20 h.length 92 (codeOf f92) (RG.mk (regs [a0]) []) h (RetQ prog [] h.length K) =
(aNil a0 fun v1 =>
aOff v1 0 fun v2 =>
aLoad false 1 v2 h fun v3 =>
aBin prog .eql 142 v3 (Value.pointer none) fun v4 =>
cnd v4
(aP2U prog 144 a0 h fun v5 =>
Good prog J 103 [v5] h fun v6 h7 =>
aU2P prog 144 v6 h7 fun v8 =>
aNil a0 fun v9 =>
aOff v9 0 fun v10 =>
aStore 1 v10 v8 h7 fun h11 =>
retL h.length K [] [] h11)
(aNil a0 fun v12 =>
aOff v12 0 fun v13 =>
aLoad false 1 v13 h fun v14 =>
aBin prog .neq 142 v14 a0 fun v15 =>
cnd v15
(Sem J 20 h.length 92 (subC [1,1,1,0] (codeOf f92)) (RG.p (RG.p (RG.p (RG.p (RG.p (RG.p (RG.p (RG.p (RG.p (RG.p (RG.p (RG.mk (regs [a0]) []) 2 a0) 3 v1) 4 v2) 5 v3) 6 v4) 14 a0) 15 v12) 16 v13) 17 v14) 18 a0) 19 v15) h (contX pl92 prog J 20 h.length 92 ct92 [1,1,1,0] (codeOf f92) [] (RetQ prog [] h.length K)))
(retL h.length K [] [] h))) := top_eq pok92 ct92 (by kernel_rfl)
theorem g92 (hJ : Closed prog main J) {a0 : Value} (hs : heapOk h → W prog J 20 h.length 92 (codeOf f92) (RG.mk (regs [a0]) []) h (RetQ prog [] h.length K)) : Good prog J 92 [a0] h K :=
 good_of_W hJ mixed at92 body92 (by kernel_rfl) (Nat.le_of_ble_eq_true rfl) hs
theorem at93 : prog.funcs[93]? = some f93 := by kernel_rfl
theorem body93 : f93.body = some (codeOf f93) := by kernel_rfl
def pl93 : Plans := [(0,false,.take 0 (.take 1 (.take 2 (.take 3 (.take 4 (.take 5 (.take 6 (.take 7 (.take 9 (.take 10 (.take 11 (.take 12 (.take 13 (.last 8 true (.last 14 true (.take 15 (.fin)))))))))))))))))]
def ct93 : Cuts := .go
theorem pok93 : plansOk prog pl93 (codeOf f93) = true := by kernel_rfl
theorem e93 {a0 a1 : Value} : W prog J 30 h.length 93 (codeOf f93) (RG.mk (regs [a0,a1]) []) h (RetQ prog [] h.length K) =
((∃ B,aNil a0 fun v1 =>
aOff v1 1 fun v2 =>
aLoad false 1 v2 h fun v3 =>
RdOk (some B) (ptrBlk v2) ∧ (aCapS v3 fun v4 =>
aBin prog .mul 3 (vint 2) v4 fun v5 =>
aBin prog .add 3 v5 a1 fun v6 =>
aNil a0 fun v7 =>
aOff v7 1 fun v8 =>
aLoad false 1 v8 h fun v9 =>
RdOk (some B) (ptrBlk v8) ∧ (aLenS v9 fun v10 =>
RdOk (some B) (mapBlk v9) ∧ (Good prog J 104 [v6] h fun v11 h12 =>
SameB (some B) h h12 ∧ (aSl2 1 v11 none (some v10) h12 fun v13 =>
SameB (some B) h h12 ∧ (aNil a0 fun v14 =>
aOff v14 1 fun v15 =>
aLoad false 1 v15 h12 fun v16 =>
(0 < (1 : Nat) ∧ aCopy 1 v13 v16 h12 fun v17 h18 =>
aNil a0 fun v19 =>
aOff v19 1 fun v20 =>
aStore 1 v20 v13 h18 fun h21 =>
retL h.length K [] [] h21)))))))) := top_eq pok93 ct93 (by kernel_rfl)
theorem g93 (hJ : Closed prog main J) {a0 a1 : Value} (hs : heapOk h → W prog J 30 h.length 93 (codeOf f93) (RG.mk (regs [a0,a1]) []) h (RetQ prog [] h.length K)) : Good prog J 93 [a0,a1] h K :=
 good_of_W hJ mixed at93 body93 (by kernel_rfl) (Nat.le_of_ble_eq_true rfl) hs
theorem at79 : prog.funcs[79]? = some f79 := by kernel_rfl
theorem body79 : f79.body = some (codeOf f79) := by kernel_rfl
def pl79 : Plans := [(3,true,.take 0 (.take 1 (.take 2 (.take 3 (.take 4 (.take 5 (.take 6 (.take 7 (.take 8 (.take 9 (.take 10 (.take 11 (.take 12 (.fin))))))))))))))]
def ct79 : Cuts := .go
theorem pok79 : plansOk prog pl79 (codeOf f79) = true := by kernel_rfl
theorem e79 {a0 a1 : Value} : W prog J 25 h.length 79 (codeOf f79) (RG.mk (regs [a0,a1]) []) h (RetQ prog [] h.length K) =
(Good prog J 92 [a0] h fun v1 h2 =>
aBin prog .lss 3 a1 (vint 0) fun v3 =>
cnd v3
(aMkI prog 9 (Value.string { data := #[115,116,114,105,110,103,115,46,66,117,105,108,100,101,114,46,71,114,111,119,58,32,110,101,103,97,116,105,118,101,32,99,111,117,110,116] }) fun v4 =>
False)
(aNil a0 fun v5 =>
aOff v5 1 fun v6 =>
aLoad false 1 v6 h2 fun v7 =>
aCapS v7 fun v8 =>
aNil a0 fun v9 =>
aOff v9 1 fun v10 =>
aLoad false 1 v10 h2 fun v11 =>
aLenS v11 fun v12 =>
aBin prog .sub 3 v8 v12 fun v13 =>
aBin prog .lss 3 v13 a1 fun v14 =>
cnd v14
(Good prog J 93 [a0,a1] h2 fun v15 h16 =>
retL h.length K [] [] h16)
(retL h.length K [] [] h2))) := top_eq pok79 ct79 (by kernel_rfl)
theorem g79 (hJ : Closed prog main J) {a0 a1 : Value} (hs : heapOk h → W prog J 25 h.length 79 (codeOf f79) (RG.mk (regs [a0,a1]) []) h (RetQ prog [] h.length K)) : Good prog J 79 [a0,a1] h K :=
 good_of_W hJ mixed at79 body79 (by kernel_rfl) (Nat.le_of_ble_eq_true rfl) hs
theorem at80 : prog.funcs[80]? = some f80 := by kernel_rfl
theorem body80 : f80.body = some (codeOf f80) := by kernel_rfl
def pl80 : Plans := []
def ct80 : Cuts := .go
theorem pok80 : plansOk prog pl80 (codeOf f80) = true := by kernel_rfl
theorem e80 {a0 a1 : Value} : W prog J 19 h.length 80 (codeOf f80) (RG.mk (regs [a0,a1]) []) h (RetQ prog [.tmp 4,.tmp 5] h.length K) =
(Good prog J 92 [a0] h fun v1 h2 =>
aNil a0 fun v3 =>
aOff v3 1 fun v4 =>
aLoad false 1 v4 h2 fun v5 =>
((List.length [(Value.int .u8 0)] = 1 ∧ (1 : Nat) = 1 ∧ 0 < (1 : Nat) ∧ (1 : Nat) ≤ 1024) ∧ aAppS 5 v5 a1 h2 fun v6 h7 =>
aNil a0 fun v8 =>
aOff v8 1 fun v9 =>
aStore 1 v9 v6 h7 fun h10 =>
aLenStr a1 fun v11 =>
retL h.length K [] [v11,(Value.nilIface)] h10)) := top_eq pok80 ct80 (by kernel_rfl)
theorem g80 (hJ : Closed prog main J) {a0 a1 : Value} (hs : heapOk h → W prog J 19 h.length 80 (codeOf f80) (RG.mk (regs [a0,a1]) []) h (RetQ prog [.tmp 4,.tmp 5] h.length K)) : Good prog J 80 [a0,a1] h K :=
 good_of_W hJ mixed at80 body80 (by kernel_rfl) (Nat.le_of_ble_eq_true rfl) hs
theorem at81 : prog.funcs[81]? = some f81 := by kernel_rfl
theorem body81 : f81.body = some (codeOf f81) := by kernel_rfl
def pl81 : Plans := [(1,false,.take 0 (.take 1 (.take 2 (.take 3 (.take 5 (.take 6 (.take 7 (.take 8 (.take 9 (.last 4 true (.last 10 true (.take 11 (.fin)))))))))))))]
def ct81 : Cuts := .go
theorem pok81 : plansOk prog pl81 (codeOf f81) = true := by kernel_rfl
theorem e81 {a0 : Value} : W prog J 14 h.length 81 (codeOf f81) (RG.mk (regs [a0]) []) h (RetQ prog [.tmp 2] h.length K) =
((∃ B,aNil a0 fun v1 =>
aOff v1 1 fun v2 =>
aLoad false 1 v2 h fun v3 =>
RdOk (some B) (ptrBlk v2) ∧ (aNil a0 fun v4 =>
aOff v4 1 fun v5 =>
aLoad false 1 v5 h fun v6 =>
RdOk (some B) (ptrBlk v5) ∧ (aLenS v6 fun v7 =>
RdOk (some B) (mapBlk v6) ∧ (aSlD v3 h fun v8 =>
SameB (some B) h h ∧ (aUStr prog 5 v8 v7 h fun v9 h10 =>
SameB (some B) h h10 ∧ (retL h.length K [] [v9] h10))))))) := top_eq pok81 ct81 (by kernel_rfl)
theorem g81 (hJ : Closed prog main J) {a0 : Value} (hs : heapOk h → W prog J 14 h.length 81 (codeOf f81) (RG.mk (regs [a0]) []) h (RetQ prog [.tmp 2] h.length K)) : Good prog J 81 [a0] h K :=
 good_of_W hJ mixed at81 body81 (by kernel_rfl) (Nat.le_of_ble_eq_true rfl) hs
theorem at51 : prog.funcs[51]? = some f51 := by kernel_rfl
theorem body51 : f51.body = some (codeOf f51) := by kernel_rfl
def pl51 : Plans := []
def ct51 : Cuts := .bin (.go) (.bin (.go) (.bin (.go) (.bin (.go) (.cut (.go)))))
theorem pok51 : plansOk prog pl51 (codeOf f51) = true := by kernel_rfl
theorem e51 {a0 a1 : Value} : W prog J 75 h.length 51 (codeOf f51) (RG.mk (regs [a0,a1]) []) h (RetQ prog [.tmp 4] h.length K) =
(aLenS a0 fun v1 =>
aBin prog .eql 3 v1 (vint 0) fun v2 =>
cnd v2
(retL h.length K [] [(Value.string { data := #[] })] h)
(aBin prog .eql 3 v1 (vint 1) fun v3 =>
cnd v3
(aIdx 1 a0 (vint 0) fun v4 =>
aLoad false 1 v4 h fun v5 =>
retL h.length K [] [v5] h)
(aLenStr a1 fun v6 =>
aBin prog .gtr 3 v6 (vint 0) fun v7 =>
cnd v7
(aLenStr a1 fun v8 =>
aLenS a0 fun v9 =>
aBin prog .sub 3 v9 (vint 1) fun v10 =>
aBin prog .quo 3 (vint 9223372036854775807) v10 fun v11 =>
aBin prog .geq 3 v8 v11 fun v12 =>
cnd v12
(aMkI prog 9 (Value.string { data := #[115,116,114,105,110,103,115,58,32,74,111,105,110,32,111,117,116,112,117,116,32,108,101,110,103,116,104,32,111,118,101,114,102,108,111,119] }) fun v13 =>
False)
(aLenStr a1 fun v14 =>
aLenS a0 fun v15 =>
aBin prog .sub 3 v15 (vint 1) fun v16 =>
aBin prog .mul 3 v14 v16 fun v17 =>
aBin prog .add 3 (vint 0) v17 fun v18 =>
Hold (W prog J 75 h.length 51 (subC [1,1,1,1] (codeOf f51)) (RG.p (RG.p (RG.p (RG.p (RG.p (RG.p (RG.p (RG.p (RG.p (RG.p (RG.p (RG.p (RG.p (RG.p (RG.p (RG.p (RG.p (RG.p (RG.p (RG.p (RG.p (RG.p (RG.p (RG.p (RG.p (RG.p (RG.p (RG.mk (regs [a0,a1]) []) 4 (Value.string { data := #[] })) 11 a0) 12 v1) 14 v2) 13 v2) 16 v3) 15 v3) 5 (vint 0)) 20 a1) 21 v6) 22 v7) 23 a1) 24 v8) 25 a0) 26 v9) 27 v10) 28 v11) 29 v12) 31 (vint 0)) 32 a1) 33 v14) 34 a0) 35 v15) 36 v16) 37 v17) 38 v18) 5 v18) h (contX pl51 prog J 75 h.length 51 ct51 [1,1,1,1] (codeOf f51) [] (RetQ prog [.tmp 4] h.length K)))))
(Hold (W prog J 75 h.length 51 (subC [1,1,1,1] (codeOf f51)) (RG.p (RG.p (RG.p (RG.p (RG.p (RG.p (RG.p (RG.p (RG.p (RG.p (RG.p (RG.mk (regs [a0,a1]) []) 4 (Value.string { data := #[] })) 11 a0) 12 v1) 14 v2) 13 v2) 16 v3) 15 v3) 5 (vint 0)) 20 a1) 21 v6) 22 v7) h (contX pl51 prog J 75 h.length 51 ct51 [1,1,1,1] (codeOf f51) [] (RetQ prog [.tmp 4] h.length K))))))) := top_eq pok51 ct51 (by kernel_rfl)
theorem g51 (hJ : Closed prog main J) {a0 a1 : Value} (hs : heapOk h → W prog J 75 h.length 51 (codeOf f51) (RG.mk (regs [a0,a1]) []) h (RetQ prog [.tmp 4] h.length K)) : Good prog J 51 [a0,a1] h K :=
 good_of_W hJ mixed at51 body51 (by kernel_rfl) (Nat.le_of_ble_eq_true rfl) hs
theorem s51_1 {f : RG} : W prog J 75 n0 51 (subC [1,1,1,1] (codeOf f51)) f h (contX pl51 prog J 75 n0 51 ct51 [1,1,1,1] (codeOf f51) [] (RetQ prog [.tmp 4] n0 K)) =
(aLenS (f.r 0) fun v1 =>
Sem J 75 n0 51 (subC yp0 (codeOf f51)) (RG.p (RG.p (RG.p f 39 (f.r 0)) 40 v1) 41 (vint 0)) h (contX pl51 prog J 75 n0 51 ct51 yp0 (codeOf f51) [] (RetQ prog [.tmp 4] n0 K))) := sub_eq pok51 ct51 (by kernel_rfl)
theorem s51_2 {f : RG} {nx0 : RG → List AObj → Prop} : W prog J 75 n0 51 (subC yp4 (codeOf f51)) f h (thenK nx0 (contX pl51 prog J 75 n0 51 ct51 yp0 (codeOf f51) [] (RetQ prog [.tmp 4] n0 K))) =
(aBin prog .lss 3 (f.r 41) (f.r 40) fun v1 =>
cnd v1
(aIdx 1 (f.r 39) (f.r 41) fun v2 =>
aLoad false 1 v2 h fun v3 =>
aLenStr v3 fun v4 =>
aBin prog .sub 3 (vint 9223372036854775807) (f.r 5) fun v5 =>
aBin prog .gtr 3 v4 v5 fun v6 =>
cnd v6
(aMkI prog 9 (Value.string { data := #[115,116,114,105,110,103,115,58,32,74,111,105,110,32,111,117,116,112,117,116,32,108,101,110,103,116,104,32,111,118,101,114,102,108,111,119] }) fun v7 =>
False)
(aLenStr v3 fun v8 =>
aBin prog .add 3 (f.r 5) v8 fun v9 =>
aBin prog .add 3 (f.r 41) (vint 1) fun v10 =>
nx0 (RG.p (RG.p (RG.p (RG.p (RG.p (RG.p (RG.p (RG.p (RG.p (RG.p (RG.p (RG.p (RG.p (RG.p (RG.p (RG.p f 42 v1) 43 v2) 44 v3) 7 v3) 45 v3) 46 v4) 47 (f.r 5)) 48 v5) 49 v6) 51 (f.r 5)) 52 v3) 53 v8) 54 v9) 5 v9) 55 v10) 41 v10) h))
(aAllocT 144 [(Value.pointer none),(Value.slice none 0 0)] h fun v11 h12 =>
Good prog J 79 [v11,(f.r 5)] h12 fun v13 h14 =>
aIdx 1 (f.r 0) (vint 0) fun v15 =>
aLoad false 1 v15 h14 fun v16 =>
Good prog J 80 [v11,v16] h14 fun v17 h18 =>
aSl2 1 (f.r 0) (some (vint 1)) none h18 fun v19 =>
aLenS v19 fun v20 =>
Sem J 75 n0 51 (subC yp16 (codeOf f51)) (RG.p (RG.p (RG.p (RG.p (RG.p (RG.p (RG.p (RG.p (RG.p (RG.p (RG.p (RG.p f 42 v1) 8 v11) 56 (f.r 5)) 57 v13) 58 (f.r 0)) 59 v15) 60 v16) 61 v17) 62 (f.r 0)) 63 v19) 64 v20) 65 (vint 0)) h18 (contX pl51 prog J 75 n0 51 ct51 yp16 (codeOf f51) [] (RetQ prog [.tmp 4] n0 K)))) := sub_eq pok51 ct51 (by kernel_rfl)
theorem l51_2 (hJ : Closed prog main J) {S : Type} (μ : S → Nat) (I : S → RG → List AObj → Prop) (hI : ∀ s f h,I s f h → heapOk h → n0 ≤ h.length → W prog J 75 n0 51 (subC yp4 (codeOf f51)) f h (thenK (Nx n0 μ I s) (contX pl51 prog J 75 n0 51 ct51 yp0 (codeOf f51) [] (RetQ prog [.tmp 4] n0 K))))
 {s : S} {f : RG} (hi : Gets n0 I s f h) : Sem J 75 n0 51 (subC yp0 (codeOf f51)) f h (contX pl51 prog J 75 n0 51 ct51 yp0 (codeOf f51) [] (RetQ prog [.tmp 4] n0 K)) :=
 loop_rule hJ mixed (b := subC yp4 (codeOf f51)) (by kernel_rfl) μ I hI hi
theorem s51_3 {f : RG} {nx0 : RG → List AObj → Prop} : W prog J 75 n0 51 (subC yp17 (codeOf f51)) f h (thenK nx0 (contX pl51 prog J 75 n0 51 ct51 yp16 (codeOf f51) [] (RetQ prog [.tmp 4] n0 K))) =
(aBin prog .lss 3 (f.r 65) (f.r 64) fun v1 =>
cnd v1
(aIdx 1 (f.r 63) (f.r 65) fun v2 =>
aLoad false 1 v2 h fun v3 =>
Good prog J 80 [(f.r 8),(f.r 1)] h fun v4 h5 =>
Good prog J 80 [(f.r 8),v3] h5 fun v6 h7 =>
aBin prog .add 3 (f.r 65) (vint 1) fun v8 =>
nx0 (RG.p (RG.p (RG.p (RG.p (RG.p (RG.p (RG.p (RG.p (RG.p (RG.p f 66 v1) 67 v2) 68 v3) 10 v3) 69 (f.r 1)) 70 v4) 71 v3) 72 v6) 73 v8) 65 v8) h7)
(Good prog J 81 [(f.r 8)] h fun v9 h10 =>
retL n0 K f.ds [v9] h10)) := sub_eq pok51 ct51 (by kernel_rfl)
theorem l51_3 (hJ : Closed prog main J) {S : Type} (μ : S → Nat) (I : S → RG → List AObj → Prop) (hI : ∀ s f h,I s f h → heapOk h → n0 ≤ h.length → W prog J 75 n0 51 (subC yp17 (codeOf f51)) f h (thenK (Nx n0 μ I s) (contX pl51 prog J 75 n0 51 ct51 yp16 (codeOf f51) [] (RetQ prog [.tmp 4] n0 K))))
 {s : S} {f : RG} (hi : Gets n0 I s f h) : Sem J 75 n0 51 (subC yp16 (codeOf f51)) f h (contX pl51 prog J 75 n0 51 ct51 yp16 (codeOf f51) [] (RetQ prog [.tmp 4] n0 K)) :=
 loop_rule hJ mixed (b := subC yp17 (codeOf f51)) (by kernel_rfl) μ I hI hi
end
end Go.Proofs.YtlladcglhjlbpaaGreatDoor
namespace Go.Proofs.YtlladcglhjlbpaaGreatDoor
open Go.Conc Go.Proofs.Tryz
set_option maxRecDepth 100000
def strV (w : List UInt8) : Value := .string ⟨⟨w⟩⟩
section
variable {main : Bool} {J : JT} {h H : List AObj} {K : Value → List AObj → Prop} {KV : Value → Prop} {HL : List AObj → Prop} {n0 : Nat}
theorem ldT {b o s : Nat} {c : List Value} {own row : Bool} {t : Nat} {v : Value} (hb : H[b]? = some (.typed own t c row)) (hv : c[o]? = some v) (hn : kn1 v = true) (hk : KV v) : aLoad false s (ptr b o) H KV := by
 show (match H[b]? with
  | some (.cells c _ _) => bif false then o + s ≤ c.length ∧ kn ((c.drop o).take s) = true ∧ KV (.agg ⟨(c.drop o).take s⟩) else match c[o]? with
   | some v => kn1 v = true ∧ KV v
   | none => False
  | some (.typed _ _ c _) => bif false then o + s ≤ c.length ∧ kn ((c.drop o).take s) = true ∧ KV (.agg ⟨(c.drop o).take s⟩) else match c[o]? with
   | some v => kn1 v = true ∧ KV v
   | none => False
  | _ => False)
 rw [hb]
 simp only [cond_false,hv]
 exact ⟨hn,hk⟩
theorem ptrEq {t e : TypeId} (hu : prog.underlying t = some (.pointer e)) (hg : prog.eqGuardType prog.depth t = false) {x y : Option Addr} {r neg : Bool} (hr : teqPtr prog e x y = some r) (hk : KV (.bool (bif neg then !r else r))) : aEq prog neg t (.pointer x) (.pointer y) KV := by
 have ht : teq prog 10000 t (.pointer x) (.pointer y) = some r := by
  rw [show (10000 : Nat) = 9999 + 1 from rfl]
  unfold teq
  simp only [hu]
  exact hr
 unfold aEq
 rw [ht]
 exact ⟨hg,hk⟩
theorem ptrEql {t e : TypeId} (hu : prog.underlying t = some (.pointer e)) (hg : prog.eqGuardType prog.depth t = false) {x y : Option Addr} {r : Bool} (hr : teqPtr prog e x y = some r) (hk : KV (.bool r)) : aBin prog .eql t (.pointer x) (.pointer y) KV := ptrEq (neg := false) hu hg hr hk
theorem ptrNeq {t e : TypeId} (hu : prog.underlying t = some (.pointer e)) (hg : prog.eqGuardType prog.depth t = false) {x y : Option Addr} {r : Bool} (hr : teqPtr prog e x y = some r) (hk : KV (.bool (!r))) : aBin prog .neq t (.pointer x) (.pointer y) KV := ptrEq (neg := true) hu hg hr hk
theorem bldInfo : ∃ i,prog.info? 144 = some i ∧ i.size ≠ 0 := by
 have h : ((prog.info? 144).map fun i => i.size) = some 2 := by kernel_rfl
 obtain ⟨i,h1,h2⟩ := Option.map_eq_some_iff.1 h
 exact ⟨i,h1,by omega⟩
theorem noEsc : IsExt prog 103 f103 Extern.AbiNoEscape.same := ⟨by kernel_rfl,by kernel_rfl,by kernel_rfl,by kernel_rfl,by kernel_rfl⟩
theorem mkNz : IsExt prog 104 f104 (Extern.BytealgMakeNoZero.makeNoZero f104.params f104.resultTypes) := ⟨by kernel_rfl,by kernel_rfl,by kernel_rfl,by kernel_rfl,by kernel_rfl⟩
theorem good92a (hJ : Closed prog main J) {b : Nat} (hb : H[b]? = some (.typed true 144 [.pointer none,.slice none 0 0] false)) (hK : K (.tuple ⟨[]⟩) (H.set b (.cells [ptr b 0,.slice none 0 0] true 0))) : Good prog J 92 [ptr b 0] H K := by
 refine g92 hJ fun _ => ?_
 rw [e92]
 obtain ⟨i,hi,hz⟩ := bldInfo
 refine nilI (offI (ldT hb rfl rfl ?_))
 refine ptrEql (e := 144) (r := true) (by kernel_rfl) (by kernel_rfl) rfl (cnd_true.2 ?_)
 have hp : ∀ {KV : Value → Prop},KV (ptr b 0) → aP2U prog 144 (ptr b 0) H KV := fun {KV} hk => by
  show (match H[b]?,prog.info? 144 with
   | some (.typed true _ c false),some i => (0 < c.length ∧ i.size ≠ 0) ∧ KV (ptr b 0)
   | _,_ => False)
  rw [hb,hi]
  exact ⟨⟨by decide,hz⟩,hk⟩
 have hq : ∀ {KV : Value → Prop},KV (ptr b 0) → aU2P prog 144 (ptr b 0) H KV := fun {KV} hk => by
  show (match H[b]?,prog.info? 144 with
   | some (.typed true t c false),some _ => liesAt prog prog.depth t (c.length / prog.cellsOf t) 0 144 1 = true ∧ KV (ptr b 0)
   | _,_ => False)
  rw [hb,hi]
  exact ⟨by kernel_rfl,hk⟩
 refine hp (good_same hJ noEsc (by simp [unk]) (fun c w => RunsX.pure) (hq (nilI (offI ?_))))
 show (match H[b]? with
  | some (.cells c true sz) => (ptr b 0).cells.size = 1 ∧ (ptr b 0).cells.toList.all one = true ∧ 0 + 1 ≤ c.length ∧ retL H.length K [] [] (H.set b (.cells (wrAt c 0 (ptr b 0).cells.toList) true sz))
  | some (.typed true _ c false) => (ptr b 0).cells.size = 1 ∧ (ptr b 0).cells.toList.all one = true ∧ 0 + 1 ≤ c.length ∧ retL H.length K [] [] (H.set b (.cells (wrAt c 0 (ptr b 0).cells.toList) true 0))
  | _ => False)
 rw [hb]
 exact ⟨rfl,rfl,by decide,retL_same (by simp) hK⟩
theorem good92b (hJ : Closed prog main J) {b : Nat} {x : Value} (hb : H[b]? = some (.cells [ptr b 0,x] true 0)) (hK : K (.tuple ⟨[]⟩) H) : Good prog J 92 [ptr b 0] H K := by
 refine g92 hJ fun _ => ?_
 rw [e92]
 obtain ⟨i,hi,hz⟩ := bldInfo
 refine nilI (offI (ldI hb rfl rfl ?_))
 refine ptrEql (e := 144) (r := false) (by kernel_rfl) (by kernel_rfl) rfl (cnd_false.2 ?_)
 refine nilI (offI (ldI hb rfl rfl ?_))
 refine ptrNeq (e := 144) (r := true) (by kernel_rfl) (by kernel_rfl) ?_ (cnd_false.2 (retL_same (by simp) hK))
 simp only [teqPtr,hi]
 have : (!(i.size == 0) && ((⟨b,0,none⟩ : Addr) == ⟨b,0,none⟩)) = true := by simpa using hz
 rw [this,cond_true]
def Bld (b p : Nat) (bs : List UInt8) (H : List AObj) : Prop :=
 H[b]? = some (.cells [ptr b 0,.slice (some ⟨p,0,none⟩) bs.length fz] true 0) ∧ ∃ cs,H[p]? = some (.typed true 5 cs true) ∧ cs.take bs.length = strCells bs
theorem Bld.ne {b p : Nat} {bs : List UInt8} (B : Bld b p bs H) : p ≠ b := by
 rintro rfl
 obtain ⟨h1,cs,h2,_⟩ := B
 rw [h1] at h2
 cases h2
theorem strCells_len (s : List UInt8) : (strCells s).length = s.length := by simp [strCells]
theorem strCells_kn (s : List UInt8) : kn (strCells s) = true := by
 unfold kn
 rw [List.all_eq_true]
 intro v hv
 obtain ⟨b,_,rfl⟩ := List.mem_map.1 hv
 rfl
theorem strCells_app (s u : List UInt8) : strCells s ++ strCells u = strCells (s ++ u) := by simp [strCells]
theorem strCells_bytes : ∀ s : List UInt8,bytesOf (strCells s) = some s
 | [] => rfl
 | b :: s => by
  have := strCells_bytes s
  simp only [strCells,List.map_cons,bytesOf] at this ⊢
  rw [this]
  simp [byteOf]
theorem Bld.fits {bs : List UInt8} {cs : List Value} (h : cs.take bs.length = strCells bs) : bs.length ≤ cs.length := by
 have := congrArg List.length h
 rw [List.length_take,strCells_len] at this
 omega
theorem capN {v : Value} (hv : v = .slice none 0 0) (hk : KV (vint (0 : Nat))) : aCapS v KV := by
 subst hv
 exact ⟨by decide,hk⟩
theorem good93 (hJ : Closed prog main J) {b n : Nat} (hn : n ≤ 1000000) (hb : H[b]? = some (.cells [ptr b 0,.slice none 0 0] true 0))
  (hK : ∀ H' p,p = H.length → SameX [b] H H' → Bld b p [] H' → H'.length = p + 1 → K (.tuple ⟨[]⟩) H') : Good prog J 93 [ptr b 0,vint n] H K := by
 refine g93 hJ fun _ => ?_
 rw [e93]
 have hlt := lt_of_get hb
 refine ⟨[b],nilI (offI (ldI hb rfl rfl ⟨by simp [ptrBlk,RdOk],capN rfl (mulI (by decide) (addI (by omega) ?_))⟩))⟩
 refine nilI (offI (ldI hb rfl rfl ⟨by simp [ptrBlk,RdOk],?_⟩))
 show aLenS (.slice none 0 0) _
 refine (show RdOk (some [b]) none ∧ _ from ⟨trivial,?_⟩)
 rw [show 2 * ((0 : Nat) : Int) + (n : Int) = (n : Int) by omega]
 refine good_mnz hJ mkNz (t := 70) (e := 5) (by kernel_rfl) (by kernel_rfl) (by omega) (by omega) fun cs hcs => ?_
 have hp : (H ++ [AObj.typed true 5 cs true])[H.length]? = some (.typed true 5 cs true) := by simp
 have hb1 : (H ++ [AObj.typed true 5 cs true])[b]? = some (.cells [ptr b 0,.slice none 0 0] true 0) := by rw [List.getElem?_append_left hlt]; exact hb
 have sb : SameB (some [b]) H (H ++ [AObj.typed true 5 cs true]) := fun x hx => by
  simp at hx
  subst hx
  rw [List.getElem?_append_left hlt]
 refine ⟨sb,?_⟩
 have hsl : ∀ {KV : Value → Prop},KV (.slice (some ⟨H.length,0,none⟩) 0 fz) → aSl2 1 (.slice (some ⟨H.length,0,none⟩) (n : Int).toNat fz) none (some (vint (0 : Nat))) (H ++ [AObj.typed true 5 cs true]) KV := fun {KV} hk => by
  refine ⟨Nat.zero_le _,fun hc => absurd hc (by decide),fun _ => ?_⟩
  rw [hp]
  exact ⟨⟨rfl,rfl,by simp,.inl rfl⟩,hk⟩
 refine hsl ⟨sb,nilI (offI (ldI hb1 rfl rfl ⟨by decide,?_⟩))⟩
 have hcp : ∀ {K : Value → List AObj → Prop},K (vint (0 : Nat)) (H ++ [AObj.typed true 5 cs true]) → aCopy 1 (.slice (some ⟨H.length,0,none⟩) 0 fz) (.slice none 0 0) (H ++ [AObj.typed true 5 cs true]) K := fun {K} hk => by
  refine ⟨rfl,?_⟩
  show (match (H ++ [AObj.typed true 5 cs true])[H.length]? with
   | some (.cells cs true sz) => 0 + (min 0 0) * 1 ≤ cs.length ∧ K (vint (min 0 0 : Nat)) ((H ++ [AObj.typed true 5 _ true]).set H.length (.cells (wrAt cs 0 []) true sz))
   | some (.typed ..) => min 0 0 = 0 ∧ K (vint (0 : Nat)) _
   | _ => False)
  rw [hp]
  exact ⟨rfl,hk⟩
 refine hcp (nilI (offI (qSt hb1 (by simp) rfl rfl fun H2 S2 c2 l2 => retL_same (by simp) ?_)))
 refine hK H2 H.length rfl (SameX.trans (SameX.refl.app) S2) ⟨by simpa using c2,cs,?_,rfl⟩ (by rw [l2]; simp)
 rw [S2.get hp (by simp; omega)]
theorem good79 (hJ : Closed prog main J) {b n : Nat} (h0 : 0 < n) (hn : n ≤ 1000000) (hb : H[b]? = some (.typed true 144 [.pointer none,.slice none 0 0] false))
  (hK : ∀ H' p,p = H.length → SameX [b] H H' → Bld b p [] H' → H'.length = p + 1 → K (.tuple ⟨[]⟩) H') : Good prog J 79 [ptr b 0,vint n] H K := by
 refine g79 hJ fun _ => ?_
 rw [e79]
 have hlt := lt_of_get hb
 refine good92a hJ hb ?_
 have hb1 : (H.set b (.cells [ptr b 0,.slice none 0 0] true 0))[b]? = some (.cells [ptr b 0,.slice none 0 0] true 0) := List.getElem?_set_self hlt
 have S1 : SameX [b] H (H.set b (.cells [ptr b 0,.slice none 0 0] true 0)) := SameX.refl.set (.inl (by simp))
 have l1 : (H.set b (.cells [ptr b 0,.slice none 0 0] true 0)).length = H.length := by simp
 generalize H.set b (.cells [ptr b 0,.slice none 0 0] true 0) = H1 at hb1 S1 l1
 refine lssI (cndI (fun h => absurd h (by omega)) fun _ => ?_)
 refine nilI (offI (ldI hb1 rfl rfl (capN rfl (nilI (offI (ldI hb1 rfl rfl ?_))))))
 show aBin prog .sub 3 (vint (0 : Nat)) (vint (0 : Nat)) _
 refine subI (by decide) (lssI (cndI (fun _ => ?_) fun h => absurd (by omega : ((0 : Nat) : Int) - ((0 : Nat) : Int) < n) h))
 refine good93 hJ hn hb1 fun H2 p e2 S2 B2 l2 => retL_same (by simp) ?_
 exact hK H2 p (by omega) (S1.trans S2) B2 l2
theorem good80 (hJ : Closed prog main J) {b p : Nat} {bs s : List UInt8} (B : Bld b p bs H) (hl : bs.length + s.length ≤ 1000000)
  (hK : ∀ H' p',p' = H.length → SameX [b,p] H H' → Bld b p' (bs ++ s) H' → H'.length = p' + 1 → K (.tuple ⟨[vint s.length,.nilIface]⟩) H') : Good prog J 80 [ptr b 0,strV s] H K := by
 refine g80 hJ fun _ => ?_
 rw [e80]
 have hne := B.ne
 obtain ⟨hb,cs,hp,ht⟩ := B
 have hlt := lt_of_get hb
 have hpl := lt_of_get hp
 have hfit := Bld.fits ht
 refine good92b hJ hb ?_
 refine nilI (offI (ldI hb rfl rfl ⟨by decide,?_⟩))
 have hap : ∀ {K : Value → List AObj → Prop},K (.slice (some ⟨H.length,0,none⟩) (bs.length + s.length) fz) (H.set p .dead ++ [.typed true 5 (cs.take bs.length ++ strCells s) true]) → aAppS 5 (.slice (some ⟨p,0,none⟩) bs.length fz) (strV s) H K := fun {K} hk => by
  show (match H[p]? with
   | some (.typed true t cs true) => (fz = fz ∧ t = 5 ∧ bs.length ≤ cs.length ∧ bs.length + s.length ≤ room ∧ kn (cs.take bs.length) = true) ∧ K (.slice (some ⟨H.length,0,none⟩) (bs.length + s.length) fz) (H.set p .dead ++ [.typed true t (cs.take bs.length ++ strCells s) true])
   | _ => False)
  rw [hp]
  exact ⟨⟨rfl,rfl,hfit,by unfold room; omega,by rw [ht]; exact strCells_kn bs⟩,hk⟩
 refine hap ?_
 rw [ht,strCells_app]
 have l1 : (H.set p .dead).length = H.length := by simp
 have hp1 : (H.set p .dead ++ [AObj.typed true 5 (strCells (bs ++ s)) true])[H.length]? = some (.typed true 5 (strCells (bs ++ s)) true) := by rw [List.getElem?_append_right (by omega),l1,Nat.sub_self]; rfl
 have S1 : SameX [b,p] H (H.set p .dead ++ [AObj.typed true 5 (strCells (bs ++ s)) true]) := SameX.app (SameX.refl.set (.inl (by simp)))
 have hb1 : (H.set p .dead ++ [AObj.typed true 5 (strCells (bs ++ s)) true])[b]? = some (.cells [ptr b 0,.slice (some ⟨p,0,none⟩) bs.length fz] true 0) := by
  rw [List.getElem?_append_left (by omega),List.getElem?_set_ne hne]
  exact hb
 have l2 : (H.set p .dead ++ [AObj.typed true 5 (strCells (bs ++ s)) true]).length = H.length + 1 := by simp
 generalize H.set p .dead ++ [AObj.typed true 5 (strCells (bs ++ s)) true] = H1 at hp1 S1 hb1 l2
 refine nilI (offI (qSt hb1 (by simp) rfl rfl fun H2 S2 c2 l3 => ?_))
 show aLenStr (strV s) _
 show retL H.length K [] [vint (ByteArray.mk ⟨s⟩).size,.nilIface] H2
 rw [show (ByteArray.mk ⟨s⟩).size = s.length from rfl]
 refine retL_same (by simp [unk]) (hK H2 H.length rfl (S1.trans (S2.weak (by simp))) ⟨?_,strCells (bs ++ s),?_,?_⟩ (by omega))
 ·rw [c2]
  simp
 ·rw [S2.get hp1 (by simp; omega)]
 ·rw [List.take_of_length_le (by rw [strCells_len]; omega)]
theorem lies8 {len n : Nat} (h : n ≤ len) : liesAt prog prog.depth 5 (len / prog.cellsOf 5) 0 5 n = true := by
 obtain ⟨d,hd⟩ : ∃ d,prog.depth = d + 1 := by
  have : 0 < prog.depth := Nat.lt_of_lt_of_le Nat.zero_lt_one (Nat.le_of_ble_eq_true (by kernel_rfl))
  exact ⟨prog.depth - 1,by omega⟩
 have hc : prog.cellsOf 5 = 1 := by kernel_rfl
 have hs : sameLayout prog prog.depth 5 5 = true := by kernel_rfl
 have hr : ∀ fits : TypeId → Bool,fits 5 = true → rowAt prog fits prog.depth 5 (len / prog.cellsOf 5) 0 n = true := by
  intro fits hf
  rw [hd]
  simp only [rowAt,hc,Nat.div_one,Nat.zero_mod,hf]
  simp [h]
 have hl : liesAt prog (d + 1) 5 (len / prog.cellsOf 5) 0 5 n = true := by
  unfold liesAt
  have h2 := hr (fun x => sameLayout prog prog.depth x 5) hs
  rw [h2]
  rfl
 rw [hd]
 exact hl
theorem good81 (hJ : Closed prog main J) {b p : Nat} {bs : List UInt8} (B : Bld b p bs H) (h0 : 0 < bs.length) (hl : bs.length ≤ 1000000)
  (hK : ∀ H',SameX [p] H H' → H'.length = H.length → K (strV bs) H') : Good prog J 81 [ptr b 0] H K := by
 refine g81 hJ fun _ => ?_
 rw [e81]
 have hne := B.ne
 obtain ⟨hb,cs,hp,ht⟩ := B
 have hfit := Bld.fits ht
 refine ⟨[b],nilI (offI (ldI hb rfl rfl ⟨by simp [ptrBlk,RdOk],?_⟩))⟩
 refine nilI (offI (ldI hb rfl rfl ⟨by simp [ptrBlk,RdOk],?_⟩))
 show RdOk (some [b]) none ∧ _
 refine ⟨trivial,?_⟩
 have hsd : ∀ {KV : Value → Prop},KV (ptr p 0) → aSlD (.slice (some ⟨p,0,none⟩) bs.length fz) H KV := fun {KV} hk => by
  show (match H[p]? with
   | some (.typed true _ cs true) => (fz = fz ∧ 0 < cs.length) ∧ KV (ptr p 0)
   | _ => False)
  rw [hp]
  exact ⟨⟨rfl,by omega⟩,hk⟩
 refine hsd ⟨fun _ _ => rfl,?_⟩
 show (match H[p]? with
  | some (.typed true t cs true) => (0 < ((bs.length : Nat) : Int) ∧ ((bs.length : Nat) : Int).toNat ≤ cs.length ∧ ((bs.length : Nat) : Int) ≤ 1073741824 ∧ ∀ N,((bs.length : Nat) : Int).toNat ≤ N → liesAt prog prog.depth t (N / prog.cellsOf t) 0 5 ((bs.length : Nat) : Int).toNat = true) ∧ match bytesOf (cs.take ((bs.length : Nat) : Int).toNat) with
   | some bs => SameB (some [b]) H (H.set p (.cells cs false 1)) ∧ retL H.length K [] [.string ⟨⟨bs⟩⟩] (H.set p (.cells cs false 1))
   | none => False
  | _ => False)
 rw [hp]
 simp only [Int.toNat_natCast,ht,strCells_bytes]
 refine ⟨⟨by omega,hfit,by omega,fun N hN => lies8 hN⟩,fun x hx => ?_,retL_same (by simp [unk]) (hK _ (SameX.refl.set (.inl (by simp))) (by simp))⟩
 simp at hx
 subst hx
 rw [List.getElem?_set_ne hne]
def joinR (sep a : List UInt8) (l : List (List UInt8)) : List UInt8 := a ++ l.flatMap (sep ++ ·)
def lenJ (l : List (List UInt8)) : Nat := (l.map List.length).sum
theorem lenJ_flat (sep : List UInt8) : ∀ l : List (List UInt8),(l.flatMap (sep ++ ·)).length = sep.length * l.length + lenJ l
 | [] => rfl
 | a :: l => by
  have := lenJ_flat sep l
  simp only [List.flatMap_cons,List.length_append,this,lenJ,List.map_cons,List.sum_cons,List.length_cons,Nat.mul_succ]
  omega
theorem lenJ_take (l : List (List UInt8)) : ∀ k,lenJ (l.take k) ≤ lenJ l := by
 intro k
 have h : lenJ l = lenJ (l.take k) + lenJ (l.drop k) := by
  unfold lenJ
  rw [← List.sum_append,← List.map_append,List.take_append_drop]
 omega
theorem lenJ_succ {l : List (List UInt8)} {k : Nat} {x : List UInt8} (h : l[k]? = some x) : lenJ (l.take (k + 1)) = lenJ (l.take k) + x.length := by
 rw [List.take_add_one,h]
 simp [lenJ]
theorem quoMax {t : TypeId} {b : Int} (hb : 0 < b ∧ b ≤ 1000) (hk : ∀ q : Int,1000000000 ≤ q → KV (vint q)) : aBin prog .quo t (vint 9223372036854775807) (vint b) KV := by
 have h1 : Int.tdiv 9223372036854775807 b = 9223372036854775807 / b := Int.tdiv_eq_ediv_of_nonneg (by decide)
 have h2 : 1000000000 ≤ 9223372036854775807 / b := (Int.le_ediv_iff_mul_le hb.1).2 (by omega)
 have h3 : (9223372036854775807 : Int) / b ≤ 9223372036854775807 := Int.ediv_le_self _ (by decide)
 simp only [aBin,aInt,true_and]
 rw [h1,wrap64 (by omega) (by omega)]
 exact ⟨by omega,hk _ h2⟩
theorem lenStr {s : List UInt8} (hk : KV (vint s.length)) : aLenStr (strV s) KV := hk
theorem good51 (hJ : Closed prog main J) {q n : Nat} {wr : Bool} {sz : Nat} {sep a : List UInt8} {l : List (List UInt8)} (hq : H[q]? = some (.cells ((a :: l).map strV) wr sz)) (hn : n = l.length + 1) (h1 : 0 < l.length) (h2 : l.length ≤ 500) (hs : 0 < sep.length ∧ sep.length ≤ 100) (hl : a.length + lenJ l ≤ 300000)
  (hK : K (strV (joinR sep a l)) H) : Good prog J 51 [.slice (some ⟨q,0,none⟩) n n,strV sep] H K := by
 subst hn
 refine g51 hJ fun ok => ?_
 rw [e51]
 have sl : Sli H (.slice (some ⟨q,0,none⟩) (l.length + 1) (l.length + 1)) 1 (l.length + 1) ((a :: l).map strV) := sli_new hq (by simp) (by
  unfold kn
  rw [List.all_eq_true]
  intro v hv
  obtain ⟨b,_,rfl⟩ := List.mem_map.1 hv
  rfl)
 have hsm : sep.length * l.length ≤ 100 * 500 := Nat.mul_le_mul hs.2 h2
 have hm : ∀ k : Nat,lenJ ((a :: l).take k) ≤ 300000 := fun k => by
  have := lenJ_take (a :: l) k
  have e : lenJ (a :: l) = a.length + lenJ l := by simp [lenJ]
  omega
 have hat : ∀ k : Nat,k < l.length + 1 → ∃ x,(a :: l)[k]? = some x ∧ x.length ≤ 300000 := fun k hk => by
  refine ⟨(a :: l)[k],List.getElem?_eq_getElem (by simpa using hk),?_⟩
  have := lenJ_succ (l := a :: l) (k := k) (List.getElem?_eq_getElem (by simpa using hk))
  have := hm (k + 1)
  omega
 refine lenI sl (eqlI (cndI (fun h => absurd h (by omega)) fun _ => eqlI (cndI (fun h => absurd h (by omega)) fun _ => ?_)))
 refine lenStr (gtrI (cndI (fun _ => ?_) fun h => absurd (by omega : (sep.length : Int) > 0) h))
 refine lenStr (lenI sl (subI (by omega) (quoMax (by omega) fun qv hqv => geqI (cndI (fun h => absurd h (by omega)) fun _ => ?_))))
 refine lenStr (lenI sl (subI (by omega) ?_))
 rw [show ((l.length + 1 : Nat) : Int) - 1 = ((l.length : Nat) : Int) by omega]
 refine mulI ⟨by rw [← Int.natCast_mul]; omega,by rw [← Int.natCast_mul]; omega⟩ ?_
 rw [← Int.natCast_mul]
 refine addI (by omega) ?_
 rw [show (0 : Int) + ((sep.length * l.length : Nat) : Int) = ((sep.length * l.length : Nat) : Int) by omega]
 refine hold.2 ?_
 rw [s51_1]
 refine lenI sl ?_
 refine l51_2 hJ (fun k : Nat => l.length + 1 - k) (fun k f H' => H' = H ∧ k ≤ l.length + 1 ∧ f.ds = [] ∧ f.r 0 = .slice (some ⟨q,0,none⟩) (l.length + 1) (l.length + 1) ∧ f.r 1 = strV sep ∧ f.r 39 = .slice (some ⟨q,0,none⟩) (l.length + 1) (l.length + 1) ∧ f.r 40 = vint (l.length + 1 : Nat) ∧ f.r 41 = vint (k : Nat) ∧ f.r 5 = vint (sep.length * l.length + lenJ ((a :: l).take k) : Nat)) ?_ (s := 0)
  (.inl ⟨rfl,by omega,rfl,rfl,rfl,rfl,rfl,rfl,by simp [lenJ]; rfl⟩)
 rintro k f H' ⟨rfl,hk,ds,r0,r1,r39,r40,r41,r5⟩ ok' hn'
 rw [s51_2]
 simp only [r0,r1,r39,r40,r41,r5]
 have hmk := hm k
 refine lssI (cndI (fun hlt => ?_) fun hge => ?_)
 ·obtain ⟨x,hx,hxl⟩ := hat k (by omega)
  refine idx_load (x := strV x) sl (by omega) (by rw [Int.toNat_natCast,List.getElem?_map,hx]; rfl) fun pv => ?_
  refine lenStr (subI (by omega) (gtrI (cndI (fun h => absurd h (by omega)) fun _ => lenStr (addI (by omega) (addI (by omega) ?_)))))
  have hsu := lenJ_succ hx
  refine ⟨k + 1,by dsimp only; omega,.inl ⟨rfl,by omega,ds,r0,r1,r39,r40,by show vint _ = vint _; congr 1,by show vint _ = vint _; rw [hsu]; congr 1; omega⟩⟩
 ·have hke : k = l.length + 1 := by omega
  subst hke
  have htot : sep.length * l.length + lenJ ((a :: l).take (l.length + 1)) = (joinR sep a l).length := by
   rw [List.take_of_length_le (by simp)]
   unfold joinR
   rw [List.length_append,lenJ_flat]
   simp [lenJ]
   omega
  rw [htot]
  have hjl : (joinR sep a l).length ≤ 400000 := by
   rw [← htot]
   have := hm (l.length + 1)
   omega
  have hj0 : 0 < (joinR sep a l).length := by
   rw [← htot]
   have : 0 < sep.length * l.length := Nat.mul_pos hs.1 h1
   omega
  refine (show ∀ {KK : Value → List AObj → Prop},KK (ptr H'.length 0) (H' ++ [.typed true 144 [.pointer none,.slice none 0 0] false]) → aAllocT 144 [.pointer none,.slice none 0 0] H' KK from fun {KK} hk => hk) ?_
  have hb1 : (H' ++ [AObj.typed true 144 [.pointer none,.slice none 0 0] false])[H'.length]? = some (.typed true 144 [.pointer none,.slice none 0 0] false) := by simp
  have S1 : SameX [] H' (H' ++ [AObj.typed true 144 [.pointer none,.slice none 0 0] false]) := SameX.refl.app
  have l1 : (H' ++ [AObj.typed true 144 [.pointer none,.slice none 0 0] false]).length = H'.length + 1 := by simp
  generalize H' ++ [AObj.typed true 144 [.pointer none,.slice none 0 0] false] = H1 at hb1 S1 l1
  have new : ∀ {X : List Nat} {H2 H3 : List AObj},SameX [] H' H2 → SameX X H2 H3 → (∀ x ∈ X,H'.length ≤ x) → SameX [] H' H3 := fun a b hX => a.thru b fun y hy => .inr (hX y hy)
  refine good79 hJ hj0 (by omega) hb1 fun H2 p2 e2 S2 B2 l2 => ?_
  have T2 := new S1 S2 (by simp)
  refine idx_load (x := strV a) (T2.sli sl (by simp)) (by omega) rfl fun pv => ?_
  refine good80 hJ B2 (by
   have : a.length ≤ (joinR sep a l).length := by simp [joinR]
   simp
   omega) fun H3 p3 e3 S3 B3 l3 => ?_
  have T3 := new T2 S3 (by simp; omega)
  have hsl : ∀ {KV : Value → Prop},KV (.slice (some ⟨q,1,none⟩) l.length l.length) → aSl2 1 (.slice (some ⟨q,0,none⟩) (l.length + 1) (l.length + 1)) (some (vint 1)) none H3 KV := fun {KV} hk => by
   show (1 ≤ l.length + 1) ∧ ((l.length + 1 < fz → l.length + 1 ≤ l.length + 1 ∧ KV (.slice (some ⟨q,bif Nat.beq (l.length + 1) 1 then 0 else 0 + 1 * 1,none⟩) (l.length + 1 - 1) (l.length + 1 - 1))) ∧ _)
   refine ⟨by omega,fun _ => ⟨Nat.le_refl _,?_⟩,fun h => absurd h (by unfold fz; omega)⟩
   have : Nat.beq (l.length + 1) 1 = false := by
    cases hb : Nat.beq (l.length + 1) 1 with
    | false => rfl
    | true => have := Nat.eq_of_beq_eq_true hb; omega
   rw [this]
   exact hk
  refine hsl (show aLenS (.slice (some ⟨q,1,none⟩) l.length l.length) _ from ?_)
  have sl1 : Sli H' (.slice (some ⟨q,1,none⟩) l.length l.length) 1 l.length (l.map strV) := by
   obtain ⟨_,_,_,⟨_,hkn⟩,_⟩ := sl
   refine ⟨_,_,rfl,⟨by simp,?_⟩,.inr ⟨q,1,rfl,.inr ⟨_,_,_,hq,by simp; exact List.take_of_length_le (by simp)⟩⟩⟩
   unfold kn at hkn ⊢
   simp only [List.map_cons,List.all_cons,Bool.and_eq_true] at hkn
   exact hkn.2
  refine l51_3 hJ (fun k : Nat => l.length - k) (fun k f H4 => k ≤ l.length ∧ SameX [] H' H4 ∧ (∃ p,H'.length ≤ p ∧ Bld H'.length p (joinR sep a (l.take k)) H4) ∧ f.ds = [] ∧ f.r 1 = strV sep ∧ f.r 8 = ptr H'.length 0 ∧ f.r 63 = .slice (some ⟨q,1,none⟩) l.length l.length ∧ f.r 64 = vint (l.length : Nat) ∧ f.r 65 = vint (k : Nat)) ?_ (s := 0)
   (.inl ⟨by omega,T3,⟨p3,by omega,by simpa [joinR] using B3⟩,ds,r1,rfl,rfl,rfl,rfl⟩)
  rintro k f4 H4 ⟨hk4,T4,⟨p4,hp4,B4⟩,ds4,q1,q8,q63,q64,q65⟩ ok4 hn4
  rw [s51_3]
  simp only [q1,q8,q63,q64,q65]
  have hpre : (joinR sep a (l.take k)).length ≤ 400000 := by
   unfold joinR
   rw [List.length_append,lenJ_flat]
   have := lenJ_take l k
   have : sep.length * (l.take k).length ≤ 100 * 500 := Nat.mul_le_mul hs.2 (by simp; omega)
   omega
  refine lssI (cndI (fun hlt => ?_) fun hge => ?_)
  ·obtain ⟨x,hx,hxl⟩ := hat (k + 1) (by omega)
   have hx : l[k]? = some x := by simpa using hx
   refine idx_load (x := strV x) (T4.sli sl1 (by simp)) (by omega) (by rw [Int.toNat_natCast,List.getElem?_map,hx]; rfl) fun pv => ?_
   refine good80 hJ B4 (by omega) fun H5 p5 e5 S5 B5 l5 => ?_
   have T5 := new T4 S5 (by simp; omega)
   refine good80 hJ B5 (by simp; omega) fun H6 p6 e6 S6 B6 l6 => ?_
   have T6 := new T5 S6 (by simp; have := T4.1; omega)
   refine addI (by omega) ⟨k + 1,by dsimp only; omega,.inl ⟨by omega,T6,⟨p6,by have := T5.1; omega,?_⟩,ds4,q1,q8,q63,q64,by show vint _ = vint _; congr 1⟩⟩
   have : joinR sep a (l.take (k + 1)) = joinR sep a (l.take k) ++ sep ++ x := by
    rw [List.take_add_one,hx]
    simp [joinR]
   rw [this]
   exact B6
  ·have hke : k = l.length := by omega
   subst hke
   rw [List.take_length] at B4
   refine good81 hJ B4 hj0 (by omega) fun H5 S5 l5 => ?_
   rw [ds4]
   exact retX (X := []) ok hn' (new T4 S5 (by simpa using hp4)) (by simp) (by simp [unk,strV]) (by simp [pack,VOk,strV]) hK
end
def bl (n : Nat) : Nat := ((List.range 8).filter fun k => Nat.ble (2 ^ k) n).length
def lenU (u : Nat) : Nat := if 256 ≤ u then 8 + bl (u / 256) else bl u
def tab8 : List UInt8 := (List.range 256).map fun n => UInt8.ofNat (bl n)
def digC (n : Nat) : UInt8 := UInt8.ofNat (48 + n)
def numD (u : Nat) : List UInt8 := if u < 10 then [digC u] else if u < 100 then [digC (u / 10),digC (u % 10)] else [digC (u / 100),digC (u / 10 % 10),digC (u % 10)]
def itoaB (n : Int) : List UInt8 := if n < 0 then 45 :: numD n.natAbs else numD n.natAbs
def pairs : List UInt8 := (List.range 100).flatMap fun n => [digC (n / 10),digC (n % 10)]
def digs : List UInt8 := [48,49,50,51,52,53,54,55,56,57,97,98,99,100,101,102,103,104,105,106,107,108,109,110,111,112,113,114,115,116,117,118,119,120,121,122]
def pow10 : List Value := (List.range 20).map fun i => .int .u64 ((10 ^ i : Nat) : Int)
def PowAt (H : List AObj) : Prop := H[1]? = some (.typed false 1 pow10 false)
theorem bl_le : ∀ n ∈ List.range 256,bl n ≤ 8 := of_decide_eq_true (by kernel_rfl)
def eU (u : Nat) : Nat := lenU u * 78913 / 262144
theorem nd_ok : ∀ u ∈ List.range 1000,u = 0 ∨ (lenU u ≤ 16 ∧ eU u ≤ 3 ∧ eU u + (if 10 ^ eU u ≤ u then 1 else 0) = (numD u).length) := of_decide_eq_true (by kernel_rfl)
theorem pairs_get : ∀ m ∈ List.range 100,pairs[m * 2]? = some (digC (m / 10)) ∧ pairs[m * 2 + 1]? = some (digC (m % 10)) := of_decide_eq_true (by kernel_rfl)
theorem digs_num : ∀ n ∈ List.range 10,(digs.take (n + 1)).drop n = numD n := of_decide_eq_true (by kernel_rfl)
theorem pairs_num : ∀ n ∈ List.range 100,n < 10 ∨ (pairs.take (n * 2 + 2)).drop (n * 2) = numD n := of_decide_eq_true (by kernel_rfl)
theorem pairs_len : pairs.length = 200 := by kernel_rfl
theorem digC_nat {n : Nat} (h : n < 10) : ((digC n).toNat : Int) = 48 + (n : Int) := by
 unfold digC
 rw [UInt8.toNat_ofNat_of_lt' (by show 48 + n < 256; omega)]
 omega
section
variable {main : Bool} {J : JT} {h H : List AObj} {K : Value → List AObj → Prop} {KV : Value → Prop} {HL : List AObj → Prop} {n0 : Nat}
theorem geqK {t : TypeId} {k : IntKind} {a b : Int} (hk : KV (.bool (decide (a ≥ b)))) : aBin prog .geq t (.int k a) (.int k b) KV := ⟨rfl,hk⟩
theorem addK {t : TypeId} {k : IntKind} {a b : Int} (hw : k.wrap (a + b) = a + b) (hk : KV (.int k (a + b))) : aBin prog .add t (.int k a) (.int k b) KV := ⟨rfl,by show KV (.int k (k.wrap (a + b))); rw [hw]; exact hk⟩
theorem mulK {t : TypeId} {k : IntKind} {a b : Int} (hw : k.wrap (a * b) = a * b) (hk : KV (.int k (a * b))) : aBin prog .mul t (.int k a) (.int k b) KV := ⟨rfl,by show KV (.int k (k.wrap (a * b))); rw [hw]; exact hk⟩
theorem wrap_u8 {n : Int} (h1 : 0 ≤ n) (h2 : n < 256) : IntKind.u8.wrap n = n := by
 simp only [IntKind.wrap,IntKind.bits,IntKind.signed]
 simp
 omega
theorem wrap_u32 {n : Int} (h1 : 0 ≤ n) (h2 : n < 4294967296) : IntKind.u32.wrap n = n := by
 simp only [IntKind.wrap,IntKind.bits,IntKind.signed]
 simp
 omega
theorem wrap_u64 {n : Int} (h1 : 0 ≤ n) (h2 : n < 18446744073709551616) : IntKind.u64.wrap n = n := by
 simp only [IntKind.wrap,IntKind.bits,IntKind.signed]
 simp
 omega
theorem quoK {t : TypeId} {a b : Nat} (ha : a < 4294967296) (hb : 0 < b) (hk : KV (.int .u32 ((a / b : Nat) : Int))) : aBin prog .quo t (.int .u32 (a : Int)) (.int .u32 (b : Int)) KV := by
 have h1 : Int.tdiv (a : Int) (b : Int) = ((a / b : Nat) : Int) := by rw [Int.tdiv_eq_ediv_of_nonneg (by omega)]; rfl
 have h3 : a / b ≤ a := Nat.div_le_self _ _
 refine ⟨rfl,by omega,?_⟩
 rw [h1,wrap_u32 (Int.natCast_nonneg _) (by have : ((a / b : Nat) : Int) ≤ (a : Int) := Int.ofNat_le.2 h3; omega)]
 exact hk
theorem remK {t : TypeId} {a b : Nat} (hb : 0 < b) (hk : KV (.int .u32 ((a % b : Nat) : Int))) : aBin prog .rem t (.int .u32 (a : Int)) (.int .u32 (b : Int)) KV := by
 have h1 : Int.tmod (a : Int) (b : Int) = ((a % b : Nat) : Int) := by rw [Int.tmod_eq_emod_of_nonneg (by omega)]; rfl
 refine ⟨rfl,by omega,?_⟩
 rw [h1]
 exact hk
theorem cvK {k k' : IntKind} {n : Int} (hw : k.wrap n = n) (hk : KV (.int k n)) : aConvI k (.int k' n) KV := by
 show KV (.int k (k.wrap n))
 rw [hw]
 exact hk
theorem idxS {s : List UInt8} {d : ByteArray} {k : IntKind} {j : Nat} {b : UInt8} (hd : d = ⟨⟨s⟩⟩) (hj : s[j]? = some b) (hk : KV (.int .u8 b.toNat)) : aIdxStr (.string d) (.int k (j : Int)) KV := by
 subst hd
 show 0 ≤ (j : Int) ∧ match s[(j : Int).toNat]? with
  | some b => KV (.int .u8 b.toNat)
  | none => False
 rw [Int.toNat_natCast,hj]
 exact ⟨by omega,hk⟩
theorem shrN {t : TypeId} {k : IntKind} {a b : Nat} (hb : b ≤ k.bits) (hk : KV (.int k ((a / 2 ^ b : Nat) : Int))) : aBin prog .shr t (.int k (a : Int)) (.int .u64 (b : Int)) KV := by
 refine ⟨by omega,?_⟩
 show KV (.int k ((a : Int).fdiv (2 ^ min (b : Int).toNat k.bits)))
 rw [Int.toNat_natCast,Nat.min_eq_left hb]
 have : (a : Int).fdiv (2 ^ b) = ((a / 2 ^ b : Nat) : Int) := by
  have e : (2 : Int) ^ b = ((2 ^ b : Nat) : Int) := by simp
  rw [e,Int.fdiv_eq_ediv_of_nonneg _ (Int.natCast_nonneg _)]
  rfl
 have e2 : ((a : Int).fdiv (2 ^ b)) = (a : Int).fdiv (2 ^ b) := rfl
 first
  | (rw [this]; exact hk)
  | (have hk2 := this ▸ hk; exact hk2)
theorem tab8_get {n : Nat} (h : n < 256) : tab8[n]? = some (UInt8.ofNat (bl n)) ∧ ((UInt8.ofNat (bl n)).toNat : Int) = (bl n : Int) := by
 refine ⟨by simp [tab8,h],?_⟩
 have := bl_le n (List.mem_range.2 h)
 rw [UInt8.toNat_ofNat_of_lt' (by show bl n < 256; omega)]
theorem pow10_get {e : Nat} (he : e < 20) : pow10[e]? = some (.int .u64 ((10 ^ e : Nat) : Int)) := by simp [pow10,he]
theorem good106 (hJ : Closed prog main J) {u : Nat} (hu : u < 1000) (hK : K (vint (lenU u)) H) : Good prog J 106 [.int .u64 (u : Int)] H K := by
 refine g106 hJ fun _ => ?_
 rw [e106]
 refine geqK (cndI (fun h => absurd h (by omega)) fun _ => hold.2 ?_)
 rw [s106_1]
 show aBin prog .geq _ (.int .u64 (u : Int)) (.int .u64 65536) _
 refine geqK (cndI (fun h => absurd h (by omega)) fun _ => hold.2 ?_)
 rw [s106_2]
 show aBin prog .geq _ (.int .u64 (u : Int)) (.int .u64 256) _
 refine geqK (cndI (fun h => ?_) fun h => ?_)
 ·have hd : u / 256 < 256 := by omega
  obtain ⟨t1,t2⟩ := tab8_get hd
  have hb := bl_le (u / 256) (List.mem_range.2 hd)
  show aBin prog .shr _ (.int .u64 (u : Int)) (.int .u64 ((8 : Nat) : Int)) _
  refine shrN (by decide) ?_
  show aBin prog .add 3 (vint 0) (vint 8) _
  refine addI (by decide) (cvK (wrap_u8 (by omega) (by omega)) ?_)
  refine idxS (s := tab8) (j := u / 2 ^ 8) (by kernel_rfl) t1 ?_
  rw [t2]
  refine cvK (wrap64 (by omega) (by omega)) (addI (by omega) (retL_same (by simp [unk]) ?_))
  have : lenU u = 8 + bl (u / 256) := if_pos (by omega)
  rw [this] at hK
  have e : (0 : Int) + 8 + (bl (u / 256) : Int) = ((8 + bl (u / 256) : Nat) : Int) := by omega
  rw [e]
  exact hK
 ·have hd : u < 256 := by omega
  obtain ⟨t1,t2⟩ := tab8_get hd
  have hb := bl_le u (List.mem_range.2 hd)
  show aConvI .u8 (.int .u64 (u : Int)) _
  refine cvK (wrap_u8 (by omega) (by omega)) (idxS (s := tab8) (by kernel_rfl) t1 ?_)
  rw [t2]
  refine cvK (wrap64 (by omega) (by omega)) ?_
  show aBin prog .add 3 (vint 0) (vint (bl u)) _
  refine addI (by omega) (retL_same (by simp [unk]) ?_)
  have : lenU u = bl u := if_neg (by omega)
  rw [this] at hK
  have e : (0 : Int) + (bl u : Int) = ((bl u : Nat) : Int) := by omega
  rw [e]
  exact hK
theorem good105 (hJ : Closed prog main J) {l : Nat} (hl : l ≤ 16) (hK : K (vint ((l * 78913 / 262144 : Nat) : Int)) H) : Good prog J 105 [vint l] H K := by
 refine g105 hJ fun _ => ?_
 rw [e105]
 refine mulI (by omega) ?_
 rw [show (l : Int) * 78913 = ((l * 78913 : Nat) : Int) by omega]
 show aBin prog .shr _ (.int .i64 ((l * 78913 : Nat) : Int)) (.int .u64 ((18 : Nat) : Int)) _
 exact shrN (by decide) (retL_same (by simp [unk]) hK)
theorem good107 (hJ : Closed prog main J) {p : Prop} [Decidable p] (hK : K (vint ((if p then 1 else 0 : Nat) : Int)) H) : Good prog J 107 [.bool (decide p)] H K := by
 refine g107 hJ fun _ => ?_
 rw [e107]
 refine cndI (fun h => retL_same (by simp [unk]) ?_) fun h => retL_same (by simp [unk]) ?_
 ·rw [if_pos h] at hK
  exact hK
 ·rw [if_neg h] at hK
  exact hK
theorem good95 (hJ : Closed prog main J) (hG : PowAt H) {u : Nat} (h0 : 0 < u) (hu : u < 1000) (hK : K (vint (numD u).length) H) : Good prog J 95 [.int .u64 (u : Int)] H K := by
 obtain ⟨k1,k2,k3⟩ := (nd_ok u (List.mem_range.2 hu)).resolve_left (by omega)
 refine g95 hJ fun _ => ?_
 rw [e95]
 refine good106 hJ hu (good105 hJ k1 ?_)
 show aIdxA 20 1 (gv H 1) (vint (eU u : Nat)) _
 have hg : gv H 1 = ptr 1 0 := by
  unfold gv
  rw [hG]
  rfl
 rw [hg]
 refine ⟨⟨by omega,by omega⟩,?_⟩
 refine ldT hG (v := .int .u64 ((10 ^ eU u : Nat) : Int)) ?_ rfl ?_
 ·rw [Int.toNat_natCast,Nat.zero_add,Nat.mul_one]
  exact pow10_get (by omega)
 have e : (((if (u : Int) ≥ ((10 ^ eU u : Nat) : Int) then 1 else 0 : Nat)) : Int) = ((if 10 ^ eU u ≤ u then 1 else 0 : Nat) : Int) := by
  by_cases h : 10 ^ eU u ≤ u
  ·rw [if_pos h,if_pos (Int.ofNat_le.2 h)]
  ·rw [if_neg h,if_neg (fun x => h (Int.ofNat_le.1 x))]
 have hd : (numD u).length ≤ 3 := by
  unfold numD
  split
  ·simp
  ·split <;> simp
 refine geqK (good107 hJ ?_)
 show aBin prog .add 3 (vint (eU u : Nat)) _ _
 rw [e]
 refine addI (by omega) (retL_same (by simp [unk]) ?_)
 rw [← Int.natCast_add,k3]
 exact hK
def z24 (d : List UInt8) : List Value := .int .u8 0 :: strCells d ++ List.replicate (23 - d.length) (.int .u8 0)
theorem numD_1 {u : Nat} (h : u < 10) : numD u = [digC u] := if_pos h
theorem numD_2 {u : Nat} (h1 : ¬ u < 10) (h2 : u < 100) : numD u = [digC (u / 10),digC (u % 10)] := by unfold numD; rw [if_neg h1,if_pos h2]
theorem numD_3 {u : Nat} (h2 : ¬ u < 100) : numD u = [digC (u / 100),digC (u / 10 % 10),digC (u % 10)] := by unfold numD; rw [if_neg (by omega),if_neg h2]
section
variable {F : RG} {p c nd : Nat}
theorem fb_last (ds : F.ds = []) (r0 : F.r 0 = .slice (some ⟨p,1,none⟩) nd c) {q : Nat} (hq : q < 10) (hn : 0 < nd) (r4 : F.r 4 = vint (1 : Nat)) (r12 : F.r 12 = .int .u32 (q : Int)) {cs : List Value} (hp : H[p]? = some (.cells cs true 0)) (hl : 1 < cs.length)
  (hK : ∀ H',SameX [p] H H' → H'[p]? = some (.cells (cs.set 1 (.int .u8 (digC q).toNat)) true 0) → H'.length = H.length → K (.tuple ⟨[]⟩) H') :
  W prog J 167 n0 96 (subC yp8 (codeOf f96)) F H (contX pl96 prog J 167 n0 96 ct96 yp8 (codeOf f96) [] (RetQ prog [] n0 K)) := by
 rw [s96_5]
 simp only [r0,r4,r12,ds]
 refine gtrI (cndI (fun _ => ?_) fun h => absurd (by decide : ((1 : Nat) : Int) > 0) h)
 refine addK (wrap_u32 (by omega) (by omega)) (cvK (wrap_u8 (by omega) (by omega)) (idxI ⟨by omega,by omega⟩ ?_))
 rw [← digC_nat hq]
 show aStore 1 (ptr p 1) _ H _
 exact qSt hp hl rfl rfl fun H2 S2 c2 l2 => retL_same (by simp) (hK H2 S2 c2 l2)
theorem fb_none (ds : F.ds = []) (r4 : F.r 4 = vint (0 : Nat)) (hK : K (.tuple ⟨[]⟩) H) :
  W prog J 167 n0 96 (subC yp8 (codeOf f96)) F H (contX pl96 prog J 167 n0 96 ct96 yp8 (codeOf f96) [] (RetQ prog [] n0 K)) := by
 rw [s96_5]
 simp only [r4,ds]
 exact gtrI (cndI (fun h => absurd h (by decide)) fun _ => retL_same (by simp) hK)
theorem fb_two (ds : F.ds = []) (r0 : F.r 0 = .slice (some ⟨p,1,none⟩) nd c) {u : Nat} (hu : u < 1000) (hn : nd = (numD u).length) (r4 : F.r 4 = vint (nd : Nat)) (r12 : F.r 12 = .int .u32 (u : Int)) (hp : H[p]? = some (.cells (z24 []) true 0))
  (hK : ∀ H',SameX [p] H H' → H'[p]? = some (.cells (z24 (numD u)) true 0) → H'.length = H.length → K (.tuple ⟨[]⟩) H') :
  W prog J 167 n0 96 (subC [1,1,1,1] (codeOf f96)) F H (contX pl96 prog J 167 n0 96 ct96 [1,1,1,1] (codeOf f96) [] (RetQ prog [] n0 K)) := by
 rw [s96_4]
 simp only [r0,r4,r12]
 by_cases h1 : u < 10
 ·rw [numD_1 h1] at hn hK
  subst hn
  refine geqI (cndI (fun h => absurd h (by simp)) fun _ => hold.2 ?_)
  exact fb_last (c := c) (nd := 1) ds r0 h1 (by decide) r4 r12 hp (by decide) hK
 ·have hm : u % 100 < 100 := Nat.mod_lt _ (by decide)
  obtain ⟨t1,t2⟩ := pairs_get (u % 100) (List.mem_range.2 hm)
  have hnd : 2 ≤ nd ∧ nd ≤ 3 := by
   rw [hn]
   by_cases h2 : u < 100
   ·rw [numD_2 h1 h2]
    simp
   ·rw [numD_3 h2]
    simp
  refine geqI (cndI (fun _ => ?_) fun h => absurd (by omega : (nd : Int) ≥ 2) h)
  refine remK (b := 100) (by decide) (mulK (wrap_u32 (by omega) (by omega)) (quoK (b := 100) (by omega) (by decide) ?_))
  refine subI (by omega) (subI (by omega) (addK (wrap_u32 (by omega) (by omega)) ?_))
  rw [show ((u % 100 : Nat) : Int) * 2 + 1 = ((u % 100 * 2 + 1 : Nat) : Int) by omega]
  refine idxS (s := pairs) (by kernel_rfl) t2 ?_
  rw [show ((u % 100 : Nat) : Int) * 2 = ((u % 100 * 2 : Nat) : Int) by omega]
  refine idxS (s := pairs) (by kernel_rfl) t1 ?_
  refine idxI ⟨by omega,by omega⟩ ?_
  rw [show 1 + ((nd : Int) - 1).toNat * 1 = nd by omega]
  refine qSt hp (by show nd < 24; omega) rfl rfl fun H2 S2 c2 l2 => ?_
  refine idxI ⟨by omega,by omega⟩ ?_
  rw [show 1 + ((nd : Int) - 2).toNat * 1 = nd - 1 by omega]
  refine qSt c2 (by rw [List.length_set]; show nd - 1 < 24; omega) rfl rfl fun H3 S3 c3 l3 => subI (by omega) (hold.2 ?_)
  by_cases h2 : u < 100
  ·rw [numD_2 h1 h2] at hn hK
   have hn : nd = 2 := hn
   subst hn
   refine fb_none ds rfl (hK H3 (S2.trans S3) ?_ (by omega))
   rw [c3,Nat.mod_eq_of_lt h2]
   rfl
  ·rw [numD_3 h2] at hn hK
   have hn : nd = 3 := hn
   subst hn
   refine fb_last (c := c) (nd := 3) ds r0 (q := u / 100) (by omega) (by decide) rfl rfl c3 (by simp [z24,strCells]) fun H4 S4 c4 l4 => ?_
   refine hK H4 ((S2.trans S3).trans S4) ?_ (by omega)
   rw [c4,show u % 100 % 10 = u % 10 by omega,show u % 100 / 10 = u / 10 % 10 by omega]
   rfl
end
theorem good96 (hJ : Closed prog main J) {p c u : Nat} (hu : u < 1000) (hp : H[p]? = some (.cells (z24 []) true 0))
  (hK : ∀ H',SameX [p] H H' → H'[p]? = some (.cells (z24 (numD u)) true 0) → H'.length = H.length → K (.tuple ⟨[]⟩) H') : Good prog J 96 [.slice (some ⟨p,1,none⟩) (numD u).length c,.int .u64 (u : Int)] H K := by
 have hd : (numD u).length ≤ 3 := by
  unfold numD
  split
  ·simp
  ·split <;> simp
 refine g96 hJ fun _ => ?_
 rw [e96]
 show Sem _ _ _ _ _ _ _ _
 refine l96_1 hJ (fun _ : Nat => 0) (fun _ f H' => H' = H ∧ f.ds = [] ∧ f.r 0 = .slice (some ⟨p,1,none⟩) (numD u).length c ∧ f.r 1 = .int .u64 (u : Int) ∧ f.r 4 = vint (numD u).length) ?_ (s := 0)
  (.inl ⟨rfl,rfl,rfl,rfl,rfl⟩)
 rintro s f H' ⟨rfl,ds,r0,r1,r4⟩ ok' hn'
 rw [s96_1]
 simp only [r0,r1,r4]
 refine geqI (cndI (fun h => absurd h (by omega)) fun _ => cvK (wrap_u32 (by omega) (by omega)) (geqI (cndI (fun h => absurd h (by omega)) fun _ => hold.2 ?_)))
 exact fb_two (c := c) ds r0 hu rfl r4 rfl hp hK
theorem slA1 {p nd : Nat} (h : nd ≤ 23) (hk : KV (.slice (some ⟨p,1,none⟩) nd 23)) : aSlA 24 1 (ptr p 0) (some (vint 1)) (some (vint (1 + (nd : Int)))) KV := by
 show match (bif decide ((0 : Int) ≤ 1) then some (1 : Int).toNat else none),(bif decide ((0 : Int) ≤ 1 + (nd : Int)) then some (1 + (nd : Int)).toNat else none) with
  | some l,some u => (l ≤ u ∧ u ≤ 24 ∧ 24 ≤ room) ∧ KV (.slice (some ⟨p,bif Nat.beq 24 l then 0 else 0 + l * 1,none⟩) (u - l) (24 - l))
  | _,_ => False
 rw [decide_eq_true (by omega : (0 : Int) ≤ 1 + (nd : Int)),show (1 + (nd : Int)).toNat = nd + 1 by omega]
 exact ⟨⟨by show 1 ≤ nd + 1; omega,by omega,by decide⟩,hk⟩
theorem slA0 {p nd : Nat} (h : nd ≤ 23) (hk : KV (.slice (some ⟨p,0,none⟩) (nd + 1) 24)) : aSlA 24 1 (ptr p 0) none (some (vint (1 + (nd : Int)))) KV := by
 show match some 0,(bif decide ((0 : Int) ≤ 1 + (nd : Int)) then some (1 + (nd : Int)).toNat else none) with
  | some l,some u => (l ≤ u ∧ u ≤ 24 ∧ 24 ≤ room) ∧ KV (.slice (some ⟨p,bif Nat.beq 24 l then 0 else 0 + l * 1,none⟩) (u - l) (24 - l))
  | _,_ => False
 rw [decide_eq_true (by omega : (0 : Int) ≤ 1 + (nd : Int)),show (1 + (nd : Int)).toNat = nd + 1 by omega]
 exact ⟨⟨by omega,by omega,by decide⟩,hk⟩
theorem b2sS {p o n c : Nat} {cs : List Value} {wr : Bool} {sz : Nat} {bs : List UInt8} (hp : H[p]? = some (.cells cs wr sz)) (hn : o + n ≤ cs.length) (hb : (cs.drop o).take n = strCells bs) (hk : KV (strV bs)) : aB2S (.slice (some ⟨p,o,none⟩) n c) H KV := by
 show match H[p]? with
  | some (.cells c _ _) => o + n ≤ c.length ∧ match bytesOf ((c.drop o).take n) with
   | some bs => KV (.string ⟨⟨bs⟩⟩)
   | none => False
  | _ => False
 rw [hp]
 simp only
 rw [hb,strCells_bytes]
 exact ⟨hn,hk⟩
theorem z24_len {d : List UInt8} (h : d.length ≤ 23) : (z24 d).length = 24 := by
 simp [z24,strCells]
 omega
theorem z24_part {d : List UInt8} : ((z24 d).drop 1).take d.length = strCells d := by
 unfold z24
 rw [List.cons_append,List.drop_one,List.tail_cons,List.take_left' (strCells_len d)]
theorem z24_neg {d : List UInt8} : (((z24 d).set 0 (.int .u8 45)).drop 0).take (d.length + 1) = strCells (45 :: d) := by
 unfold z24
 rw [List.cons_append,List.set_cons_zero,List.drop_zero,List.take_succ_cons,List.take_left' (strCells_len d)]
 rfl
theorem numD_len (u : Nat) : 0 < (numD u).length ∧ (numD u).length ≤ 3 := by
 unfold numD
 split
 ·simp
 ·split <;> simp
theorem good94 (hJ : Closed prog main J) {n : Nat} (hn : n < 100) (hK : K (strV (numD n)) H) : Good prog J 94 [vint n] H K := by
 have slC : ∀ {s u : List UInt8} {lo hi : Int} {KV : Value → Prop},(0 ≤ lo ∧ lo ≤ hi ∧ hi ≤ s.length) → (s.take hi.toNat).drop lo.toNat = u → KV (strV u) → aSlStr (strV s) (some (vint lo)) (some (vint hi)) KV := fun {s u lo hi KV} h hu hk => by
  subst hu
  show match (bif decide ((0 : Int) ≤ lo) then some lo.toNat else none),(bif decide ((0 : Int) ≤ hi) then some hi.toNat else none) with
   | some l,some u => (l ≤ u ∧ u ≤ s.length) ∧ KV (.string ⟨⟨(s.take u).drop l⟩⟩)
   | _,_ => False
  rw [decide_eq_true h.1,decide_eq_true (by omega : (0 : Int) ≤ hi),cond_true,cond_true]
  exact ⟨⟨by omega,by omega⟩,hk⟩
 have form : W prog J 15 H.length 94 (codeOf f94) (RG.mk (regs [vint n]) []) H (RetQ prog [.tmp 2] H.length K) =
  aBin prog .lss 3 (vint n) (vint 10) fun v1 => cnd v1 (aBin prog .add 3 (vint n) (vint 1) fun v2 => aSlStr (strV digs) (some (vint n)) (some v2) fun v3 => retL H.length K [] [v3] H)
   (aBin prog .mul 3 (vint n) (vint 2) fun v4 => aBin prog .mul 3 (vint n) (vint 2) fun v5 => aBin prog .add 3 v5 (vint 2) fun v6 => aSlStr (strV pairs) (some v4) (some v6) fun v7 => retL H.length K [] [v7] H) := by
  rw [e94]
  kernel_rfl
 refine g94 hJ fun _ => ?_
 rw [form]
 refine lssI (cndI (fun h => ?_) fun h => ?_)
 ·have h10 : n < 10 := by omega
  refine addI (by omega) (slC (u := numD n) (by rw [show digs.length = 36 from rfl]; omega) ?_ (retL_same (by simp [unk,strV]) hK))
  have := digs_num n (List.mem_range.2 h10)
  rw [show ((n : Int) + 1).toNat = n + 1 by omega,show ((n : Int)).toNat = n by omega]
  exact this
 ·have h10 : ¬ n < 10 := by omega
  refine mulI (by omega) (mulI (by omega) (addI (by omega) (slC (u := numD n) (by rw [pairs_len]; omega) ?_ (retL_same (by simp [unk,strV]) hK))))
  have := (pairs_num n (List.mem_range.2 hn)).resolve_left h10
  rw [show ((n : Int) * 2 + 2).toNat = n * 2 + 2 by omega,show ((n : Int) * 2).toNat = n * 2 by omega]
  exact this
section
variable {F : RG} {p : Nat}
theorem fm_end (hJ : Closed prog main J) (hG : PowAt h) {ok : heapOk h} (S : SameX [] h H) (hn0 : n0 ≤ h.length) (hpn : h.length ≤ p) (ds : F.ds = []) {n : Int} (hn : -1000 < n ∧ n < 1000 ∧ n ≠ 0) (r0 : F.r 0 = vint n) (r5 : F.r 5 = ptr p 0) (r6 : F.r 6 = .int .u64 (n.natAbs : Int)) (hp : H[p]? = some (.cells (z24 []) true 0)) (hK : K (strV (itoaB n)) h) :
  W prog J 54 n0 82 (subC yp23 (codeOf f82)) F H (contX pl82 prog J 54 n0 82 ct82 yp23 (codeOf f82) [] (RetQ prog [.tmp 4] n0 K)) := by
 have hu : n.natAbs < 1000 := by omega
 obtain ⟨d1,d2⟩ := numD_len n.natAbs
 rw [s82_2]
 simp only [r0,r5,r6]
 refine good95 hJ (S.get hG (by simp)) (by omega) hu (addI (by omega) (slA1 (by omega) (good96 hJ hu hp fun H2 S2 c2 l2 => ?_)))
 have T2 : SameX [] h H2 := S.thru S2 fun y hy => .inr (by simp at hy; omega)
 refine lssI (cndI (fun hneg => ?_) fun hpos => ?_)
 ·refine (show ∀ {KV : Value → Prop},KV (ptr p 0) → aIdxA 24 1 (ptr p 0) (vint 0) KV from fun {KV} hk => ⟨⟨by decide,by decide⟩,hk⟩) ?_
  refine qSt c2 (by rw [z24_len (by omega)]; decide) rfl rfl fun H3 S3 c3 l3 => addI (by omega) (slA0 (by omega) ?_)
  refine b2sS c3 (by rw [List.length_set,z24_len (by omega)]; omega) z24_neg ?_
  rw [ds]
  refine retX (X := []) ok hn0 (T2.thru S3 fun y hy => .inr (by simp at hy; omega)) (by simp) (by simp [unk,strV]) (by simp [pack,VOk,strV]) ?_
  have : itoaB n = 45 :: numD n.natAbs := if_pos hneg
  rw [this] at hK
  exact hK
 ·refine addI (by omega) (slA1 (by omega) (b2sS c2 (by rw [z24_len (by omega)]; omega) z24_part ?_))
  rw [ds]
  refine retX (X := []) ok hn0 T2 (by simp) (by simp [unk,strV]) (by simp [pack,VOk,strV]) ?_
  have : itoaB n = numD n.natAbs := if_neg hpos
  rw [this] at hK
  exact hK
end
theorem fm_join (hJ : Closed prog main J) (hG : PowAt H) (ok : heapOk H) {F : RG} (ds : F.ds = []) {n : Int} (hn : -1000 < n ∧ n < 1000) (r0 : F.r 0 = vint n) {b : Bool} (r17 : F.r 17 = .bool b) (hb : b = true ↔ (0 ≤ n ∧ n < 100)) (hK : K (strV (itoaB n)) H) :
  W prog J 54 H.length 82 (subC [1,0,1,0,0,1] (codeOf f82)) F H (contX pl82 prog J 54 H.length 82 ct82 [1,0,1,0,0,1] (codeOf f82) [] (RetQ prog [.tmp 4] H.length K)) := by
 rw [s82_1]
 simp only [r0,r17]
 cases b with
 | true =>
  obtain ⟨h0,h1⟩ := hb.1 rfl
  refine cnd_true.2 ?_
  have e : n = ((n.natAbs : Nat) : Int) := by omega
  have hi : itoaB n = numD n.natAbs := if_neg (by omega)
  rw [hi] at hK
  rw [e]
  refine good94 hJ (by omega) ?_
  rw [ds]
  exact retL_same (by simp [unk,strV]) hK
 | false =>
  have hbig : n < 0 ∨ 100 ≤ n := by
   rcases Int.lt_or_le n 0 with h | h
   ·exact .inl h
   ·rcases Int.lt_or_le n 100 with h2 | h2
    ·exact absurd (hb.2 ⟨h,h2⟩) (by simp)
    ·exact .inr h2
  refine cnd_false.2 (qAl fun H2 p e2 S2 c2 l2 => ?_)
  by_cases hneg : n < 0
  ·have hw : IntKind.u64.wrap n = 18446744073709551616 + n := by
    simp only [IntKind.wrap,IntKind.bits,IntKind.signed]
    simp
    omega
   have hw2 : IntKind.u64.wrap (-(18446744073709551616 + n)) = (n.natAbs : Int) := by
    simp only [IntKind.wrap,IntKind.bits,IntKind.signed]
    simp
    omega
   refine (show ∀ {KV : Value → Prop},KV (.int .u64 (18446744073709551616 + n)) → aConvI .u64 (vint n) KV from fun {KV} hk => by
    show KV (.int .u64 (IntKind.u64.wrap n))
    rw [hw]
    exact hk) ?_
   refine lssI (cndI (fun _ => ?_) fun h => absurd hneg h)
   refine (show ∀ {KV : Value → Prop},KV (.int .u64 (n.natAbs : Int)) → aUn .neg (.int .u64 (18446744073709551616 + n)) KV from fun {KV} hk => by
    show KV (.int .u64 (IntKind.u64.wrap (-(18446744073709551616 + n))))
    rw [hw2]
    exact hk) ?_
   exact hold.2 (fm_end hJ hG (ok := ok) S2 (Nat.le_refl _) (by omega) ds (by omega) (by exact r0) rfl rfl c2 hK)
  ·refine cvK (wrap_u64 (by omega) (by omega)) (lssI (cndI (fun h => absurd h hneg) fun _ => hold.2 ?_))
   refine fm_end hJ hG (ok := ok) S2 (Nat.le_refl _) (by omega) ds (by omega) (by exact r0) rfl ?_ c2 hK
   show Value.int .u64 n = .int .u64 (n.natAbs : Int)
   congr 1
   omega
theorem good82 (hJ : Closed prog main J) (hG : PowAt H) {n : Int} (hn : -1000 < n ∧ n < 1000) (hK : K (strV (itoaB n)) H) : Good prog J 82 [vint n,vint 10] H K := by
 refine g82 hJ fun ok => ?_
 rw [e82]
 refine eqlI (cndI (fun _ => leqI (cndI (fun h0 => lssI (hold.2 ?_)) fun h0 => hold.2 ?_)) fun h => absurd rfl h)
 ·exact fm_join hJ hG ok rfl hn rfl (b := decide (n < 100)) rfl (by simp; omega) hK
 ·exact fm_join hJ hG ok rfl hn rfl (b := false) rfl (by simp; omega) hK
theorem good31 (hJ : Closed prog main J) (hG : PowAt H) {n : Int} (hn : -1000 < n ∧ n < 1000) (hK : K (strV (itoaB n)) H) : Good prog J 31 [vint n] H K := by
 refine g31 hJ fun _ => ?_
 rw [e31]
 refine g55 hJ fun _ => ?_
 rw [e55]
 refine good82 hJ hG hn ?_
 refine retL_same (by simp [unk,strV]) ?_
 exact retL_same (by simp [unk,strV,pack]) hK
end
def lineB (a : List UInt8) (l : List (List UInt8)) : List UInt8 := joinR [32] a l ++ [10]
def namedB (w : List UInt8) (n : Int) : List UInt8 := (w ++ [61]) ++ itoaB n
def spanB (w : List UInt8) (r : Rng) : List UInt8 := (namedB w r.lo ++ [46,46]) ++ itoaB r.hi
def wGates : List UInt8 := [103,97,116,101,115]
def wFirst : List UInt8 := [102,105,114,115,116]
def wLost : List UInt8 := [108,111,115,116]
def wChange : List UInt8 := [99,104,97,110,103,101]
def wCount : List UInt8 := [99,111,117,110,116]
def wGate : List UInt8 := [103,97,116,101]
def wMan : List UInt8 := [109,97,110]
def wNumber : List UInt8 := [110,117,109,98,101,114]
def wErr : List UInt8 := [101,114,114]
def wTallied : List UInt8 := [116,97,108,108,105,101,100]
def headB (t : Tal) : List UInt8 := lineB (namedB wGates t.gates) [spanB wFirst t.first,namedB wLost t.most]
def changeB (r : Rng) : List UInt8 := lineB (spanB wChange r) []
def countB (c : Cnt) : List UInt8 := lineB wCount [namedB wGate c.gate,namedB wMan c.man,namedB wNumber c.num,namedB wErr c.err]
def writeB (t : Tal) : List UInt8 := ((headB t ++ t.changes.flatMap changeB) ++ t.counts.flatMap countB) ++ lineB wTallied []
theorem w_lens : wGates.length = 5 ∧ wFirst.length = 5 ∧ wLost.length = 4 ∧ wChange.length = 6 ∧ wCount.length = 5 ∧ wGate.length = 4 ∧ wMan.length = 3 ∧ wNumber.length = 6 ∧ wErr.length = 3 ∧ wTallied.length = 7 := ⟨rfl,rfl,rfl,rfl,rfl,rfl,rfl,rfl,rfl,rfl⟩
theorem itoaB_len (n : Int) : (itoaB n).length ≤ 4 := by
 have h := numD_len n.natAbs
 unfold itoaB
 split
 ·simp only [List.length_cons]; omega
 ·omega
theorem namedB_len (w : List UInt8) (n : Int) : (namedB w n).length ≤ w.length + 5 := by
 have := itoaB_len n
 simp only [namedB,List.length_append,List.length_cons,List.length_nil]
 omega
theorem spanB_len (w : List UInt8) (r : Rng) : (spanB w r).length ≤ w.length + 11 := by
 have := itoaB_len r.hi
 have := namedB_len w r.lo
 simp only [spanB,List.length_append,List.length_cons,List.length_nil]
 omega
theorem joinR_len (sep a : List UInt8) (l : List (List UInt8)) : (joinR sep a l).length = a.length + (sep.length * l.length + lenJ l) := by
 unfold joinR
 rw [List.length_append,lenJ_flat]
theorem changeB_len (r : Rng) : (changeB r).length ≤ 30 := by
 have := spanB_len wChange r
 simp only [changeB,lineB,List.length_append,joinR_len,lenJ,List.map_nil,List.sum_nil,List.length_cons,List.length_nil]
 have := w_lens
 omega
theorem countB_len (c : Cnt) : (countB c).length ≤ 80 := by
 have h1 := namedB_len wGate c.gate
 have h2 := namedB_len wMan c.man
 have h3 := namedB_len wNumber c.num
 have h4 := namedB_len wErr c.err
 simp only [countB,lineB,List.length_append,joinR_len,lenJ,List.map_cons,List.map_nil,List.sum_cons,List.sum_nil,List.length_cons,List.length_nil]
 have := w_lens
 omega
theorem headB_len (t : Tal) : (headB t).length ≤ 80 := by
 have h1 := namedB_len wGates t.gates
 have h2 := spanB_len wFirst t.first
 have h3 := namedB_len wLost t.most
 simp only [headB,lineB,List.length_append,joinR_len,lenJ,List.map_cons,List.map_nil,List.sum_cons,List.sum_nil,List.length_cons,List.length_nil]
 have := w_lens
 omega
theorem flat_len {α : Type} {f : α → List UInt8} {B : Nat} (hf : ∀ x,(f x).length ≤ B) : ∀ l : List α,(l.flatMap f).length ≤ B * l.length
 | [] => by simp
 | a :: l => by
  have := flat_len hf l
  have := hf a
  simp only [List.flatMap_cons,List.length_append,List.length_cons,Nat.mul_succ]
  omega
section
variable {main : Bool} {J : JT} {h H : List AObj} {K : Value → List AObj → Prop} {KV : Value → Prop} {HL : List AObj → Prop} {n0 : Nat}
theorem fillO {m : List Value} {o s : Nat} {v : Value} {l : List Value} {ps : List (Nat × Nat × Value)} {KL : List Value → Prop} (hv : v.cells.toList = l) (hs : l.length = s) (ho : l.all one = true) (hl : o + s ≤ m.length) (hk : aFill (wrAt m o l) ps KL) : aFill m ((o,s,v) :: ps) KL := by
 subst hv
 exact ⟨hs,ho,hl,hk⟩
theorem idx_loadA {α : Type} {v : Value} {s : Nat} {enc : α → List Value} {xs : List α} (hs : SliE H v s enc xs) (hen : ∀ x,(enc x).length = s) (hpos : 0 < s) {i : Nat} (hi : i < xs.length) {K : Value → Value → Prop} (hk : ∀ p,K p (.agg ⟨enc xs[i]⟩)) : aIdx s v (vint i) fun p => aLoad true s p H (K p) := by
 obtain ⟨b,o,cs,wr,sz,hidx,hb,hle,hpart,hkn⟩ := sliE_elem hen hpos hs hi
 exact hidx _ (load_part hb hle hpart hkn (hk _))
theorem catC {t : TypeId} {u v : List UInt8} (hl : u.length + v.length ≤ 1000000) (hk : KV (strV (u ++ v))) : aBin prog .add t (strV u) (strV v) KV := by
 have hrm : (2000000 : Nat) < room := by decide
 show (ByteArray.mk ⟨u⟩).size + (ByteArray.mk ⟨v⟩).size ≤ room ∧ KV (.string (ByteArray.mk ⟨u⟩ ++ ByteArray.mk ⟨v⟩))
 have e1 : (ByteArray.mk ⟨v⟩).size = v.length := rfl
 have e2 : (ByteArray.mk ⟨u⟩).size = u.length := rfl
 have e3 : ByteArray.mk ⟨u⟩ ++ ByteArray.mk ⟨v⟩ = ByteArray.mk ⟨u ++ v⟩ := by
  apply ByteArray.ext
  rw [ByteArray.data_append]
  apply Array.ext'
  rw [Array.toList_append]
 rw [e1,e2,e3]
 exact ⟨by omega,hk⟩
theorem good51one (hJ : Closed prog main J) {q : Nat} {wr : Bool} {sz : Nat} {sep a : List UInt8} (hq : H[q]? = some (.cells [strV a] wr sz)) (hK : K (strV a) H) : Good prog J 51 [.slice (some ⟨q,0,none⟩) 1 1,strV sep] H K := by
 refine g51 hJ fun ok => ?_
 rw [e51]
 have sl : Sli H (.slice (some ⟨q,0,none⟩) 1 1) 1 1 [strV a] := sli_new hq (by simp) rfl
 refine lenI sl (eqlI (cndI (fun h => absurd h (by decide)) fun _ => eqlI (cndI (fun _ => ?_) fun h => absurd rfl h)))
 exact idx_load (x := strV a) sl (by decide) rfl fun pv => retL_same (by simp [unk,strV]) hK
theorem good27 (hJ : Closed prog main J) {q n : Nat} {wr : Bool} {sz : Nat} {a : List UInt8} {l : List (List UInt8)} (hq : H[q]? = some (.cells ((a :: l).map strV) wr sz)) (hn : n = l.length + 1) (h2 : l.length ≤ 5) (hl : a.length + lenJ l ≤ 3000)
  (hK : K (strV (lineB a l)) H) : Good prog J 27 [.slice (some ⟨q,0,none⟩) n n] H K := by
 refine g27 hJ fun ok => ?_
 rw [e27]
 have fin : ∀ {v : Value},v = strV (joinR [32] a l) → aBin prog .add 9 v (strV [10]) fun v3 => retL H.length K [] [v3] H := by
  rintro v rfl
  refine catC ?_ (retL_same (by simp [unk,strV]) hK)
  rw [joinR_len]
  simp only [List.length_cons,List.length_nil]
  omega
 subst hn
 cases l with
 | nil => exact good51one hJ (sep := [32]) hq (fin (by simp [joinR]))
 | cons b l => exact good51 hJ (sep := [32]) hq rfl (by simp) (by omega) (by simp) (by omega) (fin rfl)
theorem good28 (hJ : Closed prog main J) (hG : PowAt H) {w : List UInt8} {n : Int} (hn : -1000 < n ∧ n < 1000) (hw : w.length ≤ 100) (hK : K (strV (namedB w n)) H) : Good prog J 28 [strV w,vint n] H K := by
 refine g28 hJ fun ok => ?_
 rw [e28]
 have := itoaB_len n
 refine catC (u := w) (v := [61]) (by simp; omega) (good31 hJ hG hn (catC (by simp; omega) (retL_same (by simp [unk,strV]) hK)))
theorem good29 (hJ : Closed prog main J) (hG : PowAt H) {w : List UInt8} {r : Rng} (hn : (-1000 < r.lo ∧ r.lo < 1000) ∧ -1000 < r.hi ∧ r.hi < 1000) (hw : w.length ≤ 100) (hK : K (strV (spanB w r)) H) : Good prog J 29 [strV w,r.val] H K := by
 refine g29 hJ fun ok => ?_
 rw [e29]
 have := itoaB_len r.hi
 have := namedB_len w r.lo
 refine qBox (l := r.cells) rfl fun H2 p e2 S2 c2 l2 => ?_
 refine ⟨[p],offI (ldI c2 rfl rfl ⟨by simp [ptrBlk,RdOk],offI (ldI c2 rfl rfl ⟨by simp [ptrBlk,RdOk],?_⟩)⟩)⟩
 refine good28 hJ (S2.get hG (by simp)) hn.1 hw ⟨fun _ _ => rfl,catC (u := namedB w r.lo) (v := [46,46]) (by simp; omega) (good31 hJ (S2.get hG (by simp)) hn.2 ⟨fun _ _ => rfl,?_⟩)⟩
 refine catC (by simp; omega) (retX (X := []) ok (Nat.le_refl _) S2 (by simp) (by simp [unk,strV]) (by simp [pack,VOk,strV]) hK)
theorem SameX.newB {X : List Nat} {H H2 H3 : List AObj} (a : SameX [] H H2) (b : SameX X H2 H3) (hX : ∀ x ∈ X,H.length ≤ x) : SameX [] H H3 := a.thru b fun y hy => .inr (hX y hy)
theorem sb0 {p : Nat} {H H2 : List AObj} (S : SameX [] H H2) (hp : p < H.length) : SameB (some [p]) H H2 := fun b hb => by
 simp at hb
 subst hb
 exact S.2 _ hp (by simp)
theorem good9 (hJ : Closed prog main J) (hG : PowAt H) {v cv nv : Value} {t : Tal} (ht : TalAt H v t cv nv) (k1 : talErr t ≠ 0 → K (.tuple ⟨[strV [],vint (talErr t)]⟩) H) (k2 : talErr t = 0 → K (.tuple ⟨[strV (writeB t),vint 0]⟩) H) : Good prog J 9 [v] H K := by
 refine g9 hJ fun ok => ?_
 rw [e9,ht.val]
 have kt := talAt_kc ht
 refine qBox (tal_one ht) fun H1 p1 e1 S1 c1 l1 => ?_
 have t1 : TalAt H1 (.agg ⟨talCells t cv nv⟩) t cv nv := ⟨rfl,S1.sli ht.ch (by simp),S1.sli ht.co (by simp)⟩
 refine load_part (c := talCells t cv nv) c1 (by rw [cs_val]; omega) rfl kt ?_
 refine good26 hJ t1 (neqI (cndI (fun hne => ?_) fun heq => ?_))
 ·exact retX (X := []) ok (Nat.le_refl _) S1 (by simp) (by simp [unk,strV]) (by simp [pack,VOk,AOk,LOk,strV]) (k1 hne)
 have h0 : talErr t = 0 := by omega
 have fine := talErr_fine h0
 have hk2 := k2 h0
 have hgt := fine.gates
 have hfi := fine.first
 have hmo := fine.most
 have hfew := fine.few
 have hch : t.changes.length ≤ 4 := by have := fine.chl; omega
 have hp1 : p1 < H1.length := by omega
 have hG1 : PowAt H1 := S1.get hG (by simp)
 have kcv : kn1 cv = true := (sli_one ht.ch).2.2
 have knv : kn1 nv = true := (sli_one ht.co).2.2
 refine ⟨[p1],offI (ldI c1 rfl rfl ⟨by simp [ptrBlk,RdOk],offI (load_part (c := t.first.cells) c1 (by rw [cs_val]; omega) rfl rfl ⟨by simp [ptrBlk,RdOk],offI (ldI c1 rfl rfl ⟨by simp [ptrBlk,RdOk],?_⟩)⟩)⟩)⟩
 refine good28 hJ hG1 (w := wGates) (by omega) (by decide) ⟨fun _ _ => rfl,?_⟩
 refine good29 hJ hG1 (w := wFirst) (r := t.first) (by omega) (by decide) ⟨fun _ _ => rfl,?_⟩
 refine good28 hJ hG1 (w := wLost) (by omega) (by decide) ⟨fun _ _ => rfl,?_⟩
 refine ⟨⟨by decide,by decide,rfl⟩,?_⟩
 have n1 := namedB_len wGates t.gates
 have n2 := spanB_len wFirst t.first
 have n3 := namedB_len wLost t.most
 refine fillO (l := [strV (namedB wGates t.gates)]) rfl rfl rfl (by decide) (fillO (l := [strV (spanB wFirst t.first)]) rfl rfl rfl (by simp [wrAt,zrep]) (fillO (l := [strV (namedB wLost t.most)]) rfl rfl rfl (by simp [wrAt,zrep]) (fillI ?_)))
 refine qNew fun H2 p2 e2 S2 c2 l2 => ⟨sb0 S2 hp1,?_⟩
 refine good27 hJ (a := namedB wGates t.gates) (l := [spanB wFirst t.first,namedB wLost t.most]) c2 rfl (by simp) (by
  simp only [lenJ,List.map_cons,List.map_nil,List.sum_cons,List.sum_nil]
  have := w_lens
  omega) ⟨sb0 S2 hp1,?_⟩
 have T2 : SameX [] H H2 := S1.newB S2 (by simp)
 have c2' := S2.get c1 (by simp)
 refine offI (ldI c2' rfl kcv ?_)
 have ch2 := T2.sli ht.ch (by simp)
 refine lenI ch2 ?_
 refine l9_1 hJ (fun k : Nat => t.changes.length - k) (fun k f H3 => k ≤ t.changes.length ∧ SameX [] H H3 ∧ H.length ≤ p1 ∧ p1 < H3.length ∧ H3[p1]? = some (.cells (talCells t cv nv) true 0) ∧ f.ds = [] ∧ f.r 1 = ptr p1 0 ∧ f.r 5 = strV (headB t ++ (t.changes.take k).flatMap changeB) ∧ f.r 27 = cv ∧ f.r 28 = vint (t.changes.length : Nat) ∧ f.r 29 = vint (k : Nat)) ?_ (s := 0)
  (.inl ⟨by omega,T2,by omega,by omega,c2',rfl,rfl,by simp [headB]; rfl,rfl,rfl,rfl⟩)
 rintro k f H3 ⟨hk,T3,hp,hp3,c3,ds,r1,r5,r27,r28,r29⟩ ok3 hn3
 rw [s9_1]
 simp only [r1,r5,r27,r28,r29]
 have hG3 : PowAt H3 := T3.get hG (by simp)
 have hbk : (headB t ++ (t.changes.take k).flatMap changeB).length ≤ 300 := by
  have a1 := headB_len t
  have a2 := flat_len changeB_len (t.changes.take k)
  rw [List.length_append]
  have : (t.changes.take k).length ≤ 4 := by rw [List.length_take]; omega
  omega
 refine lssI (cndI (fun hlt => ?_) fun hge => ?_)
 ·have hi : k < t.changes.length := by omega
  have fr := fine.ch _ (List.getElem_mem hi)
  refine idx_loadA (enc := Rng.cells) (s := 2) (T3.sli ht.ch (by simp)) (fun r => rng_len r) (by decide) hi (fun pv => ?_)
  refine qAl fun H4 p4 e4 S4 c4 l4 => ?_
  refine qStA c4 rfl rfl rfl fun H5 S5 c5 l5 => ?_
  refine load_part (c := (t.changes[k]).cells) c5 (by rw [rng_len]; omega) rfl rfl ?_
  have T5 : SameX [] H H5 := (T3.newB S4 (by simp)).newB S5 (by simp; have := T3.1; omega)
  have hp1n : p1 ≠ p4 := by omega
  refine good29 hJ (T5.get hG (by simp)) (w := wChange) (r := t.changes[k]) (by omega) (by decide) ?_
  have n4 := spanB_len wChange t.changes[k]
  have wl := w_lens
  refine ⟨⟨by decide,by decide,rfl⟩,fillO (l := [strV (spanB wChange t.changes[k])]) rfl rfl rfl (by decide) (fillI (qNew fun H6 p6 e6 S6 c6 l6 => ?_))⟩
  refine good27 hJ (a := spanB wChange t.changes[k]) (l := []) c6 rfl (by simp) (by simp [lenJ]; omega) ?_
  have n5 := changeB_len t.changes[k]
  refine catC (by show _ + (changeB t.changes[k]).length ≤ _; omega) (addI (by omega) ?_)
  refine ⟨k + 1,by dsimp only; omega,.inl ⟨by omega,T5.newB S6 (by simp),hp,by omega,?_,ds,r1,?_,r27,r28,by show vint _ = vint _; congr 1⟩⟩
  ·exact S6.get (S5.get (S4.get c3 (by simp)) (by simpa using hp1n)) (by simp)
  ·show strV _ = strV _
   rw [List.take_add_one,List.getElem?_eq_getElem hi,Option.toList_some,List.flatMap_append,← List.append_assoc]
   simp [changeB]
 ·have hke : k = t.changes.length := by omega
  subst hke
  rw [List.take_length] at hbk r5
  refine offI (ldI c3 rfl knv ?_)
  refine lenI (T3.sli ht.co (by simp)) ?_
  refine l9_2 hJ (fun k : Nat => t.counts.length - k) (fun k f H3 => k ≤ t.counts.length ∧ SameX [] H H3 ∧ f.ds = [] ∧ f.r 5 = strV ((headB t ++ t.changes.flatMap changeB) ++ (t.counts.take k).flatMap countB) ∧ f.r 41 = nv ∧ f.r 42 = vint (t.counts.length : Nat) ∧ f.r 43 = vint (k : Nat)) ?_ (s := 0)
   (.inl ⟨by omega,T3,ds,by simp; exact r5,rfl,rfl,rfl⟩)
  rintro k f' H4 ⟨hk4,T4,ds4,q5,q41,q42,q43⟩ ok4 hn4
  rw [s9_2]
  simp only [q5,q41,q42,q43]
  have hbc : ((headB t ++ t.changes.flatMap changeB) ++ (t.counts.take k).flatMap countB).length ≤ 2000 := by
   have a2 := flat_len countB_len (t.counts.take k)
   rw [List.length_append]
   have : (t.counts.take k).length ≤ 7 := by rw [List.length_take]; omega
   omega
  refine lssI (cndI (fun hlt => ?_) fun hge => ?_)
  ·have hi : k < t.counts.length := by omega
   obtain ⟨f1,f2,f3,f4⟩ := fine.co _ (List.getElem_mem hi)
   refine idx_loadA (enc := Cnt.cells) (s := 4) (T4.sli ht.co (by simp)) (fun r => cnt_len r) (by decide) hi (fun pv => ?_)
   refine qAl fun H5 p5 e5 S5 c5 l5 => ?_
   refine qStA c5 rfl rfl rfl fun H6 S6 c6 l6 => ?_
   have T6 : SameX [] H H6 := (T4.newB S5 (by simp)).newB S6 (by simp; have := T4.1; omega)
   have hG6 : PowAt H6 := T6.get hG (by simp)
   have hp6 : p5 < H6.length := by omega
   generalize hc : t.counts[k] = c at c6 f1 f2 f3 f4 ⊢
   refine ⟨[p5],offI (ldI c6 rfl rfl ⟨by simp [ptrBlk,RdOk],offI (ldI c6 rfl rfl ⟨by simp [ptrBlk,RdOk],offI (ldI c6 rfl rfl ⟨by simp [ptrBlk,RdOk],offI (ldI c6 rfl rfl ⟨by simp [ptrBlk,RdOk],?_⟩)⟩)⟩)⟩)⟩
   refine good28 hJ hG6 (w := wGate) (by omega) (by decide) ⟨fun _ _ => rfl,?_⟩
   refine good28 hJ hG6 (w := wMan) (by omega) (by decide) ⟨fun _ _ => rfl,?_⟩
   refine good28 hJ hG6 (w := wNumber) (by omega) (by decide) ⟨fun _ _ => rfl,?_⟩
   refine good28 hJ hG6 (w := wErr) (by omega) (by decide) ⟨fun _ _ => rfl,?_⟩
   have m1 := namedB_len wGate c.gate
   have m2 := namedB_len wMan c.man
   have m3 := namedB_len wNumber c.num
   have m4 := namedB_len wErr c.err
   have wl := w_lens
   refine ⟨⟨by decide,by decide,rfl⟩,fillO (l := [strV wCount]) rfl rfl rfl (by decide) (fillO (l := [strV (namedB wGate c.gate)]) rfl rfl rfl (by simp [wrAt,zrep]) (fillO (l := [strV (namedB wMan c.man)]) rfl rfl rfl (by simp [wrAt,zrep]) (fillO (l := [strV (namedB wNumber c.num)]) rfl rfl rfl (by simp [wrAt,zrep]) (fillO (l := [strV (namedB wErr c.err)]) rfl rfl rfl (by simp [wrAt,zrep]) (fillI (qNew fun H7 p7 e7 S7 c7 l7 => ⟨sb0 S7 hp6,?_⟩))))))⟩
   refine good27 hJ (a := wCount) (l := [namedB wGate c.gate,namedB wMan c.man,namedB wNumber c.num,namedB wErr c.err]) c7 rfl (by simp) (by
    simp only [lenJ,List.map_cons,List.map_nil,List.sum_cons,List.sum_nil]
    omega) ⟨sb0 S7 hp6,?_⟩
   have m5 := countB_len c
   refine catC (by show _ + (countB c).length ≤ _; omega) (addI (by omega) ?_)
   refine ⟨k + 1,by dsimp only; omega,.inl ⟨by omega,T6.newB S7 (by simp),ds4,?_,q41,q42,by show vint _ = vint _; congr 1⟩⟩
   show strV _ = strV _
   rw [List.take_add_one,List.getElem?_eq_getElem hi,hc,Option.toList_some,List.flatMap_append,← List.append_assoc]
   simp [countB]
  ·have hke : k = t.counts.length := by omega
   subst hke
   rw [List.take_length] at hbc ⊢
   refine ⟨⟨by decide,by decide,rfl⟩,fillO (l := [strV wTallied]) rfl rfl rfl (by decide) (fillI (qNew fun H5 p5 e5 S5 c5 l5 => ?_))⟩
   refine good27 hJ (a := wTallied) (l := []) c5 rfl (by simp) (by simp [lenJ,wTallied]) ?_
   refine catC (by
    have : (lineB wTallied []).length = 8 := rfl
    omega) ?_
   rw [ds4]
   exact retX (X := []) ok (Nat.le_refl _) (T4.newB S5 (by simp)) (by simp) (by simp [unk,strV]) (by simp [pack,VOk,AOk,LOk,strV]) hk2
end
end Go.Proofs.YtlladcglhjlbpaaGreatDoor
namespace Go.Proofs.YtlladcglhjlbpaaGreatDoor
def partsB (c : UInt8) : List UInt8 → List (List UInt8)
 | [] => [[]]
 | b :: s => if b = c then [] :: partsB c s else match partsB c s with
  | p :: l => (b :: p) :: l
  | [] => [[b]]
section
variable {c : UInt8}
theorem partsB_ne (c : UInt8) (s : List UInt8) : partsB c s ≠ [] := by
 cases s with
 | nil => simp [partsB]
 | cons b s =>
  unfold partsB
  split
  ·simp
  ·split <;> simp
theorem partsB_cut : ∀ (p r : List UInt8),(∀ b ∈ p,b ≠ c) → partsB c (p ++ c :: r) = p :: partsB c r
 | [],r,_ => by simp [partsB]
 | b :: p,r,h => by
  have ih := partsB_cut p r fun x hx => h x (by simp [hx])
  simp only [List.cons_append,partsB]
  rw [if_neg (h b (by simp)),ih]
theorem partsB_one : ∀ p : List UInt8,(∀ b ∈ p,b ≠ c) → partsB c p = [p]
 | [],_ => rfl
 | b :: p,h => by
  have ih := partsB_one p fun x hx => h x (by simp [hx])
  simp only [partsB]
  rw [if_neg (h b (by simp)),ih]
theorem partsB_count : ∀ s : List UInt8,(partsB c s).length = s.count c + 1
 | [] => rfl
 | b :: s => by
  have ih := partsB_count s
  unfold partsB
  by_cases e : b = c
  ·rw [if_pos e]
   simp [e,ih]
  ·rw [if_neg e]
   have hb : List.count c (b :: s) = s.count c := List.count_cons_of_ne e
   rw [hb]
   split
   ·rename_i p l hp
    rw [hp] at ih
    simpa using ih
   ·rename_i hp
    exact absurd hp (partsB_ne c s)
theorem partsB_len : ∀ (s : List UInt8),∀ p ∈ partsB c s,p.length ≤ s.length
 | [],p,hp => by
  simp only [partsB,List.mem_singleton] at hp
  subst hp
  simp
 | b :: s,p,hp => by
  have ih := partsB_len s
  unfold partsB at hp
  by_cases e : b = c
  ·rw [if_pos e] at hp
   rcases List.mem_cons.1 hp with rfl | hp
   ·simp
   ·exact Nat.le_succ_of_le (ih p hp)
  ·rw [if_neg e] at hp
   split at hp
   ·rename_i q l hq
    rcases List.mem_cons.1 hp with rfl | hp
    ·have := ih q (by rw [hq]; simp)
     simp
     omega
    ·exact Nat.le_succ_of_le (ih p (by rw [hq]; simp [hp]))
   ·rename_i hq
    exact absurd hq (partsB_ne c s)
end
def isDig (b : UInt8) : Bool := decide (48 ≤ b.toNat) && decide (b.toNat ≤ 57)
def valB (d : List UInt8) : Int := d.foldl (fun n b => n * 10 + ((b.toNat : Int) - 48)) 0
def signB : List UInt8 → Bool × List UInt8
 | 45 :: d => (true,d)
 | s => (false,s)
def digsOk (m : Bool) (d : List UInt8) : Bool := decide (1 ≤ d.length) && decide (d.length ≤ 3) && !(d.head? == some 48 && (m || decide (1 < d.length))) && d.all isDig
def wholeB (s : List UInt8) : Option Int :=
 if digsOk (signB s).1 (signB s).2 then some (if (signB s).1 then -valB (signB s).2 else valB (signB s).2) else none
def cut2 : List UInt8 → Option (List UInt8 × List UInt8)
 | [] => none
 | b :: r => if b = 46 ∧ r.head? = some 46 then some ([],r.tail) else (cut2 r).map fun x => (b :: x.1,x.2)
def afterB (p w : List UInt8) : Option (List UInt8) := if p.isPrefixOf w then some (w.drop p.length) else none
def numB (p w : List UInt8) : Option Int := (afterB (p ++ [61]) w).bind wholeB
def rngB (p w : List UInt8) : Option Rng := (afterB (p ++ [61]) w).bind fun s => (cut2 s).bind fun x => (wholeB x.1).bind fun a => (wholeB x.2).map fun b => ⟨a,b⟩
def tal0 : Tal := ⟨0,⟨0,0⟩,[],0,[]⟩
def headT (s : List UInt8) : Option Tal :=
 match partsB 32 s with
 | [a,b,c] => (numB wGates a).bind fun g => (rngB wFirst b).bind fun r => (numB wLost c).map fun m => ⟨g,r,[],m,[]⟩
 | _ => none
def countT (w : List (List UInt8)) : Option Cnt :=
 match w with
 | [x,a,b,c,d] => if x = wCount then (numB wGate a).bind fun g => (numB wMan b).bind fun m => (numB wNumber c).bind fun n => (numB wErr d).map fun e => ⟨g,m,n,e⟩ else none
 | _ => none
def takeT (t : Tal) (s : List UInt8) : Option Tal :=
 match partsB 32 s,t.counts with
 | [a],[] => (rngB wChange a).map fun r => { t with changes := t.changes ++ [r] }
 | w,_ => (countT w).map fun c => { t with counts := t.counts ++ [c] }
def lineT (i : Nat) (s : List UInt8) (x : Tal × Bool) : Option (Tal × Bool) :=
 if x.2 then none
 else if i = 0 then (headT s).map fun t => (t,false)
 else if s = wTallied then some (x.1,true)
 else (takeT x.1 s).map fun t => (t,false)
def linesT : Nat → List (List UInt8) → Tal × Bool → Nat ⊕ (Tal × Bool)
 | _,[],x => .inr x
 | i,s :: l,x => match lineT i s x with
  | some y => linesT (i + 1) l y
  | none => .inl (i + 1)
def readT (s : List UInt8) : Nat ⊕ Tal :=
 match linesT 0 (partsB 10 s).dropLast (tal0,false) with
 | .inl i => .inl i
 | .inr (t,e) => if e = true ∧ (partsB 10 s).getLast? = some [] then .inr t else .inl (partsB 10 s).length
end Go.Proofs.YtlladcglhjlbpaaGreatDoor
namespace Go.Proofs.YtlladcglhjlbpaaGreatDoor
open Go.Conc Go.Proofs.Tryz
set_option maxRecDepth 100000
set_option maxHeartbeats 4000000
set_option linter.unusedVariables false
section
variable {main : Bool} {J : JT} {n0 : Nat} {h : List AObj} {K : Value → List AObj → Prop}
theorem at83 : prog.funcs[83]? = some f83 := by kernel_rfl
theorem body83 : f83.body = some (codeOf f83) := by kernel_rfl
def pl83 : Plans := []
def ct83 : Cuts := .bin (.go) (.bin (.go) (.bin (.go) (.bin (.go) (.cut (.go)))))
theorem pok83 : plansOk prog pl83 (codeOf f83) = true := by kernel_rfl
theorem e83 {a0 a1 a2 a3 : Value} : W prog J 66 h.length 83 (codeOf f83) (RG.mk (regs [a0,a1,a2,a3]) []) h (RetQ prog [.tmp 8] h.length K) =
(aBin prog .eql 3 a3 (vint 0) fun v1 =>
cnd v1
(retL h.length K [] [(Value.slice none 0 0)] h)
(aBin prog .eql 9 a1 (Value.string { data := #[] }) fun v2 =>
cnd v2
(Good prog J 98 [a0,a3] h fun v3 h4 =>
retL h.length K [] [v3] h4)
(aBin prog .lss 3 a3 (vint 0) fun v5 =>
cnd v5
(Good prog J 99 [a0,a1] h fun v6 h7 =>
aBin prog .add 3 v6 (vint 1) fun v8 =>
Hold (W prog J 66 h.length 83 (subC [1,1,1,1] (codeOf f83)) (RG.p (RG.p (RG.p (RG.p (RG.p (RG.p (RG.p (RG.p (RG.p (RG.p (RG.p (RG.p (RG.mk (regs [a0,a1,a2,a3]) []) 8 (Value.slice none 0 0)) 12 a3) 13 v1) 14 a1) 15 v2) 19 a3) 20 v5) 21 a0) 22 a1) 23 v6) 24 v8) 3 v8) h7 (contX pl83 prog J 66 h.length 83 ct83 [1,1,1,1] (codeOf f83) [] (RetQ prog [.tmp 8] h.length K))))
(Hold (W prog J 66 h.length 83 (subC [1,1,1,1] (codeOf f83)) (RG.p (RG.p (RG.p (RG.p (RG.p (RG.p (RG.p (RG.mk (regs [a0,a1,a2,a3]) []) 8 (Value.slice none 0 0)) 12 a3) 13 v1) 14 a1) 15 v2) 19 a3) 20 v5) h (contX pl83 prog J 66 h.length 83 ct83 [1,1,1,1] (codeOf f83) [] (RetQ prog [.tmp 8] h.length K))))))) := top_eq pok83 ct83 (by kernel_rfl)
theorem g83 (hJ : Closed prog main J) {a0 a1 a2 a3 : Value} (hs : heapOk h → W prog J 66 h.length 83 (codeOf f83) (RG.mk (regs [a0,a1,a2,a3]) []) h (RetQ prog [.tmp 8] h.length K)) : Good prog J 83 [a0,a1,a2,a3] h K :=
 good_of_W hJ mixed at83 body83 (by kernel_rfl) (Nat.le_of_ble_eq_true rfl) hs
theorem s83_1 {f : RG} : W prog J 66 n0 83 (subC [1,1,1,1] (codeOf f83)) f h (contX pl83 prog J 66 n0 83 ct83 [1,1,1,1] (codeOf f83) [] (RetQ prog [.tmp 8] n0 K)) =
(aLenStr (f.r 0) fun v1 =>
aBin prog .add 3 v1 (vint 1) fun v2 =>
aMin (f.r 3) [v2] fun v3 =>
((List.length [(Value.string { data := #[] })] = 1 ∧ (16 : Nat) ≤ 1024) ∧ aMkS [(Value.string { data := #[] })] v3 v3 h fun v4 h5 =>
aBin prog .sub 3 v3 (vint 1) fun v6 =>
Sem J 66 n0 83 (subC yp14 (codeOf f83)) (RG.p (RG.p (RG.p (RG.p (RG.p (RG.p (RG.p (RG.p (RG.p (RG.p (RG.p (RG.p (RG.p f 25 (f.r 3)) 26 (f.r 0)) 27 v1) 28 v2) 29 v3) 3 v3) 30 v3) 31 v4) 9 v4) 32 v3) 33 v6) 3 v6) 10 (vint 0)) h5 (contX pl83 prog J 66 n0 83 ct83 yp14 (codeOf f83) [] (RetQ prog [.tmp 8] n0 K)))) := sub_eq pok83 ct83 (by kernel_rfl)
theorem s83_2 {f : RG} {nx0 : RG → List AObj → Prop} : W prog J 66 n0 83 (subC yp34 (codeOf f83)) f h (thenK nx0 (contX pl83 prog J 66 n0 83 ct83 yp14 (codeOf f83) [] (RetQ prog [.tmp 8] n0 K))) =
(aBin prog .lss 3 (f.r 10) (f.r 3) fun v1 =>
cnd v1
(Good prog J 100 [(f.r 0),(f.r 1)] h fun v2 h3 =>
aBin prog .lss 3 v2 (vint 0) fun v4 =>
cnd v4
(aIdx 1 (f.r 9) (f.r 10) fun v5 =>
aStore 1 v5 (f.r 0) h3 fun h6 =>
aBin prog .add 3 (f.r 10) (vint 1) fun v7 =>
aSl2 1 (f.r 9) none (some v7) h6 fun v8 =>
retL n0 K f.ds [v8] h6)
(aBin prog .add 3 v2 (f.r 2) fun v9 =>
aSlStr (f.r 0) none (some v9) fun v10 =>
aIdx 1 (f.r 9) (f.r 10) fun v11 =>
aStore 1 v11 v10 h3 fun h12 =>
aLenStr (f.r 1) fun v13 =>
aBin prog .add 3 v2 v13 fun v14 =>
aSlStr (f.r 0) (some v14) none fun v15 =>
aBin prog .add 3 (f.r 10) (vint 1) fun v16 =>
nx0 (RG.p (RG.p (RG.p (RG.p (RG.p (RG.p (RG.p (RG.p (RG.p (RG.p (RG.p (RG.p (RG.p (RG.p (RG.p (RG.p (RG.p (RG.p (RG.p (RG.p (RG.p (RG.p (RG.p (RG.p (RG.p (RG.p (RG.p f 34 (f.r 10)) 35 (f.r 3)) 36 v1) 37 (f.r 0)) 38 (f.r 1)) 39 v2) 11 v2) 40 v2) 41 v4) 42 (f.r 9)) 43 (f.r 10)) 44 (f.r 0)) 45 v2) 46 (f.r 2)) 47 v9) 48 v10) 49 v11) 50 (f.r 0)) 51 v2) 52 (f.r 1)) 53 v13) 54 v14) 55 v15) 0 v15) 56 (f.r 10)) 57 v16) 10 v16) h12))
(aIdx 1 (f.r 9) (f.r 10) fun v17 =>
aStore 1 v17 (f.r 0) h fun h18 =>
aBin prog .add 3 (f.r 10) (vint 1) fun v19 =>
aSl2 1 (f.r 9) none (some v19) h18 fun v20 =>
retL n0 K f.ds [v20] h18)) := sub_eq pok83 ct83 (by kernel_rfl)
theorem l83_2 (hJ : Closed prog main J) {S : Type} (μ : S → Nat) (I : S → RG → List AObj → Prop) (hI : ∀ s f h,I s f h → heapOk h → n0 ≤ h.length → W prog J 66 n0 83 (subC yp34 (codeOf f83)) f h (thenK (Nx n0 μ I s) (contX pl83 prog J 66 n0 83 ct83 yp14 (codeOf f83) [] (RetQ prog [.tmp 8] n0 K))))
 {s : S} {f : RG} (hi : Gets n0 I s f h) : Sem J 66 n0 83 (subC yp14 (codeOf f83)) f h (contX pl83 prog J 66 n0 83 ct83 yp14 (codeOf f83) [] (RetQ prog [.tmp 8] n0 K)) :=
 loop_rule hJ mixed (b := subC yp34 (codeOf f83)) (by kernel_rfl) μ I hI hi
theorem at56 : prog.funcs[56]? = some f56 := by kernel_rfl
theorem body56 : f56.body = some (codeOf f56) := by kernel_rfl
def pl56 : Plans := []
def ct56 : Cuts := .go
theorem pok56 : plansOk prog pl56 (codeOf f56) = true := by kernel_rfl
theorem e56 {a0 a1 : Value} : W prog J 8 h.length 56 (codeOf f56) (RG.mk (regs [a0,a1]) []) h (RetQ prog [.tmp 4] h.length K) =
(Good prog J 83 [a0,a1,(vint 0),(vint (-1))] h fun v1 h2 =>
retL h.length K [] [v1] h2) := top_eq pok56 ct56 (by kernel_rfl)
theorem g56 (hJ : Closed prog main J) {a0 a1 : Value} (hs : heapOk h → W prog J 8 h.length 56 (codeOf f56) (RG.mk (regs [a0,a1]) []) h (RetQ prog [.tmp 4] h.length K)) : Good prog J 56 [a0,a1] h K :=
 good_of_W hJ mixed at56 body56 (by kernel_rfl) (Nat.le_of_ble_eq_true rfl) hs
theorem at99 : prog.funcs[99]? = some f99 := by kernel_rfl
theorem body99 : f99.body = some (codeOf f99) := by kernel_rfl
def pl99 : Plans := []
def ct99 : Cuts := .go
theorem pok99 : plansOk prog pl99 (codeOf f99) = true := by kernel_rfl
theorem e99 {a0 a1 : Value} : W prog J 34 h.length 99 (codeOf f99) (RG.mk (regs [a0,a1]) []) h (RetQ prog [.tmp 4] h.length K) =
(aLenStr a1 fun v1 =>
aBin prog .eql 3 v1 (vint 0) fun v2 =>
cnd v2
(Good prog J 110 [a0] h fun v3 h4 =>
aBin prog .add 3 v3 (vint 1) fun v5 =>
retL h.length K [] [v5] h4)
(aLenStr a1 fun v6 =>
aBin prog .eql 3 v6 (vint 1) fun v7 =>
cnd v7
(aIdxStr a1 (vint 0) fun v8 =>
Good prog J 112 [a0,v8] h fun v9 h10 =>
retL h.length K [] [v9] h10)
(Sem J 34 h.length 99 (subC [1,1,1,1,0] (codeOf f99)) (RG.p (RG.p (RG.p (RG.p (RG.p (RG.p (RG.p (RG.p (RG.mk (regs [a0,a1]) []) 4 (vint 0)) 7 a1) 8 v1) 9 v2) 13 a1) 14 v6) 15 v7) 5 (vint 0)) h (contX pl99 prog J 34 h.length 99 ct99 [1,1,1,1,0] (codeOf f99) [] (RetQ prog [.tmp 4] h.length K))))) := top_eq pok99 ct99 (by kernel_rfl)
theorem g99 (hJ : Closed prog main J) {a0 a1 : Value} (hs : heapOk h → W prog J 34 h.length 99 (codeOf f99) (RG.mk (regs [a0,a1]) []) h (RetQ prog [.tmp 4] h.length K)) : Good prog J 99 [a0,a1] h K :=
 good_of_W hJ mixed at99 body99 (by kernel_rfl) (Nat.le_of_ble_eq_true rfl) hs
theorem at100 : prog.funcs[100]? = some f100 := by kernel_rfl
theorem body100 : f100.body = some (codeOf f100) := by kernel_rfl
def pl100 : Plans := []
def ct100 : Cuts := .go
theorem pok100 : plansOk prog pl100 (codeOf f100) = true := by kernel_rfl
theorem e100 {a0 a1 : Value} : W prog J 8 h.length 100 (codeOf f100) (RG.mk (regs [a0,a1]) []) h (RetQ prog [.tmp 4] h.length K) =
(Good prog J 113 [a0,a1] h fun v1 h2 =>
retL h.length K [] [v1] h2) := top_eq pok100 ct100 (by kernel_rfl)
theorem g100 (hJ : Closed prog main J) {a0 a1 : Value} (hs : heapOk h → W prog J 8 h.length 100 (codeOf f100) (RG.mk (regs [a0,a1]) []) h (RetQ prog [.tmp 4] h.length K)) : Good prog J 100 [a0,a1] h K :=
 good_of_W hJ mixed at100 body100 (by kernel_rfl) (Nat.le_of_ble_eq_true rfl) hs
theorem at113 : prog.funcs[113]? = some f113 := by kernel_rfl
theorem body113 : f113.body = some (codeOf f113) := by kernel_rfl
def pl113 : Plans := []
def ct113 : Cuts := .bin (.go) (.bin (.go) (.bin (.un (.bin (.go) (.cut (.bin (.go) (.bin (.go) (.bin (.go) (.bin (.go) (.bin (.go) (.bin (.go) (.cut (.go))))))))))) (.bin (.go) (.bin (.go) (.bin (.go) (.bin (.go) (.bin (.go) (.bin (.un (.un (.bin (.go) (.un (.bin (.go) (.cut (.bin (.bin (.go) (.cut (.go))) (.bin (.go) (.bin (.go) (.bin (.go) (.cut (.bin (.go) (.bin (.go) (.cut (.go))))))))))))))) (.go)))))))))
theorem pok113 : plansOk prog pl113 (codeOf f113) = true := by kernel_rfl
theorem e113 {a0 a1 : Value} : W prog J 143 h.length 113 (codeOf f113) (RG.mk (regs [a0,a1]) []) h (RetQ prog [.tmp 4] h.length K) =
(aLenStr a1 fun v1 =>
aBin prog .eql 3 v1 (vint 0) fun v2 =>
cnd v2
(Hold (W prog J 143 h.length 113 (subC [1,1,0,0,1] (codeOf f113)) (RG.p (RG.p (RG.p (RG.p (RG.p (RG.p (RG.p (RG.p (RG.p (RG.p (RG.p (RG.p (RG.p (RG.mk (regs [a0,a1]) []) 4 (vint 0)) 14 a1) 15 v1) 5 v1) 17 v1) 18 v2) 19 v2) 19 (Value.bool true)) 20 undef) 21 undef) 22 undef) 23 (Value.bool true)) 16 (Value.bool true)) h (contX pl113 prog J 143 h.length 113 ct113 [1,1,0,0,1] (codeOf f113) [] (RetQ prog [.tmp 4] h.length K))))
(aBin prog .eql 9 a1 a0 fun v3 =>
Hold (W prog J 143 h.length 113 (subC [1,1,0,0,1] (codeOf f113)) (RG.p (RG.p (RG.p (RG.p (RG.p (RG.p (RG.p (RG.p (RG.p (RG.p (RG.p (RG.p (RG.p (RG.mk (regs [a0,a1]) []) 4 (vint 0)) 14 a1) 15 v1) 5 v1) 17 v1) 18 v2) 19 v2) 19 (Value.bool false)) 20 a1) 21 a0) 22 v3) 23 v3) 16 v3) h (contX pl113 prog J 143 h.length 113 ct113 [1,1,0,0,1] (codeOf f113) [] (RetQ prog [.tmp 4] h.length K))))) := top_eq pok113 ct113 (by kernel_rfl)
theorem g113 (hJ : Closed prog main J) {a0 a1 : Value} (hs : heapOk h → W prog J 143 h.length 113 (codeOf f113) (RG.mk (regs [a0,a1]) []) h (RetQ prog [.tmp 4] h.length K)) : Good prog J 113 [a0,a1] h K :=
 good_of_W hJ mixed at113 body113 (by kernel_rfl) (Nat.le_of_ble_eq_true rfl) hs
theorem s113_1 {f : RG} : W prog J 143 n0 113 (subC [1,1,0,0,1] (codeOf f113)) f h (contX pl113 prog J 143 n0 113 ct113 [1,1,0,0,1] (codeOf f113) [] (RetQ prog [.tmp 4] n0 K)) =
(cnd (f.r 16)
(retL n0 K f.ds [(vint 0)] h)
(aBin prog .eql 3 (f.r 5) (vint 1) fun v1 =>
cnd v1
(aIdxStr (f.r 1) (vint 0) fun v2 =>
Good prog J 118 [(f.r 0),v2] h fun v3 h4 =>
retL n0 K f.ds [v3] h4)
(aLenStr (f.r 0) fun v5 =>
aBin prog .geq 3 (f.r 5) v5 fun v6 =>
cnd v6
(retL n0 K f.ds [(vint (-1))] h)
(aLoad false 1 (gv h 2) h fun v7 =>
aBin prog .leq 3 (f.r 5) v7 fun v8 =>
cnd v8
(aLenStr (f.r 0) fun v9 =>
aBin prog .leq 3 v9 (vint 64) fun v10 =>
Hold (W prog J 143 n0 113 (subC yp24 (codeOf f113)) (RG.p (RG.p (RG.p (RG.p (RG.p (RG.p (RG.p (RG.p (RG.p (RG.p (RG.p (RG.p (RG.p (RG.p (RG.p (RG.p (RG.p (RG.p f 25 (f.r 5)) 26 v1) 24 v1) 32 (f.r 5)) 33 (f.r 0)) 34 v5) 35 v6) 31 v6) 37 (f.r 5)) 38 v7) 39 v8) 40 v8) 40 (Value.bool true)) 41 (f.r 0)) 42 v9) 43 v10) 44 v10) 36 v10) h (contX pl113 prog J 143 n0 113 ct113 yp24 (codeOf f113) [] (RetQ prog [.tmp 4] n0 K))))
(Hold (W prog J 143 n0 113 (subC yp24 (codeOf f113)) (RG.p (RG.p (RG.p (RG.p (RG.p (RG.p (RG.p (RG.p (RG.p (RG.p (RG.p (RG.p (RG.p (RG.p (RG.p (RG.p (RG.p (RG.p f 25 (f.r 5)) 26 v1) 24 v1) 32 (f.r 5)) 33 (f.r 0)) 34 v5) 35 v6) 31 v6) 37 (f.r 5)) 38 v7) 39 v8) 40 v8) 40 (Value.bool false)) 41 undef) 42 undef) 43 undef) 44 (Value.bool false)) 36 (Value.bool false)) h (contX pl113 prog J 143 n0 113 ct113 yp24 (codeOf f113) [] (RetQ prog [.tmp 4] n0 K)))))))) := sub_eq pok113 ct113 (by kernel_rfl)
theorem s113_2 {f : RG} : W prog J 143 n0 113 (subC yp24 (codeOf f113)) f h (contX pl113 prog J 143 n0 113 ct113 yp24 (codeOf f113) [] (RetQ prog [.tmp 4] n0 K)) =
(cnd (f.r 36)
(Good prog J 119 [(f.r 0),(f.r 1)] h fun v1 h2 =>
retL n0 K f.ds [v1] h2)
(aIdxStr (f.r 1) (vint 0) fun v3 =>
aIdxStr (f.r 1) (vint 1) fun v4 =>
aLenStr (f.r 0) fun v5 =>
aBin prog .sub 3 v5 (f.r 5) fun v6 =>
aBin prog .add 3 v6 (vint 1) fun v7 =>
Sem J 143 n0 113 (subC yp14 (codeOf f113)) (RG.p (RG.p (RG.p (RG.p (RG.p (RG.p (RG.p (RG.p (RG.p (RG.p (RG.p (RG.p (RG.p (RG.p f 48 (f.r 1)) 49 v3) 6 v3) 50 (f.r 1)) 51 v4) 7 v4) 8 (vint 0)) 52 (f.r 0)) 53 v5) 54 (f.r 5)) 55 v6) 56 v7) 9 v7) 10 (vint 0)) h (contX pl113 prog J 143 n0 113 ct113 yp14 (codeOf f113) [] (RetQ prog [.tmp 4] n0 K)))) := sub_eq pok113 ct113 (by kernel_rfl)
theorem s113_3 {f : RG} {nx0 : RG → List AObj → Prop} : W prog J 143 n0 113 (subC yp34 (codeOf f113)) f h (thenK nx0 (contX pl113 prog J 143 n0 113 ct113 yp14 (codeOf f113) [] (RetQ prog [.tmp 4] n0 K))) =
(aBin prog .lss 3 (f.r 8) (f.r 9) fun v1 =>
cnd v1
(aIdxStr (f.r 0) (f.r 8) fun v2 =>
aBin prog .neq 5 v2 (f.r 6) fun v3 =>
cnd v3
(aBin prog .add 3 (f.r 8) (vint 1) fun v4 =>
aSlStr (f.r 0) (some v4) (some (f.r 9)) fun v5 =>
Good prog J 118 [v5,(f.r 6)] h fun v6 h7 =>
aBin prog .lss 3 v6 (vint 0) fun v8 =>
cnd v8
(retL n0 K f.ds [(vint (-1))] h7)
(aBin prog .add 3 v6 (vint 1) fun v9 =>
aBin prog .add 3 (f.r 8) v9 fun v10 =>
Hold (W prog J 143 n0 113 (subC yp25 (codeOf f113)) (RG.p (RG.p (RG.p (RG.p (RG.p (RG.p (RG.p (RG.p (RG.p (RG.p (RG.p (RG.p (RG.p (RG.p (RG.p (RG.p (RG.p (RG.p (RG.p (RG.p (RG.p (RG.p (RG.p f 57 (f.r 8)) 58 (f.r 9)) 59 v1) 60 (f.r 0)) 61 (f.r 8)) 62 v2) 63 (f.r 6)) 64 v3) 65 (f.r 0)) 66 (f.r 8)) 67 v4) 68 (f.r 9)) 69 v5) 70 (f.r 6)) 71 v6) 11 v6) 72 v6) 73 v8) 74 (f.r 8)) 75 v6) 76 v9) 77 v10) 8 v10) h7 (contX pl113 prog J 143 n0 113 ct113 yp25 (codeOf f113) [nx0] (RetQ prog [.tmp 4] n0 K)))))
(Hold (W prog J 143 n0 113 (subC yp25 (codeOf f113)) (RG.p (RG.p (RG.p (RG.p (RG.p (RG.p (RG.p (RG.p f 57 (f.r 8)) 58 (f.r 9)) 59 v1) 60 (f.r 0)) 61 (f.r 8)) 62 v2) 63 (f.r 6)) 64 v3) h (contX pl113 prog J 143 n0 113 ct113 yp25 (codeOf f113) [nx0] (RetQ prog [.tmp 4] n0 K)))))
(retL n0 K f.ds [(vint (-1))] h)) := sub_eq pok113 ct113 (by kernel_rfl)
theorem l113_3 (hJ : Closed prog main J) {S : Type} (μ : S → Nat) (I : S → RG → List AObj → Prop) (hI : ∀ s f h,I s f h → heapOk h → n0 ≤ h.length → W prog J 143 n0 113 (subC yp34 (codeOf f113)) f h (thenK (Nx n0 μ I s) (contX pl113 prog J 143 n0 113 ct113 yp14 (codeOf f113) [] (RetQ prog [.tmp 4] n0 K))))
 {s : S} {f : RG} (hi : Gets n0 I s f h) : Sem J 143 n0 113 (subC yp14 (codeOf f113)) f h (contX pl113 prog J 143 n0 113 ct113 yp14 (codeOf f113) [] (RetQ prog [.tmp 4] n0 K)) :=
 loop_rule hJ mixed (b := subC yp34 (codeOf f113)) (by kernel_rfl) μ I hI hi
theorem s113_4 {f : RG} {nx0 : RG → List AObj → Prop} : W prog J 143 n0 113 (subC yp25 (codeOf f113)) f h (contX pl113 prog J 143 n0 113 ct113 yp25 (codeOf f113) [nx0] (RetQ prog [.tmp 4] n0 K)) =
(aBin prog .add 3 (f.r 8) (vint 1) fun v1 =>
aIdxStr (f.r 0) v1 fun v2 =>
aBin prog .eql 5 v2 (f.r 7) fun v3 =>
cnd v3
(aBin prog .add 3 (f.r 8) (f.r 5) fun v4 =>
aSlStr (f.r 0) (some (f.r 8)) (some v4) fun v5 =>
aBin prog .eql 9 v5 (f.r 1) fun v6 =>
Hold (W prog J 143 n0 113 (subC yp26 (codeOf f113)) (RG.p (RG.p (RG.p (RG.p (RG.p (RG.p (RG.p (RG.p (RG.p (RG.p (RG.p (RG.p (RG.p (RG.p (RG.p (RG.p (RG.p f 78 (f.r 0)) 79 (f.r 8)) 80 v1) 81 v2) 82 (f.r 7)) 83 v3) 84 v3) 84 (Value.bool true)) 85 (f.r 0)) 86 (f.r 8)) 87 (f.r 8)) 88 (f.r 5)) 89 v4) 90 v5) 91 (f.r 1)) 92 v6) 93 v6) h (contX pl113 prog J 143 n0 113 ct113 yp26 (codeOf f113) [nx0] (RetQ prog [.tmp 4] n0 K))))
(Hold (W prog J 143 n0 113 (subC yp26 (codeOf f113)) (RG.p (RG.p (RG.p (RG.p (RG.p (RG.p (RG.p (RG.p (RG.p (RG.p (RG.p (RG.p (RG.p (RG.p (RG.p (RG.p (RG.p f 78 (f.r 0)) 79 (f.r 8)) 80 v1) 81 v2) 82 (f.r 7)) 83 v3) 84 v3) 84 (Value.bool false)) 85 undef) 86 undef) 87 undef) 88 undef) 89 undef) 90 undef) 91 undef) 92 undef) 93 (Value.bool false)) h (contX pl113 prog J 143 n0 113 ct113 yp26 (codeOf f113) [nx0] (RetQ prog [.tmp 4] n0 K))))) := sub_eq pok113 ct113 (by kernel_rfl)
theorem s113_5 {f : RG} {nx0 : RG → List AObj → Prop} : W prog J 143 n0 113 (subC yp26 (codeOf f113)) f h (contX pl113 prog J 143 n0 113 ct113 yp26 (codeOf f113) [nx0] (RetQ prog [.tmp 4] n0 K)) =
(cnd (f.r 93)
(retL n0 K f.ds [(f.r 8)] h)
(aBin prog .add 3 (f.r 8) (vint 1) fun v1 =>
aBin prog .add 3 (f.r 10) (vint 1) fun v2 =>
aLoad false 1 (gv h 2) h fun v3 =>
aBin prog .leq 3 (f.r 5) v3 fun v4 =>
cnd v4
(Good prog J 120 [v1] h fun v5 h6 =>
aBin prog .gtr 3 v2 v5 fun v7 =>
Hold (W prog J 143 n0 113 (subC yp27 (codeOf f113)) (RG.p (RG.p (RG.p (RG.p (RG.p (RG.p (RG.p (RG.p (RG.p (RG.p (RG.p (RG.p (RG.p (RG.p (RG.p (RG.p f 95 (f.r 8)) 96 v1) 8 v1) 97 (f.r 10)) 98 v2) 10 v2) 99 (f.r 5)) 100 v3) 101 v4) 102 v4) 102 (Value.bool true)) 103 v2) 104 v1) 105 v5) 106 v7) 107 v7) h6 (contX pl113 prog J 143 n0 113 ct113 yp27 (codeOf f113) [nx0] (RetQ prog [.tmp 4] n0 K))))
(Hold (W prog J 143 n0 113 (subC yp27 (codeOf f113)) (RG.p (RG.p (RG.p (RG.p (RG.p (RG.p (RG.p (RG.p (RG.p (RG.p (RG.p (RG.p (RG.p (RG.p (RG.p (RG.p f 95 (f.r 8)) 96 v1) 8 v1) 97 (f.r 10)) 98 v2) 10 v2) 99 (f.r 5)) 100 v3) 101 v4) 102 v4) 102 (Value.bool false)) 103 undef) 104 undef) 105 undef) 106 undef) 107 (Value.bool false)) h (contX pl113 prog J 143 n0 113 ct113 yp27 (codeOf f113) [nx0] (RetQ prog [.tmp 4] n0 K)))))) := sub_eq pok113 ct113 (by kernel_rfl)
theorem s113_6 {f : RG} {nx0 : RG → List AObj → Prop} : W prog J 143 n0 113 (subC yp27 (codeOf f113)) f h (contX pl113 prog J 143 n0 113 ct113 yp27 (codeOf f113) [nx0] (RetQ prog [.tmp 4] n0 K)) =
(cnd (f.r 107)
(aSlStr (f.r 0) (some (f.r 8)) none fun v1 =>
Good prog J 119 [v1,(f.r 1)] h fun v2 h3 =>
aBin prog .geq 3 v2 (vint 0) fun v4 =>
cnd v4
(aBin prog .add 3 v2 (f.r 8) fun v5 =>
retL n0 K f.ds [v5] h3)
(retL n0 K f.ds [(vint (-1))] h3))
(aLoad false 1 (gv h 2) h fun v6 =>
aBin prog .gtr 3 (f.r 5) v6 fun v7 =>
cnd v7
(aBin prog .shr 3 (f.r 8) (Value.int .u64 4) fun v8 =>
aBin prog .add 3 (vint 4) v8 fun v9 =>
aBin prog .geq 3 (f.r 10) v9 fun v10 =>
cnd v10
(aBin prog .lss 3 (f.r 8) (f.r 9) fun v11 =>
Hold (W prog J 143 n0 113 (subC yp18 (codeOf f113)) (RG.p (RG.p (RG.p (RG.p (RG.p (RG.p (RG.p (RG.p (RG.p (RG.p (RG.p (RG.p (RG.p (RG.p (RG.p (RG.p (RG.p f 118 (f.r 5)) 119 v6) 120 v7) 121 v7) 121 (Value.bool true)) 122 (f.r 10)) 123 (f.r 8)) 124 v8) 125 v9) 126 v10) 127 v10) 128 v10) 128 (Value.bool true)) 129 (f.r 8)) 130 (f.r 9)) 131 v11) 132 v11) h (contX pl113 prog J 143 n0 113 ct113 yp18 (codeOf f113) [nx0] (RetQ prog [.tmp 4] n0 K))))
(Hold (W prog J 143 n0 113 (subC yp18 (codeOf f113)) (RG.p (RG.p (RG.p (RG.p (RG.p (RG.p (RG.p (RG.p (RG.p (RG.p (RG.p (RG.p (RG.p (RG.p (RG.p (RG.p (RG.p f 118 (f.r 5)) 119 v6) 120 v7) 121 v7) 121 (Value.bool true)) 122 (f.r 10)) 123 (f.r 8)) 124 v8) 125 v9) 126 v10) 127 v10) 128 v10) 128 (Value.bool false)) 129 undef) 130 undef) 131 undef) 132 (Value.bool false)) h (contX pl113 prog J 143 n0 113 ct113 yp18 (codeOf f113) [nx0] (RetQ prog [.tmp 4] n0 K)))))
(Hold (W prog J 143 n0 113 (subC yp18 (codeOf f113)) (RG.p (RG.p (RG.p (RG.p (RG.p (RG.p (RG.p (RG.p (RG.p (RG.p (RG.p (RG.p (RG.p (RG.p (RG.p (RG.p (RG.p f 118 (f.r 5)) 119 v6) 120 v7) 121 v7) 121 (Value.bool false)) 122 undef) 123 undef) 124 undef) 125 undef) 126 undef) 127 (Value.bool false)) 128 (Value.bool false)) 128 (Value.bool false)) 129 undef) 130 undef) 131 undef) 132 (Value.bool false)) h (contX pl113 prog J 143 n0 113 ct113 yp18 (codeOf f113) [nx0] (RetQ prog [.tmp 4] n0 K)))))) := sub_eq pok113 ct113 (by kernel_rfl)
theorem s113_7 {f : RG} {nx0 : RG → List AObj → Prop} : W prog J 143 n0 113 (subC yp18 (codeOf f113)) f h (contX pl113 prog J 143 n0 113 ct113 yp18 (codeOf f113) [nx0] (RetQ prog [.tmp 4] n0 K)) =
(cnd (f.r 132)
(aSlStr (f.r 0) (some (f.r 8)) none fun v1 =>
Good prog J 121 [v1,(f.r 1)] h fun v2 h3 =>
aBin prog .lss 3 v2 (vint 0) fun v4 =>
cnd v4
(retL n0 K f.ds [(vint (-1))] h3)
(aBin prog .add 3 (f.r 8) v2 fun v5 =>
retL n0 K f.ds [v5] h3))
(nx0 f h)) := sub_eq pok113 ct113 (by kernel_rfl)
theorem at118 : prog.funcs[118]? = some f118 := by kernel_rfl
theorem body118 : f118.body = some (codeOf f118) := by kernel_rfl
def pl118 : Plans := []
def ct118 : Cuts := .go
theorem pok118 : plansOk prog pl118 (codeOf f118) = true := by kernel_rfl
theorem e118 {a0 a1 : Value} : W prog J 8 h.length 118 (codeOf f118) (RG.mk (regs [a0,a1]) []) h (RetQ prog [.tmp 4] h.length K) =
(Good prog J 122 [a0,a1] h fun v1 h2 =>
retL h.length K [] [v1] h2) := top_eq pok118 ct118 (by kernel_rfl)
theorem g118 (hJ : Closed prog main J) {a0 a1 : Value} (hs : heapOk h → W prog J 8 h.length 118 (codeOf f118) (RG.mk (regs [a0,a1]) []) h (RetQ prog [.tmp 4] h.length K)) : Good prog J 118 [a0,a1] h K :=
 good_of_W hJ mixed at118 body118 (by kernel_rfl) (Nat.le_of_ble_eq_true rfl) hs
theorem at102 : prog.funcs[102]? = some f102 := by kernel_rfl
theorem body102 : f102.body = some (codeOf f102) := by kernel_rfl
def pl102 : Plans := [(3,false,.take 0 (.take 1 (.take 3 (.take 4 (.take 5 (.take 6 (.take 7 (.alt 2 true (.take 9 (.last 8 true (.take 10 (.take 11 (.fin))))) (.last 8 true (.last 2 true (.take 9 (.take 10 (.take 11 (.fin))))))))))))))]
def ct102 : Cuts := .go
theorem pok102 : plansOk prog pl102 (codeOf f102) = true := by kernel_rfl
theorem e102 {a0 a1 : Value} : W prog J 23 h.length 102 (codeOf f102) (RG.mk (regs [a0,a1]) []) h (RetQ prog [.tmp 4,.tmp 5,.tmp 6] h.length K) =
(Good prog J 113 [a0,a1] h fun v1 h2 =>
aBin prog .geq 3 v1 (vint 0) fun v3 =>
cnd v3
((∃ B,aLenStr a1 fun v4 =>
RdOk (some B) (mapBlk a1) ∧ (aBin prog .add 3 v1 v4 fun v5 =>
(aSlStr a0 none (some v1) fun v6 =>
SameB (some B) h2 h2 ∧ (aSlStr a0 (some v5) none fun v7 =>
SameB (some B) h2 h2 ∧ (retL h.length K [] [v6,v7,(Value.bool true)] h2))) ∧ (aSlStr a0 (some v5) none fun v8 =>
SameB (some B) h2 h2 ∧ (aSlStr a0 none (some v1) fun v9 =>
SameB (some B) h2 h2 ∧ (retL h.length K [] [v9,v8,(Value.bool true)] h2))))))
(retL h.length K [] [a0,(Value.string { data := #[] }),(Value.bool false)] h2)) := top_eq pok102 ct102 (by kernel_rfl)
theorem g102 (hJ : Closed prog main J) {a0 a1 : Value} (hs : heapOk h → W prog J 23 h.length 102 (codeOf f102) (RG.mk (regs [a0,a1]) []) h (RetQ prog [.tmp 4,.tmp 5,.tmp 6] h.length K)) : Good prog J 102 [a0,a1] h K :=
 good_of_W hJ mixed at102 body102 (by kernel_rfl) (Nat.le_of_ble_eq_true rfl) hs
theorem at101 : prog.funcs[101]? = some f101 := by kernel_rfl
theorem body101 : f101.body = some (codeOf f101) := by kernel_rfl
def pl101 : Plans := []
def ct101 : Cuts := .go
theorem pok101 : plansOk prog pl101 (codeOf f101) = true := by kernel_rfl
theorem e101 {a0 a1 : Value} : W prog J 15 h.length 101 (codeOf f101) (RG.mk (regs [a0,a1]) []) h (RetQ prog [.tmp 4,.tmp 5] h.length K) =
(Good prog J 114 [a0,a1] h fun v1 h2 =>
aUn .not v1 fun v3 =>
cnd v3
(retL h.length K [] [a0,(Value.bool false)] h2)
(aLenStr a1 fun v4 =>
aSlStr a0 (some v4) none fun v5 =>
retL h.length K [] [v5,(Value.bool true)] h2)) := top_eq pok101 ct101 (by kernel_rfl)
theorem g101 (hJ : Closed prog main J) {a0 a1 : Value} (hs : heapOk h → W prog J 15 h.length 101 (codeOf f101) (RG.mk (regs [a0,a1]) []) h (RetQ prog [.tmp 4,.tmp 5] h.length K)) : Good prog J 101 [a0,a1] h K :=
 good_of_W hJ mixed at101 body101 (by kernel_rfl) (Nat.le_of_ble_eq_true rfl) hs
theorem at114 : prog.funcs[114]? = some f114 := by kernel_rfl
theorem body114 : f114.body = some (codeOf f114) := by kernel_rfl
def pl114 : Plans := []
def ct114 : Cuts := .go
theorem pok114 : plansOk prog pl114 (codeOf f114) = true := by kernel_rfl
theorem e114 {a0 a1 : Value} : W prog J 18 h.length 114 (codeOf f114) (RG.mk (regs [a0,a1]) []) h (RetQ prog [.tmp 4] h.length K) =
(aLenStr a0 fun v1 =>
aLenStr a1 fun v2 =>
aBin prog .geq 3 v1 v2 fun v3 =>
cnd v3
(aLenStr a1 fun v4 =>
aSlStr a0 none (some v4) fun v5 =>
aBin prog .eql 9 v5 a1 fun v6 =>
retL h.length K [] [v6] h)
(retL h.length K [] [(Value.bool false)] h)) := top_eq pok114 ct114 (by kernel_rfl)
theorem g114 (hJ : Closed prog main J) {a0 a1 : Value} (hs : heapOk h → W prog J 18 h.length 114 (codeOf f114) (RG.mk (regs [a0,a1]) []) h (RetQ prog [.tmp 4] h.length K)) : Good prog J 114 [a0,a1] h K :=
 good_of_W hJ mixed at114 body114 (by kernel_rfl) (Nat.le_of_ble_eq_true rfl) hs
theorem at86 : prog.funcs[86]? = some f86 := by kernel_rfl
theorem body86 : f86.body = some (codeOf f86) := by kernel_rfl
def pl86 : Plans := []
def ct86 : Cuts := .go
theorem pok86 : plansOk prog pl86 (codeOf f86) = true := by kernel_rfl
theorem e86 {a0 a1 : Value} : W prog J 13 h.length 86 (codeOf f86) (RG.mk (regs [a0,a1]) []) h (RetQ prog [.tmp 4,.tmp 5,.tmp 6] h.length K) =
(Good prog J 102 [a0,a1] h fun v1 h2 =>
aExt v1 0 fun v3 =>
aExt v1 1 fun v4 =>
aExt v1 2 fun v5 =>
retL h.length K [] [v3,v4,v5] h2) := top_eq pok86 ct86 (by kernel_rfl)
theorem g86 (hJ : Closed prog main J) {a0 a1 : Value} (hs : heapOk h → W prog J 13 h.length 86 (codeOf f86) (RG.mk (regs [a0,a1]) []) h (RetQ prog [.tmp 4,.tmp 5,.tmp 6] h.length K)) : Good prog J 86 [a0,a1] h K :=
 good_of_W hJ mixed at86 body86 (by kernel_rfl) (Nat.le_of_ble_eq_true rfl) hs
theorem at84 : prog.funcs[84]? = some f84 := by kernel_rfl
theorem body84 : f84.body = some (codeOf f84) := by kernel_rfl
def pl84 : Plans := []
def ct84 : Cuts := .go
theorem pok84 : plansOk prog pl84 (codeOf f84) = true := by kernel_rfl
theorem e84 {a0 a1 : Value} : W prog J 11 h.length 84 (codeOf f84) (RG.mk (regs [a0,a1]) []) h (RetQ prog [.tmp 4,.tmp 5] h.length K) =
(Good prog J 101 [a0,a1] h fun v1 h2 =>
aExt v1 0 fun v3 =>
aExt v1 1 fun v4 =>
retL h.length K [] [v3,v4] h2) := top_eq pok84 ct84 (by kernel_rfl)
theorem g84 (hJ : Closed prog main J) {a0 a1 : Value} (hs : heapOk h → W prog J 11 h.length 84 (codeOf f84) (RG.mk (regs [a0,a1]) []) h (RetQ prog [.tmp 4,.tmp 5] h.length K)) : Good prog J 84 [a0,a1] h K :=
 good_of_W hJ mixed at84 body84 (by kernel_rfl) (Nat.le_of_ble_eq_true rfl) hs
theorem at120 : prog.funcs[120]? = some f120 := by kernel_rfl
theorem body120 : f120.body = some (codeOf f120) := by kernel_rfl
def pl120 : Plans := []
def ct120 : Cuts := .go
theorem pok120 : plansOk prog pl120 (codeOf f120) = true := by kernel_rfl
theorem e120 {a0 : Value} : W prog J 6 h.length 120 (codeOf f120) (RG.mk (regs [a0]) []) h (RetQ prog [.tmp 2] h.length K) =
(aBin prog .add 3 a0 (vint 16) fun v1 =>
aBin prog .quo 3 v1 (vint 8) fun v2 =>
retL h.length K [] [v2] h) := top_eq pok120 ct120 (by kernel_rfl)
theorem g120 (hJ : Closed prog main J) {a0 : Value} (hs : heapOk h → W prog J 6 h.length 120 (codeOf f120) (RG.mk (regs [a0]) []) h (RetQ prog [.tmp 2] h.length K)) : Good prog J 120 [a0] h K :=
 good_of_W hJ mixed at120 body120 (by kernel_rfl) (Nat.le_of_ble_eq_true rfl) hs
theorem at121 : prog.funcs[121]? = some f121 := by kernel_rfl
theorem body121 : f121.body = some (codeOf f121) := by kernel_rfl
def pl121 : Plans := []
def ct121 : Cuts := .bin (.go) (.bin (.go) (.bin (.go) (.bin (.go) (.bin (.go) (.bin (.bin (.go) (.cut (.go))) (.bin (.bin (.go) (.un (.un (.bin (.go) (.un (.bin (.go) (.bin (.go) (.bin (.go) (.bin (.go) (.bin (.go) (.cut (.go)))))))))))) (.go)))))))
theorem pok121 : plansOk prog pl121 (codeOf f121) = true := by kernel_rfl
theorem e121 {a0 a1 : Value} : W prog J 81 h.length 121 (codeOf f121) (RG.mk (regs [a0,a1]) []) h (RetQ prog [.tmp 4] h.length K) =
(Good prog J 123 [a1] h fun v1 h2 =>
aExt v1 0 fun v3 =>
aExt v1 1 fun v4 =>
aLenStr a1 fun v5 =>
Sem J 81 h.length 121 (subC yp0 (codeOf f121)) (RG.p (RG.p (RG.p (RG.p (RG.p (RG.p (RG.p (RG.p (RG.p (RG.p (RG.p (RG.p (RG.p (RG.mk (regs [a0,a1]) []) 4 (vint 0)) 12 a1) 13 v1) 11 v1) 14 v3) 15 v4) 5 v3) 6 v4) 16 a1) 17 v5) 7 v5) 8 (Value.int .u32 0)) 9 (vint 0)) h2 (contX pl121 prog J 81 h.length 121 ct121 yp0 (codeOf f121) [] (RetQ prog [.tmp 4] h.length K))) := top_eq pok121 ct121 (by kernel_rfl)
theorem g121 (hJ : Closed prog main J) {a0 a1 : Value} (hs : heapOk h → W prog J 81 h.length 121 (codeOf f121) (RG.mk (regs [a0,a1]) []) h (RetQ prog [.tmp 4] h.length K)) : Good prog J 121 [a0,a1] h K :=
 good_of_W hJ mixed at121 body121 (by kernel_rfl) (Nat.le_of_ble_eq_true rfl) hs
theorem s121_1 {f : RG} {nx0 : RG → List AObj → Prop} : W prog J 81 n0 121 (subC yp4 (codeOf f121)) f h (thenK nx0 (contX pl121 prog J 81 n0 121 ct121 yp0 (codeOf f121) [] (RetQ prog [.tmp 4] n0 K))) =
(aBin prog .lss 3 (f.r 9) (f.r 7) fun v1 =>
cnd v1
(aBin prog .mul 184 (f.r 8) (Value.int .u32 16777619) fun v2 =>
aIdxStr (f.r 0) (f.r 9) fun v3 =>
aConvI .u32 v3 fun v4 =>
aBin prog .add 184 v2 v4 fun v5 =>
aBin prog .add 3 (f.r 9) (vint 1) fun v6 =>
nx0 (RG.p (RG.p (RG.p (RG.p (RG.p (RG.p (RG.p (RG.p (RG.p (RG.p (RG.p (RG.p (RG.p (RG.p f 18 (f.r 9)) 19 (f.r 7)) 20 v1) 23 (f.r 8)) 24 v2) 25 (f.r 0)) 26 (f.r 9)) 27 v3) 28 v4) 29 v5) 8 v5) 21 (f.r 9)) 22 v6) 9 v6) h)
(aBin prog .eql 184 (f.r 8) (f.r 5) fun v7 =>
cnd v7
(aSlStr (f.r 0) none (some (f.r 7)) fun v8 =>
aBin prog .eql 9 v8 (f.r 1) fun v9 =>
Hold (W prog J 81 n0 121 (subC yp2 (codeOf f121)) (RG.p (RG.p (RG.p (RG.p (RG.p (RG.p (RG.p (RG.p (RG.p (RG.p (RG.p (RG.p (RG.p (RG.p f 18 (f.r 9)) 19 (f.r 7)) 20 v1) 30 (f.r 8)) 31 (f.r 5)) 32 v7) 33 v7) 33 (Value.bool true)) 34 (f.r 0)) 35 (f.r 7)) 36 v8) 37 (f.r 1)) 38 v9) 39 v9) h (contX pl121 prog J 81 n0 121 ct121 yp2 (codeOf f121) [] (RetQ prog [.tmp 4] n0 K))))
(Hold (W prog J 81 n0 121 (subC yp2 (codeOf f121)) (RG.p (RG.p (RG.p (RG.p (RG.p (RG.p (RG.p (RG.p (RG.p (RG.p (RG.p (RG.p (RG.p (RG.p f 18 (f.r 9)) 19 (f.r 7)) 20 v1) 30 (f.r 8)) 31 (f.r 5)) 32 v7) 33 v7) 33 (Value.bool false)) 34 undef) 35 undef) 36 undef) 37 undef) 38 undef) 39 (Value.bool false)) h (contX pl121 prog J 81 n0 121 ct121 yp2 (codeOf f121) [] (RetQ prog [.tmp 4] n0 K)))))) := sub_eq pok121 ct121 (by kernel_rfl)
theorem l121_1 (hJ : Closed prog main J) {S : Type} (μ : S → Nat) (I : S → RG → List AObj → Prop) (hI : ∀ s f h,I s f h → heapOk h → n0 ≤ h.length → W prog J 81 n0 121 (subC yp4 (codeOf f121)) f h (thenK (Nx n0 μ I s) (contX pl121 prog J 81 n0 121 ct121 yp0 (codeOf f121) [] (RetQ prog [.tmp 4] n0 K))))
 {s : S} {f : RG} (hi : Gets n0 I s f h) : Sem J 81 n0 121 (subC yp0 (codeOf f121)) f h (contX pl121 prog J 81 n0 121 ct121 yp0 (codeOf f121) [] (RetQ prog [.tmp 4] n0 K)) :=
 loop_rule hJ mixed (b := subC yp4 (codeOf f121)) (by kernel_rfl) μ I hI hi
theorem s121_2 {f : RG} : W prog J 81 n0 121 (subC yp2 (codeOf f121)) f h (contX pl121 prog J 81 n0 121 ct121 yp2 (codeOf f121) [] (RetQ prog [.tmp 4] n0 K)) =
(cnd (f.r 39)
(retL n0 K f.ds [(vint 0)] h)
(Sem J 81 n0 121 (subC yp35 (codeOf f121)) (RG.p (RG.p f 40 (f.r 7)) 10 (f.r 7)) h (contX pl121 prog J 81 n0 121 ct121 yp35 (codeOf f121) [] (RetQ prog [.tmp 4] n0 K)))) := sub_eq pok121 ct121 (by kernel_rfl)
theorem s121_3 {f : RG} {nx0 : RG → List AObj → Prop} : W prog J 81 n0 121 (subC [1,1,1,1,1,1,0,1,0,0] (codeOf f121)) f h (thenK nx0 (contX pl121 prog J 81 n0 121 ct121 yp35 (codeOf f121) [] (RetQ prog [.tmp 4] n0 K))) =
(aLenStr (f.r 0) fun v1 =>
aBin prog .lss 3 (f.r 10) v1 fun v2 =>
cnd v2
(aBin prog .mul 184 (f.r 8) (Value.int .u32 16777619) fun v3 =>
aIdxStr (f.r 0) (f.r 10) fun v4 =>
aConvI .u32 v4 fun v5 =>
aBin prog .add 184 v3 v5 fun v6 =>
aBin prog .sub 3 (f.r 10) (f.r 7) fun v7 =>
aIdxStr (f.r 0) v7 fun v8 =>
aConvI .u32 v8 fun v9 =>
aBin prog .mul 184 (f.r 6) v9 fun v10 =>
aBin prog .sub 184 v6 v10 fun v11 =>
aBin prog .add 3 (f.r 10) (vint 1) fun v12 =>
aBin prog .eql 184 v11 (f.r 5) fun v13 =>
cnd v13
(aBin prog .sub 3 v12 (f.r 7) fun v14 =>
aSlStr (f.r 0) (some v14) (some v12) fun v15 =>
aBin prog .eql 9 v15 (f.r 1) fun v16 =>
Hold (W prog J 81 n0 121 (subC yp36 (codeOf f121)) (RG.p (RG.p (RG.p (RG.p (RG.p (RG.p (RG.p (RG.p (RG.p (RG.p (RG.p (RG.p (RG.p (RG.p (RG.p (RG.p (RG.p (RG.p (RG.p (RG.p (RG.p (RG.p (RG.p (RG.p (RG.p (RG.p (RG.p (RG.p (RG.p (RG.p (RG.p (RG.p (RG.p (RG.p (RG.p (RG.p (RG.p (RG.p (RG.p (RG.p (RG.p (RG.p f 41 (f.r 10)) 42 (f.r 0)) 43 v1) 44 v2) 45 (f.r 8)) 46 v3) 8 v3) 47 v3) 48 (f.r 0)) 49 (f.r 10)) 50 v4) 51 v5) 52 v6) 8 v6) 53 v6) 54 (f.r 6)) 55 (f.r 0)) 56 (f.r 10)) 57 (f.r 7)) 58 v7) 59 v8) 60 v9) 61 v10) 62 v11) 8 v11) 63 (f.r 10)) 64 v12) 10 v12) 65 v11) 66 (f.r 5)) 67 v13) 68 v13) 68 (Value.bool true)) 69 (f.r 0)) 70 v12) 71 (f.r 7)) 72 v14) 73 v12) 74 v15) 75 (f.r 1)) 76 v16) 77 v16) h (contX pl121 prog J 81 n0 121 ct121 yp36 (codeOf f121) [nx0] (RetQ prog [.tmp 4] n0 K))))
(Hold (W prog J 81 n0 121 (subC yp36 (codeOf f121)) (RG.p (RG.p (RG.p (RG.p (RG.p (RG.p (RG.p (RG.p (RG.p (RG.p (RG.p (RG.p (RG.p (RG.p (RG.p (RG.p (RG.p (RG.p (RG.p (RG.p (RG.p (RG.p (RG.p (RG.p (RG.p (RG.p (RG.p (RG.p (RG.p (RG.p (RG.p (RG.p (RG.p (RG.p (RG.p (RG.p (RG.p (RG.p (RG.p (RG.p (RG.p (RG.p f 41 (f.r 10)) 42 (f.r 0)) 43 v1) 44 v2) 45 (f.r 8)) 46 v3) 8 v3) 47 v3) 48 (f.r 0)) 49 (f.r 10)) 50 v4) 51 v5) 52 v6) 8 v6) 53 v6) 54 (f.r 6)) 55 (f.r 0)) 56 (f.r 10)) 57 (f.r 7)) 58 v7) 59 v8) 60 v9) 61 v10) 62 v11) 8 v11) 63 (f.r 10)) 64 v12) 10 v12) 65 v11) 66 (f.r 5)) 67 v13) 68 v13) 68 (Value.bool false)) 69 undef) 70 undef) 71 undef) 72 undef) 73 undef) 74 undef) 75 undef) 76 undef) 77 (Value.bool false)) h (contX pl121 prog J 81 n0 121 ct121 yp36 (codeOf f121) [nx0] (RetQ prog [.tmp 4] n0 K)))))
(retL n0 K f.ds [(vint (-1))] h)) := sub_eq pok121 ct121 (by kernel_rfl)
theorem l121_3 (hJ : Closed prog main J) {S : Type} (μ : S → Nat) (I : S → RG → List AObj → Prop) (hI : ∀ s f h,I s f h → heapOk h → n0 ≤ h.length → W prog J 81 n0 121 (subC [1,1,1,1,1,1,0,1,0,0] (codeOf f121)) f h (thenK (Nx n0 μ I s) (contX pl121 prog J 81 n0 121 ct121 yp35 (codeOf f121) [] (RetQ prog [.tmp 4] n0 K))))
 {s : S} {f : RG} (hi : Gets n0 I s f h) : Sem J 81 n0 121 (subC yp35 (codeOf f121)) f h (contX pl121 prog J 81 n0 121 ct121 yp35 (codeOf f121) [] (RetQ prog [.tmp 4] n0 K)) :=
 loop_rule hJ mixed (b := subC [1,1,1,1,1,1,0,1,0,0] (codeOf f121)) (by kernel_rfl) μ I hI hi
theorem s121_4 {f : RG} {nx0 : RG → List AObj → Prop} : W prog J 81 n0 121 (subC yp36 (codeOf f121)) f h (contX pl121 prog J 81 n0 121 ct121 yp36 (codeOf f121) [nx0] (RetQ prog [.tmp 4] n0 K)) =
(cnd (f.r 77)
(aBin prog .sub 3 (f.r 10) (f.r 7) fun v1 =>
retL n0 K f.ds [v1] h)
(nx0 f h)) := sub_eq pok121 ct121 (by kernel_rfl)
theorem at123 : prog.funcs[123]? = some f123 := by kernel_rfl
theorem body123 : f123.body = some (codeOf f123) := by kernel_rfl
def pl123 : Plans := []
def ct123 : Cuts := .go
theorem pok123 : plansOk prog pl123 (codeOf f123) = true := by kernel_rfl
theorem e123 {a0 : Value} : W prog J 39 h.length 123 (codeOf f123) (RG.mk (regs [a0]) []) h (RetQ prog [.tmp 2,.tmp 3] h.length K) =
(Sem J 39 h.length 123 (subC yp3 (codeOf f123)) (RG.p (RG.p (RG.p (RG.p (RG.mk (regs [a0]) []) 2 (Value.int .u32 0)) 3 (Value.int .u32 0)) 4 (Value.int .u32 0)) 5 (vint 0)) h (contX pl123 prog J 39 h.length 123 ct123 yp3 (codeOf f123) [] (RetQ prog [.tmp 2,.tmp 3] h.length K))) := top_eq pok123 ct123 (by kernel_rfl)
theorem g123 (hJ : Closed prog main J) {a0 : Value} (hs : heapOk h → W prog J 39 h.length 123 (codeOf f123) (RG.mk (regs [a0]) []) h (RetQ prog [.tmp 2,.tmp 3] h.length K)) : Good prog J 123 [a0] h K :=
 good_of_W hJ mixed at123 body123 (by kernel_rfl) (Nat.le_of_ble_eq_true rfl) hs
theorem s123_1 {f : RG} {nx0 : RG → List AObj → Prop} : W prog J 39 n0 123 (subC yp12 (codeOf f123)) f h (thenK nx0 (contX pl123 prog J 39 n0 123 ct123 yp3 (codeOf f123) [] (RetQ prog [.tmp 2,.tmp 3] n0 K))) =
(aLenStr (f.r 0) fun v1 =>
aBin prog .lss 3 (f.r 5) v1 fun v2 =>
cnd v2
(aBin prog .mul 184 (f.r 4) (Value.int .u32 16777619) fun v3 =>
aIdxStr (f.r 0) (f.r 5) fun v4 =>
aConvI .u32 v4 fun v5 =>
aBin prog .add 184 v3 v5 fun v6 =>
aBin prog .add 3 (f.r 5) (vint 1) fun v7 =>
nx0 (RG.p (RG.p (RG.p (RG.p (RG.p (RG.p (RG.p (RG.p (RG.p (RG.p (RG.p (RG.p (RG.p (RG.p (RG.p f 9 (f.r 5)) 10 (f.r 0)) 11 v1) 12 v2) 15 (f.r 4)) 16 v3) 17 (f.r 0)) 18 (f.r 5)) 19 v4) 20 v5) 21 v6) 4 v6) 13 (f.r 5)) 14 v7) 5 v7) h)
(aLenStr (f.r 0) fun v8 =>
Sem J 39 n0 123 (subC yp0 (codeOf f123)) (RG.p (RG.p (RG.p (RG.p (RG.p (RG.p (RG.p (RG.p (RG.p f 9 (f.r 5)) 10 (f.r 0)) 11 v1) 12 v2) 6 (Value.int .u32 1)) 7 (Value.int .u32 16777619)) 22 (f.r 0)) 23 v8) 8 v8) h (contX pl123 prog J 39 n0 123 ct123 yp0 (codeOf f123) [] (RetQ prog [.tmp 2,.tmp 3] n0 K)))) := sub_eq pok123 ct123 (by kernel_rfl)
theorem l123_1 (hJ : Closed prog main J) {S : Type} (μ : S → Nat) (I : S → RG → List AObj → Prop) (hI : ∀ s f h,I s f h → heapOk h → n0 ≤ h.length → W prog J 39 n0 123 (subC yp12 (codeOf f123)) f h (thenK (Nx n0 μ I s) (contX pl123 prog J 39 n0 123 ct123 yp3 (codeOf f123) [] (RetQ prog [.tmp 2,.tmp 3] n0 K))))
 {s : S} {f : RG} (hi : Gets n0 I s f h) : Sem J 39 n0 123 (subC yp3 (codeOf f123)) f h (contX pl123 prog J 39 n0 123 ct123 yp3 (codeOf f123) [] (RetQ prog [.tmp 2,.tmp 3] n0 K)) :=
 loop_rule hJ mixed (b := subC yp12 (codeOf f123)) (by kernel_rfl) μ I hI hi
theorem s123_2 {f : RG} {nx0 : RG → List AObj → Prop} : W prog J 39 n0 123 (subC yp4 (codeOf f123)) f h (thenK nx0 (contX pl123 prog J 39 n0 123 ct123 yp0 (codeOf f123) [] (RetQ prog [.tmp 2,.tmp 3] n0 K))) =
(aBin prog .gtr 3 (f.r 8) (vint 0) fun v1 =>
cnd v1
(aBin prog .and 3 (f.r 8) (vint 1) fun v2 =>
aBin prog .neq 3 v2 (vint 0) fun v3 =>
cnd v3
(aBin prog .mul 184 (f.r 6) (f.r 7) fun v4 =>
aBin prog .mul 184 (f.r 7) (f.r 7) fun v5 =>
aBin prog .shr 3 (f.r 8) (Value.int .u64 1) fun v6 =>
nx0 (RG.p (RG.p (RG.p (RG.p (RG.p (RG.p (RG.p (RG.p (RG.p (RG.p (RG.p (RG.p (RG.p (RG.p (RG.p (RG.p f 24 (f.r 8)) 25 v1) 28 (f.r 8)) 29 v2) 30 v3) 31 (f.r 6)) 32 (f.r 7)) 33 v4) 6 v4) 34 (f.r 7)) 35 (f.r 7)) 36 v5) 7 v5) 26 (f.r 8)) 27 v6) 8 v6) h)
(aBin prog .mul 184 (f.r 7) (f.r 7) fun v7 =>
aBin prog .shr 3 (f.r 8) (Value.int .u64 1) fun v8 =>
nx0 (RG.p (RG.p (RG.p (RG.p (RG.p (RG.p (RG.p (RG.p (RG.p (RG.p (RG.p (RG.p f 24 (f.r 8)) 25 v1) 28 (f.r 8)) 29 v2) 30 v3) 34 (f.r 7)) 35 (f.r 7)) 36 v7) 7 v7) 26 (f.r 8)) 27 v8) 8 v8) h))
(retL n0 K f.ds [(f.r 4),(f.r 6)] h)) := sub_eq pok123 ct123 (by kernel_rfl)
theorem l123_2 (hJ : Closed prog main J) {S : Type} (μ : S → Nat) (I : S → RG → List AObj → Prop) (hI : ∀ s f h,I s f h → heapOk h → n0 ≤ h.length → W prog J 39 n0 123 (subC yp4 (codeOf f123)) f h (thenK (Nx n0 μ I s) (contX pl123 prog J 39 n0 123 ct123 yp0 (codeOf f123) [] (RetQ prog [.tmp 2,.tmp 3] n0 K))))
 {s : S} {f : RG} (hi : Gets n0 I s f h) : Sem J 39 n0 123 (subC yp0 (codeOf f123)) f h (contX pl123 prog J 39 n0 123 ct123 yp0 (codeOf f123) [] (RetQ prog [.tmp 2,.tmp 3] n0 K)) :=
 loop_rule hJ mixed (b := subC yp4 (codeOf f123)) (by kernel_rfl) μ I hI hi
end
end Go.Proofs.YtlladcglhjlbpaaGreatDoor
namespace Go.Proofs.YtlladcglhjlbpaaGreatDoor
open Go.Conc Go.Proofs.Tryz
set_option maxRecDepth 100000
theorem beqD {α : Type} [BEq α] [LawfulBEq α] [DecidableEq α] (a b : α) : (a == b) = decide (a = b) := by
 rw [Bool.eq_iff_iff]
 simp
section
variable {main : Bool} {J : JT} {H : List AObj} {K : Value → List AObj → Prop} {KV : Value → Prop} {F : RG}
theorem slS {s : List UInt8} {lo hi : Nat} (h : lo ≤ hi ∧ hi ≤ s.length) (hk : KV (strV ((s.take hi).drop lo))) : aSlStr (strV s) (some (vint lo)) (some (vint hi)) KV := by
 show match (bif decide ((0 : Int) ≤ lo) then some (lo : Int).toNat else none),(bif decide ((0 : Int) ≤ hi) then some (hi : Int).toNat else none) with
  | some l,some u => (l ≤ u ∧ u ≤ s.length) ∧ KV (.string ⟨⟨(s.take u).drop l⟩⟩)
  | _,_ => False
 rw [decide_eq_true (by omega : (0 : Int) ≤ lo),decide_eq_true (by omega : (0 : Int) ≤ hi),cond_true,cond_true]
 exact ⟨⟨by omega,by omega⟩,hk⟩
theorem slTo' {s : List UInt8} {hi : Nat} (h : hi ≤ s.length) (hk : KV (strV (s.take hi))) : aSlStr (strV s) none (some (vint hi)) KV := by
 show match (bif decide ((0 : Int) ≤ hi) then some (hi : Int).toNat else none) with
  | some u => (0 ≤ u ∧ u ≤ s.length) ∧ KV (.string ⟨⟨(s.take u).drop 0⟩⟩)
  | _ => False
 rw [decide_eq_true (by omega : (0 : Int) ≤ hi),cond_true]
 exact ⟨⟨by omega,by omega⟩,hk⟩
theorem slFr' {s : List UInt8} {lo : Nat} (h : lo ≤ s.length) (hk : KV (strV (s.drop lo))) : aSlStr (strV s) (some (vint lo)) none KV := by
 show match (bif decide ((0 : Int) ≤ lo) then some (lo : Int).toNat else none),some s.length with
  | some l,some u => (l ≤ u ∧ u ≤ s.length) ∧ KV (.string ⟨⟨(s.take u).drop l⟩⟩)
  | _,_ => False
 rw [decide_eq_true (by omega : (0 : Int) ≤ lo),cond_true]
 simp only [List.take_length]
 exact ⟨⟨by omega,by omega⟩,hk⟩
theorem eqS {t : TypeId} {a b : List UInt8} (hk : KV (.bool (decide (a = b)))) : aBin prog .eql t (strV a) (strV b) KV := by
 show KV (.bool ((ByteArray.mk ⟨a⟩).toList == (ByteArray.mk ⟨b⟩).toList))
 have e : ∀ l : List UInt8,(ByteArray.mk ⟨l⟩).toList = l := fun l => Lib.toList_data _
 rw [e,e,beqD]
 exact hk
theorem eqU {t : TypeId} {a b : UInt8} (hk : KV (.bool (decide (a = b)))) : aBin prog .eql t (.int .u8 a.toNat) (.int .u8 b.toNat) KV := by
 refine ⟨rfl,?_⟩
 show KV (.bool ((a.toNat : Int) == (b.toNat : Int)))
 have : ((a.toNat : Int) == (b.toNat : Int)) = decide (a = b) := by
  rw [beqD]
  congr 1
  exact propext ⟨fun h => UInt8.toNat_inj.1 (by omega),fun h => by rw [h]⟩
 rw [this]
 exact hk
theorem neU {t : TypeId} {a b : UInt8} (hk : KV (.bool (decide (a ≠ b)))) : aBin prog .neq t (.int .u8 a.toNat) (.int .u8 b.toNat) KV := by
 refine ⟨rfl,?_⟩
 show KV (.bool ((a.toNat : Int) != (b.toNat : Int)))
 have : ((a.toNat : Int) != (b.toNat : Int)) = decide (a ≠ b) := by
  rw [bne,beqD,← decide_not]
  congr 1
  exact propext ⟨fun h e => h (by rw [e]),fun h e => h (UInt8.toNat_inj.1 (by omega))⟩
 rw [this]
 exact hk
theorem idS {s : List UInt8} {j : Nat} {b : UInt8} (hj : s[j]? = some b) (hk : KV (.int .u8 b.toNat)) : aIdxStr (strV s) (vint (j : Int)) KV := by
 show 0 ≤ (j : Int) ∧ match s[(j : Int).toNat]? with
  | some b => KV (.int .u8 b.toNat)
  | none => False
 refine ⟨by omega,?_⟩
 rw [Int.toNat_natCast,hj]
 exact hk
theorem good114 (hJ : Closed prog main J) {s p : List UInt8} (hK : K (.bool (p.isPrefixOf s)) H) : Good prog J 114 [strV s,strV p] H K := by
 refine g114 hJ fun ok => ?_
 rw [e114]
 refine lenStr (lenStr (geqI (cndI (fun h => lenStr (slTo' (by omega) (eqS (retL_same (by simp [unk]) ?_)))) fun h => retL_same (by simp [unk]) ?_)))
 ·have : decide (s.take p.length = p) = p.isPrefixOf s := by
   rw [Bool.eq_iff_iff,decide_eq_true_iff,List.isPrefixOf_iff_prefix,List.prefix_iff_eq_take]
   exact ⟨fun h => h.symm,fun h => h.symm⟩
  rw [this]
  simpa [pack] using hK
 ·have : p.isPrefixOf s = false := by
   cases hp : p.isPrefixOf s with
   | false => rfl
   | true => exact absurd (List.IsPrefix.length_le (List.isPrefixOf_iff_prefix.1 hp)) (by omega)
  rw [this] at hK
  simpa [pack] using hK
theorem after_true {p w : List UInt8} (h : p.isPrefixOf w = true) : afterB p w = some (w.drop p.length) := if_pos h
theorem after_false {p w : List UInt8} (h : p.isPrefixOf w = false) : afterB p w = none := if_neg (by simp [h])
theorem good101 (hJ : Closed prog main J) {s p : List UInt8} (k1 : ∀ u,afterB p s = some u → u.length ≤ s.length → K (.tuple ⟨[strV u,.bool true]⟩) H) (k2 : afterB p s = none → K (.tuple ⟨[strV s,.bool false]⟩) H) : Good prog J 101 [strV s,strV p] H K := by
 refine g101 hJ fun ok => ?_
 rw [e101]
 refine good114 hJ (notI ?_)
 cases hp : p.isPrefixOf s with
 | true =>
  refine cnd_false.2 (lenStr (slFr' (List.IsPrefix.length_le (List.isPrefixOf_iff_prefix.1 hp)) (retL_same (by simp [unk,strV]) ?_)))
  exact k1 _ (after_true hp) (by simp)
 | false =>
  refine cnd_true.2 (retL_same (by simp [unk,strV]) ?_)
  exact k2 (after_false hp)
theorem good84 (hJ : Closed prog main J) {s p : List UInt8} (k1 : ∀ u,afterB p s = some u → u.length ≤ s.length → K (.tuple ⟨[strV u,.bool true]⟩) H) (k2 : afterB p s = none → K (.tuple ⟨[strV s,.bool false]⟩) H) : Good prog J 84 [strV s,strV p] H K := by
 refine g84 hJ fun ok => ?_
 rw [e84]
 exact good101 hJ (fun u h hl => ext0 (ext1 (retL_same (by simp [unk,strV]) (k1 u h hl)))) fun h => ext0 (ext1 (retL_same (by simp [unk,strV]) (k2 h)))
theorem good99 (hJ : Closed prog main J) {s : List UInt8} {c : UInt8} (hK : K (vint (s.count c : Nat)) H) : Good prog J 99 [strV s,strV [c]] H K := by
 refine g99 hJ fun ok => ?_
 rw [e99]
 refine lenStr (eqlI (cndI (fun h => absurd h (by simp)) fun _ => lenStr (eqlI (cndI (fun _ => idS (j := 0) rfl ?_) fun h => absurd rfl h))))
 exact good_count hJ (fn := f112) ⟨by kernel_rfl,by kernel_rfl,by kernel_rfl,by kernel_rfl,by kernel_rfl⟩ (retL_same (by simp [unk]) hK)
theorem good118 (hJ : Closed prog main J) {s : List UInt8} {c : UInt8} (hK : K (vint (Lib.indexByte s c)) H) : Good prog J 118 [strV s,.int .u8 c.toNat] H K := by
 refine g118 hJ fun ok => ?_
 rw [e118]
 exact good_idxB hJ (fn := f122) ⟨by kernel_rfl,by kernel_rfl,by kernel_rfl,by kernel_rfl,by kernel_rfl⟩ (retL_same (by simp [unk]) hK)
theorem good113a (hJ : Closed prog main J) {s : List UInt8} {c : UInt8} (hK : K (vint (Lib.indexByte s c)) H) : Good prog J 113 [strV s,strV [c]] H K := by
 refine g113 hJ fun ok => ?_
 rw [e113]
 refine lenStr (eqlI (cndI (fun h => absurd h (by simp)) fun _ => eqS (hold.2 ?_)))
 rw [s113_1]
 refine cndI (fun h => ?_) fun _ => ?_
 ·have h : [c] = s := h
  subst h
  refine retL_same (by simp [unk]) ?_
  simpa [Lib.indexByte,pack] using hK
 ·refine eqlI (cndI (fun _ => idS (s := [c]) (j := 0) rfl (good118 hJ (retL_same (by simp [unk]) hK))) fun h => absurd rfl h)
theorem good100a (hJ : Closed prog main J) {s : List UInt8} {c : UInt8} (hK : K (vint (Lib.indexByte s c)) H) : Good prog J 100 [strV s,strV [c]] H K := by
 refine g100 hJ fun ok => ?_
 rw [e100]
 exact good113a hJ (retL_same (by simp [unk]) hK)
theorem indexByte_cut {l : List UInt8} {c : UInt8} {o : Nat} (h : Lib.indexByte l c = o) : l = l.take o ++ c :: l.drop (o + 1) ∧ (∀ b ∈ l.take o,b ≠ c) ∧ o < l.length := by
 obtain ⟨h1,h2⟩ := Lib.indexByte_some h
 have hlt := (List.getElem?_eq_some_iff.1 h1).1
 refine ⟨?_,fun b hb e => ?_,hlt⟩
 ·have := (List.getElem?_eq_some_iff.1 h1).2
  rw [← this,List.getElem_cons_drop,List.take_append_drop]
 ·obtain ⟨i,hi⟩ := List.getElem?_of_mem hb
  rw [List.getElem?_take] at hi
  split at hi
  ·rename_i hio
   exact h2 i hio (by rw [hi,e])
  ·cases hi
theorem indexByte_none' {l : List UInt8} {c : UInt8} (h : Lib.indexByte l c < 0) : ∀ b ∈ l,b ≠ c := by
 have hn : Lib.indexByte l c = -1 := by have := Lib.indexByte_ge l c; omega
 intro b hb e
 obtain ⟨i,hi⟩ := List.getElem?_of_mem hb
 exact Lib.indexByte_none hn i (by rw [hi,e])
end
section
variable {main : Bool} {J : JT} {H : List AObj} {K : Value → List AObj → Prop} {KV : Value → Prop} {F : RG}
theorem slA2 {p n k : Nat} (h : k ≤ n ∧ n < fz) (hk : KV (.slice (some ⟨p,0,none⟩) k n)) : aSl2 1 (.slice (some ⟨p,0,none⟩) n n) none (some (vint k)) H KV := by
 show match (bif decide ((0 : Int) ≤ (k : Int)) then some (k : Int).toNat else none) with
  | some u => (0 ≤ u) ∧ ((n < fz → u ≤ n ∧ KV (.slice (some ⟨p,bif Nat.beq n 0 then 0 else 0 + 0 * 1,none⟩) (u - 0) (n - 0))) ∧ _)
  | _ => False
 rw [decide_eq_true (by omega : (0 : Int) ≤ (k : Int)),cond_true]
 refine ⟨Nat.zero_le _,fun _ => ⟨by omega,?_⟩,fun h' => absurd h.2 (Nat.not_lt.2 h')⟩
 have e : (bif Nat.beq n 0 then 0 else 0 + 0 * 1) = 0 := by cases Nat.beq n 0 <;> rfl
 rw [e]
 simpa using hk
theorem kn_str (l : List (List UInt8)) : kn (l.map strV) = true := by
 unfold kn
 rw [List.all_eq_true]
 intro v hv
 obtain ⟨b,_,rfl⟩ := List.mem_map.1 hv
 rfl
theorem strs_ok (n : Nat) (l : List (List UInt8)) (wr : Bool) (sz : Nat) : objOk n (.cells (l.map strV) wr sz) := by
 simp only [objOk,LOk_iff]
 intro v hv
 obtain ⟨b,_,rfl⟩ := List.mem_map.1 hv
 simp [strV,VOk]
theorem good83 (hJ : Closed prog main J) {s : List UInt8} {c : UInt8} (hs : s.length ≤ 2000) (hK : K (.slice (some ⟨H.length,0,none⟩) (partsB c s).length (partsB c s).length) (H ++ [.cells ((partsB c s).map strV) true 0])) :
  Good prog J 83 [strV s,strV [c],vint 0,vint (-1)] H K := by
 refine g83 hJ fun ok => ?_
 rw [e83]
 have hcl : s.count c ≤ s.length := List.count_le_length
 have hfz : 100000 < fz := by decide
 refine eqlI (cndI (fun h => absurd h (by omega)) fun _ => eqS (cndI (fun h => absurd h (by simp)) fun _ => lssI (cndI (fun _ => ?_) fun h => absurd (by omega) h)))
 refine good99 hJ (addI (by omega) (hold.2 ?_))
 rw [s83_1]
 refine lenStr (addI (by omega) (minI ?_))
 have hmin : min (((s.count c : Nat) : Int) + 1) ((s.length : Int) + 1) = ((s.count c + 1 : Nat) : Int) := by omega
 rw [hmin]
 have hpc := partsB_count (c := c) s
 generalize hn : s.count c = n at *
 refine ⟨⟨rfl,by decide⟩,qMk (n := n + 1) (by omega) fun H1 p e1 S1 c1 l1 => subI (by omega) ?_⟩
 have hzr : zrep [Value.string { data := #[] }] (n + 1) = List.replicate (n + 1) (strV []) := by
  have : ∀ m,zrep [Value.string { data := #[] }] m = List.replicate m (strV []) := by
   intro m
   induction m with
   | zero => rfl
   | succ m ih =>
    show [Value.string { data := #[] }] ++ zrep _ m = _
    rw [ih]
    rfl
  exact this _
 rw [hzr] at c1
 refine l83_2 hJ (S := Nat × List UInt8) (fun x => x.2.length) (fun x F H' => ∃ done : List (List UInt8),done.length = x.1 ∧ partsB c s = done ++ partsB c x.2 ∧ x.2.length ≤ s.length ∧ x.1 ≤ n ∧ F.ds = [] ∧ F.r 0 = strV x.2 ∧ F.r 1 = strV [c] ∧ F.r 2 = vint 0 ∧ F.r 3 = vint ((n : Nat) : Int) ∧ F.r 9 = .slice (some ⟨p,0,none⟩) (n + 1) (n + 1) ∧ F.r 10 = vint (x.1 : Nat) ∧ SameX [] H H' ∧ H'[p]? = some (.cells (done.map strV ++ List.replicate (n + 1 - x.1) (strV [])) true 0)) ?_ (s := (0,s))
  (.inl ⟨[],rfl,rfl,Nat.le_refl _,Nat.zero_le _,rfl,rfl,rfl,rfl,by show vint _ = vint _; congr 1; omega,rfl,rfl,S1,by simpa using c1⟩)
 rintro ⟨i,r⟩ F H2 ⟨done,hd,hp,hrl,hin,ds,r0,r1,r2,r3,r9,r10,S2,c2⟩ ok2 hn2
 dsimp only at hd hp hrl hin r0 r10 c2
 rw [s83_2]
 simp only [ds,r0,r1,r2,r3,r9,r10]
 have hlen : done.length + (partsB c r).length = n + 1 := by rw [← List.length_append,← hp,hpc]
 have hrc := partsB_count (c := c) r
 have hset : ∀ u : List UInt8,(done.map strV ++ List.replicate (n + 1 - i) (strV [])).set i (strV u) = (done ++ [u]).map strV ++ List.replicate (n + 1 - (i + 1)) (strV []) := fun u => by
  rw [List.set_append_right _ _ (by simp [hd])]
  simp only [List.length_map,hd,Nat.sub_self,List.map_append,List.map_cons,List.map_nil,List.append_assoc]
  congr 1
  rw [show n + 1 - i = (n + 1 - (i + 1)) + 1 from by omega,List.replicate_succ]
  rfl
 refine lssI (cndI (fun hlt => ?_) fun hge => ?_)
 ·refine good100a hJ ?_
  have hge := Lib.indexByte_ge r c
  refine lssI (cndI (fun hneg => ?_) fun hpos => ?_)
  ·have h1 := partsB_one r (indexByte_none' hneg)
   rw [h1] at hlen
   simp at hlen
   omega
  obtain ⟨o,ho⟩ : ∃ o : Nat,Lib.indexByte r c = o := ⟨(Lib.indexByte r c).toNat,by omega⟩
  rw [ho]
  obtain ⟨hcut,hno,hol⟩ := indexByte_cut ho
  refine addI (by omega) ?_
  rw [show ((o : Int) + 0) = (o : Int) by omega]
  refine slTo' (by omega) (idxI ⟨by omega,by omega⟩ (qSt (v := strV (r.take o)) c2 (by simp [hd]; omega) rfl rfl fun H3 S3 c3 l3 => ?_))
  refine lenStr (s := [c]) (addI (by simp; omega) ?_)
  rw [show ((o : Int) + (([c] : List UInt8).length : Int)) = ((o + 1 : Nat) : Int) from rfl]
  refine slFr' (by omega) (addI (by omega) ?_)
  refine ⟨(i + 1,r.drop (o + 1)),by simp; omega,.inl ⟨done ++ [r.take o],by simp [hd],?_,by simp; omega,by omega,ds,rfl,r1,r2,r3,r9,rfl,S2.thru S3 ?_,?_⟩⟩
  ·rw [hp]
   conv => lhs; rw [hcut,partsB_cut _ _ hno]
   simp
  ·simp; omega
  ·rw [c3]
   congr 2
   rw [← hset]
   congr 1
   simp
 ·have hi : i = n := by omega
  have hl1 : (partsB c r).length = 1 := by omega
  have hr0 : r.count c = 0 := by omega
  have h1 := partsB_one (c := c) r fun b hb e => absurd (List.count_pos_iff.2 (e ▸ hb)) (by omega)
  rw [h1] at hp
  refine idxI ⟨by omega,by omega⟩ (qSt (v := strV r) c2 (by simp [hd]; omega) rfl rfl fun H3 S3 c3 l3 => ?_)
  refine addI (by omega) ?_
  rw [show ((i : Nat) : Int) + 1 = ((n + 1 : Nat) : Int) by omega]
  refine slA2 ⟨Nat.le_refl _,by omega⟩ ?_
  have c3' : H3[p]? = some (.cells ((partsB c s).map strV) true 0) := by
   rw [c3,hp]
   congr 2
   have := hset r
   rw [show n + 1 - (i + 1) = 0 by omega] at this
   simpa using this
  have S13 : SameX [] H H3 := S2.thru S3 (by simp; omega)
  obtain ⟨g,rfl⟩ := S13.app0 (by simp)
  rw [hpc] at hK
  exact retL_one ok (Nat.le_refl _) c3' (by omega) (strs_ok _ _ _ _) hK
theorem good56 (hJ : Closed prog main J) {s : List UInt8} {c : UInt8} (hs : s.length ≤ 2000) (hK : K (.slice (some ⟨H.length,0,none⟩) (partsB c s).length (partsB c s).length) (H ++ [.cells ((partsB c s).map strV) true 0])) :
  Good prog J 56 [strV s,strV [c]] H K := by
 refine g56 hJ fun ok => ?_
 rw [e56]
 exact good83 hJ hs (retL_one ok (Nat.le_refl _) (by simp) (Nat.le_refl _) (strs_ok _ _ _ _) hK)
end
def dd : List UInt8 := [46,46]
def hdd : Int := 771770520
def pdd : Int := 637696617
theorem hdd_eq : hdd = Lib.RK.H dd % 4294967296 := by decide +kernel
theorem pdd_eq : pdd = (16777619 : Int) ^ 2 % 4294967296 := by decide +kernel
theorem wr32 (n : Int) : IntKind.u32.wrap n = n % 4294967296 := by
 simp only [IntKind.wrap,IntKind.bits,IntKind.signed]
 simp
section
variable {main : Bool} {J : JT} {H : List AObj} {K : Value → List AObj → Prop} {KV : Value → Prop} {F : RG}
theorem retD {n0 : Nat} {d : List Nat} {vs : List Value} (hd : d = []) (hu : ∀ v ∈ vs,v ≠ unk) (hk : K (pack vs) H) : retL n0 K d vs H := by
 subst hd
 exact retL_same hu hk
theorem mul32 {t : TypeId} {a b : Int} (hk : KV (.int .u32 (a * b % 4294967296))) : aBin prog .mul t (.int .u32 a) (.int .u32 b) KV := ⟨rfl,by show KV (.int .u32 (IntKind.u32.wrap (a * b))); rw [wr32]; exact hk⟩
theorem add32 {t : TypeId} {a b : Int} (hk : KV (.int .u32 ((a + b) % 4294967296))) : aBin prog .add t (.int .u32 a) (.int .u32 b) KV := ⟨rfl,by show KV (.int .u32 (IntKind.u32.wrap (a + b))); rw [wr32]; exact hk⟩
theorem sub32 {t : TypeId} {a b : Int} (hk : KV (.int .u32 ((a - b) % 4294967296))) : aBin prog .sub t (.int .u32 a) (.int .u32 b) KV := ⟨rfl,by show KV (.int .u32 (IntKind.u32.wrap (a - b))); rw [wr32]; exact hk⟩
theorem eql32 {t : TypeId} {a b : Int} (hk : KV (.bool (decide (a = b)))) : aBin prog .eql t (.int .u32 a) (.int .u32 b) KV := ⟨rfl,by show KV (.bool (a == b)); rw [beqD]; exact hk⟩
theorem cvU32 {b : UInt8} (hk : KV (.int .u32 (b.toNat : Int))) : aConvI .u32 (.int .u8 b.toNat) KV := by
 have := b.toNat_lt
 exact cvK (wrap_u32 (by omega) (by omega)) hk
theorem andOne {t : TypeId} {a : Nat} (ha : a < 100) (hk : KV (vint ((a % 2 : Nat) : Int))) : aBin prog .and t (vint (a : Int)) (vint 1) KV := by
 have : ∀ n ∈ List.range 100,IntKind.i64.wrap (BitVec.ofInt IntKind.i64.bits (n : Int) &&& BitVec.ofInt IntKind.i64.bits 1).toNat = ((n % 2 : Nat) : Int) := by decide +kernel
 refine ⟨rfl,?_⟩
 show KV (.int .i64 (IntKind.i64.wrap (BitVec.ofInt IntKind.i64.bits (a : Int) &&& BitVec.ofInt IntKind.i64.bits 1).toNat))
 rw [this a (List.mem_range.2 ha)]
 exact hk
theorem good123 (hJ : Closed prog main J) (hK : K (.tuple ⟨[.int .u32 hdd,.int .u32 pdd]⟩) H) : Good prog J 123 [strV dd] H K := by
 refine g123 hJ fun ok => ?_
 rw [e123]
 refine l123_1 hJ (S := Nat) (fun k => 3 - k) (fun k F H' => H' = H ∧ k ≤ 2 ∧ F.ds = [] ∧ F.r 0 = strV dd ∧ F.r 5 = vint (k : Nat) ∧ F.r 4 = .int .u32 ([0,46,hdd].getD k 0)) ?_ (s := 0) (.inl ⟨rfl,by omega,rfl,rfl,rfl,rfl⟩)
 rintro k F H' ⟨rfl,hk,ds,r0,r5,r4⟩ ok' hn'
 rw [s123_1]
 simp only [ds,r0,r5,r4]
 have hl : dd.length = 2 := rfl
 refine lenStr (lssI (cndI (fun hlt => ?_) fun hge => ?_))
 ·rw [hl] at hlt
  have hb : dd[k]? = some 46 := by
   rcases k with _ | _ | k
   ·rfl
   ·rfl
   ·omega
  refine mul32 (idS hb (cvU32 (add32 (addI (by omega) ⟨k + 1,by dsimp only; omega,.inl ⟨rfl,by omega,ds,r0,rfl,?_⟩⟩))))
  rcases k with _ | _ | k
  ·rfl
  ·rfl
  ·omega
 ·rw [hl] at hge
  obtain rfl : k = 2 := by omega
  refine lenStr (l123_2 hJ (S := Nat) (fun k => k) (fun k F H2 => H2 = H' ∧ F.ds = [] ∧ F.r 4 = .int .u32 hdd ∧ F.r 8 = vint (k : Nat) ∧ ((k = 2 ∧ F.r 6 = .int .u32 1 ∧ F.r 7 = .int .u32 16777619) ∨ (k = 1 ∧ F.r 6 = .int .u32 1 ∧ F.r 7 = .int .u32 pdd) ∨ (k = 0 ∧ F.r 6 = .int .u32 pdd))) ?_ (s := 2) (.inl ⟨rfl,ds,r4,rfl,.inl ⟨rfl,rfl,rfl⟩⟩))
  rintro k F H2 ⟨rfl,ds,r4,r8,hst⟩ ok2 hn2
  rw [s123_2]
  simp only [ds,r4,r8]
  rcases hst with ⟨rfl,r6,r7⟩ | ⟨rfl,r6,r7⟩ | ⟨rfl,r6⟩
  ·simp only [r6,r7]
   refine gtrI (cndI (fun _ => andOne (a := 2) (by omega) (neqI (cndI (fun h => absurd rfl h) fun _ => mul32 (shrN (a := 2) (b := 1) (by decide) ⟨1,by decide,.inl ⟨rfl,ds,r4,rfl,.inr (.inl ⟨rfl,r6,rfl⟩)⟩⟩)))) fun h => absurd (by decide) h)
  ·simp only [r6,r7]
   refine gtrI (cndI (fun _ => andOne (a := 1) (by omega) (neqI (cndI (fun _ => mul32 (mul32 (shrN (a := 1) (b := 1) (by decide) ⟨0,by decide,.inl ⟨rfl,ds,r4,rfl,.inr (.inr ⟨rfl,rfl⟩)⟩⟩))) fun h => absurd (by decide) h))) fun h => absurd (by decide) h)
  ·simp only [r6]
   refine gtrI (cndI (fun h => absurd h (by decide)) fun _ => retL_same (by simp [unk]) hK)
theorem take_snoc {s : List UInt8} {k : Nat} {b : UInt8} (h : s[k]? = some b) : s.take (k + 1) = s.take k ++ [b] := by
 rw [List.take_add_one,h]
 rfl
theorem win_cut {s : List UInt8} {i : Nat} {x y : UInt8} (h1 : s[i]? = some x) (h2 : s[i + 1]? = some y) : Lib.RK.win s i 2 = [x,y] := by
 have l1 := (List.getElem?_eq_some_iff.1 h1)
 have l2 := (List.getElem?_eq_some_iff.1 h2)
 obtain ⟨a1,a2⟩ := l1
 obtain ⟨b1,b2⟩ := l2
 rw [Lib.RK.win_cons s i 1 a1,Lib.RK.win_cons s (i + 1) 0 b1,a2,b2]
 rfl
theorem occ_win {s : List UInt8} {j : Nat} (hj : j + 2 ≤ s.length) : Lib.occAt s dd j = decide (Lib.RK.win s j 2 = dd) := by
 rw [Lib.RK.occAt_win s dd j hj,beqD]
 rfl
theorem good121 (hJ : Closed prog main J) {s : List UInt8} (h2 : 2 ≤ s.length) (hs : s.length ≤ 2000) (hK : K (vint (Lib.index s dd)) H) : Good prog J 121 [strV s,strV dd] H K := by
 refine g121 hJ fun ok => ?_
 rw [e121]
 refine good123 hJ (ext0 (ext1 (lenStr ?_)))
 refine l121_1 hJ (S := Nat) (fun k => 3 - k) (fun k F H' => H' = H ∧ k ≤ 2 ∧ F.ds = [] ∧ F.r 0 = strV s ∧ F.r 1 = strV dd ∧ F.r 5 = .int .u32 hdd ∧ F.r 6 = .int .u32 pdd ∧ F.r 7 = vint 2 ∧ F.r 9 = vint (k : Nat) ∧ F.r 8 = .int .u32 (Lib.RK.H (s.take k) % 4294967296)) ?_ (s := 0) (.inl ⟨rfl,by omega,rfl,rfl,rfl,rfl,rfl,rfl,rfl,rfl⟩)
 rintro k F H' ⟨rfl,hk,ds,r0,r1,r5,r6,r7,r9,r8⟩ ok' hn'
 rw [s121_1]
 simp only [ds,r0,r1,r5,r7,r9,r8]
 refine lssI (cndI (fun hlt => ?_) fun hge => ?_)
 ·have hkl : k < s.length := by omega
  have hb : s[k]? = some s[k] := List.getElem?_eq_getElem hkl
  refine mul32 (idS hb (cvU32 (add32 (addI (by omega) ⟨k + 1,by dsimp only; omega,.inl ⟨rfl,by omega,ds,r0,r1,r5,r6,r7,rfl,?_⟩⟩))))
  show Value.int .u32 _ = Value.int .u32 _
  congr 1
  rw [take_snoc hb,Lib.RK.H_snoc]
  omega
 obtain rfl : k = 2 := by omega
 have hw0 : Lib.RK.win s 0 2 = s.take 2 := rfl
 -- the second part: from the i-th byte on
 have part2 : ∀ F : RG,F.ds = [] → F.r 0 = strV s → F.r 1 = strV dd → F.r 5 = .int .u32 hdd → F.r 6 = .int .u32 pdd → F.r 7 = vint 2 → F.r 8 = .int .u32 (Lib.RK.H (s.take 2) % 4294967296) → F.r 39 = .bool false → Lib.NoOcc s dd 1 →
   W prog J 81 H'.length 121 (subC yp2 (codeOf f121)) F H' (contX pl121 prog J 81 H'.length 121 ct121 yp2 (codeOf f121) [] (RetQ prog [.tmp 4] H'.length K)) := by
  intro F ds r0 r1 r5 r6 r7 r8 r39 hno
  rw [s121_2]
  simp only [r39,r7]
  refine cnd_false.2 ?_
  refine l121_3 hJ (S := Nat) (fun i => s.length + 1 - i) (fun i F H2 => H2 = H' ∧ 2 ≤ i ∧ i ≤ s.length ∧ F.ds = [] ∧ F.r 0 = strV s ∧ F.r 1 = strV dd ∧ F.r 5 = .int .u32 hdd ∧ F.r 6 = .int .u32 pdd ∧ F.r 7 = vint 2 ∧ F.r 10 = vint (i : Nat) ∧ F.r 8 = .int .u32 (Lib.RK.H (Lib.RK.win s (i - 2) 2) % 4294967296) ∧ Lib.NoOcc s dd (i - 2 + 1)) ?_ (s := 2) (.inl ⟨rfl,Nat.le_refl _,h2,ds,r0,r1,r5,r6,r7,rfl,r8,hno⟩)
  rintro i F H2 ⟨rfl,hi1,hi2,ds,r0,r1,r5,r6,r7,r10,r8,hno⟩ ok2 hn2
  rw [s121_3]
  simp only [ds,r0,r1,r5,r6,r7,r10,r8]
  refine lenStr (lssI (cndI (fun hlt => ?_) fun hge => ?_))
  ·obtain ⟨j,rfl⟩ : ∃ j,i = j + 2 := ⟨i - 2,by omega⟩
   have hjl : j + 2 < s.length := by omega
   have b0 : s[j]? = some s[j] := List.getElem?_eq_getElem (by omega)
   have b1 : s[j + 1]? = some s[j + 1] := List.getElem?_eq_getElem (by omega)
   have b2 : s[j + 2]? = some s[j + 2] := List.getElem?_eq_getElem hjl
   have w0 := win_cut b0 b1
   have w1 := win_cut b1 b2
   simp only [Nat.add_sub_cancel] at hno r8
   rw [show j + 2 - 2 = j by omega,w0]
   refine mul32 (idS b2 (cvU32 (add32 (subI (by omega) ?_))))
   rw [show ((j + 2 : Nat) : Int) - 2 = (j : Int) by omega]
   refine idS b0 (cvU32 (mul32 (sub32 (addI (by omega) ?_))))
   have hroll : (((Lib.RK.H [s[j],s[j + 1]] % 4294967296) * 16777619 % 4294967296 + (s[j + 2].toNat : Int)) % 4294967296 - pdd * (s[j].toNat : Int) % 4294967296) % 4294967296 = Lib.RK.H [s[j + 1],s[j + 2]] % 4294967296 := by
    have r := Lib.RK.roll_mod (h := Lib.RK.H [s[j],s[j + 1]] % 4294967296) (pw := pdd) s[j] s[j + 2] [s[j + 1]] rfl pdd_eq
    have hlt := s[j].toNat_lt
    rw [Int.emod_eq_of_lt (by omega) (by omega : (s[j].toNat : Int) < 4294967296)] at r
    have e : ([s[j + 1]] ++ [s[j + 2]] : List UInt8) = [s[j + 1],s[j + 2]] := rfl
    rw [e] at r
    rw [← r]
    generalize pdd * (s[j].toNat : Int) = T
    generalize (Lib.RK.H [s[j],s[j + 1]] % 4294967296) * 16777619 = U
    omega
   rw [hroll]
   have hsub : ((j + 2 : Nat) : Int) + 1 = ((j + 3 : Nat) : Int) := by omega
   rw [hsub]
   have miss : Lib.occAt s dd (j + 1) = false → Lib.NoOcc s dd (j + 1 + 1) := fun h => hno.succ h
   refine eql32 (cndI (fun heq => subI (by omega) ?_) fun hne => hold.2 ?_)
   ·rw [show ((j + 3 : Nat) : Int) - 2 = ((j + 1 : Nat) : Int) by omega]
    refine slS ⟨by omega,by omega⟩ (eqS (hold.2 ?_))
    have hwin : (s.take (j + 3)).drop (j + 1) = Lib.RK.win s (j + 1) 2 := by
     unfold Lib.RK.win
     rw [List.drop_take]
     congr 1
     omega
    rw [s121_4]
    refine cndI (fun hyes => ?_) fun hnot => ?_
    ·have hyes : (s.take (j + 3)).drop (j + 1) = dd := hyes
     have h7 : ∀ {KV : Value → Prop},KV (vint ((j + 1 : Nat) : Int)) → aBin prog .sub 3 (vint ((j + 3 : Nat) : Int)) (F.r 7) KV := fun {KV} hk => by
      rw [r7]
      refine subI (by omega) ?_
      rw [show ((j + 3 : Nat) : Int) - 2 = ((j + 1 : Nat) : Int) by omega]
      exact hk
     refine h7 (retD ds (by simp [unk]) ?_)
     rw [Lib.index_hit hno (by omega) (by rw [occ_win (by omega),← hwin,decide_eq_true hyes])] at hK
     exact hK
    ·have hnot : ¬ (s.take (j + 3)).drop (j + 1) = dd := hnot
     refine ⟨j + 3,by dsimp only; omega,.inl ⟨rfl,by omega,by omega,ds,r0,r1,r5,r6,r7,rfl,?_,?_⟩⟩
     ·rw [show j + 3 - 2 = j + 1 by omega,w1]
      rfl
     ·rw [show j + 3 - 2 = j + 1 by omega]
      exact miss (by rw [occ_win (by omega),← hwin,decide_eq_false hnot])
   ·rw [s121_4]
    refine cnd_false.2 ⟨j + 3,by dsimp only; omega,.inl ⟨rfl,by omega,by omega,ds,r0,r1,r5,r6,r7,rfl,?_,?_⟩⟩
    ·rw [show j + 3 - 2 = j + 1 by omega,w1]
     rfl
    ·rw [show j + 3 - 2 = j + 1 by omega]
     refine miss ?_
     rw [occ_win (by omega),decide_eq_false (fun e => hne ?_)]
     rw [← w1,e,hdd_eq]
  ·have hi : i = s.length := by omega
   refine retL_same (by simp [unk]) ?_
   rw [Lib.index_past (i := i - 2 + 1) (by simp [dd]) hno (by simp [dd]; omega)] at hK
   exact hK
 have hno0 : Lib.occAt s dd 0 = false → Lib.NoOcc s dd 1 := fun h => (Lib.NoOcc.zero _ _).succ h
 refine eql32 (cndI (fun heq => slTo' (hi := 2) h2 (eqS (hold.2 ?_))) fun hne => hold.2 ?_)
 ·by_cases hyes : s.take 2 = dd
  ·rw [s121_2]
   refine cndI (fun _ => ?_) fun hn => absurd hyes hn
   refine retD ds (by simp [unk]) ?_
   rw [Lib.index_hit (i := 0) (Lib.NoOcc.zero _ _) (Nat.zero_le _) (by rw [occ_win (by omega),hw0,decide_eq_true hyes])] at hK
   exact hK
  ·exact part2 _ ds r0 r1 r5 r6 r7 r8 (by show Value.bool (decide (s.take 2 = dd)) = _; rw [decide_eq_false hyes]) (hno0 (by rw [occ_win (by omega),hw0,decide_eq_false hyes]))
 ·exact part2 _ ds r0 r1 r5 r6 r7 r8 rfl (hno0 (by
   rw [occ_win (by omega),hw0,decide_eq_false (fun e => hne ?_)]
   rw [e,hdd_eq]))
end
abbrev mxG : Nat := 2
def MaxAt (H : List AObj) (m : Int) : Prop := H[mxG]? = some (.typed false mxG [.int .i64 m] false)
theorem index_le' : ∀ (s sub : List UInt8),Lib.index s sub ≤ s.length
 | [],sub => by
  unfold Lib.index
  split <;> simp
 | b :: l,sub => by
  have ih := index_le' l sub
  unfold Lib.index
  split
  ·simp
   omega
  ·split
   ·simp
    omega
   ·simp
    omega
section
variable {main : Bool} {J : JT} {H : List AObj} {K : Value → List AObj → Prop} {KV : Value → Prop} {F : RG} {n0 : Nat} {nx : RG → List AObj → Prop} {s : List UInt8} {m : Int}
theorem max_gv (hm : MaxAt H m) : gv H 2 = ptr 2 0 := by
 have hm : H[2]? = some (.typed false 2 [.int .i64 m] false) := hm
 simp [gv,hm]
theorem max_ld (hm : MaxAt H m) (hk : KV (vint m)) : aLoad false 1 (gv H 2) H KV := by
 rw [max_gv hm]
 exact ldT (show H[2]? = some (.typed false 2 [.int .i64 m] false) from hm) rfl rfl hk
theorem max_name : prog.globals.findIdx? (·.name == "internal/bytealg.MaxLen") = some mxG := by kernel_rfl
theorem good120 (hJ : Closed prog main J) {k : Nat} (hk : k < 100000) (hK : ∀ v : Int,K (vint v) H) : Good prog J 120 [vint k] H K := by
 refine g120 hJ fun ok => ?_
 rw [e120]
 refine addI (by omega) ⟨rfl,by decide,?_⟩
 show retL H.length K [] [vint (IntKind.i64.wrap _)] H
 exact retL_same (by simp [unk]) (hK _)
theorem good119 (hJ : Closed prog main J) (hm : MaxAt H m) (h2 : 2 ≤ m) (hs : s.length ≤ 2000) (hK : K (vint (Lib.index s dd)) H) : Good prog J 119 [strV s,strV dd] H K :=
 good_idxS hJ (fn := f119) ⟨by kernel_rfl,by kernel_rfl,by kernel_rfl,by kernel_rfl,by kernel_rfl⟩ max_name hm (by decide) (by simpa [dd] using h2) (by omega) hK
structure IxR (F : RG) (s : List UInt8) (k fl : Nat) : Prop where
 ds : F.ds = []
 r0 : F.r 0 = strV s
 r1 : F.r 1 = strV dd
 r5 : F.r 5 = vint 2
 r6 : F.r 6 = .int .u8 (46 : UInt8).toNat
 r7 : F.r 7 = .int .u8 (46 : UInt8).toNat
 r8 : F.r 8 = vint (k : Nat)
 r9 : F.r 9 = vint ((s.length - 1 : Nat) : Int)
 r10 : F.r 10 = vint (fl : Nat)
theorem ix_7 (hJ : Closed prog main J) (hs : s.length ≤ 2000) {k fl : Nat} (R : IxR F s k fl) {b : Bool} (hb : F.r 132 = .bool b) (hb2 : b = true → k + 2 ≤ s.length) (hk : k ≤ s.length) (hno : Lib.NoOcc s dd k) (hnx : nx F H) (hK : K (vint (Lib.index s dd)) H) :
  W prog J 143 n0 113 (subC yp18 (codeOf f113)) F H (contX pl113 prog J 143 n0 113 ct113 yp18 (codeOf f113) [nx] (RetQ prog [.tmp 4] n0 K)) := by
 rw [s113_7]
 simp only [R.ds,R.r0,R.r1,R.r8,hb]
 cases b with
 | false => exact cnd_false.2 hnx
 | true =>
  have hk2 := hb2 rfl
  have hd := Lib.index_drop hno hk
  have hge := Lib.index_ge (s.drop k) dd
  refine cnd_true.2 (slFr' hk (good121 hJ (by simp; omega) (by simp; omega) (lssI (cndI (fun h => ?_) fun h => ?_))))
  ·rw [if_pos (by simp; omega)] at hd
   rw [hd] at hK
   exact retL_same (by simp [unk]) hK
  ·rw [if_neg (by simp; omega)] at hd
   have hle : Lib.index (s.drop k) dd ≤ 2000 := by
    rcases Int.lt_or_le 2000 (Lib.index (s.drop k) dd) with h' | h'
    ·exfalso
     have := index_le' (s.drop k) dd
     simp at this
     omega
    ·exact h'
   refine addI (by omega) (retL_same (by simp [unk]) ?_)
   rw [hd,Int.add_comm] at hK
   exact hK
theorem ix_6 (hJ : Closed prog main J) (hm : MaxAt H m) (hs : s.length ≤ 2000) {k fl : Nat} (R : IxR F s k fl) (hfl : fl ≤ 3000) {b : Bool} (hb : F.r 107 = .bool b) (hb2 : b = true → 2 ≤ m) (hk : k < s.length) (hno : Lib.NoOcc s dd k)
  (hnx : ∀ F',IxR F' s k fl → nx F' H) (hK : K (vint (Lib.index s dd)) H) :
  W prog J 143 n0 113 (subC yp27 (codeOf f113)) F H (contX pl113 prog J 143 n0 113 ct113 yp27 (codeOf f113) [nx] (RetQ prog [.tmp 4] n0 K)) := by
 rw [s113_6]
 simp only [R.ds,R.r0,R.r1,R.r5,R.r8,R.r9,R.r10,hb]
 have go : ∀ F' : RG,IxR F' s k fl → ∀ {b : Bool},F'.r 132 = .bool b → (b = true → k + 2 ≤ s.length) → _ := fun F' R' b h1 h2 => ix_7 (nx := nx) (n0 := n0) hJ hs R' h1 h2 (Nat.le_of_lt hk) hno (hnx F' R') hK
 cases b with
 | true =>
  have hd := Lib.index_drop hno (Nat.le_of_lt hk)
  have hge := Lib.index_ge (s.drop k) dd
  have hle := index_le' (s.drop k) dd
  simp at hle
  refine cnd_true.2 (slFr' (Nat.le_of_lt hk) (good119 hJ hm (hb2 rfl) (by simp; omega) (geqI (cndI (fun h => ?_) fun h => ?_))))
  ·rw [if_neg (by simp; omega)] at hd
   refine addI (by omega) (retL_same (by simp [unk]) ?_)
   rw [hd] at hK
   exact hK
  ·rw [if_pos (by simp; omega)] at hd
   rw [hd] at hK
   exact retL_same (by simp [unk]) hK
 | false =>
  refine cnd_false.2 (max_ld hm (gtrI (cndI (fun _ => shrN (b := 4) (by decide) (addI (by have : k / 2 ^ 4 ≤ k := Nat.div_le_self _ _; omega) (geqI (cndI (fun _ => lssI (hold.2 ?_)) fun _ => hold.2 ?_)))) fun _ => hold.2 ?_)))
  ·exact go _ ⟨R.ds,R.r0,R.r1,R.r5,R.r6,R.r7,R.r8,R.r9,R.r10⟩ rfl fun h => by
    have := of_decide_eq_true h
    omega
  ·exact go _ ⟨R.ds,R.r0,R.r1,R.r5,R.r6,R.r7,R.r8,R.r9,R.r10⟩ rfl fun h => by cases h
  ·exact go _ ⟨R.ds,R.r0,R.r1,R.r5,R.r6,R.r7,R.r8,R.r9,R.r10⟩ rfl fun h => by cases h
theorem ix_5 (hJ : Closed prog main J) (hm : MaxAt H m) (hs : s.length ≤ 2000) {k fl : Nat} (R : IxR F s k fl) (hfl : fl < 2500) {b : Bool} (hb : F.r 93 = .bool b) (hk : k + 1 < s.length) (hno : Lib.NoOcc s dd k) (hb2 : Lib.occAt s dd k = b)
  (hnx : ∀ F',IxR F' s (k + 1) (fl + 1) → Lib.NoOcc s dd (k + 1) → nx F' H) (hK : K (vint (Lib.index s dd)) H) :
  W prog J 143 n0 113 (subC yp26 (codeOf f113)) F H (contX pl113 prog J 143 n0 113 ct113 yp26 (codeOf f113) [nx] (RetQ prog [.tmp 4] n0 K)) := by
 rw [s113_5]
 simp only [R.ds,R.r5,R.r8,R.r10,hb]
 cases b with
 | true =>
  refine cnd_true.2 (retL_same (by simp [unk]) ?_)
  rw [Lib.index_hit hno (by omega) hb2] at hK
  exact hK
 | false =>
  have hno1 := hno.succ hb2
  have go : ∀ F' : RG,IxR F' s (k + 1) (fl + 1) → ∀ {b : Bool},F'.r 107 = .bool b → (b = true → 2 ≤ m) → _ := fun F' R' b h1 h2 => ix_6 (nx := nx) (n0 := n0) hJ hm hs R' (by omega) h1 h2 hk hno1 (fun F'' R'' => hnx F'' R'' hno1) hK
  refine cnd_false.2 (addI (by omega) (addI (by omega) (max_ld hm (leqI (cndI (fun h => ?_) fun _ => hold.2 ?_)))))
  ·refine good120 hJ (k := k + 1) (by omega) fun v => gtrI (hold.2 ?_)
   exact go _ ⟨R.ds,R.r0,R.r1,R.r5,R.r6,R.r7,rfl,R.r9,rfl⟩ rfl fun _ => h
  ·exact go _ ⟨R.ds,R.r0,R.r1,R.r5,R.r6,R.r7,rfl,R.r9,rfl⟩ rfl fun h => by cases h
theorem occ_two {k : Nat} (h0 : s[k]? = some 46) (hk : k + 1 < s.length) : Lib.occAt s dd k = decide (s[k + 1]? = some 46) := by
 have hb : s[k + 1]? = some s[k + 1] := List.getElem?_eq_getElem hk
 rw [occ_win (by omega),win_cut h0 hb,hb]
 congr 1
 simp [dd]
theorem ix_4 (hJ : Closed prog main J) (hm : MaxAt H m) (hs : s.length ≤ 2000) {k fl : Nat} (R : IxR F s k fl) (hfl : fl < 2500) (hk : k + 1 < s.length) (hno : Lib.NoOcc s dd k) (h0 : s[k]? = some 46)
  (hnx : ∀ F',IxR F' s (k + 1) (fl + 1) → Lib.NoOcc s dd (k + 1) → nx F' H) (hK : K (vint (Lib.index s dd)) H) :
  W prog J 143 n0 113 (subC yp25 (codeOf f113)) F H (contX pl113 prog J 143 n0 113 ct113 yp25 (codeOf f113) [nx] (RetQ prog [.tmp 4] n0 K)) := by
 rw [s113_4]
 simp only [R.r0,R.r1,R.r5,R.r7,R.r8]
 have hb : s[k + 1]? = some s[k + 1] := List.getElem?_eq_getElem hk
 have hocc := occ_two h0 hk
 refine addI (by omega) (idS (j := k + 1) hb (eqU (cndI (fun h => ?_) fun h => hold.2 ?_)))
 ·refine addI (by omega) ?_
  rw [show ((k : Nat) : Int) + 2 = ((k + 2 : Nat) : Int) by omega]
  refine slS ⟨by omega,by omega⟩ (eqS (hold.2 ?_))
  have hw : (s.take (k + 2)).drop k = dd := by
   have := win_cut h0 hb
   unfold Lib.RK.win at this
   rw [List.drop_take,show k + 2 - k = 2 by omega,this,h]
   rfl
  refine ix_5 (b := true) hJ hm hs ⟨R.ds,R.r0,R.r1,R.r5,R.r6,R.r7,R.r8,R.r9,R.r10⟩ hfl ?_ hk hno (by rw [hocc,hb,h]; rfl) hnx hK
  show Value.bool (decide ((s.take (k + 2)).drop k = dd)) = _
  rw [decide_eq_true hw]
 ·exact ix_5 (b := false) hJ hm hs ⟨R.ds,R.r0,R.r1,R.r5,R.r6,R.r7,R.r8,R.r9,R.r10⟩ hfl rfl hk hno (by rw [hocc,hb,decide_eq_false]; simpa using h) hnx hK
theorem good113d (hJ : Closed prog main J) (hm : MaxAt H m) (hs : s.length ≤ 2000) (hK : K (vint (Lib.index s dd)) H) : Good prog J 113 [strV s,strV dd] H K := by
 refine g113 hJ fun ok => ?_
 rw [e113]
 have hl2 : dd.length = 2 := rfl
 refine lenStr (s := dd) (eqlI (cndI (fun h => absurd h (by decide)) fun _ => eqS (hold.2 ?_)))
 rw [s113_1]
 refine cndI (fun h => ?_) fun hne => ?_
 ·have h : dd = s := h
  subst h
  rw [Lib.index_self] at hK
  exact retL_same (by simp [unk]) hK
 have hne : ¬ dd = s := hne
 refine eqlI (cndI (fun h => absurd h (by decide)) fun _ => lenStr (s := s) (geqI (cndI (fun h => ?_) fun h => ?_)))
 ·rw [hl2] at h
  rw [Lib.index_long (by rw [hl2]; omega) hne] at hK
  exact retL_same (by simp [unk]) hK
 rw [hl2] at h
 have main2 : ∀ F : RG,F.ds = [] → F.r 0 = strV s → F.r 1 = strV dd → F.r 5 = vint 2 → ∀ b : Bool,F.r 36 = .bool b → (b = true → 2 ≤ m) →
   W prog J 143 H.length 113 (subC yp24 (codeOf f113)) F H (contX pl113 prog J 143 H.length 113 ct113 yp24 (codeOf f113) [] (RetQ prog [.tmp 4] H.length K)) := by
  intro F ds r0 r1 r5 b r36 hb
  rw [s113_2]
  simp only [ds,r0,r1,r5,r36]
  cases b with
  | true => exact cnd_true.2 (good119 hJ hm (hb rfl) hs (retL_same (by simp [unk]) hK))
  | false =>
   refine cnd_false.2 (idS (s := dd) (j := 0) rfl (idS (s := dd) (j := 1) rfl (lenStr (subI (by omega) (addI (by omega) ?_)))))
   rw [show (s.length : Int) - 2 + 1 = ((s.length - 1 : Nat) : Int) by omega]
   refine l113_3 hJ (S := Nat × Nat) (fun x => s.length + 1 - x.1) (fun x F H' => H' = H ∧ IxR F s x.1 x.2 ∧ x.1 ≤ s.length - 1 ∧ x.2 ≤ x.1 ∧ Lib.NoOcc s dd x.1) ?_ (s := (0,0)) (.inl ⟨rfl,⟨ds,r0,r1,r5,rfl,rfl,rfl,rfl,rfl⟩,Nat.zero_le _,Nat.le_refl _,Lib.NoOcc.zero _ _⟩)
   rintro ⟨k,fl⟩ F H' ⟨rfl,R,hk,hfl,hno⟩ ok' hn'
   dsimp only at R hk hfl hno
   rw [s113_3]
   simp only [R.ds,R.r0,R.r6,R.r8,R.r9]
   refine lssI (cndI (fun hlt => ?_) fun hge => ?_)
   ·have hkl : k + 1 < s.length := by omega
    have hb : s[k]? = some s[k] := List.getElem?_eq_getElem (by omega)
    refine idS hb (neU (cndI (fun hd => ?_) fun hd => hold.2 ?_))
    ·have h0 : s[k]? ≠ some 46 := by rw [hb]; simpa using hd
     refine addI (by omega) ?_
     rw [show ((k : Nat) : Int) + 1 = ((k + 1 : Nat) : Int) by omega]
     refine slS ⟨by omega,by omega⟩ (good118 hJ ?_)
     rw [List.drop_take]
     have hge := Lib.indexByte_ge ((s.drop (k + 1)).take (s.length - 1 - (k + 1))) 46
     refine lssI (cndI (fun hneg => ?_) fun hpos => ?_)
     ·rw [Lib.index_skip_none (t := s.length - 1) (sub := dd) (c := 46) (tl := [46]) rfl hno h0 (by rw [hl2]; omega) (by omega)] at hK
      exact retL_same (by simp [unk]) hK
     ·obtain ⟨o,ho⟩ : ∃ o : Nat,Lib.indexByte ((s.drop (k + 1)).take (s.length - 1 - (k + 1))) 46 = o := ⟨(Lib.indexByte ((s.drop (k + 1)).take (s.length - 1 - (k + 1))) 46).toNat,by omega⟩
      obtain ⟨n1,n2,n3⟩ := Lib.noOcc_skip (t := s.length - 1) (sub := dd) (c := 46) (tl := [46]) rfl hno h0 ho
      rw [ho]
      refine addI (by omega) (addI (by omega) (hold.2 ?_))
      rw [show ((k : Nat) : Int) + ((o : Int) + 1) = ((k + o + 1 : Nat) : Int) by omega]
      exact ix_4 hJ hm hs (k := k + o + 1) (fl := fl) ⟨R.ds,R.r0,R.r1,R.r5,R.r6,R.r7,rfl,R.r9,R.r10⟩ (by omega) (by omega) n1 n2 (fun F' R' hno' => ⟨(k + o + 1 + 1,fl + 1),by dsimp only; omega,.inl ⟨rfl,R',by dsimp only; omega,by dsimp only; omega,hno'⟩⟩) hK
    ·have h0 : s[k]? = some 46 := by
      rw [hb]
      congr 1
      exact Decidable.not_not.1 hd
     exact ix_4 hJ hm hs (k := k) (fl := fl) ⟨R.ds,R.r0,R.r1,R.r5,R.r6,R.r7,R.r8,R.r9,R.r10⟩ (by omega) hkl hno h0 (fun F' R' hno' => ⟨(k + 1,fl + 1),by dsimp only; omega,.inl ⟨rfl,R',by dsimp only; omega,by dsimp only; omega,hno'⟩⟩) hK
   ·rw [Lib.index_past (i := k) (by simp [dd]) hno (by rw [hl2]; omega)] at hK
    exact retL_same (by simp [unk]) hK
 refine max_ld hm (leqI (cndI (fun h2 => lenStr (s := s) (leqI (hold.2 ?_))) fun _ => hold.2 ?_))
 ·exact main2 _ rfl rfl rfl rfl _ rfl fun _ => by rw [hl2] at h2; exact h2
 ·exact main2 _ rfl rfl rfl rfl false rfl fun h => by cases h
theorem cut2_index : ∀ s : List UInt8,(cut2 s = none ∧ Lib.index s dd = -1) ∨ ∃ i : Nat,Lib.index s dd = i ∧ i + 2 ≤ s.length ∧ cut2 s = some (s.take i,s.drop (i + 2))
 | [] => .inl ⟨rfl,rfl⟩
 | b :: r => by
  have ih := cut2_index r
  unfold cut2 Lib.index
  by_cases h : b = 46 ∧ r.head? = some 46
  ·rw [if_pos h]
   obtain ⟨rfl,h2⟩ := h
   cases r with
   | nil => cases h2
   | cons c r =>
    simp at h2
    subst h2
    refine .inr ⟨0,?_,by simp,by simp⟩
    rw [if_pos (by simp [dd,List.isPrefixOf])]
    rfl
  ·rw [if_neg h]
   have hp : dd.isPrefixOf (b :: r) = false := by
    cases r with
    | nil => simp [dd,List.isPrefixOf]
    | cons c r =>
     simp only [dd,List.isPrefixOf,Bool.and_eq_false_iff,beq_eq_false_iff_ne]
     simp only [List.head?_cons,Option.some.injEq,not_and] at h
     by_cases hb : b = 46
     ·exact .inr (.inl fun e => h hb e.symm)
     ·exact .inl fun e => hb e.symm
   rw [if_neg (by simp [hp])]
   rcases ih with ⟨h1,h2⟩ | ⟨i,h1,h2,h3⟩
   ·left
    rw [h1,h2]
    exact ⟨rfl,rfl⟩
   ·right
    refine ⟨i + 1,?_,by simp; omega,?_⟩
    ·rw [h1,if_neg (by simp)]
     rfl
    ·rw [h3]
     simp
theorem good102 (hJ : Closed prog main J) (hm : MaxAt H m) (hs : s.length ≤ 2000) (k1 : ∀ a b,cut2 s = some (a,b) → a.length ≤ s.length → b.length ≤ s.length → K (.tuple ⟨[strV a,strV b,.bool true]⟩) H) (k2 : cut2 s = none → K (.tuple ⟨[strV s,strV [],.bool false]⟩) H) :
  Good prog J 102 [strV s,strV dd] H K := by
 refine g102 hJ fun ok => ?_
 rw [e102]
 refine good113d hJ hm hs ?_
 rcases cut2_index s with ⟨h1,h2⟩ | ⟨i,h1,h2,h3⟩
 ·rw [h2]
  refine geqI (cndI (fun h => absurd h (by decide)) fun _ => retL_same (by simp [unk,strV]) (k2 h1))
 ·rw [h1]
  refine geqI (cndI (fun _ => ⟨[],lenStr (s := dd) ⟨trivial,addI (by simp [dd]; omega) ?_⟩⟩) fun h => absurd (Int.natCast_nonneg i) h)
  rw [show ((i : Nat) : Int) + ((dd.length : Nat) : Int) = ((i + 2 : Nat) : Int) by simp [dd]]
  have fin := k1 _ _ h3 (by simp; omega) (by simp)
  exact ⟨slTo' (by omega) ⟨fun _ _ => rfl,slFr' h2 ⟨fun _ _ => rfl,retL_same (by simp [unk,strV]) fin⟩⟩,slFr' h2 ⟨fun _ _ => rfl,slTo' (by omega) ⟨fun _ _ => rfl,retL_same (by simp [unk,strV]) fin⟩⟩⟩
theorem good86 (hJ : Closed prog main J) (hm : MaxAt H m) (hs : s.length ≤ 2000) (k1 : ∀ a b,cut2 s = some (a,b) → a.length ≤ s.length → b.length ≤ s.length → K (.tuple ⟨[strV a,strV b,.bool true]⟩) H) (k2 : cut2 s = none → K (.tuple ⟨[strV s,strV [],.bool false]⟩) H) :
  Good prog J 86 [strV s,strV dd] H K := by
 refine g86 hJ fun ok => ?_
 rw [e86]
 exact good102 hJ hm hs (fun a b h1 h2 h3 => ext30 (ext31 (ext32 (retL_same (by simp [unk,strV]) (k1 a b h1 h2 h3))))) fun h => ext30 (ext31 (ext32 (retL_same (by simp [unk,strV]) (k2 h))))
end
end Go.Proofs.YtlladcglhjlbpaaGreatDoor
