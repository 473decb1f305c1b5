/- WellFirst answers true at every input, and its argument reads behind the call as it read before. No conditions. -/
import Derived.Test.YtindillghipjjaaK3
import Derived.Below
import Derived.Test.YtindillghipjjaaK2
import Derived.Test.YtindillghipjjaaRows
import Derived.Conc.LeavingOf
import Derived.ChangeSlices
import Derived.OpenShut
import Derived.Carry
import Derived.Test.YtindillghipjjaaK5

namespace Go.Proofs.Ytindillghipjjaa
open Go.Conc
section
variable {P : Program} {W0 : World} {Post : Value → World → Prop} {ρ : Env} {h : List AObj} {FC : Frm} {w : World} {ft : Foot} {f : RG} {a : Act} {b : FB} {K : Value → List AObj → Prop} {n0 : Nat}
theorem leave_top {fn : Func} (hk : b.kind = .normal) (hf : P.funcs[b.fn]? = some fn) (hin : P.inits.idxOf? b.fn = none)
    (hc : ∀ v h' ρ' w' ft' cv, K v h' → HRel ρ' h' FC w' ft' → Env.upto n0 ρ ρ' → n0 ≤ h'.length → VRel h'.length ρ' v cv → Base W0 w' → Post cv w') :
    ∀ (ds : List Nat) (h : List AObj) (w : World) (ft : Foot) (a : Act) (fr : Frame), fr.fn = b.fn → fr.kind = .normal → fr.mode = .returning → fr.tmps = a.tmps → fr.defers = ds.map (fun d => { target := .collected (ρ.blk d), args := #[] }) → RegRel h.length ρ f.r a.tmps → HRel ρ h FC w ft → n0 ≤ h.length →
      takeW ds h (fun h => resW P fn.results.toList f.r h fun vs => K (pack vs) h ∨ ∃ σ h' v, GC n0 σ h h' ∧ pack vs = sub σ v ∧ VOk h'.length v ∧ K v h') → J1 P W0 Post (G fr []) w ft
  | [], h, w, ft, a, fr, e1, e2, e3, e4, e5, hr, H, hn, hq => by
    obtain ⟨fn', tmps, todo, defers, mode, kind, ro⟩ := fr
    simp only at e1 e2 e3 e4 e5
    subst e1 e2 e3 e4 e5
    refine J1.both rfl fun w₁ h₁ hbase => .inr ?_
    have H₁ := H.rely h₁
    have hrun : RunsTo P (EvOk ft) (results fn a.tmps) w₁ fun cv w' => w' = w₁ ∧ ∃ vs, cv = ren ρ (pack vs) ∧ (∀ v ∈ vs, VOk h.length v) ∧ (K (pack vs) h ∨ ∃ σ h' v, GC n0 σ h h' ∧ pack vs = sub σ v ∧ VOk h'.length v ∧ K v h') := by
      unfold results
      have : (fn.results.mapM (resF a.tmps)) = List.toArray <$> fn.results.toList.mapM (resF a.tmps) := by
        rw [Array.mapM_eq_mapM_toList]
      show RunsTo P (EvOk ft) (do
        let vs ← fn.results.mapM (resF a.tmps)
        pure (if h : vs.size = 1 then vs[0] else .tuple vs)) w₁ _
      rw [this]
      refine RunsTo.bind (RunsTo.map (res_run (n := 0) H₁ hr fn.results.toList hq fun vs hvs hok => RunsTo.pure ⟨rfl, vs, ?_, hok, hvs⟩))
      exact pack_ren vs
    obtain ⟨cv, w', es, hr', he, rfl, vs, rfl, hvok, hvs⟩ := hrun #[] (by simp)
    have hes : ∀ e ∈ seen P b.fn es, EvOk ft e := fun e hm => he e (mem_seen hm)
    refine ⟨ren ρ (pack vs), seen P b.fn es, ?_, hes, ?_⟩
    · simp only [G, stepG, unwind, List.map_nil, hf, hr']
      simp [doReturn, GStep.after, hin]
    · rcases hvs with hK | ⟨σ, h', v, g, hp, hok, hK⟩
      · exact hc _ h _ w' ft _ hK H₁ (Env.upto_refl _ _) hn (.inr ⟨pack_ok hvok, rfl⟩) hbase
      · rw [hp, ren_sub]
        exact hc v h' _ w' ft _ hK (g.rel H₁) g.upto g.le (.inr ⟨hok, rfl⟩) hbase
  | d :: ds, h, w, ft, a, fr, e1, e2, e3, e4, e5, hr, H, hn, hq => by
    obtain ⟨fn', tmps, todo, defers, mode, kind, ro⟩ := fr
    simp only at e1 e2 e3 e4 e5
    subst e1 e2 e3 e4 e5
    obtain ⟨hd, hq⟩ := hq
    refine (J1.closed P W0 Post).step rfl fun w₁ h₁ => ?_
    have H₁ := H.rely h₁
    obtain ⟨cv, w', es, hr', he, rfl, H', hst, hsz⟩ := take_run (P := P) H₁ hd (Q := fun l w' => l = [] ∧ HRel ρ (h.set d .dead) FC w' ft ∧ Stays ft w₁ w' ∧ w'.heap.size = w₁.heap.size) (fun w' a1 a2 a3 => ⟨rfl, a1, a2, a3⟩) #[] (by simp)
    have hes : ∀ e ∈ seen P b.fn es, EvOk ft e := fun e hm => he e (mem_seen hm)
    refine ⟨G { fn := b.fn, tmps := a.tmps, todo := todo, defers := ds.map (fun d => { target := .collected (ρ.blk d), args := #[] }), mode := .returning, kind := .normal, roundOf := ro } [], w', seen P b.fn es, ?_, rfl, hst.guar hes, ?_⟩
    · simp only [G, stepG, unwind, List.map_cons, hr']
      simp [GStep.after]
    · rw [hsz, Foot.ext_self]
      exact leave_top hk hf hin hc ds _ w' ft a _ rfl rfl rfl rfl rfl (by rw [List.length_set]; exact hr) H' (by rw [List.length_set]; exact hn) hq

theorem top_of_W (hm : P.follows .mixedOrders = true) {g : FuncId} {fn : Func} (hf : P.funcs[g]? = some fn) {c : Code} (hb : fn.body = some c) (hin : P.inits.idxOf? g = none) {args : List Value} {cargs : Array Value} (ha : args.length ≤ fn.ntmps) (hl : cargs.size = args.length)
    (hr : ∀ i : Nat, VRel h.length ρ (args.getD i unk) (cargs.toList.getD i undef)) (H : HRel ρ h FC w ft)
    (hs : W P (J1 P W0 Post) fn.ntmps h.length g c ⟨regs args, []⟩ h (RetQ P fn.results.toList h.length K))
    (hc : ∀ v h' ρ' w' ft' cv, K v h' → HRel ρ' h' FC w' ft' → Env.upto h.length ρ ρ' → h.length ≤ h'.length → VRel h'.length ρ' v cv → Base W0 w' → Post cv w') : J1 P W0 Post (G (Frame.enter P g cargs .normal) []) w ft := by
  have hJ := J1.closed P W0 Post
  obtain ⟨cargs⟩ := cargs
  simp only at hl hr
  have he : Frame.enter P g ⟨cargs⟩ .normal = FB.at ⟨g, .normal, none⟩ ⟨⟨cargs⟩ ++ Array.replicate (fn.ntmps - cargs.length) undef, []⟩ [.code c] := by
    simp [Frame.enter, FB.at, hf, hb]
  rw [he]
  have A : ActRel h.length ρ fn.ntmps ⟨regs args, []⟩ ⟨⟨cargs⟩ ++ Array.replicate (fn.ntmps - cargs.length) undef, []⟩ := by
    refine ⟨fun t => ?_, by simp at hl ⊢; omega, rfl, by simp⟩
    have := hr t
    have ht : ((⟨cargs⟩ : Array Value) ++ Array.replicate (fn.ntmps - cargs.length) undef).getD t undef = cargs.getD t undef := by
      rw [Array.getD_eq_getD_getElem?, List.getD_eq_getElem?_getD]
      by_cases hx : t < cargs.length
      · rw [Array.getElem?_append_left (by simpa using hx)]
        simp
      · rw [Array.getElem?_append_right (by simp; omega), List.getElem?_eq_none (by omega)]
        simp only [Array.getElem?_replicate]
        split <;> rfl
    rw [ht]
    exact this
  have last : ∀ f' h' ρ' w' ft' a' todo, RetQ P fn.results.toList h.length K .ret f' h' → ActRel h'.length ρ' fn.ntmps f' a' → HRel ρ' h' FC w' ft' → Env.upto h.length ρ ρ' → h.length ≤ h'.length →
      J1 P W0 Post (G { (FB.at ⟨g, .normal, none⟩ a' todo) with mode := .returning } []) w' ft' := by
    intro f' h' ρ' w' ft' a' todo q A' H' hu hl
    exact leave_top (b := ⟨g, .normal, none⟩) (f := f') (n0 := h.length) (ρ := ρ') rfl hf hin (fun v h2 ρ2 w2 ft2 cv k H2 u2 l2 v2 => hc v h2 ρ2 w2 ft2 cv k H2 (Env.upto_trans hu u2) l2 v2) f'.ds h' w' ft' a' _ rfl rfl rfl rfl A'.defers A'.regs H' hl q
  refine W_sound hJ hm c hs ⟨g, .normal, none⟩ _ [] [] (fun jump a w ft => jump = some .ret ∧ ∀ todo, J1 P W0 Post (G { (FB.at ⟨g, .normal, none⟩ a todo) with mode := .returning } []) w ft) ρ FC w ft rfl (by simp) ?_ A H (Nat.le_refl _) ?_
  · rintro jump a w ft todo ⟨rfl, hj⟩ hh
    rcases hh with ⟨_, k, rfl⟩ | ⟨id, k, e, _⟩ | ⟨e, _⟩
    · exact hJ.ctrl rfl rfl (fun w => by simp [G, stepG, stepG.exec, FB.at]) (hj (.code .ret :: k))
    · cases e
    · cases e
  · intro e f' h' ρ' w' ft' a' q A' H' hu hl
    cases e with
    | normal => exact hJ.ctrl rfl rfl (fun w => by simp [G, stepG, stepG.exec, FB.at]) (last f' h' ρ' w' ft' a' [] q A' H' hu hl)
    | ret => exact ⟨rfl, fun todo => last f' h' ρ' w' ft' a' todo q A' H' hu hl⟩
    | exit id => exact q.elim
    | goto l => exact q.elim
    | panic l => exact q.elim
    | outgrown => exact q.elim

theorem run_of_J1 {g : Goroutine} {w : World} {ft : Foot} (h : J1 P W0 Post g w ft) (hb : ∀ b, ft.rd b → b < w.heap.size) (hs : ∀ b, ft.wr b → ft.rd b) (hw : W0 = w) : Ends P Post (solo g w) #[] := by
  rw [solo_eq_crowd]
  exact h #[g] w none #[] (fun _ => 0) hb hs (RelyW.refl _ _) (by subst hw; exact ⟨rfl, rfl, rfl, Nat.le_refl _⟩) rfl (leavers_one P g) (past_nil.mono (Nat.zero_le _))
end
end Go.Proofs.Ytindillghipjjaa

namespace Go.Proofs.Ytindillghipjjaa
open Go.Conc Go.RowKit
def idEnv : Env := ⟨fun b => b, fun _ => 0⟩
def startFt (w : World) : Foot := ⟨fun b => b < w.heap.size, fun _ => False⟩
def startFC (w : World) : Frm := ⟨fun b => w.heap[b]?, fun _ => False⟩

def Fine (n : Nat) (v : Value) : Prop := VOk n v ∧ one v = true ∧ ren idEnv v = v

open Classical in
noncomputable def clean (n : Nat) (v : Value) : Value := if Fine n v then v else unk

noncomputable def absO (n : Nat) : Obj → AObj
  | .cells c _ _ => .cells (c.toList.map (clean n)) false 0
  | _ => .dead

noncomputable def absH (w : World) : List AObj := w.heap.toList.map (absO w.heap.size)

section
variable {w w' : World} {n : Nat}
theorem clean_fine {v : Value} (h : Fine n v) : clean n v = v := by simp [clean, h]
theorem absH_len : (absH w).length = w.heap.size := by simp [absH]
theorem absH_get {b : Nat} : (absH w)[b]? = (w.heap[b]?).map (absO w.heap.size) := by simp [absH]

theorem absO_wrt (x : Obj) : (absO n x).wrt = false := by cases x <;> rfl

theorem start_rel (w : World) : HRel idEnv (absH w) (startFC w) w (startFt w) where
  obj := fun b o hb => by
    rw [absH_get] at hb
    obtain ⟨x, hx, rfl⟩ := Option.map_eq_some_iff.1 hb
    show ORel (absH w).length idEnv b (absO w.heap.size x) w.heap[b]?
    rw [absH_len, hx]
    cases x with
    | cells c ty fr =>
      refine ⟨fun i v hv => ?_, fun _ => by simp, fun hz => absurd rfl hz, fun e => by cases e⟩
      rw [List.getElem?_map] at hv
      obtain ⟨u, hu, rfl⟩ := Option.map_eq_some_iff.1 hv
      by_cases hf : Fine w.heap.size u
      · rw [clean_fine hf]
        exact .inr ⟨hf.1, hf.2.1, by rw [hf.2.2]; simpa using hu⟩
      · exact .inl ⟨by simp [clean, hf], rfl⟩
    | _ => trivial
  inj := fun b b' o o' _ _ _ _ e => e
  rd := fun b o hb _ => by
    have : b < (absH w).length := (List.getElem?_eq_some_iff.1 hb).1
    rw [absH_len] at this
    exact this
  wr := fun b o hb hw => by
    rw [absH_get] at hb
    obtain ⟨x, hx, rfl⟩ := Option.map_eq_some_iff.1 hb
    rw [absO_wrt] at hw
    cases hw
  lt := fun b hb => hb
  sub := fun b hb => hb.elim
  kept := fun b o hb => by
    refine ⟨hb, ?_, fun a oa ha hw => ?_⟩
    · exact (Array.getElem?_eq_some_iff.1 hb).1
    · rw [absH_get] at ha
      obtain ⟨x, hx, rfl⟩ := Option.map_eq_some_iff.1 ha
      rw [absO_wrt] at hw
      cases hw
  keptW := fun b hb => hb.elim

theorem absH_cell {b o : Nat} {v : Value} (hc : w.cell? ⟨b, o, none⟩ = some v) (hf : Fine w.heap.size v) : ∃ c, (absH w)[b]? = some (.cells c false 0) ∧ c[o]? = some v := by
  unfold World.cell? at hc
  simp only at hc
  split at hc
  · rename_i c ty fr hx
    refine ⟨c.toList.map (clean w.heap.size), by rw [absH_get, hx]; rfl, ?_⟩
    have hc' : c[o]? = some v := by simpa using hc
    rw [List.getElem?_map, Array.getElem?_toList, hc']
    simp [clean_fine hf]
  · cases hc

theorem below_of {ρ' : Env} {h' : List AObj} {ft' : Foot} (H : HRel ρ' h' (startFC w) w' ft') (B : Base w w') : Below w.heap.size w w' :=
  ⟨B.os, B.tape, B.output, B.size, fun k hk => by
    have : (startFC w).ob k = some w.heap[k] := by simp [startFC, hk]
    rw [(H.kept k _ this).1, Array.getElem?_eq_getElem hk]⟩
end
end Go.Proofs.Ytindillghipjjaa

namespace Go.Proofs.Ytindillghipjjaa
open Go.Conc Go.ChangeShapes Go.WideShapes Go.ChangeAt Go.RowKit Go.Proofs.Try
set_option maxRecDepth 100000
theorem own : ownKnob prog.godebug = none := by kernel_rfl
theorem laidOut : laidOutB prog = true := by kernel_rfl

def ArgOk (W : World) (v : Value) : Prop := VOk W.heap.size v ∧ ren idEnv v = v

theorem law_run1 {g : FuncId} {fn : Func} {c : Code} (hf : prog.funcs[g]? = some fn) (hb : fn.body = some c) (hin : prog.inits.idxOf? g = none) (W₀ : World) (args : List Value) (ha : args.length ≤ fn.ntmps) (hok : ∀ v ∈ args, ArgOk W₀ v)
    (walk : ∀ Post, W prog (J1 prog W₀ Post) fn.ntmps (absH W₀).length g c ⟨regs args, []⟩ (absH W₀) (RetQ prog fn.results.toList (absH W₀).length fun v _ => v = .bool true)) :
    Ends prog (fun v w' => v = .bool true ∧ Below W₀.heap.size W₀ w') (solo (G (Frame.enter prog g ⟨args⟩ .normal) []) W₀) #[] := by
  refine run_of_J1 (W0 := W₀) (ft := startFt W₀) (top_of_W mixed hf hb hin ha rfl (fun i => ?_) (start_rel W₀) (walk _) ?_) (fun b hb => hb) (fun b hb => hb.elim) rfl
  · show VRel (absH W₀).length idEnv (args.getD i unk) (args.getD i undef)
    simp only [List.getD_eq_getElem?_getD]
    cases hi : args[i]? with
    | none => exact .inl rfl
    | some v =>
      obtain ⟨h1, h2⟩ := hok v (List.mem_of_getElem? hi)
      exact .inr ⟨by rw [absH_len]; exact h1, h2.symm⟩
  · intro v h' ρ' w' ft' cv hv H' _ _ hcv hB
    subst hv
    refine ⟨?_, below_of H' hB⟩
    rcases hcv with e | ⟨_, e⟩
    · cases e
    · rw [e]
      rfl

section
variable {H : Type} {enc : TypeId × Value → H}
theorem arg_ints {t e : TypeId} (ht : prog.underlying t = some (.slice e)) (he : prog.underlying e = some (.int .i64)) (hc : prog.cellsOf e = 1) {W : World} {base : Nat} {v : Value} {d : DataW H} {ps : List MemPlace}
    (hval : Value.okWide prog W .any base t v) (hd : DataW.Trod enc prog W 0 (fun _ => true) true t v d ps) :
    ∃ zs : List Int, Sli (absH W) v 1 zs.length (zs.map vint) ∧ ArgOk W v ∧ (zs = [] ∨ ∃ es sp, d = .slice es sp ∧ zs.length ≤ es.length + sp.length) := by
  obtain ⟨a0, len, cap, rfl⟩ := okWide_slice ht hval
  obtain ⟨fuel, hf⟩ := hd
  rcases open_ints ht he hc hf with ⟨hcs, hx⟩ | ⟨a, len', cap', zs, hcs, _, hl, hm, hz, hx, hcell, hwz⟩
  · simp [Value.cells] at hcs
    obtain ⟨rfl, rfl, rfl⟩ := hcs
    exact ⟨[], sli_nil, ⟨by simp [VOk], by simp [ren]⟩, .inl rfl⟩
  · simp [Value.cells] at hcs
    obtain ⟨rfl, rfl, rfl⟩ := hcs
    simp only [Prod.mk.injEq] at hx
    obtain ⟨rfl, rfl⟩ := hx
    simp only [if_true] at hz
    simp only [Value.okWide, ht, Cell.okWide, Cell.ok, World.has] at hval
    obtain ⟨_, _, _, hspot, row, cells, hshape, _⟩ := hval
    obtain ⟨b, o, spot⟩ := a
    simp only at hspot hshape
    subst hspot
    have hb : b < W.heap.size := by
      unfold World.shape? at hshape
      split at hshape
      · rename_i h
        exact (Array.getElem?_eq_some_iff.1 h).1
      · cases hshape
    have hlen : (zs.take len).length = len := by simp; omega
    have hcell' : ∀ i, i < zs.length → W.cell? ⟨b, o + i, none⟩ = some (vint (zs.getD i 0)) := by
      intro i hi
      have := hcell i hi
      unfold Addr.add at this
      by_cases h0 : i = 0
      · subst h0; simpa using this
      · simpa [h0] using this
    have hmax : cap < fz := by
      simp only [maxLen] at hm
      unfold fz
      omega
    refine ⟨zs.take len, ?_, ⟨by simp only [VOk, AddrOk]; exact ⟨hb, trivial⟩, ?_⟩, .inr ⟨_, _, rfl, ?_⟩⟩
    · refine ⟨some ⟨b, o, none⟩, cap, by rw [hlen], ⟨by simp, kn_ints _⟩, .inr ⟨b, o, rfl, ?_⟩⟩
      rw [hlen]
      by_cases h0 : len = 0
      · exact .inl h0
      · right
        have fine : ∀ n : Int, Fine W.heap.size (vint n) := fun n => ⟨by simp [VOk], rfl, by simp [ren]⟩
        obtain ⟨c, hc1, hc2⟩ := absH_cell (hcell' 0 (by omega)) (fine _)
        refine ⟨c, false, 0, hc1, ?_⟩
        apply List.ext_getElem?
        intro i
        rw [Nat.mul_one]
        by_cases hi : i < len
        · obtain ⟨c', hc1', hc2'⟩ := absH_cell (hcell' i (by omega)) (fine _)
          rw [hc1] at hc1'
          cases hc1'
          rw [List.getElem?_take, if_pos hi, List.getElem?_drop, hc2']
          have hzi : i < zs.length := by omega
          simp [hi, hzi]
        · rw [List.getElem?_take, if_neg hi, List.getElem?_eq_none (by simp; omega)]
    · have hnf : ¬ fz ≤ cap := by omega
      simp [ren, renAddr, renCap, idEnv, hnf]
    · simp only [lits, List.length_map, List.length_take, List.length_drop]
      omega
end
end Go.Proofs.Ytindillghipjjaa

namespace Go.Proofs.Ytindillghipjjaa
open Go.Conc Go.ChangeShapes Go.WideShapes Go.ChangeAt Go.RowKit Go.Proofs.Try
set_option maxRecDepth 100000
theorem lifted7 (os : Os) (started : os.Started) (H : Type) (enc : TypeId × Value → H) :
    ReturnsInLeavingWide {} checked os 7 .any (Rows.wellFirstSpec.pre6 enc prog f7 Rows.wellFirstRow.domain false) (Rows.wellFirstSpec.post enc prog f7 false true false false) := by
  refine returnsInLeavingWide_of_change_sized (C := checked) own started at7
    (ChangeSpec.witness6 (enc := enc) (C := checked) false ⟨#[], #[.slice none 0 0], []⟩ 8 (by kernel_rfl) (by kernel_rfl) (by kernel_rfl) (by kernel_rfl)) ?_
  intro W base args ds gs before hval0 hW _ hsz0 _
  have hsz : (DataW.weightsEach prog (f7.params.toList ++ Rows.wellFirstSpec.plain.varTypes prog) (ds ++ gs)).all (· ≤ reachBytes) = true := hsz0
  clear hsz0
  have hval : ∀ (j : Nat) t v, f7.params[j]? = some t → args[j]? = some v → Value.okWide prog W .any base t v := hval0
  have hW' := hW
  obtain ⟨p, q, hA0, hV, rfl, _, _⟩ := hW
  have hA : DataW.TrodAll enc prog W 0 (fun _ => true) true f7.params.toList args.toList ds p := hA0
  have hps : f7.params = #[27] := by kernel_rfl
  rw [hps] at hA hval hsz
  obtain ⟨v0, d0, rfl, rfl, h0⟩ := trodAll_one hA
  obtain ⟨rfl, rfl⟩ := trodVars_none hV
  have u3 : prog.underlying 3 = some (.int .i64) := by kernel_rfl
  have u27 : prog.underlying 27 = some (.slice 3) := by kernel_rfl
  have u4 : prog.underlying 4 = some .bool := by kernel_rfl
  have c3 : prog.cellsOf 3 = 1 := by kernel_rfl
  have b3 : prog.bytesOf 3 = 8 := by kernel_rfl
  have hlt : ∀ x ∈ p, x.block < W.heap.size := fun x hx => by simpa using hW'.lt x (by simpa using hx)
  have hargs : ∀ (W' : World), Below W.heap.size W W' → DataW.TrodAll enc prog W' 0 (fun b => decide (b < W.heap.size)) true [27] [v0] [d0] p := fun W' hn =>
    trodAll_mk1 (Below.trod laidOut (by kernel_rfl) (of_decide_eq_true (by kernel_rfl)) h0 hn hlt)
  obtain ⟨ns, sn, ok2, hbig⟩ := arg_ints u27 u3 c3 (hval 0 27 v0 rfl rfl) h0
  have hln : ns.length < 4611686018427387904 := by
    rcases hbig with rfl | ⟨es, sp, rfl, hle⟩
    · simp
    · have := sized_slice hsz (j := 0) (t := 27) (e := 3) rfl rfl u27
      rw [b3] at this
      simp only [reachBytes] at this
      omega
  obtain ⟨M, last, o, w', t', r1, r2, r3, r4⟩ := law_run1 (g := 7) (fn := f7) at7 body7 (by kernel_rfl) W [v0] (Nat.le_of_ble_eq_true (by kernel_rfl : Nat.ble 1 f7.ntmps = true))
    (by
      intro v hv
      simp only [List.mem_cons, List.not_mem_nil, or_false] at hv
      subst hv
      exact ok2)
    (fun Post => walk7 (K := fun v _ => v = .bool true) sn hln fun _ => rfl)
  refine ⟨M, last, o, w', t', r1, r2, r3, r4.mono fun v hF => ?_⟩
  obtain ⟨rfl, hbelow⟩ := hF
  refine ⟨_, _, _, [], _, [], hW', ?_, hargs _ hbelow, by rfl, hbelow.frame _, fun h => by cases h⟩
  exact trodAll_mk1 (shut_bool u4 true)

theorem wellFirst_holds : Rows.WellFirstSaid :=
  OpenClaim.holds_of_wide_leaving 7 f7 rfl rfl rfl rfl rfl rfl rfl ⟨rfl, rfl, rfl, rfl, rfl⟩ rfl rfl rfl rfl rfl (by kernel_rfl) at7 (by kernel_rfl)
    (of_decide_eq_true (by kernel_rfl)) (by unfold Func.isWrapper; first | (rw [if_pos (by decide +kernel)]; kernel_rfl) | (rw [if_neg (by decide +kernel)]; exact ⟨rfl, rfl⟩))
    (fun os started H enc _ => lifted7 os started H enc)

#print axioms wellFirst_holds
end Go.Proofs.Ytindillghipjjaa
