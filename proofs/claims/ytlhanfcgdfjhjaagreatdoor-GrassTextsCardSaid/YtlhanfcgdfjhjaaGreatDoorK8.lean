/- The card of GrassTexts: it answers true at every input, its arguments read as before, and what its row lists is tied to the program's text. -/
import Derived.Test.YtlhanfcgdfjhjaaGreatDoorK7
import Derived.Test.YtlhanfcgdfjhjaaGreatDoorK3
import Derived.Deep.Slices
import Derived.Test.YtlhanfcgdfjhjaaGreatDoorK6
import Derived.LaidLaws
import Derived.LaidHandle
import Derived.Deep.DeepLaidRun
import Derived.ChangeMaps5
import Derived.JoinedOf
import Derived.Test.YtlhanfcgdfjhjaaGreatDoorTie
import Derived.Test.YtlhanfcgdfjhjaaGreatDoorCards
import Derived.SevenTiedAt
namespace Go.Proofs.YtlhanfcgdfjhjaaGreatDoor
open Go.Conc Go.ChangeShapes Go.WideShapes Go.ChangeAt Go.RowKit Go.Proofs.Tryz
set_option maxRecDepth 100000
theorem trodAll_cons {H : Type} {enc : TypeId × Value → H} {P : Program} {w : World} {base : Nat} {spare : Nat → Bool} {held : Bool} {t : TypeId} {ts : List TypeId} {vs : List Value} {ds : List (DataW H)} {ps : List MemPlace}
  (h : DataW.TrodAll enc P w base spare held (t :: ts) vs ds ps) : ∃ v vs' d ds' p q,vs = v :: vs' ∧ ds = d :: ds' ∧ ps = p ++ q ∧ DataW.Trod enc P w base spare held t v d p ∧ DataW.TrodAll enc P w base spare held ts vs' ds' q := by
 match vs,ds,h with
 | v :: vs,d :: ds,⟨p,q,h1,h2,h3⟩ => exact ⟨v,vs,d,ds,p,q,rfl,rfl,h3,h1,h2⟩
theorem trodAll_nil {H : Type} {enc : TypeId × Value → H} {P : Program} {w : World} {base : Nat} {spare : Nat → Bool} {held : Bool} {vs : List Value} {ds : List (DataW H)} {ps : List MemPlace}
  (h : DataW.TrodAll enc P w base spare held [] vs ds ps) : vs = [] ∧ ds = [] ∧ ps = [] := by
 match vs,ds,h with
 | [],[],h => exact ⟨rfl,rfl,h⟩
theorem dE {H : Type} {enc : TypeId × Value → H} {P : Program} {w : World} {base : Nat} {spare : Nat → Bool} {held : Bool} {t : TypeId} {ts : List TypeId} {v : Value} {vs : List Value} {d : DataW H} {ds : List (DataW H)} {p q : List MemPlace}
 (h1 : DataW.Trod enc P w base spare held t v d p) (h2 : DataW.TrodAll enc P w base spare held ts vs ds q) : DataW.TrodAll enc P w base spare held (t :: ts) (v :: vs) (d :: ds) (p ++ q) := ⟨p,q,h1,h2,rfl⟩
section
variable {H : Type} {enc : TypeId × Value → H}
theorem fine_int {m : Nat} {n : Int} : Fine m (ab n) := ⟨by simp [VOk],rfl,by simp [ren]⟩
theorem trod_vint {W : World} {n : Nat} {cs : List Value} {r : DataW H × List MemPlace} {t : TypeId} (u : prog.underlying t = some (.int .i64)) (h : DataW.trod enc prog W 0 (fun _ => true) true n t cs = some r) : ∃ z,cs = [ab z] := by
 obtain ⟨z,h1,_⟩ := DataW.trod_int u h
 exact ⟨z,h1⟩
end
section
variable {H : Type} {enc : TypeId × Value → H} {W : World} {n base : Nat} {cs : List Value} {r : DataW H × List MemPlace}
def structOf : Option TypeDesc → Option (List (TypeId × Nat))
 | some (.struct fs) => some (fs.toList.map fun f => (f.type,f.offset))
 | _ => none
theorem trod_fields {t : TypeId} {l : List (TypeId × Nat)} (hs : structOf (prog.underlying t) = some l) (h : DataW.trod enc prog W 0 (fun _ => true) true n t cs = some r) :
  cs.length = prog.cellsOf t ∧ ∃ n' : Nat,∀ (i : Nat) (ty : TypeId) (off : Nat),l[i]? = some (ty,off) → ∃ r',DataW.trod enc prog W 0 (fun _ => true) true n' ty ((cs.drop off).take (prog.cellsOf ty)) = some r' := by
 unfold structOf at hs
 split at hs
 ·rename_i fs hu
  cases hs
  obtain ⟨xs,n',_,rfl,hl,hxl,hf⟩ := DataW.trod_struct hu h
  refine ⟨hl,n',fun i ty off hi => ?_⟩
  rw [List.getElem?_map,Option.map_eq_some_iff] at hi
  obtain ⟨f,hfi,he⟩ := hi
  cases he
  have hfi' : fs[i]? = some f := by simpa using hfi
  have hil : i < xs.length := by rw [hxl]; exact (Array.getElem?_eq_some_iff.1 hfi').1
  exact ⟨xs[i],by rw [hf i f hfi',List.getElem?_eq_getElem hil]⟩
 ·cases hs
theorem lok_of : ∀ {l : List Value} {m : Nat},(∀ v ∈ l,VOk m v) → LOk m l
 | [],_,_ => by simp [LOk]
 | v :: l,m,h => by
  simp only [LOk]
  exact ⟨h v (by simp),lok_of fun u hu => h u (by simp [hu])⟩
theorem argOk_agg {l : List Value} (h : ∀ v ∈ l,ArgOk W v) : ArgOk W (.agg ⟨l⟩) := by
 refine ⟨?_,?_⟩
 ·simp only [VOk,AOk]
  exact lok_of fun v hv => (h v hv).1
 ·simp only [ren,cV,renL_eq]
  congr 2
  rw [List.map_congr_left (g := id) fun v hv => (h v hv).2,List.map_id]
theorem argOk_fine {v : Value} (h : ∀ m,Fine m v) : ArgOk W v := ⟨(h _).1,(h 0).2.2⟩
theorem agg_of {t : TypeId} {l : List (TypeId × Nat)} {v : Value} (hs : structOf (prog.underlying t) = some l) (hval : Value.okWide prog W .any base t v) : ∃ cs,v = .agg cs ∧ Row.okWide prog W .any base t cs := by
 unfold structOf at hs
 split at hs
 ·rename_i fs hu
  simp only [Value.okWide,hu] at hval
  obtain ⟨cs,h1,_,h3⟩ := hval
  exact ⟨cs,h1,h3⟩
 ·cases hs
end
section
variable {H : Type} {enc : TypeId × Value → H} {W : World} {base : Nat}
theorem arg_recs {t : TypeId} {m : Nat} (hs : structOf (prog.underlying t) = some ((List.range m).map fun i => (3,i))) (hc : prog.cellsOf t = m) {v : Value} {d : DataW H} {ps : List MemPlace}
  (hval : Value.okWide prog W .any base t v) (hd : DataW.Trod enc prog W 0 (fun _ => true) true t v d ps) : ∃ zs : List Int,zs.length = m ∧ v = .agg ⟨zs.map ab⟩ ∧ ArgOk W v := by
 have u3 : prog.underlying 3 = some (.int .i64) := by kernel_rfl
 have c3 : prog.cellsOf 3 = 1 := by kernel_rfl
 obtain ⟨cs,rfl,_⟩ := agg_of hs hval
 obtain ⟨cs⟩ := cs
 obtain ⟨fuel,hf⟩ := hd
 obtain ⟨hl,n',hf⟩ := trod_fields (cs := cs) hs hf
 rw [hc] at hl
 have hz : ∀ i,i < m → ∃ z,cs[i]? = some (ab z) := fun i hi => by
  obtain ⟨r',g⟩ := hf i 3 i (by rw [List.getElem?_map,List.getElem?_range hi]; rfl)
  rw [c3] at g
  obtain ⟨z,hz⟩ := trod_vint u3 g
  refine ⟨z,?_⟩
  have := congrArg (fun l => l[0]?) hz
  simpa [List.getElem?_take,List.getElem?_drop] using this
 have hall : ∀ v ∈ cs,∃ z,v = ab z := fun v hv => by
  obtain ⟨i,hi,rfl⟩ := List.getElem_of_mem hv
  obtain ⟨z,e⟩ := hz i (by omega)
  rw [List.getElem?_eq_getElem hi] at e
  exact ⟨z,Option.some.inj e⟩
 have key : ∀ (l : List Value),(∀ v ∈ l,∃ z,v = ab z) → ∃ zs : List Int,l = zs.map ab := by
  intro l
  induction l with
  | nil => exact fun _ => ⟨[],rfl⟩
  | cons v l ih =>
   intro h
   obtain ⟨z,rfl⟩ := h v (by simp)
   obtain ⟨zs,e⟩ := ih fun u hu => h u (by simp [hu])
   exact ⟨z :: zs,by rw [e]; rfl⟩
 obtain ⟨zs,rfl⟩ := key cs hall
 refine ⟨zs,by simpa using hl,rfl,argOk_agg fun v hv => ?_⟩
 obtain ⟨z,rfl⟩ := hall v hv
 exact argOk_fine fun m => fine_int
theorem arg_pas {v : Value} {d : DataW H} {ps : List MemPlace} (hval : Value.okWide prog W .any base 23 v) (hd : DataW.Trod enc prog W 0 (fun _ => true) true 23 v d ps) : ∃ w : Pas,v = .agg ⟨w.cells⟩ ∧ ArgOk W v := by
 obtain ⟨zs,hl,rfl,ok⟩ := arg_recs (m := 6) (by kernel_rfl) (by kernel_rfl) hval hd
 match zs,hl with
 | [a,b,c,d,e,f],_ => exact ⟨⟨a,b,c,d,e,f⟩,rfl,ok⟩
theorem arg_skyr {v : Value} {d : DataW H} {ps : List MemPlace} (hval : Value.okWide prog W .any base 25 v) (hd : DataW.Trod enc prog W 0 (fun _ => true) true 25 v d ps) : ∃ w : aU,v = .agg ⟨w.cells⟩ ∧ ArgOk W v := by
 obtain ⟨zs,hl,rfl,ok⟩ := arg_recs (m := 3) (by kernel_rfl) (by kernel_rfl) hval hd
 match zs,hl with
 | [a,b,c],_ => exact ⟨⟨a,b,c⟩,rfl,ok⟩
end
abbrev laidL : List (String × DataW Unit) := [("math/bits.deBruijn32tab", Rows.laid_math_bits_deBruijn32tab), ("math/bits.deBruijn64tab", Rows.laid_math_bits_deBruijn64tab), ("internal/strconv.uint64pow10", Rows.laid_internal_strconv_uint64pow10), ("unicode/utf8.acceptRanges", Rows.laid_unicode_utf8_acceptRanges), ("errors.errorType", Rows.laid_errors_errorType), ("unicode/utf8.first", Rows.laid_unicode_utf8_first)]
abbrev laidData : List (String × DataW Unit) := [("math/bits.deBruijn32tab", Rows.laid_math_bits_deBruijn32tab), ("math/bits.deBruijn64tab", Rows.laid_math_bits_deBruijn64tab), ("internal/strconv.uint64pow10", Rows.laid_internal_strconv_uint64pow10), ("unicode/utf8.acceptRanges", Rows.laid_unicode_utf8_acceptRanges), ("unicode/utf8.first", Rows.laid_unicode_utf8_first)]
theorem laid_split : laidL.filter (fun x => x.2.handleName?.isSome) = [("errors.errorType", Rows.laid_errors_errorType)] ∧ laidL.filter (fun x => x.2.handleName?.isNone) = laidData := ⟨by kernel_rfl, by kernel_rfl⟩
def cellsN : Nat → DataW Unit → List Value
 | 0,_ => []
 | n + 1,.agg ds => ds.flatMap (cellsN n)
 | _,.lit (.int k n) => [.int k n]
 | _,_ => []
def laySet (d : DataW Unit) : Obj → Obj
 | .cells _ t frozen => .cells ⟨cellsN 4 d⟩ t frozen
 | o => o
noncomputable def laySetE : Obj → Obj
 | .cells _ t frozen => .cells #[.iface 176 (.agg #[typeHandle prog 75])] t frozen
 | o => o
noncomputable def laidWorld (os : Os) (args : Array Value) : World :=
 let w0 := World.holding prog os ⟨#[],args,[]⟩
 { w0 with heap := (((((w0.heap.modify 0 laySetE).modify 1 (laySet Rows.laid_internal_strconv_uint64pow10)).modify 3 (laySet Rows.laid_math_bits_deBruijn32tab)).modify 4 (laySet Rows.laid_math_bits_deBruijn64tab)).modify 5 (laySet Rows.laid_unicode_utf8_first)).modify 6 (laySet Rows.laid_unicode_utf8_acceptRanges) }
theorem laid_parts {w : World} (h : laidMetH prog laidL w) : laidMet prog laidData w ∧ handlesMet prog [("errors.errorType", Rows.laid_errors_errorType)] w := by
 unfold laidMetH at h
 rw [laid_split.1,laid_split.2] at h
 exact h
theorem err_row : (List.range prog.types.size).all (fun t => !prog.rowNamed t [101,114,114,111,114] || t == 75) = true := by kernel_rfl
theorem err_cells {w : World} (h : laidMetH prog laidL w) : ∃ ty fr,w.heap[0]? = some (.cells #[.iface 176 (.agg #[typeHandle prog 75])] ty fr) := by
 have h1 := (laid_parts h).2 ("errors.errorType", Rows.laid_errors_errorType) (by simp)
 have e : (Rows.laid_errors_errorType : DataW Unit).funcsIn? = none := by kernel_rfl
 rw [e] at h1
 obtain ⟨name,u,ty,a1,a2,a3,a4,a5⟩ := h1
 have en : (Rows.laid_errors_errorType : DataW Unit).handleName? = some [101,114,114,111,114] := by kernel_rfl
 rw [en] at a1
 cases a1
 have eu : (prog.cutTypes.find? (·.1 == "internal/reflectlite.rtype")).map (·.2) = some 176 := by kernel_rfl
 rw [eu] at a2
 cases a2
 have et : ty = 75 := by
  have := List.all_eq_true.1 err_row ty (List.mem_range.2 a3)
  rw [a4] at this
  simpa using this
 subst et
 have hg0 : prog.globalNamed "errors.errorType" = some 0 := by kernel_rfl
 unfold World.var? at a5
 simp only at a5
 rw [hg0] at a5
 simp only [Option.bind_some] at a5
 split at a5
 ·rename_i c ty fr hw
  cases a5
  exact ⟨_,_,hw⟩
 ·cases a5
def toldE (n : Nat) : Nat → Option (List Value)
 | 0 => some [rtV n 75]
 | _ => none
theorem toldE_ok {w : World} {t0 : TypeId} {f0 : Nat × Nat} (h0 : w.heap[0]? = some (.cells #[.iface 176 (.agg #[typeHandle prog 75])] t0 f0)) :
  ∀ i c,toldE w.heap.size i = some c → i < w.heap.size → ∃ c' ty fr,w.heap[i]? = some (.cells c' ty fr) ∧ bZ (dX (toldE w.heap.size) gsz w).length (toldEnv w.heap.size gsz) i c false 0 c' fr := by
 intro i c hc _
 match i,hc with
 | 0,hc =>
  cases hc
  refine ⟨_,_,_,h0,fun j v hv => ?_,fun _ => rfl,fun hz => absurd rfl hz,fun e => by cases e⟩
  match j,hv with
  | 0,hv =>
   cases hv
   have hl := toldH_len (told := toldE w.heap.size) (g := gsz) (w := w)
   refine .inr ⟨by simp [VOk,AOk,LOk,bt,hl],rfl,?_⟩
   simp [ren,cV,dA,aO,env_mid,typeHandle,gsz]
theorem told_err {w : World} (h0 : 0 < w.heap.size) : ErrAt (dX (toldE w.heap.size) gsz w) := ⟨w.heap.size,toldH_mid,toldH_lo h0⟩
section
variable {told : Nat → Option (List Value)} {g : Nat} {w : World}
theorem law_run2T {f : FuncId} {fn : Func} {c : Code} (hf : prog.funcs[f]? = some fn) (hb : fn.body = some c) (hin : prog.inits.idxOf? f = none) (args : List Value) (ha : args.length ≤ fn.ntmps) (hok : ∀ v ∈ args,ArgOk w v)
  (ht : ∀ i c,told i = some c → i < w.heap.size → ∃ c' ty fr,w.heap[i]? = some (.cells c' ty fr) ∧ bZ (dX told g w).length (toldEnv w.heap.size g) i c false 0 c' fr)
  (walk : ∀ Post,W prog (J2 prog w Post) fn.ntmps (dX told g w).length f c ⟨ax (args.map (sub (shift w.heap.size))),[]⟩ (dX told g w) (aq prog fn.results.toList (dX told g w).length fun v _ => v = .bool true)) :
  Ends prog (fun v w' => v = .bool true ∧ Below w.heap.size w w') (solo (G (Frame.enter prog f ⟨args⟩ .normal) []) w) #[] := by
 refine run_of_J2 (W0 := w) (ft := startFt w) (top_of_W2 (args := args.map (sub (shift w.heap.size))) mixed hf hb hin (by rw [List.length_map]; exact ha) (by simp) (fun i => ?_) (told_rel ht) (walk _) ?_) (fun b hb => hb) (fun b hb => hb.elim) rfl
 ·show cS _ _ ((args.map (sub (shift w.heap.size))).getD i unk) (args.getD i undef)
  simp only [List.getD_eq_getElem?_getD,List.getElem?_map]
  cases hi : args[i]? with
  | none => exact .inl rfl
  | some v => exact told_arg (hok v (List.mem_of_getElem? hi))
 ·intro v h' ρ' w' ft' cv hv H' _ _ hcv hB
  subst hv
  refine ⟨?_,below_of H' hB⟩
  rcases hcv with e | ⟨_,e⟩
  ·cases e
  ·rw [e]
   rfl
end
section
variable {H : Type} {enc : TypeId × Value → H}
theorem leaving_told {a : Assume} {C : Checked} {os : Os} {f : FuncId} {fn : Func} {s : ChangeSpec} {conds : List PathCond} {apart fresh handsOn again : Bool} {X : World → Array Value → Prop}
  (own : ownKnob C.prog.godebug = none) (started : os.Started) (hfn : C.prog.funcs[f]? = some fn)
  (witness : ∃ (w : World) (tape : Tape) (i : Input),w.os = os ∧ (w.forCall tape i).Shaped C.prog ∧ i.vars = [] ∧ Input.okWide C.prog (w.forCall tape i) .any w.heap.size f i ∧
   ((s.pre enc C.prog fn conds apart (w.forCall tape i).memory i.args ∧ X (w.forCall tape i).memory i.args) ∧ sizedMet enc C.prog fn (OpenSpec.ofChange s) apart (w.forCall tape i).memory i.args) ∧ a.holds C.prog (lone (Frame.enter C.prog f i.args .normal) [] (w.forCall tape i)))
  (runs : ∀ (W : World) (base : Nat) (args : Array Value) (ds gs : List (DataW H)) (before : List MemPlace),W.ShapedOpen C.prog →
   (∀ (j : Nat) t v,fn.params[j]? = some t → args[j]? = some v → Value.okWide C.prog W .any base t v) →
   DataW.Whole enc C.prog fn.params.toList s.vars apart W args.toList ds gs before →
   conds.all (PathCond.test C.prog ⟨fn.params.toList,ds,s.plain.varTypes C.prog,gs⟩) = true →
   (DataW.weightsEach C.prog (fn.params.toList ++ s.plain.varTypes C.prog) (ds ++ gs)).all (· ≤ reachBytes) = true → X W.memory args →
   Ends C.prog (fun v W' => s.post enc C.prog fn apart fresh handsOn again W args v W') (solo (G (Frame.enter C.prog f args .normal) []) W) #[]) :
  ReturnsInLeavingWide a C os f .any (fun w args => (s.pre enc C.prog fn conds apart w args ∧ X w args) ∧ sizedMet enc C.prog fn (OpenSpec.ofChange s) apart w args) (s.post enc C.prog fn apart fresh handsOn again) := by
 refine returnsInLeavingWide_of_good own started witness ?_
 intro w tape i _ hsh _ hok hpre hholds
 obtain ⟨_,_,_,fn',hfn',_,_,_,_,hval⟩ := hok
 have e : fn' = fn := Option.some.inj (hfn'.symm.trans hfn)
 subst e
 obtain ⟨⟨⟨ds,gs,before,hw,hc⟩,hx⟩,hz⟩ := hpre
 have hw' := DataW.Whole.of_heap (w' := w.forCall tape i) (by rfl) hw
 obtain ⟨M,last,o,w',t',h1,h2,h3,h4⟩ := runs (w.forCall tape i) w.heap.size i.args ds gs before hsh hval hw' hc (hz.weights hw) hx
 exact ⟨M,last,o,w',t',h1,h2,h3,h4.mono fun v hp => ChangeSpec.post_blind hp⟩
end
section
variable {H : Type} {enc : TypeId × Value → H} {W : World} {base : Nat}
theorem argT_str {t : TypeId} (u : prog.underlying t = some .string) {v : Value} {d : DataW H} {ps : List MemPlace} (hval : Value.okWide prog W .any base t v) (hd : DataW.Trod enc prog W 0 (fun _ => true) true t v d ps) : ∃ w : List UInt8,v = ay w ∧ ArgOk W v ∧ w.length ≤ maxLen := by
 obtain ⟨⟨⟨w⟩⟩,rfl,_,_,hl⟩ := Go.ChangeMaps.open_string u hval hd
 exact ⟨w,rfl,argOk_fine fun m => ⟨by simp [VOk],rfl,by simp [ren]⟩,hl⟩
end
end Go.Proofs.YtlhanfcgdfjhjaaGreatDoor
namespace Go.Proofs.YtlhanfcgdfjhjaaGreatDoor
open Go Go.Conc Go.ChangeShapes Go.WideShapes Go.ChangeAt Go.RowKit Go.Proofs.Tryz
set_option maxRecDepth 100000
theorem tied_goes {p : Pinned} {s : OpenSpec} {c : OpenClaim} (Lk : Looks) (kinds : List LaidKind) (tests : Bool) (har : Bool × String) (lk : Bool)
  (hc : c.holds p s) (hw : c.wfByText s = true) (htie : c.laidByTextAt Lk p kinds tests)
  (hst : c.start = .entering) (hnb : c.noBlocks = false ∧ c.again = false) (hm : p.checked.prog.mainIs = some (har.1,har.2.toList)) (hn : (!har.1 && har.2.isEmpty && !lk) = false)
  (hl : ∀ f fn,p.checked.prog.funcNamed c.func = some f → p.checked.prog.funcs[f]? = some fn → lk = p.checked.prog.looks [] ∧ ∀ (j : Nat) t,fn.params[j]? = some t → p.checked.prog.wantsStandIn t = false)
  (hg : true = c.goesBy p.checked.prog) :
  Claim7.holds p (.plain s) { stood := { row := c,standIns := [],harness := har,looks := lk },kinds := [],alts := [],goes := true,laidByText := true,laidKinds := kinds,laidTests := tests,laidLooks := Lk } := by
 have h6 : Claim7.isSixth { stood := { row := c,standIns := [],harness := har,looks := lk },kinds := [] } = false := by simpa [Claim7.isSixth] using hn
 exact ⟨Claim7.tied_new_at Lk kinds tests (Claim7.new_of_sixth hc har lk hst hnb hm h6 hl) hw,(fun D hD => by cases hD),htie,(fun h => by cases h),hg⟩
section
variable {H : Type} {enc : TypeId × Value → H} {W : World} {base : Nat}
theorem argT_byte {t : TypeId} (u : prog.underlying t = some (.int .u8)) {v : Value} {d : DataW H} {ps : List MemPlace} (hval : Value.okWide prog W .any base t v) (hd : DataW.Trod enc prog W 0 (fun _ => true) true t v d ps) : ∃ b : UInt8,v = .int .u8 b.toNat ∧ ArgOk W v := by
 obtain ⟨n,rfl,_,_,hw⟩ := open_int u hval hd
 have hn : 0 ≤ n ∧ n < 256 := by
  have e1 : IntKind.u8.min = 0 := rfl
  have e2 : IntKind.u8.max = 255 := rfl
  simp only [Lit.wf,Bool.and_eq_true,decide_eq_true_eq] at hw
  omega
 refine ⟨UInt8.ofNat n.toNat,?_,argOk_fine fun m => ⟨by simp [VOk],rfl,by simp [ren]⟩⟩
 rw [UInt8.toNat_ofNat',Nat.mod_eq_of_lt (by omega),Int.toNat_of_nonneg hn.1]
end
theorem lifted3 (os : Os) (started : os.Started) (H : Type) (enc : TypeId × Value → H) :
  ReturnsInLeavingWide {} checked os 3 .any (fun w args => (Rows.grassTextsSpec.pre enc prog f3 Rows.grassTextsRow.domain false w args ∧ laidMetH prog laidL w) ∧ sizedMet enc prog f3 (OpenSpec.ofChange Rows.grassTextsSpec) false w args) (Rows.grassTextsSpec.post enc prog f3 false true false false) := by
 refine leaving_told (C := checked) (X := fun w _ => laidMetH prog laidL w) own started at3
  (ChangeSpec.witness_at (enc := enc) (C := checked) (os := os) (X := fun w _ => laidMetH prog laidL w) false (laidWorld os #[.agg #[.int .i64 0,.int .i64 0,.int .i64 0,.int .i64 0,.int .i64 0,.int .i64 0],.agg #[.int .i64 0,.int .i64 0,.int .i64 0],.string ⟨#[]⟩,.slice none 0 0,.int .i64 0,.int .i64 0,.int .u8 0]) #[.agg #[.int .i64 0,.int .i64 0,.int .i64 0,.int .i64 0,.int .i64 0,.int .i64 0],.agg #[.int .i64 0,.int .i64 0,.int .i64 0],.string ⟨#[]⟩,.slice none 0 0,.int .i64 0,.int .i64 0,.int .u8 0] 8 rfl (by kernel_rfl) (by kernel_rfl) (by kernel_rfl) (by kernel_rfl) (by kernel_rfl)
   (laidMetH_of_parts (by rw [laid_split.2]; exact laidMet_of_run3 8 (by kernel_rfl) (by kernel_rfl) (by kernel_rfl)) (by rw [laid_split.1]; kernel_rfl))) ?_
 intro W base args ds gs before hsh hval0 hW _ hsz0 hlaid
 have hsz : (DataW.weightsEach prog (f3.params.toList ++ Rows.grassTextsSpec.plain.varTypes prog) (ds ++ gs)).all (· ≤ reachBytes) = true := hsz0
 clear hsz0
 have hval : ∀ (j : Nat) t v,f3.params[j]? = some t → args[j]? = some v → Value.okWide prog W .any base t v := hval0
 have hW' := hW
 obtain ⟨p,q,hA0,hV,rfl,_,_⟩ := hW
 have hA : DataW.TrodAll enc prog W 0 (fun _ => true) true f3.params.toList args.toList ds p := hA0
 have hps : f3.params = #[23,25,9,26,3,3,5] := by kernel_rfl
 have uti : prog.underlying 26 = some (.slice 3) := by kernel_rfl
 have ui : prog.underlying 3 = some (.int .i64) := by kernel_rfl
 have ub : prog.underlying 5 = some (.int .u8) := by kernel_rfl
 have uts : prog.underlying 9 = some .string := by kernel_rfl
 have cti : prog.cellsOf 3 = 1 := by kernel_rfl
 have bti : prog.bytesOf 3 = 8 := by kernel_rfl
 rw [hps] at hA hval hsz
 obtain ⟨args⟩ := args
 obtain ⟨v0,vs0,d0,ds0,p0,q0,hvv0,hdd0,hpp0,h0,hA⟩ := trodAll_cons hA
 obtain ⟨v1,vs1,d1,ds1,p1,q1,hvv1,hdd1,hpp1,h1,hA⟩ := trodAll_cons hA
 obtain ⟨v2,vs2,d2,ds2,p2,q2,hvv2,hdd2,hpp2,h2,hA⟩ := trodAll_cons hA
 obtain ⟨v3,vs3,d3,ds3,p3,q3,hvv3,hdd3,hpp3,h3,hA⟩ := trodAll_cons hA
 obtain ⟨v4,vs4,d4,ds4,p4,q4,hvv4,hdd4,hpp4,h4,hA⟩ := trodAll_cons hA
 obtain ⟨v5,vs5,d5,ds5,p5,q5,hvv5,hdd5,hpp5,h5,hA⟩ := trodAll_cons hA
 obtain ⟨v6,vs6,d6,ds6,p6,q6,hvv6,hdd6,hpp6,h6,hA⟩ := trodAll_cons hA
 obtain ⟨hvn,hdn,hpn⟩ := trodAll_nil hA
 subst hvn hdn hpn hvv6 hdd6 hpp6 hvv5 hdd5 hpp5 hvv4 hdd4 hpp4 hvv3 hdd3 hpp3 hvv2 hdd2 hpp2 hvv1 hdd1 hpp1 hdd0 hpp0
 have hvv0 : args = [v0,v1,v2,v3,v4,v5,v6] := hvv0
 subst hvv0
 obtain ⟨rfl,rfl⟩ := trodVars_none hV
 have u4 : prog.underlying 4 = some .bool := by kernel_rfl
 have hlt : ∀ x ∈ (p0 ++ (p1 ++ (p2 ++ (p3 ++ (p4 ++ (p5 ++ (p6 ++ []))))))),x.block < W.heap.size := fun x hx => by simpa using hW'.lt x (by simpa using hx)
 have hargs : ∀ (W' : World),Below W.heap.size W W' → DataW.TrodAll enc prog W' 0 (fun b => decide (b < W.heap.size)) true [23,25,9,26,3,3,5] [v0,v1,v2,v3,v4,v5,v6] [d0,d1,d2,d3,d4,d5,d6] (p0 ++ (p1 ++ (p2 ++ (p3 ++ (p4 ++ (p5 ++ (p6 ++ []))))))) := fun W' hn =>
  dE (Below.trod laidOut (by kernel_rfl) (of_decide_eq_true (by kernel_rfl)) h0 hn fun x hx => hlt x (by simp [hx])) (dE (Below.trod laidOut (by kernel_rfl) (of_decide_eq_true (by kernel_rfl)) h1 hn fun x hx => hlt x (by simp [hx])) (dE (Below.trod laidOut (by kernel_rfl) (of_decide_eq_true (by kernel_rfl)) h2 hn fun x hx => hlt x (by simp [hx])) (dE (Below.trod laidOut (by kernel_rfl) (of_decide_eq_true (by kernel_rfl)) h3 hn fun x hx => hlt x (by simp [hx])) (dE (Below.trod laidOut (by kernel_rfl) (of_decide_eq_true (by kernel_rfl)) h4 hn fun x hx => hlt x (by simp [hx])) (dE (Below.trod laidOut (by kernel_rfl) (of_decide_eq_true (by kernel_rfl)) h5 hn fun x hx => hlt x (by simp [hx])) (dE (Below.trod laidOut (by kernel_rfl) (of_decide_eq_true (by kernel_rfl)) h6 hn fun x hx => hlt x (by simp [hx])) rfl))))))
 obtain ⟨pa,rfl,ok0⟩ := arg_pas (hval 0 23 v0 rfl rfl) h0
 obtain ⟨sk,rfl,ok1⟩ := arg_skyr (hval 1 25 v1 rfl rfl) h1
 obtain ⟨text,rfl,ok2,_⟩ := argT_str uts (hval 2 9 v2 rfl rfl) h2
 obtain ⟨ns,sn,ok3,hbig⟩ := arg_ints uti ui cti (hval 3 26 v3 rfl rfl) h3
 obtain ⟨at_,rfl,_⟩ := open_int ui (hval 4 3 v4 rfl rfl) h4
 obtain ⟨how,rfl,_⟩ := open_int ui (hval 5 3 v5 rfl rfl) h5
 obtain ⟨b,rfl,ok6⟩ := argT_byte ub (hval 6 5 v6 rfl rfl) h6
 have hln : ns.length < 4611686018427387904 := by
  rcases hbig with rfl | ⟨es,sp,rfl,hle⟩
  ·simp
  ·have := sized_slice hsz (j := 3) (t := 26) (e := 3) rfl rfl uti
   rw [bti] at this
   simp only [reachBytes] at this
   omega
 have hlaid : laidMetH prog laidL W.memory := hlaid
 obtain ⟨t0,f0,w0⟩ := err_cells hlaid
 have w0 : W.heap[0]? = _ := w0
 have hh0 : 0 < W.heap.size := (Array.getElem?_eq_some_iff.1 w0).1
 obtain ⟨M,last,o,w',t',r1,r2,r3,r4⟩ := law_run2T (w := W) (f := 3) (fn := f3) at3 body3 (by kernel_rfl) [.agg ⟨Pas.cells pa⟩,.agg ⟨aU.cells sk⟩,ay text,v3,ab at_,ab how,bV b] (Nat.le_of_ble_eq_true (by kernel_rfl : Nat.ble 7 f3.ntmps = true))
  (by
   intro v hv
   simp only [List.mem_cons,List.not_mem_nil,or_false] at hv
   rcases hv with rfl | rfl | rfl | rfl | rfl | rfl | rfl
   ·exact ok0
   ·exact ok1
   ·exact ok2
   ·exact ok3
   ·exact argOk_int
   ·exact argOk_int
   ·exact ok6)
  (toldE_ok w0)
  (fun Post => walk3 (K := fun v _ => v = .bool true) (told_err hh0) (told_ints sn) hln fun _ => rfl)
 refine ⟨M,last,o,w',t',r1,r2,r3,r4.mono fun v hF => ?_⟩
 obtain ⟨rfl,hbelow⟩ := hF
 refine ⟨_,_,_,[],_,[],hW',?_,hargs _ hbelow,by rfl,hbelow.frame _,fun h => by cases h⟩
 exact trodAll_mk1 (shut_bool u4 true)
theorem grassTexts_row : Rows.GrassTextsSaid :=
 OpenClaim.holds_of_wide_leaving 3 f3 rfl rfl rfl rfl rfl rfl rfl ⟨rfl,rfl,rfl,rfl,rfl⟩ rfl rfl rfl rfl rfl (by kernel_rfl) at3 (by kernel_rfl)
  (of_decide_eq_true (by kernel_rfl)) (by unfold Func.isWrapper; first | (rw [if_pos (by decide +kernel)]; kernel_rfl) | (rw [if_neg (by decide +kernel)]; exact ⟨rfl,rfl⟩))
  (fun os started H enc _ => lifted3 os started H enc)
theorem grassTexts_holds : Rows.GrassTextsCardSaid :=
 tied_goes .later [.data, .data, .data, .data, .handle, .pinned] true (true, "5d666c7c44cec2b0fd822916a791ef6d70807ad9b324b43de390656d1d49b836") true
  grassTexts_row (by kernel_rfl) grassTexts_row_tie rfl ⟨rfl,rfl⟩ (by kernel_rfl) rfl
  (fun f fn hf hfn => by
   have e : Tryz.prog.funcNamed "mesta/mestalaw01.GrassTexts" = some 3 := by kernel_rfl
   obtain rfl : f = 3 := (Option.some.inj (e.symm.trans hf)).symm
   obtain rfl : fn = f3 := (Option.some.inj (at3.symm.trans hfn)).symm
   exact ⟨by kernel_rfl,fun j t ht => by
    have e0 : Tryz.f3.params = #[23,25,9,26,3,3,5] := by kernel_rfl
    rw [e0] at ht
    rcases j with _ | _ | _ | _ | _ | _ | _ | j
    ·cases ht
     exact (by kernel_rfl : Tryz.prog.wantsStandIn 23 = false)
    ·cases ht
     exact (by kernel_rfl : Tryz.prog.wantsStandIn 25 = false)
    ·cases ht
     exact (by kernel_rfl : Tryz.prog.wantsStandIn 9 = false)
    ·cases ht
     exact (by kernel_rfl : Tryz.prog.wantsStandIn 26 = false)
    ·cases ht
     exact (by kernel_rfl : Tryz.prog.wantsStandIn 3 = false)
    ·cases ht
     exact (by kernel_rfl : Tryz.prog.wantsStandIn 3 = false)
    ·cases ht
     exact (by kernel_rfl : Tryz.prog.wantsStandIn 5 = false)
    ·simp at ht⟩)
  (by kernel_rfl)
#print axioms grassTexts_holds
end Go.Proofs.YtlhanfcgdfjhjaaGreatDoor
