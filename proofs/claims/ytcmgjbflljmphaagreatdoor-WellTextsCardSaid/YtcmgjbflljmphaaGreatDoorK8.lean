/- The card of WellTexts: it answers true at every input, its arguments read as before, and what its row lists is tied to the program's text. -/
import Derived.Test.YtcmgjbflljmphaaGreatDoorK7
import Derived.Test.YtcmgjbflljmphaaGreatDoorK6
import Derived.LaidLaws
import Derived.LaidHandle
import Derived.Deep.DeepLaidRun
import Derived.ChangeMaps5
import Derived.JoinedOf
import Derived.Test.YtcmgjbflljmphaaGreatDoorTie
import Derived.Test.YtcmgjbflljmphaaGreatDoorCards
import Derived.SevenTiedAt
namespace Go.Proofs.YtcmgjbflljmphaaGreatDoor
open Go Go.Conc Go.ChangeShapes Go.WideShapes Go.ChangeAt Go.RowKit Go.Proofs.Tryz
set_option maxRecDepth 100000
theorem tied_goes {p : Pinned} {s : OpenSpec} {c : OpenClaim} (Lk : Looks) (kinds : List LaidKind) (tests : Bool) (har : Bool × String) (lk : Bool)
  (hc : c.holds p s) (hw : c.wfByText s = true) (htie : c.laidByTextAt Lk p kinds tests)
  (hst : c.start = .entering) (hnb : c.noBlocks = false ∧ c.again = false) (hm : p.checked.prog.mainIs = some (har.1,har.2.toList)) (hn : (!har.1 && har.2.isEmpty && !lk) = false)
  (hl : ∀ f fn,p.checked.prog.funcNamed c.func = some f → p.checked.prog.funcs[f]? = some fn → lk = p.checked.prog.looks [] ∧ ∀ (j : Nat) t,fn.params[j]? = some t → p.checked.prog.wantsStandIn t = false)
  (hg : true = c.goesBy p.checked.prog) :
  Claim7.holds p (.plain s) { stood := { row := c,standIns := [],harness := har,looks := lk },kinds := [],alts := [],goes := true,laidByText := true,laidKinds := kinds,laidTests := tests,laidLooks := Lk } := by
 have h6 : Claim7.isSixth { stood := { row := c,standIns := [],harness := har,looks := lk },kinds := [] } = false := by simpa [Claim7.isSixth] using hn
 exact ⟨Claim7.tied_new_at Lk kinds tests (Claim7.new_of_sixth hc har lk hst hnb hm h6 hl) hw,(fun D hD => by cases hD),htie,(fun h => by cases h),hg⟩
abbrev laidL : List (String × DataW Unit) := [("math/bits.deBruijn32tab", Rows.laid_math_bits_deBruijn32tab), ("math/bits.deBruijn64tab", Rows.laid_math_bits_deBruijn64tab), ("internal/strconv.uint64pow10", Rows.laid_internal_strconv_uint64pow10), ("unicode/utf8.acceptRanges", Rows.laid_unicode_utf8_acceptRanges), ("unicode/utf8.first", Rows.laid_unicode_utf8_first)]
theorem laid_split : laidL.filter (fun x => x.2.handleName?.isSome) = [] ∧ laidL.filter (fun x => x.2.handleName?.isNone) = laidL := ⟨by kernel_rfl,by kernel_rfl⟩
def cellsN : Nat → DataW Unit → List Value
 | 0,_ => []
 | n + 1,.agg ds => ds.flatMap (cellsN n)
 | _,.lit (.int k n) => [.int k n]
 | _,_ => []
def laySet (d : DataW Unit) : Obj → Obj
 | .cells _ t frozen => .cells ⟨cellsN 4 d⟩ t frozen
 | o => o
noncomputable def laidWorld (os : Os) (args : Array Value) : World :=
 let w0 := World.holding prog os ⟨#[],args,[]⟩
 { w0 with heap := ((((w0.heap.modify 0 (laySet Rows.laid_internal_strconv_uint64pow10)).modify 2 (laySet Rows.laid_math_bits_deBruijn32tab)).modify 3 (laySet Rows.laid_math_bits_deBruijn64tab)).modify 4 (laySet Rows.laid_unicode_utf8_first)).modify 5 (laySet Rows.laid_unicode_utf8_acceptRanges) }
section
variable {H : Type} {enc : TypeId × Value → H}
theorem leaving_told {a : Assume} {C : Checked} {os : Os} {f : FuncId} {fn : Func} {s : ChangeSpec} {conds : List PathCond} {apart fresh handsOn again : Bool} {X : World → Array Value → Prop}
  (own : ownKnob C.prog.godebug = none) (started : os.Started) (hfn : C.prog.funcs[f]? = some fn)
  (witness : ∃ (w : World) (tape : Tape) (i : Input),w.os = os ∧ (w.forCall tape i).Shaped C.prog ∧ i.vars = [] ∧ Input.okWide C.prog (w.forCall tape i) .any w.heap.size f i ∧
   ((s.pre enc C.prog fn conds apart (w.forCall tape i).memory i.args ∧ X (w.forCall tape i).memory i.args) ∧ sizedMet enc C.prog fn (OpenSpec.ofChange s) apart (w.forCall tape i).memory i.args) ∧ a.holds C.prog (lone (Frame.enter C.prog f i.args .normal) [] (w.forCall tape i)))
  (runs : ∀ (W : World) (base : Nat) (args : Array Value) (ds gs : List (DataW H)) (before : List MemPlace),W.ShapedOpen C.prog →
   (∀ (j : Nat) t v,fn.params[j]? = some t → args[j]? = some v → Value.okWide C.prog W .any base t v) →
   DataW.Whole enc C.prog fn.params.toList s.vars apart W args.toList ds gs before →
   conds.all (PathCond.test C.prog ⟨fn.params.toList,ds,s.plain.varTypes C.prog,gs⟩) = true →
   (DataW.weightsEach C.prog (fn.params.toList ++ s.plain.varTypes C.prog) (ds ++ gs)).all (· ≤ reachBytes) = true → X W.memory args →
   Ends C.prog (fun v W' => s.post enc C.prog fn apart fresh handsOn again W args v W') (solo (G (Frame.enter C.prog f args .normal) []) W) #[]) :
  ReturnsInLeavingWide a C os f .any (fun w args => (s.pre enc C.prog fn conds apart w args ∧ X w args) ∧ sizedMet enc C.prog fn (OpenSpec.ofChange s) apart w args) (s.post enc C.prog fn apart fresh handsOn again) := by
 refine returnsInLeavingWide_of_good own started witness ?_
 intro w tape i _ hsh _ hok hpre hholds
 obtain ⟨_,_,_,fn',hfn',_,_,_,_,hval⟩ := hok
 have e : fn' = fn := Option.some.inj (hfn'.symm.trans hfn)
 subst e
 obtain ⟨⟨⟨ds,gs,before,hw,hc⟩,hx⟩,hz⟩ := hpre
 have hw' := DataW.Whole.of_heap (w' := w.forCall tape i) (by rfl) hw
 obtain ⟨M,last,o,w',t',h1,h2,h3,h4⟩ := runs (w.forCall tape i) w.heap.size i.args ds gs before hsh hval hw' hc (hz.weights hw) hx
 exact ⟨M,last,o,w',t',h1,h2,h3,h4.mono fun v hp => ChangeSpec.post_blind hp⟩
end
section
variable {H : Type} {enc : TypeId × Value → H} {W : World} {base : Nat}
theorem argT_str {t : TypeId} (u : prog.underlying t = some .string) {v : Value} {d : DataW H} {ps : List MemPlace} (hval : Value.okWide prog W .any base t v) (hd : DataW.Trod enc prog W 0 (fun _ => true) true t v d ps) : ∃ w : List UInt8,v = strV w ∧ ArgOk W v ∧ w.length ≤ maxLen := by
 obtain ⟨⟨⟨w⟩⟩,rfl,_,_,hl⟩ := Go.ChangeMaps.open_string u hval hd
 exact ⟨w,rfl,argOk_fine fun m => ⟨by simp [VOk],rfl,by simp [ren]⟩,hl⟩
theorem argT_byte {t : TypeId} (u : prog.underlying t = some (.int .u8)) {v : Value} {d : DataW H} {ps : List MemPlace} (hval : Value.okWide prog W .any base t v) (hd : DataW.Trod enc prog W 0 (fun _ => true) true t v d ps) : ∃ b : UInt8,v = .int .u8 b.toNat ∧ ArgOk W v := by
 obtain ⟨n,rfl,_,_,hw⟩ := open_int u hval hd
 have hn : 0 ≤ n ∧ n < 256 := by
  have e1 : IntKind.u8.min = 0 := rfl
  have e2 : IntKind.u8.max = 255 := rfl
  simp only [Lit.wf,Bool.and_eq_true,decide_eq_true_eq] at hw
  omega
 refine ⟨UInt8.ofNat n.toNat,?_,argOk_fine fun m => ⟨by simp [VOk],rfl,by simp [ren]⟩⟩
 rw [UInt8.toNat_ofNat',Nat.mod_eq_of_lt (by omega),Int.toNat_of_nonneg hn.1]
end
theorem lifted3 (os : Os) (started : os.Started) (H : Type) (enc : TypeId × Value → H) :
  ReturnsInLeavingWide {} checked os 3 .any (fun w args => (Rows.wellTextsSpec.pre enc prog f3 Rows.wellTextsRow.domain false w args ∧ laidMetH prog laidL w) ∧ sizedMet enc prog f3 (OpenSpec.ofChange Rows.wellTextsSpec) false w args) (Rows.wellTextsSpec.post enc prog f3 false true false false) := by
 refine leaving_told (C := checked) (X := fun w _ => laidMetH prog laidL w) own started at3
  (ChangeSpec.witness_at (enc := enc) (C := checked) (os := os) (X := fun w _ => laidMetH prog laidL w) false (laidWorld os #[.agg #[.int .i64 0,.int .i64 0,.int .i64 0,.slice none 0 0],.string ⟨#[]⟩,.slice none 0 0,.int .i64 0,.int .i64 0,.int .u8 0]) #[.agg #[.int .i64 0,.int .i64 0,.int .i64 0,.slice none 0 0],.string ⟨#[]⟩,.slice none 0 0,.int .i64 0,.int .i64 0,.int .u8 0] 8 rfl (by kernel_rfl) (by kernel_rfl) (by kernel_rfl) (by kernel_rfl) (by kernel_rfl)
   (laidMetH_of_parts (by rw [laid_split.2]; exact laidMet_of_run3 8 (by kernel_rfl) (by kernel_rfl) (by kernel_rfl)) (by rw [laid_split.1]; kernel_rfl))) ?_
 intro W base args ds gs before _ hval0 hW _ hsz0 _
 have hsz : (DataW.weightsEach prog (f3.params.toList ++ Rows.wellTextsSpec.plain.varTypes prog) (ds ++ gs)).all (· ≤ reachBytes) = true := hsz0
 clear hsz0
 have hval : ∀ (j : Nat) t v,f3.params[j]? = some t → args[j]? = some v → Value.okWide prog W .any base t v := hval0
 have hW' := hW
 obtain ⟨p,q,hA0,hV,rfl,_,_⟩ := hW
 have hA : DataW.TrodAll enc prog W 0 (fun _ => true) true f3.params.toList args.toList ds p := hA0
 have hps : f3.params = #[26,9,27,3,3,5] := by kernel_rfl
 have uti : prog.underlying 27 = some (.slice 3) := by kernel_rfl
 have ui : prog.underlying 3 = some (.int .i64) := by kernel_rfl
 have ub : prog.underlying 5 = some (.int .u8) := by kernel_rfl
 have uts : prog.underlying 9 = some .string := by kernel_rfl
 have cti : prog.cellsOf 3 = 1 := by kernel_rfl
 have bti : prog.bytesOf 3 = 8 := by kernel_rfl
 rw [hps] at hA hval hsz
 obtain ⟨args⟩ := args
 obtain ⟨v0,vs0,d0,ds0,p0,q0,hvv0,hdd0,hpp0,h0,hA⟩ := trodAll_cons hA
 obtain ⟨v1,vs1,d1,ds1,p1,q1,hvv1,hdd1,hpp1,h1,hA⟩ := trodAll_cons hA
 obtain ⟨v2,vs2,d2,ds2,p2,q2,hvv2,hdd2,hpp2,h2,hA⟩ := trodAll_cons hA
 obtain ⟨v3,vs3,d3,ds3,p3,q3,hvv3,hdd3,hpp3,h3,hA⟩ := trodAll_cons hA
 obtain ⟨v4,vs4,d4,ds4,p4,q4,hvv4,hdd4,hpp4,h4,hA⟩ := trodAll_cons hA
 obtain ⟨v5,vs5,d5,ds5,p5,q5,hvv5,hdd5,hpp5,h5,hA⟩ := trodAll_cons hA
 obtain ⟨hvn,hdn,hpn⟩ := trodAll_nil hA
 subst hvn hdn hpn hvv5 hdd5 hpp5 hvv4 hdd4 hpp4 hvv3 hdd3 hpp3 hvv2 hdd2 hpp2 hvv1 hdd1 hpp1 hdd0 hpp0
 have hvv0 : args = [v0,v1,v2,v3,v4,v5] := hvv0
 subst hvv0
 obtain ⟨rfl,rfl⟩ := trodVars_none hV
 have u4 : prog.underlying 4 = some .bool := by kernel_rfl
 have hlt : ∀ x ∈ (p0 ++ (p1 ++ (p2 ++ (p3 ++ (p4 ++ (p5 ++ [])))))),x.block < W.heap.size := fun x hx => by simpa using hW'.lt x (by simpa using hx)
 have hargs : ∀ (W' : World),Below W.heap.size W W' → DataW.TrodAll enc prog W' 0 (fun b => decide (b < W.heap.size)) true [26,9,27,3,3,5] [v0,v1,v2,v3,v4,v5] [d0,d1,d2,d3,d4,d5] (p0 ++ (p1 ++ (p2 ++ (p3 ++ (p4 ++ (p5 ++ [])))))) := fun W' hn =>
  trodAll_mkc (Below.trod laidOut (by kernel_rfl) (of_decide_eq_true (by kernel_rfl)) h0 hn fun x hx => hlt x (by simp [hx])) (trodAll_mkc (Below.trod laidOut (by kernel_rfl) (of_decide_eq_true (by kernel_rfl)) h1 hn fun x hx => hlt x (by simp [hx])) (trodAll_mkc (Below.trod laidOut (by kernel_rfl) (of_decide_eq_true (by kernel_rfl)) h2 hn fun x hx => hlt x (by simp [hx])) (trodAll_mkc (Below.trod laidOut (by kernel_rfl) (of_decide_eq_true (by kernel_rfl)) h3 hn fun x hx => hlt x (by simp [hx])) (trodAll_mkc (Below.trod laidOut (by kernel_rfl) (of_decide_eq_true (by kernel_rfl)) h4 hn fun x hx => hlt x (by simp [hx])) (trodAll_mkc (Below.trod laidOut (by kernel_rfl) (of_decide_eq_true (by kernel_rfl)) h5 hn fun x hx => hlt x (by simp [hx])) rfl)))))
 obtain ⟨t,fv,ht,ok0⟩ := arg_tro (hval 0 26 v0 rfl rfl) h0
 obtain ⟨text,rfl,ok1,_⟩ := argT_str uts (hval 1 9 v1 rfl rfl) h1
 obtain ⟨ns,sn,ok2,hbig⟩ := arg_ints uti ui cti (hval 2 27 v2 rfl rfl) h2
 obtain ⟨at_,rfl,_⟩ := open_int ui (hval 3 3 v3 rfl rfl) h3
 obtain ⟨how,rfl,_⟩ := open_int ui (hval 4 3 v4 rfl rfl) h4
 obtain ⟨b,rfl,ok5⟩ := argT_byte ub (hval 5 5 v5 rfl rfl) h5
 have hln : ns.length < 4611686018427387904 := by
  rcases hbig with rfl | ⟨es,sp,rfl,hle⟩
  ·simp
  ·have := sized_slice hsz (j := 2) (t := 27) (e := 3) rfl rfl uti
   rw [bti] at this
   simp only [reachBytes] at this
   omega
 obtain ⟨M,last,o,w',t',r1,r2,r3,r4⟩ := law_run1 (g := 3) (fn := f3) at3 body3 (by kernel_rfl) W [v0,strV text,v2,vint at_,vint how,bV b] (Nat.le_of_ble_eq_true (by kernel_rfl : Nat.ble 6 f3.ntmps = true))
  (by
   intro v hv
   simp only [List.mem_cons,List.not_mem_nil,or_false] at hv
   rcases hv with rfl | rfl | rfl | rfl | rfl | rfl
   ·exact ok0
   ·exact ok1
   ·exact ok2
   ·exact argOk_int
   ·exact argOk_int
   ·exact ok5)
  (fun Post => walk3 (K := fun v _ => v = .bool true) ht sn hln fun _ => rfl)
 refine ⟨M,last,o,w',t',r1,r2,r3,r4.mono fun v hF => ?_⟩
 obtain ⟨rfl,hbelow⟩ := hF
 refine ⟨_,_,_,[],_,[],hW',?_,hargs _ hbelow,by rfl,hbelow.frame _,fun h => by cases h⟩
 exact trodAll_mk1 (shut_bool u4 true)
theorem wellTexts_row : Rows.WellTextsSaid :=
 OpenClaim.holds_of_wide_leaving 3 f3 rfl rfl rfl rfl rfl rfl rfl ⟨rfl,rfl,rfl,rfl,rfl⟩ rfl rfl rfl rfl rfl (by kernel_rfl) at3 (by kernel_rfl)
  (of_decide_eq_true (by kernel_rfl)) (by unfold Func.isWrapper; first | (rw [if_pos (by decide +kernel)]; kernel_rfl) | (rw [if_neg (by decide +kernel)]; exact ⟨rfl,rfl⟩))
  (fun os started H enc _ => lifted3 os started H enc)
theorem wellTexts_holds : Rows.WellTextsCardSaid :=
 tied_goes .later [.data, .data, .data, .data, .pinned] true (true, "d6519cc0e2a5fdeede642742a27fb2e43d3c4a0b28d97ac2a792e1e301911d29") true
  wellTexts_row (by kernel_rfl) wellTexts_row_tie rfl ⟨rfl,rfl⟩ (by kernel_rfl) rfl
  (fun f fn hf hfn => by
   have e : Tryz.prog.funcNamed "mesta/mestalaw11.WellTexts" = some 3 := by kernel_rfl
   obtain rfl : f = 3 := (Option.some.inj (e.symm.trans hf)).symm
   obtain rfl : fn = f3 := (Option.some.inj (at3.symm.trans hfn)).symm
   exact ⟨by kernel_rfl,fun j t ht => by
    have e0 : Tryz.f3.params = #[26,9,27,3,3,5] := by kernel_rfl
    rw [e0] at ht
    rcases j with _ | _ | _ | _ | _ | _ | j
    ·cases ht
     exact (by kernel_rfl : Tryz.prog.wantsStandIn 26 = false)
    ·cases ht
     exact (by kernel_rfl : Tryz.prog.wantsStandIn 9 = false)
    ·cases ht
     exact (by kernel_rfl : Tryz.prog.wantsStandIn 27 = false)
    ·cases ht
     exact (by kernel_rfl : Tryz.prog.wantsStandIn 3 = false)
    ·cases ht
     exact (by kernel_rfl : Tryz.prog.wantsStandIn 3 = false)
    ·cases ht
     exact (by kernel_rfl : Tryz.prog.wantsStandIn 5 = false)
    ·simp at ht⟩)
  (by kernel_rfl)
#print axioms wellTexts_holds
end Go.Proofs.YtcmgjbflljmphaaGreatDoor
