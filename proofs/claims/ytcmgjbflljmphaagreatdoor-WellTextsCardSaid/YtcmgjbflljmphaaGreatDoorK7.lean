/- Parts of the proof, 7. No conditions. -/
import Derived.Test.YtcmgjbflljmphaaGreatDoorK2
import Derived.Test.YtcmgjbflljmphaaGreatDoorK6
import Derived.Test.YtcmgjbflljmphaaGreatDoorK5
import Derived.Below
import Derived.Test.YtcmgjbflljmphaaGreatDoorRows
import Derived.Conc.LeavingOf
import Derived.ChangeSlices
import Derived.OpenShut
import Derived.Carry
import Derived.Test.YtcmgjbflljmphaaGreatDoorK4
import Derived.Deep.Slices
namespace Go.Proofs.YtcmgjbflljmphaaGreatDoor
open Go.Conc Go.Proofs.Tryz
set_option maxRecDepth 100000
set_option maxHeartbeats 4000000
set_option linter.unusedVariables false
section
variable {main : Bool} {J : JT} {n0 : Nat} {h : List AObj} {K : Value → List AObj → Prop}
theorem at12 : prog.funcs[12]? = some f12 := by kernel_rfl
theorem body12 : f12.body = some (codeOf f12) := by kernel_rfl
def pl12 : Plans := []
def ct12 : Cuts := .go
theorem pok12 : plansOk prog pl12 (codeOf f12) = true := by kernel_rfl
theorem e12 {a0 : Value} : W prog J 23 h.length 12 (codeOf f12) (RG.mk (regs [a0]) []) h (RetQ prog [.cell 2 26,.cell 3 3,.cell 4 35] h.length K) =
(aAlloc [(vint 0),(vint 0),(vint 0),(Value.slice none 0 0)] h fun v1 h2 =>
 aAlloc [(vint 0)] h2 fun v3 h4 =>
 aAlloc [(vint 0)] h4 fun v5 h6 =>
 aLenStr a0 fun v7 =>
 aBin prog .gtr 3 v7 (vint 80) fun v8 =>
 cnd v8
(aFill [(vint 0),(vint 0),(vint 0),(Value.slice none 0 0)] [] fun c9 =>
 aStore 4 v1 (Value.agg ⟨c9⟩) h6 fun h10 =>
 aStore 1 v3 (vint 0) h10 fun h11 =>
 aStore 1 v5 (vint 10) h11 fun h12 =>
 RetQ prog [.cell 2 26,.cell 3 3,.cell 4 35] h.length K .ret (RG.p (RG.p (RG.p (RG.p (RG.p (RG.p (RG.p (RG.mk (regs [a0]) []) 2 v1) 3 v3) 4 v5) 7 a0) 8 v7) 9 v8) 10 (Value.agg ⟨c9⟩)) h12)
(aMkF 31 [] [v1,v5,v3] fun v13 =>
 False)) := top_eq pok12 ct12 (by kernel_rfl)
theorem q12_1 {f : RG} {fr : FuncId} {Q : QT} : W prog J 23 n0 fr (subC [0] (codeOf f12)) f h Q =
(aAlloc [(vint 0),(vint 0),(vint 0),(Value.slice none 0 0)] h fun v1 h2 =>
 aAlloc [(vint 0)] h2 fun v3 h4 =>
 aAlloc [(vint 0)] h4 fun v5 h6 =>
 Q .normal (RG.p (RG.p (RG.p f 2 v1) 3 v3) 4 v5) h6) := by kernel_rfl
theorem q12_2 {f : RG} {fr : FuncId} {Q : QT} : W prog J 23 n0 fr (subC [1,0] (codeOf f12)) f h Q =
(aLenStr (f.r 0) fun v1 =>
 aBin prog .gtr 3 v1 (vint 80) fun v2 =>
 cnd v2
(aFill [(vint 0),(vint 0),(vint 0),(Value.slice none 0 0)] [] fun c3 =>
 aStore 4 (f.r 2) (Value.agg ⟨c3⟩) h fun h4 =>
 aStore 1 (f.r 3) (vint 0) h4 fun h5 =>
 aStore 1 (f.r 4) (vint 10) h5 fun h6 =>
 Q .ret (RG.p (RG.p (RG.p (RG.p f 7 (f.r 0)) 8 v1) 9 v2) 10 (Value.agg ⟨c3⟩)) h6)
(Q .normal (RG.p (RG.p (RG.p f 7 (f.r 0)) 8 v1) 9 v2) h)) := by kernel_rfl
theorem q12_3 {f : RG} {fr : FuncId} {Q : QT} : W prog J 23 n0 fr (subC [1,1,1,0] (codeOf f12)) f h Q =
(aAlloc [(vint 0),(vint 0),(vint 0),(Value.slice none 0 0),(Value.bool false),(Value.bool false)] h fun v1 h2 =>
 Q .normal (RG.p f 5 v1) h2) := by kernel_rfl
theorem q12_4 {f : RG} {fr : FuncId} {Q : QT} : W prog J 23 n0 fr (subC yp7 (codeOf f12)) f h Q =
(aOff (f.r 5) 0 fun v1 =>
 aLoad true 4 v1 h fun v2 =>
 Good prog J 27 [v2] h fun v3 h4 =>
 aBin prog .neq 35 v3 (vint 0) fun v5 =>
 cnd v5
(aFill [(vint 0),(vint 0),(vint 0),(Value.slice none 0 0)] [] fun c6 =>
 aStore 4 (f.r 2) (Value.agg ⟨c6⟩) h4 fun h7 =>
 aStore 1 (f.r 3) (vint 0) h7 fun h8 =>
 aStore 1 (f.r 4) v3 h8 fun h9 =>
 Q .ret (RG.p (RG.p (RG.p (RG.p (RG.p (RG.p (RG.p (RG.p f 14 v1) 15 v2) 16 v3) 6 v3) 17 v3) 18 v5) 19 (Value.agg ⟨c6⟩)) 20 v3) h9)
(aOff (f.r 5) 0 fun v10 =>
 aLoad true 4 v10 h4 fun v11 =>
 aStore 4 (f.r 2) v11 h4 fun h12 =>
 aStore 1 (f.r 3) (vint 0) h12 fun h13 =>
 aStore 1 (f.r 4) (vint 0) h13 fun h14 =>
 Q .ret (RG.p (RG.p (RG.p (RG.p (RG.p (RG.p (RG.p (RG.p f 14 v1) 15 v2) 16 v3) 6 v3) 17 v3) 18 v5) 21 v10) 22 v11) h14)) := by kernel_rfl
theorem at31 : prog.funcs[31]? = some f31 := by kernel_rfl
theorem body31 : f31.body = some (codeOf f31) := by kernel_rfl
theorem q31_1 {f : RG} {fr : FuncId} {Q : QT} : W prog J 18 n0 fr (subC [1,0] (codeOf f31)) f h Q =
(aIfN prog .neq 20 (f.r 3) fun v1 =>
 Q .normal (RG.p (RG.p f 7 (f.r 3)) 8 v1) h) := by kernel_rfl
theorem q31_2 {f : RG} {fr : FuncId} {Q : QT} : W prog J 18 n0 fr (subC [1,1,0,0] (codeOf f31)) f h Q =
(aFill [(vint 0),(vint 0),(vint 0),(Value.slice none 0 0)] [] fun c1 =>
 aStore 4 (f.r 0) (Value.agg ⟨c1⟩) h fun h2 =>
 aStore 1 (f.r 1) (vint 2) h2 fun h3 =>
 Q .normal (RG.p f 9 (Value.agg ⟨c1⟩)) h3) := by kernel_rfl
theorem q31_3 {f : RG} {fr : FuncId} {Q : QT} : W prog J 18 n0 fr (subC [1,1,0,1,1] (codeOf f31)) f h Q =
(cnd (f.r 5)
(aOff (f.r 4) 0 fun v1 =>
 aLoad false 1 v1 h fun v2 =>
 aStore 1 (f.r 2) v2 h fun h3 =>
 Q .normal (RG.p (RG.p (RG.p f 15 (f.r 5)) 16 v1) 17 v2) h3)
(Q .normal (RG.p f 15 (f.r 5)) h)) := by kernel_rfl
end
end Go.Proofs.YtcmgjbflljmphaaGreatDoor
namespace Go.Proofs.YtcmgjbflljmphaaGreatDoor
open Go.Conc Go.Proofs.Tryz
set_option maxRecDepth 100000
noncomputable def oC0 : Array Oper := opsAt [0] (codeOf f31)
noncomputable def oC3 : Array Oper := opsAt [1,1,0,1,0] (codeOf f31)
theorem eC0 : codeOf f31 = .seq (.region 0 oC0 false) (subC [1] (codeOf f31)) := by kernel_rfl
theorem eC1 : subC [1] (codeOf f31) = .seq (subC [1,0] (codeOf f31)) (.cond (.tmp 8) (.seq (subC [1,1,0,0] (codeOf f31)) (.seq (.region 3 oC3 false) (subC [1,1,0,1,1] (codeOf f31)))) .skip) := by kernel_rfl
theorem zC0 : List.range oC0.size = 0 :: [1] := by kernel_rfl
theorem zC3 : List.range oC3.size = [0] ++ 1 :: [2,3,4,5,6,7] := by kernel_rfl
theorem wrong_struct : ∃ fs,prog.underlying 72 = some (.struct fs) := by
 have h : (match prog.underlying 72 with | some (.struct _) => true | _ => false) = true := by kernel_rfl
 split at h
 ·exact ⟨_,by assumption⟩
 ·cases h
section
variable {main : Bool} {J : JT} {H : List AObj} {K : Value → List AObj → Prop} {KV : Value → Prop} {F : RG} {n0 bt be bl : Nat} {s : List UInt8} {KH : List AObj → Prop}
theorem wC0 {KK : RG → List AObj → Prop} : opsW prog (Good prog J) 18 oC0 [1] [] F H KK = KK (RG.p F 3 (F.r 6)) H := by kernel_rfl
theorem wC3a {KK : RG → List AObj → Prop} : opsW prog (Good prog J) 18 oC3 [0] [] F H KK = KK (RG.p F 11 (F.r 3)) H := by kernel_rfl
theorem wC3b {KK : RG → List AObj → Prop} : opsW prog (Good prog J) 18 oC3 [2,3,4,5,6,7] [] F H KK =
 aExt (F.r 12) 0 fun v1 => aExt (F.r 12) 1 fun v2 => aAlloc [vint 0] H fun v3 h4 => aStore 1 v3 v1 h4 fun h5 => KK (RG.p (RG.p (RG.p (RG.p (RG.p F 10 (F.r 12)) 13 v1) 14 v2) 4 v3) 5 v2) h5 := by kernel_rfl
theorem ifNil (hk : KV (.bool false)) : aIfN prog .neq 20 .nilIface KV := by
 have h : (match prog.underlying 20 with | some (.interface _) => true | _ => false) = true := by kernel_rfl
 unfold aIfN
 split at h
 ·rename_i e
  rw [e]
  exact hk
 ·cases h
theorem ifSome {t : TypeId} {v : Value} (hk : KV (.bool true)) : aIfN prog .neq 20 (.iface t v) KV := by
 have h : (match prog.underlying 20 with | some (.interface _) => true | _ => false) = true := by kernel_rfl
 unfold aIfN
 split at h
 ·rename_i e
  rw [e]
  exact hk
 ·cases h
theorem clo_nil (hJ : Closed prog main J) {caps : List Value} (hk : KH H) : SemOps J 18 n0 31 oC0 [1] (RG.p ⟨regs caps,[]⟩ 6 .nilIface) H (thenK (fun f h => Sem J 18 n0 31 (subC [1] (codeOf f31)) f h (QK KH)) (QK KH)) := by
 refine SemOps_of hJ [1] (dec := []) (fun j b e => by cases e) ?_
 rw [wC0]
 show Sem J 18 n0 31 (subC [1] (codeOf f31)) _ H (QK KH)
 rw [eC1]
 refine Sem_seq hJ (W_sound hJ mixed _ ?_)
 rw [q31_1]
 refine ifNil ?_
 show Sem J 18 n0 31 _ _ H (QK KH)
 exact Sem_cond hJ (t := false) rfl (Sem_skip hJ ⟨rfl,rfl,hk⟩)
theorem clo_wrong (hJ : Closed prog main J) {n : Int} {ct ce cl : List Value} (ht : H[bt]? = some (.cells ct true 0)) (htl : ct.length = 4) (he : H[be]? = some (.cells ce true 0)) (hel : ce.length = 1) (hl : H[bl]? = some (.cells cl true 0)) (hll : cl.length = 1) (h1 : bt ≠ be) (h2 : bt ≠ bl) (h3 : be ≠ bl)
  (hk : ∀ H',SameX [bt,be,bl] H H' → H'[bt]? = some (.cells (troCells tro0 (.slice none 0 0)) true 0) → H'[be]? = some (.cells [vint 2] true 0) → H'[bl]? = some (.cells [vint n] true 0) → KH H') :
  SemOps J 18 n0 31 oC0 [1] (RG.p ⟨regs [ptr bt 0,ptr be 0,ptr bl 0],[]⟩ 6 (wrongV n)) H (thenK (fun f h => Sem J 18 n0 31 (subC [1] (codeOf f31)) f h (QK KH)) (QK KH)) := by
 have set1 : ∀ {c : List Value} {v : Value},c.length = 1 → c.set 0 v = [v] := fun {c v} h => by
  match c,h with
  | [_],_ => rfl
 refine SemOps_of hJ [1] (dec := []) (fun j b e => by cases e) ?_
 rw [wC0]
 show Sem J 18 n0 31 (subC [1] (codeOf f31)) _ H (QK KH)
 rw [eC1]
 refine Sem_seq hJ (W_sound hJ mixed _ ?_)
 rw [q31_1]
 refine ifSome ?_
 show Sem J 18 n0 31 _ _ H (QK KH)
 refine Sem_cond hJ (t := true) rfl (Sem_seq hJ (W_sound hJ mixed _ ?_))
 rw [q31_2]
 refine fillI (qStA (c := troCells tro0 (.slice none 0 0)) ht rfl htl rfl fun H1 S1 c1 l1 => ?_)
 have he1 := S1.get he (by simp; exact Ne.symm h1)
 have hl1 := S1.get hl (by simp; exact Ne.symm h2)
 refine qSt he1 (by omega) rfl rfl fun H2 S2 c2 l2 => ?_
 rw [set1 hel] at c2
 have c12 := S2.get c1 (by simpa using h1)
 have hl2 := S2.get hl1 (by simp; exact Ne.symm h3)
 show Sem J 18 n0 31 _ _ H2 (QK KH)
 refine Sem_seq hJ (Sem_region hJ ?_)
 rw [zC3]
 refine SemOps_app hJ [0] (dec := []) (fun j b e => by cases e) ?_
 rw [wC3a]
 obtain ⟨fs,hfs⟩ := wrong_struct
 refine SemOps_tya hJ (o := opGet oC3 1) (x := .tmp 11) (xt := 20) (t := 72) (d := 12) (by kernel_rfl) (by kernel_rfl) (by kernel_rfl) (by kernel_rfl) (by decide) hfs (v := .agg ⟨[vint n]⟩) rfl ?_
 refine SemOps_of hJ [2,3,4,5,6,7] (dec := []) (fun j b e => by cases e) ?_
 rw [wC3b]
 refine ext0 (ext1 (qAl fun H3 p4 e4 S3 c4 l4 => qStA (c := [vint n]) c4 rfl rfl rfl fun H4 S4 c5 l5 => ?_))
 show Sem J 18 n0 31 _ _ H4 (QK KH)
 refine W_sound hJ mixed _ ?_
 rw [q31_3]
 have lt2 := lt_of_get c12
 have le2 := lt_of_get c2
 have ll2 := lt_of_get hl2
 have g1 := S4.get (S3.get c12 (by simp)) (by simp; omega)
 have g2 := S4.get (S3.get c2 (by simp)) (by simp; omega)
 have g3 := S4.get (S3.get hl2 (by simp)) (by simp; omega)
 refine cnd_true.2 (offI (ldI (v := vint n) c5 rfl rfl (qSt g3 (by omega) rfl rfl fun H5 S5 c6 l6 => ⟨rfl,rfl,?_⟩)))
 rw [set1 hll] at c6
 have S24 : SameX [] H2 H4 := S3.thru S4 (by simp; omega)
 have S02 : SameX [bt,be,bl] H H2 := (S1.weak (Y := [bt,be,bl]) (by simp)).thru S2 (by simp)
 exact hk H5 ((S02.trans S24.weak0).thru S5 (by simp)) (S5.get g1 (by simpa using h2)) (S5.get g2 (by simpa using h3)) c6
noncomputable def oR3 : Array Oper := opsAt [1,1,0] (codeOf f12)
noncomputable def oR5 : Array Oper := opsAt [1,1,1,1,0] (codeOf f12)
theorem eR : codeOf f12 = .seq (subC [0] (codeOf f12)) (.seq (subC [1,0] (codeOf f12)) (.seq (.region 3 oR3 false) (.seq (subC [1,1,1,0] (codeOf f12)) (.seq (.region 5 oR5 false) (subC yp7 (codeOf f12)))))) := by kernel_rfl
theorem zR3 : List.range oR3.size = [0,1] := by kernel_rfl
theorem zR5 : List.range oR5.size = [0] ++ [1] := by kernel_rfl
theorem wR3 {f : RG} {KK : Value → List AObj → Prop} : opW prog (Good prog J) (opGet oR3 0) f.r H KK = aMkF 31 [] [f.r 2,f.r 4,f.r 3] fun v => KK v H := by kernel_rfl
theorem wR5 {KK : RG → List AObj → Prop} : opsW prog (Good prog J) 23 oR5 [0] [] F H KK = KK (RG.p F 12 (F.r 0)) H := by kernel_rfl
theorem resR : f12.results.toList = [.cell 2 26,.cell 3 3,.cell 4 35] := by kernel_rfl
theorem resRd {a e : Int} {cs : List Value} (r2 : F.r 2 = ptr bt 0) (r3 : F.r 3 = ptr bl 0) (r4 : F.r 4 = ptr be 0) (ct : H[bt]? = some (.cells cs true 0)) (hl : cs.length = 4) (hn : kn cs = true) (cl : H[bl]? = some (.cells [vint a] true 0)) (ce : H[be]? = some (.cells [vint e] true 0))
  (hK : K (.tuple ⟨[.agg ⟨cs⟩,vint a,vint e]⟩) H) : resW prog f12.results.toList F.r H fun vs => K (pack vs) H := by
 rw [resR]
 refine resW_cell (gg := true) (s := 4) (by kernel_rfl) ?_
 rw [r2]
 refine load_part (c := cs) ct (by simp [hl]) (by rw [List.drop_zero,← hl,List.take_length]) hn ?_
 refine resW_cell (gg := false) (s := 1) (by kernel_rfl) ?_
 rw [r3]
 refine ldI (v := vint a) cl rfl rfl ?_
 refine resW_cell (gg := false) (s := 1) (by kernel_rfl) ?_
 rw [r4]
 exact ldI (v := vint e) ce rfl rfl (resW_nil hK)
theorem sli_nil0 : SliE H (.slice none 0 0) 2 Dro.cells ([] : List Dro) := ownX_sli (cs := []) (len := 0) ⟨rfl,rfl,.inl ⟨rfl,rfl,rfl⟩⟩
theorem tro_zero : TroAt H (.agg ⟨troCells tro0 (.slice none 0 0)⟩) tro0 (.slice none 0 0) := ⟨rfl,sli_nil0⟩
set_option maxHeartbeats 1000000 in
theorem good12 (hJ : Closed prog main J) (hK : ∀ H' fv,SameX [] H H' → TroAt H' (.agg ⟨troCells (readWT s) fv⟩) (readWT s) fv → K (.tuple ⟨[.agg ⟨troCells (readWT s) fv⟩,vint (readWE s).1,vint (readWE s).2]⟩) H') : Good prog J 12 [strV s] H K := by
 refine good_of_at at12 body12 (by kernel_rfl) (Nat.le_of_ble_eq_true (by kernel_rfl)) fun ok ρ FC cs c hc => ?_
 have hN : f12.ntmps = 23 := by kernel_rfl
 rw [hN,eR]
 have hfc : prog.funcs[31]? = some f31 := at31
 have hNc : f31.ntmps = 18 := by kernel_rfl
 -- a good end, told of the cells
 have bad : ∀ {a e : Int} {H' : List AObj},readWE s = (a,e) → e ≠ 0 → SameX [] H H' → K (.tuple ⟨[.agg ⟨troCells tro0 (.slice none 0 0)⟩,vint a,vint e]⟩) H' := fun {a e H'} h1 h2 S => by
  have hT : readWT s = tro0 := if_neg (by rw [h1]; exact h2)
  have := hK H' (.slice none 0 0) S (by rw [hT]; exact tro_zero)
  rw [hT,h1] at this
  exact this
 refine At.seq hJ (At.pieceQ hJ rfl (fn := 12) rfl (by simp) (Nat.le_refl _) (W_sound hJ mixed _ ?_))
 rw [q12_1]
 refine qAl fun H1 bt e1 S1 c1 l1 => qAl fun H2 bl e2 S2 c2 l2 => qAl fun H3 be e3 S3 c3 l3 => .inl ⟨rfl,?_⟩
 have ct3 := (S2.trans S3).get c1 (by simp)
 have cl3 := S3.get c2 (by simp)
 have S03 : SameX [] H H3 := (S1.trans S2).trans S3
 refine At.seq hJ (At.pieceQ hJ rfl (fn := 12) rfl (by simp) S03.1 (W_sound hJ mixed _ ?_))
 rw [q12_2]
 refine lenStr (s := s) (gtrI (cndI (fun hlong => ?_) fun hshort => .inl ⟨rfl,?_⟩))
 ·refine fillI (qStA (c := troCells tro0 (.slice none 0 0)) ct3 rfl rfl rfl fun H4 S4 c4 l4 => ?_)
  refine qSt (S4.get cl3 (by simp; omega)) (by decide) rfl rfl fun H5 S5 c5 l5 => ?_
  refine qSt (S5.get (S4.get c3 (by simp; omega)) (by simp; omega)) (by decide) rfl rfl fun H6 S6 c6 l6 => .inr (.inl ⟨rfl,?_⟩)
  refine AtE.finish hJ at12 hc rfl (resRd (bt := bt) (bl := bl) (be := be) rfl rfl rfl (S6.get (S5.get c4 (by simp; omega)) (by simp; omega)) rfl rfl (S6.get c5 (by simp; omega)) c6 ?_)
  exact bad (show readWE s = (0,10) from if_pos (by omega)) (by decide) (((S03.thru S4 (by simp; omega)).thru S5 (by simp; omega)).thru S6 (by simp; omega))
 have hs80 : s.length ≤ 80 := by omega
 have hE : readWE s = match readTr s with
  | .inl i => ((i : Nat),2)
  | .inr t => (0,troE t) := if_neg (by omega)
 -- the closure is put down
 refine At.seq hJ (At.reroot fun ρ1 hu1 hm1 => At.region hJ ?_)
 rw [zR3]
 have hc1 : ∀ v h' ρ' w' ft' cv,K v h' → HRel ρ' h' FC w' ft' → Env.upto H3.length ρ1 ρ' → H3.length ≤ h'.length → VRel h'.length ρ' v cv → J (G (c.finish cv) cs) w' ft' := fun v h' ρ' w' ft' cv a1 a2 a3 a4 a5 =>
  hc v h' ρ' w' ft' cv a1 a2 (Env.upto_trans hu1 (Env.upto_le a3 hm1)) (Nat.le_trans hm1 a4) a5
 refine At.op hJ (by simp) (o := opGet oR3 0) (by kernel_rfl) (by kernel_rfl) (gd_none (by kernel_rfl) _) ?_
 rw [wR3]
 refine ⟨rfl,fun _ => ?_⟩
 rw [show (opGet oR3 0).dst = some 11 by kernel_rfl]
 have hcap : LOk H3.length [ptr bt 0,ptr be 0,ptr bl 0] := by
  simp only [LOk,VOk,ptr,AddrOk]
  simp
  omega
 refine At.deferV hJ (by simp) rfl rfl (o := opGet oR3 1) (x := .tmp 11) (ats := #[]) (by kernel_rfl) (by kernel_rfl) (by kernel_rfl) (by kernel_rfl) (g := 31) (cap := [ptr bt 0,ptr be 0,ptr bl 0]) rfl hcap rfl ?_
 refine At.ops_nil hJ ?_
 -- the page
 refine At.seq hJ (At.pieceQ hJ rfl (fn := 12) rfl (by simp) (Nat.le_refl _) (W_sound hJ mixed _ ?_))
 rw [q12_3]
 refine qAl fun H4 pg e4 S4 c4 l4 => .inl ⟨rfl,?_⟩
 have ct4 := S4.get ct3 (by simp)
 have cl4 := S4.get cl3 (by simp)
 have ce4 := S4.get c3 (by simp)
 have S04 : SameX [] H H4 := S03.trans S4
 -- the two ends: nothing to recover; a wrong line
 have fin0 : ∀ {F' : RG} {H' : List AObj} {t : Tro} {fv : Value} {a e : Int},F'.ds = [] → F'.r 2 = ptr bt 0 → F'.r 3 = ptr bl 0 → F'.r 4 = ptr be 0 → H'[bt]? = some (.cells (troCells t fv) true 0) → kn1 fv = true → H'[bl]? = some (.cells [vint a] true 0) → H'[be]? = some (.cells [vint e] true 0) → K (.tuple ⟨[.agg ⟨troCells t fv⟩,vint a,vint e]⟩) H' → H3.length ≤ H'.length →
   AtE J 23 ⟨12,.normal,none,[]⟩ (c :: cs) FC ρ1 H3.length .returning F' H' := fun {F' H' t fv a e} hd x2 x3 x4 y2 hfv y3 y4 hk hle =>
  AtE.finish hJ at12 hc1 hd (resRd x2 x3 x4 y2 rfl (by unfold troCells kn; simp only [List.all_cons,hfv]; rfl) y3 y4 hk)
 have closeN : ∀ {F' : RG} {H' : List AObj} {t : Tro} {fv : Value} {a e : Int},F'.ds = [] → F'.r 2 = ptr bt 0 → F'.r 3 = ptr bl 0 → F'.r 4 = ptr be 0 → H'[bt]? = some (.cells (troCells t fv) true 0) → kn1 fv = true → H'[bl]? = some (.cells [vint a] true 0) → H'[be]? = some (.cells [vint e] true 0) → K (.tuple ⟨[.agg ⟨troCells t fv⟩,vint a,vint e]⟩) H' → H3.length ≤ H'.length →
   AtE J 23 ⟨12,.normal,none,[dcallV 31 ([ptr bt 0,ptr be 0,ptr bl 0].map (ren ρ1))]⟩ (c :: cs) FC ρ1 H3.length .returning F' H' := fun {F' H' t fv a e} hd x2 x3 x4 y2 hfv y3 y4 hk hle =>
  AtE.close hJ (fg := f31) (id := 0) (ops := oC0) (o := opGet oC0 0) (d := 6) (ats := #[]) (rest := subC [1] (codeOf f31)) (KH := fun h' => h' = H') hfc (body31.trans (congrArg some eC0)) (by kernel_rfl) (by kernel_rfl) (Nat.le_of_ble_eq_true (by kernel_rfl)) hcap (by kernel_rfl) (by kernel_rfl) (by kernel_rfl) (by kernel_rfl) (Nat.le_of_ble_eq_true (by kernel_rfl)) zC0 (.inl ⟨rfl,rfl⟩) (by simp [VOk]) hd
   (fun _ => by rw [hNc]; exact clo_nil hJ rfl) fun h' e _ => by subst e; exact fin0 hd x2 x3 x4 y2 hfv y3 y4 hk hle
 have closeP : ∀ {F' : RG} {H' : List AObj} {n : Nat},F'.ds = [] → F'.r 2 = ptr bt 0 → F'.r 3 = ptr bl 0 → F'.r 4 = ptr be 0 → SameX [pg] H4 H' → readTr s = .inl n →
   AtE J 23 ⟨12,.normal,none,[dcallV 31 ([ptr bt 0,ptr be 0,ptr bl 0].map (ren ρ1))]⟩ (c :: cs) FC ρ1 H3.length (.panicking [{ v := wrongV (n : Nat),recovered := false }]) F' H' := fun {F' H' n} hd x2 x3 x4 S hr =>
  AtE.close hJ (fg := f31) (id := 0) (ops := oC0) (o := opGet oC0 0) (d := 6) (ats := #[]) (rest := subC [1] (codeOf f31)) (KH := fun h' => SameX [bt,be,bl] H' h' ∧ h'[bt]? = some (.cells (troCells tro0 (.slice none 0 0)) true 0) ∧ h'[be]? = some (.cells [vint 2] true 0) ∧ h'[bl]? = some (.cells [vint (n : Nat)] true 0)) hfc (body31.trans (congrArg some eC0)) (by kernel_rfl) (by kernel_rfl) (Nat.le_of_ble_eq_true (by kernel_rfl)) hcap (by kernel_rfl) (by kernel_rfl) (by kernel_rfl) (by kernel_rfl) (Nat.le_of_ble_eq_true (by kernel_rfl)) zC0 (.inr rfl) (by simp [VOk,AOk,LOk,wrongV]) hd
   (fun _ => by
    rw [hNc]
    exact clo_wrong hJ (S.get ct4 (by simp; omega)) rfl (S.get ce4 (by simp; omega)) rfl (S.get cl4 (by simp; omega)) rfl (by omega) (by omega) (by omega) fun H6 S6 g1 g2 g3 => ⟨S6,g1,g2,g3⟩)
   fun h' ⟨S6,g1,g2,g3⟩ _ => fin0 hd x2 x3 x4 g1 rfl g3 g2 (bad (by rw [hE,hr]) (by decide) ((S04.thru S (by simp; omega)).thru S6 (by simp; omega))) (by have := S4.1; have := S.1; have := S6.1; omega)
 refine At.seq hJ (At.pieceQ hJ rfl (fn := 12) rfl (by simp) (by omega) (Sem_region hJ ?_))
 rw [zR5]
 refine SemOps_app hJ [0] (dec := []) (fun j b e => by cases e) ?_
 rw [wR5]
 have hG := good32 (s := s) (pg := pg) hJ (by omega) c4 (K := fun v H' => ∃ t sm,readTr s = .inr t ∧ SameX [pg] H4 H' ∧ PgAt H' pg H4.length t sm true) (KP := fun v H' => ∃ i : Nat,v = wrongV (i : Nat) ∧ readTr s = .inl i ∧ SameX [pg] H4 H') (fun i H' h1 h2 => ⟨i,rfl,h1,h2⟩) fun t sm H' h1 h2 h3 => ⟨t,sm,h1,h2,h3⟩
 refine SemOps_callP hJ (ops := oR5) (i := 1) (o := opGet oR5 1) (x := .func 32) (args := #[.tmp 5,.tmp 12]) (ats := (match (opGet oR5 1).op with | .call c => c.argTypes | _ => #[])) (by kernel_rfl) (gd_none (by kernel_rfl) _) (fun t ht => ?_) (by kernel_rfl) (g := 32) (first := []) (cap := []) rfl (show 32 < prog.funcs.size from Nat.le_of_ble_eq_true (by kernel_rfl)) hG ?_ ?_
 ·rw [show (opGet oR5 1).dst = some 13 by kernel_rfl] at ht
  cases ht
  decide
 ·rintro v H5 ⟨t,sm,hr,S5,fv,o,cp,O,hO⟩
  refine SemOps_nil hJ (.inl ⟨rfl,?_⟩)
  rw [show (opGet oR5 1).dst = some 13 by kernel_rfl]
  have hH4 := S4.1
  have hH5 := S5.1
  refine At.pieceQ hJ rfl (fn := 12) rfl (by simp) (by omega) (W_sound hJ mixed _ ?_)
  rw [q12_4]
  have fk : kn1 fv = true := (ownX_val O).2.2
  have kT : kn (troCells t fv) = true := by unfold troCells kn; simp only [List.all_cons,fk]; rfl
  have oT : (troCells t fv).all one = true := by unfold troCells; simp only [List.all_cons,(ownX_val O).2.1]; rfl
  have ld : ∀ {KV : Value → Prop} {H' : List AObj},H'[pg]? = some (.cells (pgC t.well fv sm true) true 0) → KV (.agg ⟨troCells t fv⟩) → aLoad true 4 (ptr pg 0) H' KV := fun hg hk => load_part (c := troCells t fv) hg (Nat.le_of_ble_eq_true rfl) rfl kT hk
  have hT : TroAt H5 (.agg ⟨troCells t fv⟩) t fv := ⟨rfl,ownX_sli O⟩
  have hEt : readWE s = (0,troE t) := by rw [hE,hr]
  have ct5 := S5.get ct4 (by simp; omega)
  have cl5 := S5.get cl4 (by simp; omega)
  have ce5 := S5.get ce4 (by simp; omega)
  refine offI (ld cp (good27 hJ hT (neqI (cndI (fun he => ?_) fun he => ?_))))
  ·refine fillI (qStA (c := troCells tro0 (.slice none 0 0)) ct5 rfl rfl rfl fun H6 S6 c6 l6 => ?_)
   refine qSt (S6.get cl5 (by simp; omega)) (by decide) rfl rfl fun H7 S7 c7 l7 => ?_
   refine qSt (S7.get (S6.get ce5 (by simp; omega)) (by simp; omega)) (by decide) rfl rfl fun H8 S8 c8 l8 => .inr (.inl ⟨rfl,?_⟩)
   refine closeN rfl rfl rfl rfl (S8.get (S7.get c6 (by simp; omega)) (by simp; omega)) rfl (S8.get c7 (by simp; omega)) c8 (bad hEt he ?_) (by omega)
   exact (((S04.thru S5 (by simp; omega)).thru S6 (by simp; omega)).thru S7 (by simp; omega)).thru S8 (by simp; omega)
  ·have he0 : troE t = 0 := Decidable.not_not.1 he
   refine offI (ld cp (qStA (c := troCells t fv) ct5 rfl rfl oT fun H6 S6 c6 l6 => ?_))
   refine qSt (S6.get cl5 (by simp; omega)) (by decide) rfl rfl fun H7 S7 c7 l7 => ?_
   refine qSt (S7.get (S6.get ce5 (by simp; omega)) (by simp; omega)) (by decide) rfl rfl fun H8 S8 c8 l8 => .inr (.inl ⟨rfl,?_⟩)
   refine closeN rfl rfl rfl rfl (S8.get (S7.get c6 (by simp; omega)) (by simp; omega)) fk (S8.get c7 (by simp; omega)) c8 ?_ (by omega)
   have S58 : SameX [bt,bl,be] H5 H8 := ((S6.weak (Y := [bt,bl,be]) (by simp)).thru S7 (by simp)).thru S8 (by simp)
   have S08 : SameX [] H H8 := (S04.thru S5 (by simp; omega)).thru S58 (by simp; omega)
   have hw : readWT s = t := by
    unfold readWT
    rw [if_pos (by rw [hEt]; exact he0),hr]
   have O8 := ownX_keep O S58 fun j hj => by have := hO j hj; simp; omega
   have := hK H8 fv S08 (by rw [hw]; exact ⟨rfl,ownX_sli O8⟩)
   rw [hw,hEt,he0] at this
   exact this
 ·rintro v H5 ⟨i,rfl,hr,S5⟩ _ _
  exact .inr (.inr ⟨_,rfl,by simp [VOk,AOk,LOk,wrongV],closeP rfl rfl rfl rfl S5 hr⟩)
end
end Go.Proofs.YtcmgjbflljmphaaGreatDoor
namespace Go.Proofs.YtcmgjbflljmphaaGreatDoor
open Go.Conc Go.Proofs.Tryz
set_option maxRecDepth 100000
set_option maxHeartbeats 4000000
set_option linter.unusedVariables false
section
variable {main : Bool} {J : JT} {n0 : Nat} {h : List AObj} {K : Value → List AObj → Prop}
theorem at13 : prog.funcs[13]? = some f13 := by kernel_rfl
theorem body13 : f13.body = some (codeOf f13) := by kernel_rfl
def pl13 : Plans := []
def ct13 : Cuts := .bin (.go) (.bin (.go) (.bin (.go) (.bin (.go) (.bin (.go) (.bin (.bin (.go) (.un (.un (.bin (.go) (.bin (.un (.bin (.go) (.bin (.go) (.un (.bin (.go) (.cut (.bin (.go) (.bin (.go) (.cut (.bin (.go) (.bin (.go) (.cut (.go))))))))))))) (.go)))))) (.bin (.bin (.go) (.cut (.go))) (.go)))))))
theorem pok13 : plansOk prog pl13 (codeOf f13) = true := by kernel_rfl
theorem e13 {a0 : Value} : W prog J 105 h.length 13 (codeOf f13) (RG.mk (regs [a0]) []) h (RetQ prog [.cell 2 26,.tmp 3,.tmp 4] h.length K) =
(aAlloc [(vint 0),(vint 0),(vint 0),(Value.slice none 0 0)] h fun v1 h2 =>
 aLenStr a0 fun v3 =>
 aBin prog .gtr 3 v3 (vint 80) fun v4 =>
 cnd v4
(aFill [(vint 0),(vint 0),(vint 0),(Value.slice none 0 0)] [] fun c5 =>
 aStore 4 v1 (Value.agg ⟨c5⟩) h2 fun h6 =>
 RetQ prog [.cell 2 26,.tmp 3,.tmp 4] h.length K .ret (RG.p (RG.p (RG.p (RG.p (RG.p (RG.p (RG.p (RG.p (RG.p (RG.mk (regs [a0]) []) 2 v1) 3 (vint 0)) 4 (vint 0)) 14 a0) 15 v3) 16 v4) 17 (Value.agg ⟨c5⟩)) 3 (vint 0)) 4 (vint 10)) h6)
(Good prog J 33 [a0,(Value.int .u8 10)] h2 fun v7 h8 =>
 aAlloc [(vint 0),(vint 0),(vint 0),(Value.slice none 0 0)] h8 fun v9 h10 =>
 Sem J 105 h.length 13 (subC yp4 (codeOf f13)) (RG.p (RG.p (RG.p (RG.p (RG.p (RG.p (RG.p (RG.p (RG.p (RG.p (RG.p (RG.p (RG.mk (regs [a0]) []) 2 v1) 3 (vint 0)) 4 (vint 0)) 14 a0) 15 v3) 16 v4) 18 a0) 19 v7) 5 v7) 6 v9) 7 (Value.bool false)) 8 (vint 0)) h10 (contX pl13 prog J 105 h.length 13 ct13 yp4 (codeOf f13) [] (RetQ prog [.cell 2 26,.tmp 3,.tmp 4] h.length K)))) := top_eq pok13 ct13 (by kernel_rfl)
theorem g13 (hJ : Closed prog main J) {a0 : Value} (hs : heapOk h → W prog J 105 h.length 13 (codeOf f13) (RG.mk (regs [a0]) []) h (RetQ prog [.cell 2 26,.tmp 3,.tmp 4] h.length K)) : Good prog J 13 [a0] h K :=
 good_of_W hJ mixed at13 body13 (by kernel_rfl) (Nat.le_of_ble_eq_true rfl) hs
theorem s13_1 {f : RG} {nx0 : RG → List AObj → Prop} : W prog J 105 n0 13 (subC yp25 (codeOf f13)) f h (thenK nx0 (contX pl13 prog J 105 n0 13 ct13 yp4 (codeOf f13) [] (RetQ prog [.cell 2 26,.tmp 3,.tmp 4] n0 K))) =
(aLenS (f.r 5) fun v1 =>
 aBin prog .sub 3 v1 (vint 1) fun v2 =>
 aBin prog .lss 3 (f.r 8) v2 fun v3 =>
 cnd v3
(aIdx 1 (f.r 5) (f.r 8) fun v4 =>
 aLoad false 1 v4 h fun v5 =>
 Good prog J 34 [v5] h fun v6 h7 =>
 aExt v6 0 fun v8 =>
 aExt v6 1 fun v9 =>
 aAlloc [(vint 0),(vint 0),(vint 0)] h7 fun v10 h11 =>
 aStore 3 v10 v8 h11 fun h12 =>
 aIdx 1 (f.r 5) (f.r 8) fun v13 =>
 aLoad false 1 v13 h12 fun v14 =>
 Good prog J 35 [v14] h12 fun v15 h16 =>
 aExt v15 0 fun v17 =>
 aExt v15 1 fun v18 =>
 aAlloc [(vint 0),(vint 0)] h16 fun v19 h20 =>
 aStore 2 v19 v17 h20 fun h21 =>
 aBin prog .eql 3 (f.r 8) (vint 0) fun v22 =>
 cnd v22
(Hold (W prog J 105 n0 13 (subC yp17 (codeOf f13)) (RG.p (RG.p (RG.p (RG.p (RG.p (RG.p (RG.p (RG.p (RG.p (RG.p (RG.p (RG.p (RG.p (RG.p (RG.p (RG.p (RG.p (RG.p (RG.p (RG.p (RG.p (RG.p (RG.p (RG.p (RG.p (RG.p (RG.p (RG.p (RG.p (RG.p (RG.p (RG.p f 20 (f.r 8)) 21 (f.r 5)) 22 v1) 23 v2) 24 v3) 28 (f.r 5)) 29 (f.r 8)) 30 v4) 31 v5) 32 v6) 27 v6) 33 v8) 34 v9) 9 v10) 10 v9) 36 (f.r 5)) 37 (f.r 8)) 38 v13) 39 v14) 40 v15) 35 v15) 41 v17) 42 v18) 11 v19) 12 v18) 47 (f.r 8)) 48 v22) 49 v22) 49 (Value.bool true)) 50 v9) 51 v9) 46 v9) h21 (contX pl13 prog J 105 n0 13 ct13 yp17 (codeOf f13) [nx0] (RetQ prog [.cell 2 26,.tmp 3,.tmp 4] n0 K))))
(Hold (W prog J 105 n0 13 (subC yp17 (codeOf f13)) (RG.p (RG.p (RG.p (RG.p (RG.p (RG.p (RG.p (RG.p (RG.p (RG.p (RG.p (RG.p (RG.p (RG.p (RG.p (RG.p (RG.p (RG.p (RG.p (RG.p (RG.p (RG.p (RG.p (RG.p (RG.p (RG.p (RG.p (RG.p (RG.p (RG.p (RG.p (RG.p f 20 (f.r 8)) 21 (f.r 5)) 22 v1) 23 v2) 24 v3) 28 (f.r 5)) 29 (f.r 8)) 30 v4) 31 v5) 32 v6) 27 v6) 33 v8) 34 v9) 9 v10) 10 v9) 36 (f.r 5)) 37 (f.r 8)) 38 v13) 39 v14) 40 v15) 35 v15) 41 v17) 42 v18) 11 v19) 12 v18) 47 (f.r 8)) 48 v22) 49 v22) 49 (Value.bool false)) 50 undef) 51 (Value.bool false)) 46 (Value.bool false)) h21 (contX pl13 prog J 105 n0 13 ct13 yp17 (codeOf f13) [nx0] (RetQ prog [.cell 2 26,.tmp 3,.tmp 4] n0 K)))))
(aUn .not (f.r 7) fun v23 =>
 cnd v23
(Hold (W prog J 105 n0 13 (subC yp18 (codeOf f13)) (RG.p (RG.p (RG.p (RG.p (RG.p (RG.p (RG.p (RG.p (RG.p (RG.p (RG.p (RG.p (RG.p (RG.p (RG.p (RG.p (RG.p f 20 (f.r 8)) 21 (f.r 5)) 22 v1) 23 v2) 24 v3) 84 (f.r 7)) 85 v23) 86 v23) 86 (Value.bool true)) 87 undef) 88 undef) 89 undef) 90 undef) 91 undef) 92 undef) 93 undef) 94 (Value.bool true)) h (contX pl13 prog J 105 n0 13 ct13 yp18 (codeOf f13) [] (RetQ prog [.cell 2 26,.tmp 3,.tmp 4] n0 K))))
(aLenS (f.r 5) fun v24 =>
 aBin prog .sub 3 v24 (vint 1) fun v25 =>
 aIdx 1 (f.r 5) v25 fun v26 =>
 aLoad false 1 v26 h fun v27 =>
 aBin prog .neq 9 v27 (Value.string { data := #[] }) fun v28 =>
 Hold (W prog J 105 n0 13 (subC yp18 (codeOf f13)) (RG.p (RG.p (RG.p (RG.p (RG.p (RG.p (RG.p (RG.p (RG.p (RG.p (RG.p (RG.p (RG.p (RG.p (RG.p (RG.p (RG.p f 20 (f.r 8)) 21 (f.r 5)) 22 v1) 23 v2) 24 v3) 84 (f.r 7)) 85 v23) 86 v23) 86 (Value.bool false)) 87 (f.r 5)) 88 (f.r 5)) 89 v24) 90 v25) 91 v26) 92 v27) 93 v28) 94 v28) h (contX pl13 prog J 105 n0 13 ct13 yp18 (codeOf f13) [] (RetQ prog [.cell 2 26,.tmp 3,.tmp 4] n0 K)))))) := sub_eq pok13 ct13 (by kernel_rfl)
theorem l13_1 (hJ : Closed prog main J) {S : Type} (μ : S → Nat) (I : S → RG → List AObj → Prop) (hI : ∀ s f h,I s f h → heapOk h → n0 ≤ h.length → W prog J 105 n0 13 (subC yp25 (codeOf f13)) f h (thenK (Nx n0 μ I s) (contX pl13 prog J 105 n0 13 ct13 yp4 (codeOf f13) [] (RetQ prog [.cell 2 26,.tmp 3,.tmp 4] n0 K))))
 {s : S} {f : RG} (hi : Gets n0 I s f h) : Sem J 105 n0 13 (subC yp4 (codeOf f13)) f h (contX pl13 prog J 105 n0 13 ct13 yp4 (codeOf f13) [] (RetQ prog [.cell 2 26,.tmp 3,.tmp 4] n0 K)) :=
 loop_rule hJ mixed (b := subC yp25 (codeOf f13)) (by kernel_rfl) μ I hI hi
theorem s13_2 {f : RG} {nx0 : RG → List AObj → Prop} : W prog J 105 n0 13 (subC yp17 (codeOf f13)) f h (contX pl13 prog J 105 n0 13 ct13 yp17 (codeOf f13) [nx0] (RetQ prog [.cell 2 26,.tmp 3,.tmp 4] n0 K)) =
(cnd (f.r 46)
(aLoad true 3 (f.r 9) h fun v1 =>
 aOff (f.r 6) 0 fun v2 =>
 aStore 3 v2 v1 h fun h3 =>
 aBin prog .add 3 (f.r 8) (vint 1) fun v4 =>
 nx0 (RG.p (RG.p (RG.p (RG.p (RG.p f 52 v1) 53 v2) 25 (f.r 8)) 26 v4) 8 v4) h3)
(aBin prog .gtr 3 (f.r 8) (vint 0) fun v5 =>
 cnd v5
(aUn .not (f.r 7) fun v6 =>
 cnd v6
(Hold (W prog J 105 n0 13 (subC yp8 (codeOf f13)) (RG.p (RG.p (RG.p (RG.p (RG.p (RG.p (RG.p (RG.p (RG.p (RG.p (RG.p (RG.p f 55 (f.r 8)) 56 v5) 57 v5) 57 (Value.bool true)) 58 (f.r 7)) 59 v6) 60 v6) 61 v6) 61 (Value.bool true)) 62 (f.r 12)) 63 (f.r 12)) 54 (f.r 12)) h (contX pl13 prog J 105 n0 13 ct13 yp8 (codeOf f13) [nx0] (RetQ prog [.cell 2 26,.tmp 3,.tmp 4] n0 K))))
(Hold (W prog J 105 n0 13 (subC yp8 (codeOf f13)) (RG.p (RG.p (RG.p (RG.p (RG.p (RG.p (RG.p (RG.p (RG.p (RG.p (RG.p (RG.p f 55 (f.r 8)) 56 v5) 57 v5) 57 (Value.bool true)) 58 (f.r 7)) 59 v6) 60 v6) 61 v6) 61 (Value.bool false)) 62 undef) 63 (Value.bool false)) 54 (Value.bool false)) h (contX pl13 prog J 105 n0 13 ct13 yp8 (codeOf f13) [nx0] (RetQ prog [.cell 2 26,.tmp 3,.tmp 4] n0 K)))))
(Hold (W prog J 105 n0 13 (subC yp8 (codeOf f13)) (RG.p (RG.p (RG.p (RG.p (RG.p (RG.p (RG.p (RG.p (RG.p (RG.p (RG.p (RG.p f 55 (f.r 8)) 56 v5) 57 v5) 57 (Value.bool false)) 58 undef) 59 undef) 60 (Value.bool false)) 61 (Value.bool false)) 61 (Value.bool false)) 62 undef) 63 (Value.bool false)) 54 (Value.bool false)) h (contX pl13 prog J 105 n0 13 ct13 yp8 (codeOf f13) [nx0] (RetQ prog [.cell 2 26,.tmp 3,.tmp 4] n0 K)))))) := sub_eq pok13 ct13 (by kernel_rfl)
theorem s13_3 {f : RG} : W prog J 105 n0 13 (subC yp18 (codeOf f13)) f h (contX pl13 prog J 105 n0 13 ct13 yp18 (codeOf f13) [] (RetQ prog [.cell 2 26,.tmp 3,.tmp 4] n0 K)) =
(cnd (f.r 94)
(aFill [(vint 0),(vint 0),(vint 0),(Value.slice none 0 0)] [] fun c1 =>
 aLenS (f.r 5) fun v2 =>
 aStore 4 (f.r 2) (Value.agg ⟨c1⟩) h fun h3 =>
 RetQ prog [.cell 2 26,.tmp 3,.tmp 4] n0 K .ret (RG.p (RG.p (RG.p (RG.p (RG.p f 95 (Value.agg ⟨c1⟩)) 96 (f.r 5)) 97 v2) 3 v2) 4 (vint 2)) h3)
(aLoad true 4 (f.r 6) h fun v4 =>
 Good prog J 29 [v4] h fun v5 h6 =>
 aBin prog .neq 35 v5 (vint 0) fun v7 =>
 cnd v7
(aFill [(vint 0),(vint 0),(vint 0),(Value.slice none 0 0)] [] fun c8 =>
 aStore 4 (f.r 2) (Value.agg ⟨c8⟩) h6 fun h9 =>
 RetQ prog [.cell 2 26,.tmp 3,.tmp 4] n0 K .ret (RG.p (RG.p (RG.p (RG.p (RG.p (RG.p (RG.p (RG.p (RG.p f 98 v4) 99 v5) 13 v5) 100 v5) 101 v7) 102 (Value.agg ⟨c8⟩)) 103 v5) 3 (vint 0)) 4 v5) h9)
(aLoad true 4 (f.r 6) h6 fun v10 =>
 aStore 4 (f.r 2) v10 h6 fun h11 =>
 RetQ prog [.cell 2 26,.tmp 3,.tmp 4] n0 K .ret (RG.p (RG.p (RG.p (RG.p (RG.p (RG.p (RG.p (RG.p f 98 v4) 99 v5) 13 v5) 100 v5) 101 v7) 104 v10) 3 (vint 0)) 4 (vint 0)) h11))) := sub_eq pok13 ct13 (by kernel_rfl)
theorem s13_4 {f : RG} {nx0 : RG → List AObj → Prop} : W prog J 105 n0 13 (subC yp8 (codeOf f13)) f h (contX pl13 prog J 105 n0 13 ct13 yp8 (codeOf f13) [nx0] (RetQ prog [.cell 2 26,.tmp 3,.tmp 4] n0 K)) =
(cnd (f.r 54)
(aOff (f.r 6) 3 fun v1 =>
 aLoad false 1 v1 h fun v2 =>
 aLoad true 2 (f.r 11) h fun v3 =>
(((1 * 2 : Nat) ≤ 16777216 ∧ (1 : Nat) ≤ 16777216 ∧ List.length [(vint 0),(vint 0)] = 2) ∧ aFill (zrep [(vint 0),(vint 0)] 1) [(0,2,v3)] fun c4 =>
 aNewS 1 c4 h fun v5 h6 =>
((List.length [(vint 0),(vint 0)] = 2 ∧ 0 < (2 : Nat) ∧ 0 < (16 : Nat) ∧ (16 : Nat) ≤ 1024) ∧ aApp 2 v2 v5 h6 fun v7 h8 =>
 aOff (f.r 6) 3 fun v9 =>
 aStore 1 v9 v7 h8 fun h10 =>
 aBin prog .add 3 (f.r 8) (vint 1) fun v11 =>
 nx0 (RG.p (RG.p (RG.p (RG.p (RG.p (RG.p (RG.p (RG.p (RG.p f 64 v1) 65 v2) 66 v3) 67 v5) 68 v7) 69 v9) 25 (f.r 8)) 26 v11) 8 v11) h10)))
(aBin prog .gtr 3 (f.r 8) (vint 0) fun v12 =>
 cnd v12
(aUn .not (f.r 7) fun v13 =>
 cnd v13
(aIdx 1 (f.r 5) (f.r 8) fun v14 =>
 aLoad false 1 v14 h fun v15 =>
 aBin prog .eql 9 v15 (Value.string { data := #[116,114,111,117,103,104] }) fun v16 =>
 Hold (W prog J 105 n0 13 (subC yp11 (codeOf f13)) (RG.p (RG.p (RG.p (RG.p (RG.p (RG.p (RG.p (RG.p (RG.p (RG.p (RG.p (RG.p (RG.p (RG.p (RG.p (RG.p f 71 (f.r 8)) 72 v12) 73 v12) 73 (Value.bool true)) 74 (f.r 7)) 75 v13) 76 v13) 77 v13) 77 (Value.bool true)) 78 (f.r 5)) 79 (f.r 8)) 80 v14) 81 v15) 82 v16) 83 v16) 70 v16) h (contX pl13 prog J 105 n0 13 ct13 yp11 (codeOf f13) [nx0] (RetQ prog [.cell 2 26,.tmp 3,.tmp 4] n0 K))))
(Hold (W prog J 105 n0 13 (subC yp11 (codeOf f13)) (RG.p (RG.p (RG.p (RG.p (RG.p (RG.p (RG.p (RG.p (RG.p (RG.p (RG.p (RG.p (RG.p (RG.p (RG.p (RG.p f 71 (f.r 8)) 72 v12) 73 v12) 73 (Value.bool true)) 74 (f.r 7)) 75 v13) 76 v13) 77 v13) 77 (Value.bool false)) 78 undef) 79 undef) 80 undef) 81 undef) 82 undef) 83 (Value.bool false)) 70 (Value.bool false)) h (contX pl13 prog J 105 n0 13 ct13 yp11 (codeOf f13) [nx0] (RetQ prog [.cell 2 26,.tmp 3,.tmp 4] n0 K)))))
(Hold (W prog J 105 n0 13 (subC yp11 (codeOf f13)) (RG.p (RG.p (RG.p (RG.p (RG.p (RG.p (RG.p (RG.p (RG.p (RG.p (RG.p (RG.p (RG.p (RG.p (RG.p (RG.p f 71 (f.r 8)) 72 v12) 73 v12) 73 (Value.bool false)) 74 undef) 75 undef) 76 (Value.bool false)) 77 (Value.bool false)) 77 (Value.bool false)) 78 undef) 79 undef) 80 undef) 81 undef) 82 undef) 83 (Value.bool false)) 70 (Value.bool false)) h (contX pl13 prog J 105 n0 13 ct13 yp11 (codeOf f13) [nx0] (RetQ prog [.cell 2 26,.tmp 3,.tmp 4] n0 K)))))) := sub_eq pok13 ct13 (by kernel_rfl)
theorem s13_5 {f : RG} {nx0 : RG → List AObj → Prop} : W prog J 105 n0 13 (subC yp11 (codeOf f13)) f h (contX pl13 prog J 105 n0 13 ct13 yp11 (codeOf f13) [nx0] (RetQ prog [.cell 2 26,.tmp 3,.tmp 4] n0 K)) =
(cnd (f.r 70)
(aBin prog .add 3 (f.r 8) (vint 1) fun v1 =>
 nx0 (RG.p (RG.p (RG.p (RG.p f 7 (Value.bool true)) 25 (f.r 8)) 26 v1) 8 v1) h)
(aFill [(vint 0),(vint 0),(vint 0),(Value.slice none 0 0)] [] fun c2 =>
 aBin prog .add 3 (f.r 8) (vint 1) fun v3 =>
 aStore 4 (f.r 2) (Value.agg ⟨c2⟩) h fun h4 =>
 RetQ prog [.cell 2 26,.tmp 3,.tmp 4] n0 K .ret (RG.p (RG.p (RG.p (RG.p (RG.p f 43 (Value.agg ⟨c2⟩)) 44 (f.r 8)) 45 v3) 3 v3) 4 (vint 2)) h4)) := sub_eq pok13 ct13 (by kernel_rfl)
theorem at10 : prog.funcs[10]? = some f10 := by kernel_rfl
theorem body10 : f10.body = some (codeOf f10) := by kernel_rfl
def pl10 : Plans := [(4,false,.take 0 (.take 1 (.take 2 (.take 6 (.take 7 (.take 8 (.take 12 (.take 13 (.take 14 (.last 3 true (.take 4 (.take 5 (.last 9 true (.take 10 (.take 11 (.last 15 true (.take 16 (.take 17 (.take 18 (.fin)))))))))))))))))))),
 (8,false,.take 0 (.take 1 (.take 2 (.take 3 (.take 4 (.take 5 (.take 6 (.take 7 (.take 11 (.take 12 (.take 13 (.take 14 (.take 15 (.take 16 (.last 8 true (.take 9 (.take 10 (.last 17 true (.take 18 (.take 19 (.take 20 (.fin))))))))))))))))))))))]
def ct10 : Cuts := .go
theorem pok10 : plansOk prog pl10 (codeOf f10) = true := by kernel_rfl
theorem e10 {a0 : Value} : W prog J 59 h.length 10 (codeOf f10) (RG.mk (regs [a0]) []) h (RetQ prog [.tmp 2,.tmp 3] h.length K) =
(aBox a0 h fun v1 h2 =>
 aLoad true 4 v1 h2 fun v3 =>
 Good prog J 29 [v3] h2 fun v4 h5 =>
 aBin prog .neq 35 v4 (vint 0) fun v6 =>
 cnd v6
(retL h.length K [] [(Value.string { data := #[] }),v4] h5)
((∃ B,aOff v1 0 fun v7 =>
 aOff v7 0 fun v8 =>
 aLoad false 1 v8 h5 fun v9 =>
 RdOk (some B) (ptrBlk v8) ∧ (aOff v1 0 fun v10 =>
 aOff v10 1 fun v11 =>
 aLoad false 1 v11 h5 fun v12 =>
 RdOk (some B) (ptrBlk v11) ∧ (aOff v1 0 fun v13 =>
 aOff v13 2 fun v14 =>
 aLoad false 1 v14 h5 fun v15 =>
 RdOk (some B) (ptrBlk v14) ∧ (Good prog J 28 [v9] h5 fun v16 h17 =>
 SameB (some B) h5 h17 ∧ (aBin prog .add 9 (Value.string { data := #[119,101,108,108,32] }) v16 fun v18 =>
 aBin prog .add 9 v18 (Value.string { data := #[47] }) fun v19 =>
 Good prog J 28 [v12] h17 fun v20 h21 =>
 SameB (some B) h5 h21 ∧ (aBin prog .add 9 v19 v20 fun v22 =>
 aBin prog .add 9 v22 (Value.string { data := #[32,43] }) fun v23 =>
 Good prog J 28 [v15] h21 fun v24 h25 =>
 SameB (some B) h5 h25 ∧ (aBin prog .add 9 v23 v24 fun v26 =>
 aBin prog .add 9 v26 (Value.string { data := #[10] }) fun v27 =>
 Sem J 59 h.length 10 (subC yp0 (codeOf f10)) (RG.p (RG.p (RG.p (RG.p (RG.p (RG.p (RG.p (RG.p (RG.p (RG.p (RG.p (RG.p (RG.p (RG.p (RG.p (RG.p (RG.p (RG.p (RG.p (RG.p (RG.p (RG.p (RG.p (RG.p (RG.p (RG.p (RG.p (RG.p (RG.mk (regs [a0]) []) 1 v1) 2 (Value.string { data := #[] })) 3 (vint 0)) 7 v3) 8 v4) 4 v4) 9 v4) 10 v6) 12 v7) 13 v8) 14 v9) 18 v10) 19 v11) 20 v12) 24 v13) 25 v14) 26 v15) 15 v16) 16 v18) 17 v19) 21 v20) 22 v22) 23 v23) 27 v24) 28 v26) 29 v27) 5 v27) 6 (vint 0)) h25 (contX pl10 prog J 59 h.length 10 ct10 yp0 (codeOf f10) [] (RetQ prog [.tmp 2,.tmp 3] h.length K))))))))))) := top_eq pok10 ct10 (by kernel_rfl)
theorem g10 (hJ : Closed prog main J) {a0 : Value} (hs : heapOk h → W prog J 59 h.length 10 (codeOf f10) (RG.mk (regs [a0]) []) h (RetQ prog [.tmp 2,.tmp 3] h.length K)) : Good prog J 10 [a0] h K :=
 good_of_W hJ mixed at10 body10 (by kernel_rfl) (Nat.le_of_ble_eq_true rfl) hs
theorem s10_1 {f : RG} {nx0 : RG → List AObj → Prop} : W prog J 59 n0 10 (subC yp1 (codeOf f10)) f h (thenK nx0 (contX pl10 prog J 59 n0 10 ct10 yp0 (codeOf f10) [] (RetQ prog [.tmp 2,.tmp 3] n0 K))) =
(aOff (f.r 1) 3 fun v1 =>
 aLoad false 1 v1 h fun v2 =>
 aLenS v2 fun v3 =>
 aBin prog .lss 3 (f.r 6) v3 fun v4 =>
 cnd v4
((∃ B,aBin prog .add 9 (f.r 5) (Value.string { data := #[102,108,111,99,107,32,45] }) fun v5 =>
 aOff (f.r 1) 3 fun v6 =>
 aLoad false 1 v6 h fun v7 =>
 RdOk (some B) (ptrBlk v6) ∧ (aIdx 2 v7 (f.r 6) fun v8 =>
 aOff v8 0 fun v9 =>
 aLoad false 1 v9 h fun v10 =>
 RdOk (some B) (ptrBlk v9) ∧ (aOff (f.r 1) 3 fun v11 =>
 aLoad false 1 v11 h fun v12 =>
 RdOk (some B) (ptrBlk v11) ∧ (aIdx 2 v12 (f.r 6) fun v13 =>
 aOff v13 1 fun v14 =>
 aLoad false 1 v14 h fun v15 =>
 RdOk (some B) (ptrBlk v14) ∧ (Good prog J 28 [v10] h fun v16 h17 =>
 SameB (some B) h h17 ∧ (aBin prog .add 9 v5 v16 fun v18 =>
 aBin prog .add 9 v18 (Value.string { data := #[32,64] }) fun v19 =>
 Good prog J 28 [v15] h17 fun v20 h21 =>
 SameB (some B) h h21 ∧ (aBin prog .add 9 v19 v20 fun v22 =>
 aBin prog .add 9 v22 (Value.string { data := #[10] }) fun v23 =>
 aBin prog .add 3 (f.r 6) (vint 1) fun v24 =>
 nx0 (RG.p (RG.p (RG.p (RG.p (RG.p (RG.p (RG.p (RG.p (RG.p (RG.p (RG.p (RG.p (RG.p (RG.p (RG.p (RG.p (RG.p (RG.p (RG.p (RG.p (RG.p (RG.p (RG.p (RG.p (RG.p (RG.p (RG.p (RG.p (RG.p f 30 (f.r 6)) 31 v1) 32 v2) 33 v3) 34 v4) 37 (f.r 5)) 38 v5) 39 v6) 40 v7) 41 (f.r 6)) 42 v8) 43 v9) 44 v10) 48 v11) 49 v12) 50 (f.r 6)) 51 v13) 52 v14) 53 v15) 45 v16) 46 v18) 47 v19) 54 v20) 55 v22) 56 v23) 5 v23) 35 (f.r 6)) 36 v24) 6 v24) h21))))))))
(aBin prog .add 9 (f.r 5) (Value.string { data := #[116,114,111,117,103,104,10] }) fun v25 =>
 retL n0 K f.ds [v25,(vint 0)] h)) := sub_eq pok10 ct10 (by kernel_rfl)
theorem l10_1 (hJ : Closed prog main J) {S : Type} (μ : S → Nat) (I : S → RG → List AObj → Prop) (hI : ∀ s f h,I s f h → heapOk h → n0 ≤ h.length → W prog J 59 n0 10 (subC yp1 (codeOf f10)) f h (thenK (Nx n0 μ I s) (contX pl10 prog J 59 n0 10 ct10 yp0 (codeOf f10) [] (RetQ prog [.tmp 2,.tmp 3] n0 K))))
 {s : S} {f : RG} (hi : Gets n0 I s f h) : Sem J 59 n0 10 (subC yp0 (codeOf f10)) f h (contX pl10 prog J 59 n0 10 ct10 yp0 (codeOf f10) [] (RetQ prog [.tmp 2,.tmp 3] n0 K)) :=
 loop_rule hJ mixed (b := subC yp1 (codeOf f10)) (by kernel_rfl) μ I hI hi
end
section
variable {main : Bool} {J : JT} {n0 : Nat} {h : List AObj} {K : Value → List AObj → Prop}
theorem at54 : prog.funcs[54]? = some f54 := by kernel_rfl
theorem body54 : f54.body = some (codeOf f54) := by kernel_rfl
def pl54 : Plans := []
def ct54 : Cuts := .bin (.go) (.bin (.bin (.go) (.cut (.go))) (.go))
theorem pok54 : plansOk prog pl54 (codeOf f54) = true := by kernel_rfl
theorem e54 {a0 : Value} : W prog J 21 h.length 54 (codeOf f54) (RG.mk (regs [a0]) []) h (RetQ prog [.tmp 2] h.length K) =
(aBox a0 h fun v1 h2 =>
 aOff v1 1 fun v3 =>
 aLoad false 1 v3 h2 fun v4 =>
 Good prog J 55 [v4,(vint 1),(vint 40)] h2 fun v5 h6 =>
 aUn .not v5 fun v7 =>
 cnd v7
(Hold (W prog J 21 h.length 54 (subC [1,0,1] (codeOf f54)) (RG.p (RG.p (RG.p (RG.p (RG.p (RG.p (RG.p (RG.p (RG.p (RG.p (RG.p (RG.p (RG.p (RG.p (RG.p (RG.p (RG.p (RG.p (RG.p (RG.p (RG.p (RG.p (RG.mk (regs [a0]) []) 1 v1) 2 (vint 0)) 3 v3) 4 v4) 5 v5) 6 v7) 7 v7) 7 (Value.bool true)) 8 undef) 9 undef) 10 undef) 11 undef) 12 undef) 13 undef) 14 (Value.bool true)) 15 (Value.bool true)) 15 (Value.bool true)) 16 undef) 17 undef) 18 undef) 19 undef) 20 (Value.bool true)) h6 (contX pl54 prog J 21 h.length 54 ct54 [1,0,1] (codeOf f54) [] (RetQ prog [.tmp 2] h.length K))))
(aOff v1 0 fun v8 =>
 aLoad false 1 v8 h6 fun v9 =>
 aOff v1 1 fun v10 =>
 aLoad false 1 v10 h6 fun v11 =>
 Good prog J 55 [v9,(vint 0),v11] h6 fun v12 h13 =>
 aUn .not v12 fun v14 =>
 cnd v14
(Hold (W prog J 21 h.length 54 (subC [1,0,1] (codeOf f54)) (RG.p (RG.p (RG.p (RG.p (RG.p (RG.p (RG.p (RG.p (RG.p (RG.p (RG.p (RG.p (RG.p (RG.p (RG.p (RG.p (RG.p (RG.p (RG.p (RG.p (RG.p (RG.p (RG.mk (regs [a0]) []) 1 v1) 2 (vint 0)) 3 v3) 4 v4) 5 v5) 6 v7) 7 v7) 7 (Value.bool false)) 8 v8) 9 v9) 10 v10) 11 v11) 12 v12) 13 v14) 14 v14) 15 v14) 15 (Value.bool true)) 16 undef) 17 undef) 18 undef) 19 undef) 20 (Value.bool true)) h13 (contX pl54 prog J 21 h.length 54 ct54 [1,0,1] (codeOf f54) [] (RetQ prog [.tmp 2] h.length K))))
(aOff v1 2 fun v15 =>
 aLoad false 1 v15 h13 fun v16 =>
 Good prog J 55 [v16,(vint 0),(vint 20)] h13 fun v17 h18 =>
 aUn .not v17 fun v19 =>
 Hold (W prog J 21 h.length 54 (subC [1,0,1] (codeOf f54)) (RG.p (RG.p (RG.p (RG.p (RG.p (RG.p (RG.p (RG.p (RG.p (RG.p (RG.p (RG.p (RG.p (RG.p (RG.p (RG.p (RG.p (RG.p (RG.p (RG.p (RG.p (RG.p (RG.mk (regs [a0]) []) 1 v1) 2 (vint 0)) 3 v3) 4 v4) 5 v5) 6 v7) 7 v7) 7 (Value.bool false)) 8 v8) 9 v9) 10 v10) 11 v11) 12 v12) 13 v14) 14 v14) 15 v14) 15 (Value.bool false)) 16 v15) 17 v16) 18 v17) 19 v19) 20 v19) h18 (contX pl54 prog J 21 h.length 54 ct54 [1,0,1] (codeOf f54) [] (RetQ prog [.tmp 2] h.length K)))))) := top_eq pok54 ct54 (by kernel_rfl)
theorem g54 (hJ : Closed prog main J) {a0 : Value} (hs : heapOk h → W prog J 21 h.length 54 (codeOf f54) (RG.mk (regs [a0]) []) h (RetQ prog [.tmp 2] h.length K)) : Good prog J 54 [a0] h K :=
 good_of_W hJ mixed at54 body54 (by kernel_rfl) (Nat.le_of_ble_eq_true rfl) hs
theorem s54_1 {f : RG} : W prog J 21 n0 54 (subC [1,0,1] (codeOf f54)) f h (contX pl54 prog J 21 n0 54 ct54 [1,0,1] (codeOf f54) [] (RetQ prog [.tmp 2] n0 K)) =
(cnd (f.r 20)
(retL n0 K f.ds [(vint 1)] h)
(retL n0 K f.ds [(vint 0)] h)) := sub_eq pok54 ct54 (by kernel_rfl)
theorem at29 : prog.funcs[29]? = some f29 := by kernel_rfl
theorem body29 : f29.body = some (codeOf f29) := by kernel_rfl
def pl29 : Plans := []
def ct29 : Cuts := .bin (.go) (.bin (.go) (.bin (.go) (.bin (.go) (.bin (.bin (.go) (.un (.un (.bin (.go) (.bin (.un (.bin (.go) (.cut (.go)))) (.go)))))) (.go)))))
theorem pok29 : plansOk prog pl29 (codeOf f29) = true := by kernel_rfl
theorem e29 {a0 : Value} : W prog J 44 h.length 29 (codeOf f29) (RG.mk (regs [a0]) []) h (RetQ prog [.tmp 2] h.length K) =
(aBox a0 h fun v1 h2 =>
 aOff v1 0 fun v3 =>
 aLoad true 3 v3 h2 fun v4 =>
 Good prog J 54 [v4] h2 fun v5 h6 =>
 aBin prog .neq 35 v5 (vint 0) fun v7 =>
 cnd v7
(retL h.length K [] [v5] h6)
(aOff v1 3 fun v8 =>
 aLoad false 1 v8 h6 fun v9 =>
 aLenS v9 fun v10 =>
 aBin prog .eql 3 v10 (vint 0) fun v11 =>
 cnd v11
(retL h.length K [] [(vint 7)] h6)
(aOff v1 3 fun v12 =>
 aLoad false 1 v12 h6 fun v13 =>
 aLenS v13 fun v14 =>
 aBin prog .gtr 3 v14 (vint 3) fun v15 =>
 cnd v15
(retL h.length K [] [(vint 6)] h6)
(Sem J 44 h.length 29 (subC yp6 (codeOf f29)) (RG.p (RG.p (RG.p (RG.p (RG.p (RG.p (RG.p (RG.p (RG.p (RG.p (RG.p (RG.p (RG.p (RG.p (RG.p (RG.p (RG.p (RG.mk (regs [a0]) []) 1 v1) 2 (vint 0)) 5 v3) 6 v4) 7 v5) 3 v5) 8 v5) 9 v7) 11 v8) 12 v9) 13 v10) 14 v11) 15 v12) 16 v13) 17 v14) 18 v15) 4 (vint 0)) h6 (contX pl29 prog J 44 h.length 29 ct29 yp6 (codeOf f29) [] (RetQ prog [.tmp 2] h.length K)))))) := top_eq pok29 ct29 (by kernel_rfl)
theorem g29 (hJ : Closed prog main J) {a0 : Value} (hs : heapOk h → W prog J 44 h.length 29 (codeOf f29) (RG.mk (regs [a0]) []) h (RetQ prog [.tmp 2] h.length K)) : Good prog J 29 [a0] h K :=
 good_of_W hJ mixed at29 body29 (by kernel_rfl) (Nat.le_of_ble_eq_true rfl) hs
theorem s29_1 {f : RG} {nx0 : RG → List AObj → Prop} : W prog J 44 n0 29 (subC [1,1,1,1,0,1,0,0] (codeOf f29)) f h (thenK nx0 (contX pl29 prog J 44 n0 29 ct29 yp6 (codeOf f29) [] (RetQ prog [.tmp 2] n0 K))) =
(aOff (f.r 1) 3 fun v1 =>
 aLoad false 1 v1 h fun v2 =>
 aLenS v2 fun v3 =>
 aBin prog .lss 3 (f.r 4) v3 fun v4 =>
 cnd v4
(aOff (f.r 1) 3 fun v5 =>
 aLoad false 1 v5 h fun v6 =>
 aIdx 2 v6 (f.r 4) fun v7 =>
 aOff v7 0 fun v8 =>
 aLoad false 1 v8 h fun v9 =>
 Good prog J 55 [v9,(vint 1),(vint 40)] h fun v10 h11 =>
 aUn .not v10 fun v12 =>
 cnd v12
(Hold (W prog J 44 n0 29 (subC yp19 (codeOf f29)) (RG.p (RG.p (RG.p (RG.p (RG.p (RG.p (RG.p (RG.p (RG.p (RG.p (RG.p (RG.p (RG.p (RG.p (RG.p (RG.p (RG.p (RG.p (RG.p (RG.p (RG.p (RG.p (RG.p (RG.p f 19 (f.r 4)) 20 v1) 21 v2) 22 v3) 23 v4) 26 v5) 27 v6) 28 (f.r 4)) 29 v7) 30 v8) 31 v9) 32 v10) 33 v12) 34 v12) 34 (Value.bool true)) 35 undef) 36 undef) 37 undef) 38 undef) 39 undef) 40 undef) 41 undef) 42 undef) 43 (Value.bool true)) h11 (contX pl29 prog J 44 n0 29 ct29 yp19 (codeOf f29) [nx0] (RetQ prog [.tmp 2] n0 K))))
(aOff (f.r 1) 3 fun v13 =>
 aLoad false 1 v13 h11 fun v14 =>
 aIdx 2 v14 (f.r 4) fun v15 =>
 aOff v15 1 fun v16 =>
 aLoad false 1 v16 h11 fun v17 =>
 Good prog J 55 [v17,(vint 1),(vint 8)] h11 fun v18 h19 =>
 aUn .not v18 fun v20 =>
 Hold (W prog J 44 n0 29 (subC yp19 (codeOf f29)) (RG.p (RG.p (RG.p (RG.p (RG.p (RG.p (RG.p (RG.p (RG.p (RG.p (RG.p (RG.p (RG.p (RG.p (RG.p (RG.p (RG.p (RG.p (RG.p (RG.p (RG.p (RG.p (RG.p (RG.p f 19 (f.r 4)) 20 v1) 21 v2) 22 v3) 23 v4) 26 v5) 27 v6) 28 (f.r 4)) 29 v7) 30 v8) 31 v9) 32 v10) 33 v12) 34 v12) 34 (Value.bool false)) 35 v13) 36 v14) 37 (f.r 4)) 38 v15) 39 v16) 40 v17) 41 v18) 42 v20) 43 v20) h19 (contX pl29 prog J 44 n0 29 ct29 yp19 (codeOf f29) [nx0] (RetQ prog [.tmp 2] n0 K)))))
(retL n0 K f.ds [(vint 0)] h)) := sub_eq pok29 ct29 (by kernel_rfl)
theorem l29_1 (hJ : Closed prog main J) {S : Type} (μ : S → Nat) (I : S → RG → List AObj → Prop) (hI : ∀ s f h,I s f h → heapOk h → n0 ≤ h.length → W prog J 44 n0 29 (subC [1,1,1,1,0,1,0,0] (codeOf f29)) f h (thenK (Nx n0 μ I s) (contX pl29 prog J 44 n0 29 ct29 yp6 (codeOf f29) [] (RetQ prog [.tmp 2] n0 K))))
 {s : S} {f : RG} (hi : Gets n0 I s f h) : Sem J 44 n0 29 (subC yp6 (codeOf f29)) f h (contX pl29 prog J 44 n0 29 ct29 yp6 (codeOf f29) [] (RetQ prog [.tmp 2] n0 K)) :=
 loop_rule hJ mixed (b := subC [1,1,1,1,0,1,0,0] (codeOf f29)) (by kernel_rfl) μ I hI hi
theorem s29_2 {f : RG} {nx0 : RG → List AObj → Prop} : W prog J 44 n0 29 (subC yp19 (codeOf f29)) f h (contX pl29 prog J 44 n0 29 ct29 yp19 (codeOf f29) [nx0] (RetQ prog [.tmp 2] n0 K)) =
(cnd (f.r 43)
(retL n0 K f.ds [(vint 1)] h)
(aBin prog .add 3 (f.r 4) (vint 1) fun v1 =>
 nx0 (RG.p (RG.p (RG.p f 24 (f.r 4)) 25 v1) 4 v1) h)) := sub_eq pok29 ct29 (by kernel_rfl)
end
end Go.Proofs.YtcmgjbflljmphaaGreatDoor
namespace Go.Proofs.YtcmgjbflljmphaaGreatDoor
open Go.Conc Go.Proofs.Tryz
set_option maxRecDepth 100000
section
variable {main : Bool} {J : JT} {h H : List AObj} {K : Value → List AObj → Prop} {KV : Value → Prop} {HL : List AObj → Prop} {n0 : Nat}
theorem good54 (hJ : Closed prog main J) {w : Wel} (hK : ∀ H',SameX [] H H' → K (vint (welE w)) H') : Good prog J 54 [.agg ⟨w.cells⟩] H K := by
 refine g54 hJ fun ok => ?_
 rw [e54]
 refine qBox (l := w.cells) rfl fun H1 p1 e1 S1 c1 l1 => ?_
 have fin : ∀ {F' : RG} {p : Prop} [Decidable p],F'.ds = [] → F'.r 20 = .bool (decide p) → (p ↔ ¬ ((1 ≤ w.holds ∧ w.holds ≤ 40) ∧ (0 ≤ w.now ∧ w.now ≤ w.holds) ∧ (0 ≤ w.fill ∧ w.fill ≤ 20))) →
   W prog J 21 H.length 54 (subC [1,0,1] (codeOf f54)) F' H1 (contX pl54 prog J 21 H.length 54 ct54 [1,0,1] (codeOf f54) [] (RetQ prog [.tmp 2] H.length K)) := by
  intro F' p _ ds r20 hp
  rw [s54_1,r20,ds]
  have e := hK H1 S1
  unfold welE at e
  refine cndI (fun h1 => retL_same (by simp [unk]) ?_) fun h1 => retL_same (by simp [unk]) ?_
  ·rw [if_neg (hp.1 h1)] at e
   exact e
  ·rw [if_pos (Decidable.of_not_not fun y => h1 (hp.2 y))] at e
   exact e
 refine offI (ldI (v := vint w.holds) c1 rfl rfl (good55 hJ (notI (cndN (fun g1 => hold.2 ?_) fun g1 => ?_))))
 ·exact fin (p := True) rfl rfl ⟨fun _ y => g1 y.1,fun _ => trivial⟩
 refine offI (ldI (v := vint w.now) c1 rfl rfl (offI (ldI (v := vint w.holds) c1 rfl rfl (good55 hJ (notI (cndN (fun g2 => hold.2 ?_) fun g2 => ?_))))))
 ·exact fin (p := True) rfl rfl ⟨fun _ y => g2 y.2.1,fun _ => trivial⟩
 refine offI (ldI (v := vint w.fill) c1 rfl rfl (good55 hJ (notI (hold.2 ?_))))
 refine fin (p := ¬ (0 ≤ w.fill ∧ w.fill ≤ 20)) rfl ?_ ⟨fun y z => y z.2.2,fun y z => y ⟨g1,g2,z⟩⟩
 show Value.bool (!decide _) = _
 rw [decide_not]
theorem good29 (hJ : Closed prog main J) {v fv : Value} {t : Tro} (ht : TroAt H v t fv) (hl : t.flocks.length ≤ 1000000) (hK : ∀ H',SameX [] H H' → K (vint (troE t)) H') : Good prog J 29 [v] H K := by
 refine g29 hJ fun ok => ?_
 rw [e29,ht.val]
 have kf := (sli_val ht.fl).2.2
 refine qBox (tro_one ht) fun H1 p1 e1 S1 c1 l1 => ?_
 refine offI (load_part (c := t.well.cells) c1 (by simp [troCells]) rfl rfl (good54 hJ fun H2 S2 => ?_))
 have T2 := S1.trans S2
 have c2 := S2.get c1 (by simp)
 have s2 : SliE H2 fv 2 Dro.cells t.flocks := T2.sli ht.fl (by simp)
 have fin : ∀ e,troE t = e → retL H.length K [] [vint e] H2 := fun e he => by
  subst he
  exact retL_same (by simp [unk]) (hK H2 T2)
 refine neqI (cndI (fun h1 => fin _ (by unfold troE; rw [if_pos h1])) fun h1 => ?_)
 refine offI (ldI (v := fv) c2 rfl kf (lenI s2 (eqlI (cndI (fun h2 => fin 7 ?_) fun h2 => ?_))))
 ·unfold troE fewE
  rw [if_neg h1,if_pos (by omega : (t.flocks.length : Int) < 1),if_pos (by decide)]
 refine offI (ldI (v := fv) c2 rfl kf (lenI s2 (gtrI (cndI (fun h3 => fin 6 ?_) fun h3 => ?_))))
 ·unfold troE fewE
  rw [if_neg h1,if_neg (by omega : ¬ (t.flocks.length : Int) < 1),if_pos (by omega : (t.flocks.length : Int) > 3),if_pos (by decide)]
 have hfew : ¬ fewE t.flocks.length 1 3 ≠ 0 := by
  unfold fewE
  rw [if_neg (by omega : ¬ (t.flocks.length : Int) < 1),if_neg (by omega : ¬ (t.flocks.length : Int) > 3)]
  decide
 refine l29_1 hJ (fun i : Nat => t.flocks.length - i) (fun i F H' => H' = H2 ∧ i ≤ t.flocks.length ∧ (∀ d ∈ t.flocks.take i,droOk d) ∧ F.ds = [] ∧ F.r 1 = ptr p1 0 ∧ F.r 4 = vint (i : Nat)) ?_ (s := 0)
  (.inl ⟨rfl,by omega,by simp,rfl,rfl,rfl⟩)
 rintro i F H' ⟨rfl,hi,hd,ds,r1,r4⟩ okc hnc
 rw [s29_1,r1,r4,ds]
 refine offI (ldI (v := fv) c2 rfl kf (lenI s2 (lssI (cndI (fun hlt => ?_) fun hge => fin 0 (by
  have : i = t.flocks.length := by omega
  subst this
  rw [List.take_length] at hd
  unfold troE
  rw [if_neg h1,if_neg hfew,if_pos hd])))))
 have hil : i < t.flocks.length := by omega
 obtain ⟨b,o,cs,wr,sz,hidx,hb,hol,hft,hkn⟩ := sliE_elem dro_len (by omega) s2 hil
 have hta : ∀ (x : droOk t.flocks[i]),∀ d ∈ t.flocks.take (i + 1),droOk d := fun x d hm => by
  rw [List.take_add_one,List.getElem?_eq_getElem hil] at hm
  rcases List.mem_append.1 hm with hm | hm
  ·exact hd d hm
  ·have : d = t.flocks[i] := by simpa using hm
   exact this ▸ x
 have hbad : ¬ droOk t.flocks[i] → troE t = 1 := fun x => by
  unfold troE
  rw [if_neg h1,if_neg hfew,if_neg fun hall => x (hall _ (List.getElem_mem hil))]
 have last : ∀ {F' : RG} {p : Prop} [Decidable p],F'.ds = [] → F'.r 1 = ptr p1 0 → F'.r 4 = vint (i : Nat) → F'.r 43 = .bool (decide p) → (p ↔ ¬ droOk t.flocks[i]) →
   W prog J 44 H.length 29 (subC yp19 (codeOf f29)) F' H' (contX pl29 prog J 44 H.length 29 ct29 yp19 (codeOf f29) [Nx H.length (fun i : Nat => t.flocks.length - i) (fun i F H'' => H'' = H' ∧ i ≤ t.flocks.length ∧ (∀ d ∈ t.flocks.take i,droOk d) ∧ F.ds = [] ∧ F.r 1 = ptr p1 0 ∧ F.r 4 = vint (i : Nat)) i] (RetQ prog [.tmp 2] H.length K)) := by
  intro F' p _ ds r1 r4 r43 hp
  rw [s29_2,r43,r4,ds]
  refine cndI (fun h1 => fin 1 (hbad (hp.1 h1))) fun h1 => addI (by omega) ⟨i + 1,by dsimp only; omega,.inl ⟨rfl,by omega,hta (Decidable.of_not_not fun y => h1 (hp.2 y)),ds,r1,by show vint _ = vint _; congr 1⟩⟩
 refine offI (ldI (v := fv) c2 rfl kf (hidx _ (offI (ldI (v := vint t.flocks[i].drinks) hb (part_get hft rfl) rfl (good55 hJ (notI (cndN (fun g1 => hold.2 ?_) fun g1 => ?_)))))))
 ·exact last (p := True) ds r1 r4 rfl ⟨fun _ y => g1 y.1,fun _ => trivial⟩
 ·refine offI (ldI (v := fv) c2 rfl kf (hidx _ (offI (ldI (v := vint t.flocks[i].every) hb (part_get (j := 1) hft rfl) rfl (good55 hJ (notI (hold.2 ?_)))))))
  refine last (p := ¬ (1 ≤ t.flocks[i].every ∧ t.flocks[i].every ≤ 8)) ds r1 r4 ?_ ⟨fun y z => y z.2,fun y z => y ⟨g1,z⟩⟩
  show Value.bool (!decide _) = _
  rw [decide_not]
end
def txtT (t : Tro) : List UInt8 := if troE t ≠ 0 then [] else troT t
section
variable {main : Bool} {J : JT} {h H : List AObj} {K : Value → List AObj → Prop} {KV : Value → Prop}
theorem itoaT (hJ : Closed prog main J) {x : Int} (hx : 0 ≤ x ∧ x < 100) (hK : K (strV (num2 x.toNat)) H) : Good prog J 28 [vint x] H K := by
 have := good28 hJ (n := x.toNat) (H := H) (K := K) (by omega) hK
 rw [show ((x.toNat : Nat) : Int) = x by omega] at this
 exact this
theorem good9t (hJ : Closed prog main J) {v fv : Value} {t : Tro} (ht : TroAt H v t fv) (hK : ∀ H',SameX [] H H' → K (.tuple ⟨[strV (txtT t),vint (troE t)]⟩) H') : Good prog J 9 [v] H K := by
 by_cases hz : troE t = 0
 ·refine good9 hJ ht hz fun H' S => ?_
  have := hK H' S
  unfold txtT at this
  rw [if_neg (by omega),hz] at this
  exact this
 ·refine g9 hJ fun ok => ?_
  rw [e9,ht.val]
  refine qBox (tro_one ht) fun H1 p1 e1 S1 c1 l1 => ?_
  refine load_part (c := troCells t fv) c1 (by simp [troCells]) rfl (tro_kn ht) ?_
  refine good27 hJ ⟨rfl,S1.sli ht.fl (by simp)⟩ (neqI (cndI (fun _ => ?_) fun g1 => absurd (Decidable.not_not.1 g1) hz))
  have := hK H1 S1
  unfold txtT at this
  rw [if_pos hz] at this
  exact retL_same (by simp [unk]) this
theorem good10 (hJ : Closed prog main J) {v fv : Value} {t : Tro} (ht : TroAt H v t fv) (hfl : t.flocks.length ≤ 1000000) (hK : ∀ H',SameX [] H H' → K (.tuple ⟨[strV (txtT t),vint (troE t)]⟩) H') : Good prog J 10 [v] H K := by
 refine g10 hJ fun ok => ?_
 rw [e10,ht.val]
 refine qBox (tro_one ht) fun H1 p1 e1 S1 c1 l1 => ?_
 have tk := tro_kn ht
 refine load_part (c := troCells t fv) c1 (by simp [troCells]) rfl tk ?_
 refine good29 hJ ⟨rfl,S1.sli ht.fl (by simp)⟩ hfl fun H2 S2 => neqI (cndI (fun hz => ?_) fun hz => ?_)
 ·have := hK H2 (S1.trans S2)
  unfold txtT at this
  rw [if_pos hz] at this
  exact retL_same (by simp [unk]) this
 have hz : troE t = 0 := Decidable.not_not.1 hz
 have hK : ∀ H',SameX [] H H' → K (.tuple ⟨[strV (troT t),vint 0]⟩) H' := fun H' S => by
  have := hK H' S
  unfold txtT at this
  rw [if_neg (by omega),hz] at this
  exact this
 obtain ⟨f1,f2,f3,f4,f5⟩ := troE_fine hz
 have c1 := S2.get c1 (by simp)
 have b1 := lt_of_get c1
 have r0 : SameB (some [p1]) H2 H2 := fun _ _ => rfl
 have rd : ∀ {o : Nat},RdOk (some [p1]) (ptrBlk (ptr p1 o)) := by simp [RdOk,ptrBlk]
 have fk : kn1 fv = true := (sli_val ht.fl).2.2
 have wl := welT_len t.well
 refine ⟨[p1],offI (offI (ldI (v := vint t.well.now) c1 rfl rfl ⟨rd,offI (offI (ldI (v := vint t.well.holds) c1 rfl rfl ⟨rd,offI (offI (ldI (v := vint t.well.fill) c1 rfl rfl ⟨rd,?_⟩))⟩))⟩))⟩
 have l2 := num2_len t.well.now.toNat
 have l3 := num2_len t.well.holds.toNat
 have l4 := num2_len t.well.fill.toNat
 refine itoaT hJ (by omega) ⟨r0,catC (u := [119,101,108,108,32]) (by simp; omega) (catC (v := [47]) (by simp; omega) ?_)⟩
 refine itoaT hJ (by omega) ⟨r0,catC (by simp; omega) (catC (v := [32,43]) (by simp; omega) ?_)⟩
 refine itoaT hJ (by omega) ⟨r0,catC (by simp; omega) (catC (v := [10]) (by simp; omega) ?_)⟩
 have hl1 : SliE H2 fv 2 Dro.cells t.flocks := (S1.trans S2).sli ht.fl (by simp)
 refine l10_1 hJ (fun i : Nat => t.flocks.length - i) (fun i F H' => i ≤ t.flocks.length ∧ SameX [] H2 H' ∧ F.ds = [] ∧ F.r 1 = ptr p1 0 ∧ F.r 6 = vint (i : Nat) ∧ F.r 5 = strV (welT t.well ++ (t.flocks.take i).flatMap droT)) ?_ (s := 0)
  (.inl ⟨Nat.zero_le _,SameX.refl,rfl,rfl,rfl,by show strV _ = strV _; simp [welT]⟩)
 rintro i F H' ⟨hi,S,ds,r1,r6,r5⟩ okc hnc
 rw [s10_1]
 simp only [ds,r1,r5,r6]
 have c1' := S.get c1 (by simp)
 have hlT := flT_len (t.flocks.take i)
 have hlt' : (t.flocks.take i).length ≤ 3 := by rw [List.length_take]; omega
 have slF := S.sli hl1 (by simp)
 have ld : ∀ {KV : Value → Prop},KV fv → aLoad false 1 (ptr p1 (0 + 3)) H' KV := fun hk => ldI (v := fv) c1' rfl fk hk
 refine offI (ld (lenI slF (lssI (cndI (fun hlt => ?_) fun hge => ?_))))
 ·have hil : i < t.flocks.length := by omega
  obtain ⟨b,o,cs,wr,sz,hidx,hb,hos,htk,hkn⟩ := sliE_elem (s := 2) (fun _ => rfl) (by decide) slF hil
  have hd := f5 _ (List.getElem_mem hil)
  have htake : (t.flocks.take (i + 1)).flatMap droT = (t.flocks.take i).flatMap droT ++ droT t.flocks[i] := by
   rw [List.take_succ_eq_append_getElem hil,List.flatMap_append]
   simp
  generalize t.flocks[i] = d at htk hd htake
  have q0 : SameB (some [p1,b]) H' H' := fun _ _ => rfl
  have rp : ∀ {o : Nat},RdOk (some [p1,b]) (ptrBlk (ptr p1 o)) := by simp [RdOk,ptrBlk]
  have rb : ∀ {o : Nat},RdOk (some [p1,b]) (ptrBlk (ptr b o)) := by simp [RdOk,ptrBlk]
  have cd : ∀ {j : Nat} {x : Value},d.cells[j]? = some x → cs[o + j]? = some x := fun {j x} hx => by
   rw [← htk] at hx
   rw [List.getElem?_take] at hx
   split at hx
   ·rwa [List.getElem?_drop] at hx
   ·cases hx
  have e0 : cs[o + 0]? = some (vint d.drinks) := cd rfl
  have e1 : cs[o + 1]? = some (vint d.every) := cd rfl
  have l5 := num2_len d.drinks.toNat
  have l6 := num2_len d.every.toNat
  obtain ⟨d1,d2⟩ := hd
  refine ⟨[p1,b],catC (v := [102,108,111,99,107,32,45]) (by simp only [List.length_append,List.length_cons,List.length_nil]; omega) (offI (ld ⟨rp,hidx _ (offI (ldI (v := vint d.drinks) hb e0 rfl ⟨rb,offI (ld ⟨rp,hidx _ (offI (ldI (v := vint d.every) hb e1 rfl ⟨rb,?_⟩))⟩)⟩))⟩))⟩
  refine itoaT hJ (by omega) ⟨q0,catC (by simp only [List.length_append,List.length_cons,List.length_nil]; omega) (catC (v := [32,64]) (by simp only [List.length_append,List.length_cons,List.length_nil]; omega) ?_)⟩
  refine itoaT hJ (by omega) ⟨q0,catC (by simp only [List.length_append,List.length_cons,List.length_nil]; omega) (catC (v := [10]) (by simp only [List.length_append,List.length_cons,List.length_nil]; omega) (addI (by omega) ?_))⟩
  refine ⟨i + 1,by dsimp only; omega,.inl ⟨by omega,S,ds,r1,by show vint _ = vint _; congr 1,?_⟩⟩
  show strV _ = strV _
  rw [htake]
  simp [droT]
 ·have : i = t.flocks.length := by omega
  subst this
  rw [List.take_length] at hlT ⊢
  refine catC (v := [116,114,111,117,103,104,10]) (by simp only [List.length_append,List.length_cons,List.length_nil]; omega) (retL_same (nu2 (by simp [unk,strV]) (by simp [unk])) (hK H' ((S1.trans S2).trans S)))
end
end Go.Proofs.YtcmgjbflljmphaaGreatDoor
namespace Go.Proofs.YtcmgjbflljmphaaGreatDoor
open Go.Conc Go.Proofs.Tryz
set_option maxRecDepth 100000
set_option maxHeartbeats 4000000
set_option linter.unusedVariables false
section
variable {main : Bool} {J : JT} {n0 : Nat} {h : List AObj} {K : Value → List AObj → Prop}
theorem at14 : prog.funcs[14]? = some f14 := by kernel_rfl
theorem body14 : f14.body = some (codeOf f14) := by kernel_rfl
def pl14 : Plans := [(6,true,.take 0 (.take 1 (.take 2 (.take 3 (.take 4 (.take 5 (.take 6 (.take 7 (.take 8 (.take 9 (.take 10 (.fin))))))))))))]
def ct14 : Cuts := .bin (.go) (.bin (.bin (.go) (.cut (.go))) (.go))
theorem pok14 : plansOk prog pl14 (codeOf f14) = true := by kernel_rfl
theorem e14 {a0 a1 : Value} : W prog J 38 h.length 14 (codeOf f14) (RG.mk (regs [a0,a1]) []) h (RetQ prog [.tmp 4] h.length K) =
(aBox a0 h fun v1 h2 =>
 aBox a1 h2 fun v3 h4 =>
 aOff v1 0 fun v5 =>
 aLoad true 3 v5 h4 fun v6 =>
 aOff v3 0 fun v7 =>
 aLoad true 3 v7 h4 fun v8 =>
 aBin prog .neq 23 v6 v8 fun v9 =>
 cnd v9
(Hold (W prog J 38 h.length 14 (subC [1,0,1] (codeOf f14)) (RG.p (RG.p (RG.p (RG.p (RG.p (RG.p (RG.p (RG.p (RG.p (RG.p (RG.p (RG.p (RG.p (RG.p (RG.p (RG.p (RG.p (RG.p (RG.mk (regs [a0,a1]) []) 2 v1) 3 v3) 4 (Value.bool false)) 6 v5) 7 v6) 8 v7) 9 v8) 10 v9) 11 v9) 11 (Value.bool true)) 12 undef) 13 undef) 14 undef) 15 undef) 16 undef) 17 undef) 18 undef) 19 (Value.bool true)) h4 (contX pl14 prog J 38 h.length 14 ct14 [1,0,1] (codeOf f14) [] (RetQ prog [.tmp 4] h.length K))))
(aOff v1 3 fun v10 =>
 aLoad false 1 v10 h4 fun v11 =>
 aLenS v11 fun v12 =>
 aOff v3 3 fun v13 =>
 aLoad false 1 v13 h4 fun v14 =>
 aLenS v14 fun v15 =>
 aBin prog .neq 3 v12 v15 fun v16 =>
 Hold (W prog J 38 h.length 14 (subC [1,0,1] (codeOf f14)) (RG.p (RG.p (RG.p (RG.p (RG.p (RG.p (RG.p (RG.p (RG.p (RG.p (RG.p (RG.p (RG.p (RG.p (RG.p (RG.p (RG.p (RG.p (RG.mk (regs [a0,a1]) []) 2 v1) 3 v3) 4 (Value.bool false)) 6 v5) 7 v6) 8 v7) 9 v8) 10 v9) 11 v9) 11 (Value.bool false)) 12 v10) 13 v11) 14 v12) 15 v13) 16 v14) 17 v15) 18 v16) 19 v16) h4 (contX pl14 prog J 38 h.length 14 ct14 [1,0,1] (codeOf f14) [] (RetQ prog [.tmp 4] h.length K))))) := top_eq pok14 ct14 (by kernel_rfl)
theorem g14 (hJ : Closed prog main J) {a0 a1 : Value} (hs : heapOk h → W prog J 38 h.length 14 (codeOf f14) (RG.mk (regs [a0,a1]) []) h (RetQ prog [.tmp 4] h.length K)) : Good prog J 14 [a0,a1] h K :=
 good_of_W hJ mixed at14 body14 (by kernel_rfl) (Nat.le_of_ble_eq_true rfl) hs
theorem s14_1 {f : RG} : W prog J 38 n0 14 (subC [1,0,1] (codeOf f14)) f h (contX pl14 prog J 38 n0 14 ct14 [1,0,1] (codeOf f14) [] (RetQ prog [.tmp 4] n0 K)) =
(cnd (f.r 19)
(retL n0 K f.ds [(Value.bool false)] h)
(Sem J 38 n0 14 (subC yp2 (codeOf f14)) (RG.p f 5 (vint 0)) h (contX pl14 prog J 38 n0 14 ct14 yp2 (codeOf f14) [] (RetQ prog [.tmp 4] n0 K)))) := sub_eq pok14 ct14 (by kernel_rfl)
theorem s14_2 {f : RG} {nx0 : RG → List AObj → Prop} : W prog J 38 n0 14 (subC [1,1,0,1,0,0] (codeOf f14)) f h (thenK nx0 (contX pl14 prog J 38 n0 14 ct14 yp2 (codeOf f14) [] (RetQ prog [.tmp 4] n0 K))) =
(aOff (f.r 2) 3 fun v1 =>
 aLoad false 1 v1 h fun v2 =>
 aLenS v2 fun v3 =>
 aBin prog .lss 3 (f.r 5) v3 fun v4 =>
 cnd v4
(aOff (f.r 2) 3 fun v5 =>
 aLoad false 1 v5 h fun v6 =>
 aIdx 2 v6 (f.r 5) fun v7 =>
 aLoad true 2 v7 h fun v8 =>
 aOff (f.r 3) 3 fun v9 =>
 aLoad false 1 v9 h fun v10 =>
 aIdx 2 v10 (f.r 5) fun v11 =>
 aLoad true 2 v11 h fun v12 =>
 aBin prog .neq 64 v8 v12 fun v13 =>
 cnd v13
(retL n0 K f.ds [(Value.bool false)] h)
(aBin prog .add 3 (f.r 5) (vint 1) fun v14 =>
 nx0 (RG.p (RG.p (RG.p (RG.p (RG.p (RG.p (RG.p (RG.p (RG.p (RG.p (RG.p (RG.p (RG.p (RG.p (RG.p (RG.p (RG.p (RG.p (RG.p f 20 (f.r 5)) 21 v1) 22 v2) 23 v3) 24 v4) 27 v5) 28 v6) 29 (f.r 5)) 30 v7) 31 v8) 32 v9) 33 v10) 34 (f.r 5)) 35 v11) 36 v12) 37 v13) 25 (f.r 5)) 26 v14) 5 v14) h))
(retL n0 K f.ds [(Value.bool true)] h)) := sub_eq pok14 ct14 (by kernel_rfl)
theorem l14_2 (hJ : Closed prog main J) {S : Type} (μ : S → Nat) (I : S → RG → List AObj → Prop) (hI : ∀ s f h,I s f h → heapOk h → n0 ≤ h.length → W prog J 38 n0 14 (subC [1,1,0,1,0,0] (codeOf f14)) f h (thenK (Nx n0 μ I s) (contX pl14 prog J 38 n0 14 ct14 yp2 (codeOf f14) [] (RetQ prog [.tmp 4] n0 K))))
 {s : S} {f : RG} (hi : Gets n0 I s f h) : Sem J 38 n0 14 (subC yp2 (codeOf f14)) f h (contX pl14 prog J 38 n0 14 ct14 yp2 (codeOf f14) [] (RetQ prog [.tmp 4] n0 K)) :=
 loop_rule hJ mixed (b := subC [1,1,0,1,0,0] (codeOf f14)) (by kernel_rfl) μ I hI hi
theorem at5 : prog.funcs[5]? = some f5 := by kernel_rfl
theorem body5 : f5.body = some (codeOf f5) := by kernel_rfl
def pl5 : Plans := []
def ct5 : Cuts := .go
theorem pok5 : plansOk prog pl5 (codeOf f5) = true := by kernel_rfl
theorem e5 {a0 a1 : Value} : W prog J 14 h.length 5 (codeOf f5) (RG.mk (regs [a0,a1]) []) h (RetQ prog [.tmp 4] h.length K) =
(aBox a0 h fun v1 h2 =>
 aOff v1 3 fun v3 =>
 aLoad false 1 v3 h2 fun v4 =>
 aLenS v4 fun v5 =>
 aBin prog .gtr 3 v5 (vint 20) fun v6 =>
 cnd v6
(retL h.length K [] [(Value.bool true)] h2)
(aLenS a1 fun v7 =>
 aBin prog .gtr 3 v7 (vint 20) fun v8 =>
 retL h.length K [] [v8] h2)) := top_eq pok5 ct5 (by kernel_rfl)
theorem g5 (hJ : Closed prog main J) {a0 a1 : Value} (hs : heapOk h → W prog J 14 h.length 5 (codeOf f5) (RG.mk (regs [a0,a1]) []) h (RetQ prog [.tmp 4] h.length K)) : Good prog J 5 [a0,a1] h K :=
 good_of_W hJ mixed at5 body5 (by kernel_rfl) (Nat.le_of_ble_eq_true rfl) hs
end
end Go.Proofs.YtcmgjbflljmphaaGreatDoor
namespace Go.Proofs.YtcmgjbflljmphaaGreatDoor
open Go.Conc Go.Proofs.Tryz
set_option maxRecDepth 100000
theorem teqW (a b c d e f : Int) : teq prog 10000 23 (.agg ⟨[vint a,vint b,vint c]⟩) (.agg ⟨[vint d,vint e,vint f]⟩) =
 (match some (a == d) with
 | some true => (match some (b == e) with
  | some true => (match some (c == f) with
   | some true => some true
   | some false => some false
   | none => none)
  | some false => some false
  | none => none)
 | some false => some false
 | none => none) := by kernel_rfl
theorem teqW_same (w : Wel) : teq prog 10000 23 (.agg ⟨w.cells⟩) (.agg ⟨w.cells⟩) = some true := by
 unfold Wel.cells
 rw [teqW]
 simp
theorem teqD (a b c d : Int) : teq prog 10000 64 (.agg ⟨[vint a,vint b]⟩) (.agg ⟨[vint c,vint d]⟩) =
 (match some (a == c) with
 | some true => (match some (b == d) with
  | some true => some true
  | some false => some false
  | none => none)
 | some false => some false
 | none => none) := by kernel_rfl
theorem teqD_same (d : Dro) : teq prog 10000 64 (.agg ⟨d.cells⟩) (.agg ⟨d.cells⟩) = some true := by
 unfold Dro.cells
 rw [teqD]
 simp
section
variable {main : Bool} {J : JT} {h H : List AObj} {K : Value → List AObj → Prop} {KV : Value → Prop} {HL : List AObj → Prop} {n0 : Nat}
theorem neqSame {t : TypeId} {c : Array Value} (ht : teq prog 10000 t (.agg c) (.agg c) = some true) (hg : prog.eqGuardType prog.depth t = false) (hk : KV (.bool false)) : aBin prog .neq t (.agg c) (.agg c) KV := by
 show aEq prog true t (.agg c) (.agg c) KV
 unfold aEq
 rw [ht]
 exact ⟨hg,hk⟩
theorem good5 (hJ : Closed prog main J) {v fv rv : Value} {t : Tro} {r : List Int} (ht : TroAt H v t fv) (hr : Sli H rv 1 r.length (r.map vint)) (hK : ∀ H',SameX [] H H' → K (.bool (decide ((t.flocks.length : Int) > 20 ∨ (r.length : Int) > 20))) H') : Good prog J 5 [v,rv] H K := by
 refine g5 hJ fun ok => ?_
 rw [e5,ht.val]
 have kf := (sli_val ht.fl).2.2
 refine qBox (tro_one ht) fun H1 p1 e1 S1 c1 l1 => offI (ldI (v := fv) c1 rfl kf (lenI (S1.sli ht.fl (by simp)) (gtrI (cndI (fun h1 => ?_) fun h1 => lenI (S1.sli hr (by simp)) (gtrI ?_)))))
 ·have := hK H1 S1
  rw [decide_eq_true (show (t.flocks.length : Int) > 20 ∨ (r.length : Int) > 20 from .inl h1)] at this
  exact retL_same (by simp [unk]) this
 ·have := hK H1 S1
  rw [show decide ((t.flocks.length : Int) > 20 ∨ (r.length : Int) > 20) = decide ((r.length : Int) > 20) from decide_eq_decide.2 ⟨fun h => h.resolve_left h1,.inr⟩] at this
  exact retL_same (by simp [unk]) this
theorem good14 (hJ : Closed prog main J) {v w fv gv : Value} {t : Tro} (ht : TroAt H v t fv) (hw : TroAt H w t gv) (hl : t.flocks.length < 1000000) (hK : ∀ H',SameX [] H H' → K (.bool true) H') : Good prog J 14 [v,w] H K := by
 refine g14 hJ fun ok => ?_
 rw [e14,ht.val,hw.val]
 have kf := (sli_val ht.fl).2.2
 have kg := (sli_val hw.fl).2.2
 refine qBox (tro_one ht) fun H1 p1 e1 S1 c1 l1 => qBox (tro_one hw) fun H2 p2 e2 S2 c2 l2 => ?_
 have c12 := S2.get c1 (by simp)
 have T2 := S1.trans S2
 have st : SliE H2 fv 2 Dro.cells t.flocks := T2.sli ht.fl (by simp)
 have sw : SliE H2 gv 2 Dro.cells t.flocks := T2.sli hw.fl (by simp)
 refine offI (load_part (c := t.well.cells) c12 (by simp [troCells]) rfl rfl (offI (load_part (c := t.well.cells) c2 (by simp [troCells]) rfl rfl ?_)))
 refine neqSame (teqW_same t.well) (by kernel_rfl) (cnd_false.2 ?_)
 refine offI (ldI (v := fv) c12 rfl kf (lenI st (offI (ldI (v := gv) c2 rfl kg (lenI sw (neqI (hold.2 ?_)))))))
 rw [s14_1]
 have e : ∀ {A B : Prop},B → cnd (Value.bool (decide ((t.flocks.length : Int) ≠ t.flocks.length))) A B := fun hB => cndI (fun hx => absurd rfl hx) fun _ => hB
 refine e ?_
 refine l14_2 hJ (fun i : Nat => t.flocks.length - i) (fun i F H' => H' = H2 ∧ i ≤ t.flocks.length ∧ F.ds = [] ∧ F.r 2 = ptr p1 0 ∧ F.r 3 = ptr p2 0 ∧ F.r 5 = vint (i : Nat)) ?_ (s := 0)
  (.inl ⟨rfl,by omega,rfl,rfl,rfl,rfl⟩)
 rintro i F H' ⟨rfl,hi,ds,r2,r3,r5⟩ okc hnc
 rw [s14_2,r2,r3,r5,ds]
 refine offI (ldI (v := fv) c12 rfl kf (lenI st (lssI (cndI (fun hlt => ?_) fun hge => retL_same (by simp [unk]) (hK H' T2)))))
 have hil : i < t.flocks.length := by omega
 obtain ⟨b,o,cs,wr,sz,hidx,hb,hol,hft,hkn⟩ := sliE_elem dro_len (by omega) st hil
 obtain ⟨b',o',cs',wr',sz',hidx',hb',hol',hft',hkn'⟩ := sliE_elem dro_len (by omega) sw hil
 refine offI (ldI (v := fv) c12 rfl kf (hidx _ (load_part hb hol hft hkn ?_)))
 refine offI (ldI (v := gv) c2 rfl kg (hidx' _ (load_part hb' hol' hft' hkn' ?_)))
 refine neqSame (teqD_same t.flocks[i]) (by kernel_rfl) (cnd_false.2 ?_)
 exact addI (by omega) ⟨i + 1,by dsimp only; omega,.inl ⟨rfl,by omega,ds,r2,r3,by show vint _ = vint _; congr 1⟩⟩
end
end Go.Proofs.YtcmgjbflljmphaaGreatDoor
namespace Go.Proofs.YtcmgjbflljmphaaGreatDoor
open Go.Conc Go.Proofs.Tryz
set_option maxRecDepth 100000
set_option maxHeartbeats 4000000
set_option linter.unusedVariables false
section
variable {main : Bool} {J : JT} {n0 : Nat} {h : List AObj} {K : Value → List AObj → Prop}
theorem at4 : prog.funcs[4]? = some f4 := by kernel_rfl
theorem body4 : f4.body = some (codeOf f4) := by kernel_rfl
def pl4 : Plans := []
def ct4 : Cuts := .bin (.go) (.bin (.go) (.cut (.bin (.go) (.cut (.bin (.go) (.cut (.bin (.go) (.cut (.bin (.bin (.go) (.cut (.go))) (.cut (.bin (.go) (.cut (.bin (.go) (.cut (.go)))))))))))))))
theorem pok4 : plansOk prog pl4 (codeOf f4) = true := by kernel_rfl
theorem e4 {a0 a1 : Value} : W prog J 74 h.length 4 (codeOf f4) (RG.mk (regs [a0,a1]) []) h (RetQ prog [.tmp 4] h.length K) =
(aLenStr a1 fun v1 =>
 aBin prog .gtr 3 v1 (vint 70) fun v2 =>
 cnd v2
(Good prog J 6 [] h fun v3 h4 =>
 retL h.length K [] [v3] h4)
(Hold (W prog J 74 h.length 4 (subC [1,1] (codeOf f4)) (RG.p (RG.p (RG.p (RG.p (RG.mk (regs [a0,a1]) []) 4 (Value.bool false)) 16 a1) 17 v1) 18 v2) h (contX pl4 prog J 74 h.length 4 ct4 [1,1] (codeOf f4) [] (RetQ prog [.tmp 4] h.length K))))) := top_eq pok4 ct4 (by kernel_rfl)
theorem g4 (hJ : Closed prog main J) {a0 a1 : Value} (hs : heapOk h → W prog J 74 h.length 4 (codeOf f4) (RG.mk (regs [a0,a1]) []) h (RetQ prog [.tmp 4] h.length K)) : Good prog J 4 [a0,a1] h K :=
 good_of_W hJ mixed at4 body4 (by kernel_rfl) (Nat.le_of_ble_eq_true rfl) hs
end
end Go.Proofs.YtcmgjbflljmphaaGreatDoor
namespace Go.Proofs.YtcmgjbflljmphaaGreatDoor
open Go.Conc Go.Proofs.Tryz
set_option maxRecDepth 100000
theorem troC_kn {H : List AObj} {v fv : Value} {t : Tro} (a : TroAt H v t fv) : kn (troCells t fv) = true ∧ (troCells t fv).all one = true := by
 obtain ⟨_,h2,h3⟩ := sli_val a.fl
 refine ⟨?_,?_⟩
 ·unfold troCells kn
  simp only [List.all_cons,h3]
  rfl
 ·unfold troCells
  simp only [List.all_cons,h2]
  rfl
end Go.Proofs.YtcmgjbflljmphaaGreatDoor
namespace Go.Proofs.YtcmgjbflljmphaaGreatDoor
open Go.Conc Go.Proofs.Tryz
set_option maxRecDepth 100000
set_option maxHeartbeats 4000000
set_option linter.unusedVariables false
section
variable {main : Bool} {J : JT} {n0 : Nat} {h : List AObj} {K : Value → List AObj → Prop}
theorem at33 : prog.funcs[33]? = some f33 := by kernel_rfl
theorem body33 : f33.body = some (codeOf f33) := by kernel_rfl
def pl33 : Plans := []
def ct33 : Cuts := .bin (.go) (.bin (.go) (.bin (.go) (.bin (.bin (.go) (.un (.un (.bin (.go) (.bin (.un (.bin (.go) (.cut (.go)))) (.go)))))) (.go))))
theorem pok33 : plansOk prog pl33 (codeOf f33) = true := by kernel_rfl
theorem e33 {a0 a1 : Value} : W prog J 35 h.length 33 (codeOf f33) (RG.mk (regs [a0,a1]) []) h (RetQ prog [.tmp 4] h.length K) =
(Sem J 35 h.length 33 (subC yp0 (codeOf f33)) (RG.p (RG.p (RG.p (RG.p (RG.mk (regs [a0,a1]) []) 4 (Value.slice none 0 0)) 5 (Value.slice none 0 0)) 6 (vint 0)) 7 (vint 0)) h (contX pl33 prog J 35 h.length 33 ct33 yp0 (codeOf f33) [] (RetQ prog [.tmp 4] h.length K))) := top_eq pok33 ct33 (by kernel_rfl)
theorem g33 (hJ : Closed prog main J) {a0 a1 : Value} (hs : heapOk h → W prog J 35 h.length 33 (codeOf f33) (RG.mk (regs [a0,a1]) []) h (RetQ prog [.tmp 4] h.length K)) : Good prog J 33 [a0,a1] h K :=
 good_of_W hJ mixed at33 body33 (by kernel_rfl) (Nat.le_of_ble_eq_true rfl) hs
theorem s33_1 {f : RG} {nx0 : RG → List AObj → Prop} : W prog J 35 n0 33 (subC yp1 (codeOf f33)) f h (thenK nx0 (contX pl33 prog J 35 n0 33 ct33 yp0 (codeOf f33) [] (RetQ prog [.tmp 4] n0 K))) =
(aLenStr (f.r 0) fun v1 =>
 aBin prog .leq 3 (f.r 7) v1 fun v2 =>
 cnd v2
(aLenStr (f.r 0) fun v3 =>
 aBin prog .eql 3 (f.r 7) v3 fun v4 =>
 cnd v4
(Hold (W prog J 35 n0 33 (subC yp5 (codeOf f33)) (RG.p (RG.p (RG.p (RG.p (RG.p (RG.p (RG.p (RG.p (RG.p (RG.p (RG.p (RG.p (RG.p (RG.p (RG.p (RG.p f 8 (f.r 7)) 9 (f.r 0)) 10 v1) 11 v2) 14 (f.r 7)) 15 (f.r 0)) 16 v3) 17 v4) 18 v4) 18 (Value.bool true)) 19 undef) 20 undef) 21 undef) 22 undef) 23 undef) 24 (Value.bool true)) h (contX pl33 prog J 35 n0 33 ct33 yp5 (codeOf f33) [nx0] (RetQ prog [.tmp 4] n0 K))))
(aIdxStr (f.r 0) (f.r 7) fun v5 =>
 aBin prog .eql 5 v5 (f.r 1) fun v6 =>
 Hold (W prog J 35 n0 33 (subC yp5 (codeOf f33)) (RG.p (RG.p (RG.p (RG.p (RG.p (RG.p (RG.p (RG.p (RG.p (RG.p (RG.p (RG.p (RG.p (RG.p (RG.p (RG.p f 8 (f.r 7)) 9 (f.r 0)) 10 v1) 11 v2) 14 (f.r 7)) 15 (f.r 0)) 16 v3) 17 v4) 18 v4) 18 (Value.bool false)) 19 (f.r 0)) 20 (f.r 7)) 21 v5) 22 (f.r 1)) 23 v6) 24 v6) h (contX pl33 prog J 35 n0 33 ct33 yp5 (codeOf f33) [nx0] (RetQ prog [.tmp 4] n0 K)))))
(retL n0 K f.ds [(f.r 5)] h)) := sub_eq pok33 ct33 (by kernel_rfl)
theorem l33_1 (hJ : Closed prog main J) {S : Type} (μ : S → Nat) (I : S → RG → List AObj → Prop) (hI : ∀ s f h,I s f h → heapOk h → n0 ≤ h.length → W prog J 35 n0 33 (subC yp1 (codeOf f33)) f h (thenK (Nx n0 μ I s) (contX pl33 prog J 35 n0 33 ct33 yp0 (codeOf f33) [] (RetQ prog [.tmp 4] n0 K))))
 {s : S} {f : RG} (hi : Gets n0 I s f h) : Sem J 35 n0 33 (subC yp0 (codeOf f33)) f h (contX pl33 prog J 35 n0 33 ct33 yp0 (codeOf f33) [] (RetQ prog [.tmp 4] n0 K)) :=
 loop_rule hJ mixed (b := subC yp1 (codeOf f33)) (by kernel_rfl) μ I hI hi
theorem s33_2 {f : RG} {nx0 : RG → List AObj → Prop} : W prog J 35 n0 33 (subC yp5 (codeOf f33)) f h (contX pl33 prog J 35 n0 33 ct33 yp5 (codeOf f33) [nx0] (RetQ prog [.tmp 4] n0 K)) =
(cnd (f.r 24)
(aSlStr (f.r 0) (some (f.r 6)) (some (f.r 7)) fun v1 =>
(((1 * 1 : Nat) ≤ 16777216 ∧ (1 : Nat) ≤ 16777216 ∧ List.length [(Value.string { data := #[] })] = 1) ∧ aFill (zrep [(Value.string { data := #[] })] 1) [(0,1,v1)] fun c2 =>
 aNewS 1 c2 h fun v3 h4 =>
((List.length [(Value.string { data := #[] })] = 1 ∧ 0 < (1 : Nat) ∧ 0 < (16 : Nat) ∧ (16 : Nat) ≤ 1024) ∧ aApp 1 (f.r 5) v3 h4 fun v5 h6 =>
 aBin prog .add 3 (f.r 7) (vint 1) fun v7 =>
 aBin prog .add 3 (f.r 7) (vint 1) fun v8 =>
 nx0 (RG.p (RG.p (RG.p (RG.p (RG.p (RG.p (RG.p (RG.p (RG.p (RG.p (RG.p (RG.p (RG.p (RG.p f 25 (f.r 5)) 26 (f.r 0)) 27 (f.r 6)) 28 (f.r 7)) 29 v1) 30 v3) 31 v5) 5 v5) 32 (f.r 7)) 33 v7) 6 v7) 12 (f.r 7)) 13 v8) 7 v8) h6)))
(aBin prog .add 3 (f.r 7) (vint 1) fun v9 =>
 nx0 (RG.p (RG.p (RG.p f 12 (f.r 7)) 13 v9) 7 v9) h)) := sub_eq pok33 ct33 (by kernel_rfl)
theorem at58 : prog.funcs[58]? = some f58 := by kernel_rfl
theorem body58 : f58.body = some (codeOf f58) := by kernel_rfl
def pl58 : Plans := []
def ct58 : Cuts := .bin (.go) (.bin (.bin (.go) (.cut (.go))) (.bin (.go) (.bin (.bin (.go) (.un (.un (.bin (.go) (.bin (.un (.bin (.bin (.go) (.cut (.go))) (.go))) (.go)))))) (.go))))
theorem pok58 : plansOk prog pl58 (codeOf f58) = true := by kernel_rfl
theorem e58 {a0 : Value} : W prog J 49 h.length 58 (codeOf f58) (RG.mk (regs [a0]) []) h (RetQ prog [.tmp 2,.tmp 3] h.length K) =
(aLenStr a0 fun v1 =>
 aBin prog .lss 3 v1 (vint 1) fun v2 =>
 cnd v2
(Hold (W prog J 49 h.length 58 (subC [1,0,1] (codeOf f58)) (RG.p (RG.p (RG.p (RG.p (RG.p (RG.p (RG.p (RG.p (RG.p (RG.p (RG.p (RG.p (RG.p (RG.p (RG.p (RG.p (RG.p (RG.p (RG.p (RG.p (RG.p (RG.p (RG.mk (regs [a0]) []) 2 (vint 0)) 3 (Value.bool false)) 6 a0) 7 v1) 8 v2) 9 v2) 9 (Value.bool true)) 10 undef) 11 undef) 12 undef) 13 (Value.bool true)) 14 (Value.bool true)) 14 (Value.bool true)) 15 undef) 16 undef) 17 undef) 18 undef) 19 undef) 20 undef) 21 undef) 22 undef) 23 (Value.bool true)) h (contX pl58 prog J 49 h.length 58 ct58 [1,0,1] (codeOf f58) [] (RetQ prog [.tmp 2,.tmp 3] h.length K))))
(aLenStr a0 fun v3 =>
 aBin prog .gtr 3 v3 (vint 2) fun v4 =>
 cnd v4
(Hold (W prog J 49 h.length 58 (subC [1,0,1] (codeOf f58)) (RG.p (RG.p (RG.p (RG.p (RG.p (RG.p (RG.p (RG.p (RG.p (RG.p (RG.p (RG.p (RG.p (RG.p (RG.p (RG.p (RG.p (RG.p (RG.p (RG.p (RG.p (RG.p (RG.mk (regs [a0]) []) 2 (vint 0)) 3 (Value.bool false)) 6 a0) 7 v1) 8 v2) 9 v2) 9 (Value.bool false)) 10 a0) 11 v3) 12 v4) 13 v4) 14 v4) 14 (Value.bool true)) 15 undef) 16 undef) 17 undef) 18 undef) 19 undef) 20 undef) 21 undef) 22 undef) 23 (Value.bool true)) h (contX pl58 prog J 49 h.length 58 ct58 [1,0,1] (codeOf f58) [] (RetQ prog [.tmp 2,.tmp 3] h.length K))))
(aIdxStr a0 (vint 0) fun v5 =>
 aBin prog .eql 5 v5 (Value.int .u8 48) fun v6 =>
 cnd v6
(aLenStr a0 fun v7 =>
 aBin prog .gtr 3 v7 (vint 1) fun v8 =>
 Hold (W prog J 49 h.length 58 (subC [1,0,1] (codeOf f58)) (RG.p (RG.p (RG.p (RG.p (RG.p (RG.p (RG.p (RG.p (RG.p (RG.p (RG.p (RG.p (RG.p (RG.p (RG.p (RG.p (RG.p (RG.p (RG.p (RG.p (RG.p (RG.p (RG.p (RG.mk (regs [a0]) []) 2 (vint 0)) 3 (Value.bool false)) 6 a0) 7 v1) 8 v2) 9 v2) 9 (Value.bool false)) 10 a0) 11 v3) 12 v4) 13 v4) 14 v4) 14 (Value.bool false)) 15 a0) 16 v5) 17 v6) 18 v6) 18 (Value.bool true)) 19 a0) 20 v7) 21 v8) 22 v8) 23 v8) h (contX pl58 prog J 49 h.length 58 ct58 [1,0,1] (codeOf f58) [] (RetQ prog [.tmp 2,.tmp 3] h.length K))))
(Hold (W prog J 49 h.length 58 (subC [1,0,1] (codeOf f58)) (RG.p (RG.p (RG.p (RG.p (RG.p (RG.p (RG.p (RG.p (RG.p (RG.p (RG.p (RG.p (RG.p (RG.p (RG.p (RG.p (RG.p (RG.p (RG.p (RG.p (RG.p (RG.p (RG.p (RG.mk (regs [a0]) []) 2 (vint 0)) 3 (Value.bool false)) 6 a0) 7 v1) 8 v2) 9 v2) 9 (Value.bool false)) 10 a0) 11 v3) 12 v4) 13 v4) 14 v4) 14 (Value.bool false)) 15 a0) 16 v5) 17 v6) 18 v6) 18 (Value.bool false)) 19 undef) 20 undef) 21 undef) 22 (Value.bool false)) 23 (Value.bool false)) h (contX pl58 prog J 49 h.length 58 ct58 [1,0,1] (codeOf f58) [] (RetQ prog [.tmp 2,.tmp 3] h.length K))))))) := top_eq pok58 ct58 (by kernel_rfl)
theorem g58 (hJ : Closed prog main J) {a0 : Value} (hs : heapOk h → W prog J 49 h.length 58 (codeOf f58) (RG.mk (regs [a0]) []) h (RetQ prog [.tmp 2,.tmp 3] h.length K)) : Good prog J 58 [a0] h K :=
 good_of_W hJ mixed at58 body58 (by kernel_rfl) (Nat.le_of_ble_eq_true rfl) hs
theorem s58_1 {f : RG} : W prog J 49 n0 58 (subC [1,0,1] (codeOf f58)) f h (contX pl58 prog J 49 n0 58 ct58 [1,0,1] (codeOf f58) [] (RetQ prog [.tmp 2,.tmp 3] n0 K)) =
(cnd (f.r 23)
(retL n0 K f.ds [(vint 0),(Value.bool false)] h)
(Sem J 49 n0 58 (subC yp0 (codeOf f58)) (RG.p (RG.p f 4 (vint 0)) 5 (vint 0)) h (contX pl58 prog J 49 n0 58 ct58 yp0 (codeOf f58) [] (RetQ prog [.tmp 2,.tmp 3] n0 K)))) := sub_eq pok58 ct58 (by kernel_rfl)
theorem s58_2 {f : RG} {nx0 : RG → List AObj → Prop} : W prog J 49 n0 58 (subC yp1 (codeOf f58)) f h (thenK nx0 (contX pl58 prog J 49 n0 58 ct58 yp0 (codeOf f58) [] (RetQ prog [.tmp 2,.tmp 3] n0 K))) =
(aLenStr (f.r 0) fun v1 =>
 aBin prog .lss 3 (f.r 5) v1 fun v2 =>
 cnd v2
(aIdxStr (f.r 0) (f.r 5) fun v3 =>
 aBin prog .lss 5 v3 (Value.int .u8 48) fun v4 =>
 cnd v4
(Hold (W prog J 49 n0 58 (subC yp20 (codeOf f58)) (RG.p (RG.p (RG.p (RG.p (RG.p (RG.p (RG.p (RG.p (RG.p (RG.p (RG.p (RG.p (RG.p (RG.p (RG.p f 24 (f.r 5)) 25 (f.r 0)) 26 v1) 27 v2) 30 (f.r 0)) 31 (f.r 5)) 32 v3) 33 v4) 34 v4) 34 (Value.bool true)) 35 undef) 36 undef) 37 undef) 38 undef) 39 (Value.bool true)) h (contX pl58 prog J 49 n0 58 ct58 yp20 (codeOf f58) [nx0] (RetQ prog [.tmp 2,.tmp 3] n0 K))))
(aIdxStr (f.r 0) (f.r 5) fun v5 =>
 aBin prog .gtr 5 v5 (Value.int .u8 57) fun v6 =>
 Hold (W prog J 49 n0 58 (subC yp20 (codeOf f58)) (RG.p (RG.p (RG.p (RG.p (RG.p (RG.p (RG.p (RG.p (RG.p (RG.p (RG.p (RG.p (RG.p (RG.p (RG.p f 24 (f.r 5)) 25 (f.r 0)) 26 v1) 27 v2) 30 (f.r 0)) 31 (f.r 5)) 32 v3) 33 v4) 34 v4) 34 (Value.bool false)) 35 (f.r 0)) 36 (f.r 5)) 37 v5) 38 v6) 39 v6) h (contX pl58 prog J 49 n0 58 ct58 yp20 (codeOf f58) [nx0] (RetQ prog [.tmp 2,.tmp 3] n0 K)))))
(retL n0 K f.ds [(f.r 4),(Value.bool true)] h)) := sub_eq pok58 ct58 (by kernel_rfl)
theorem l58_2 (hJ : Closed prog main J) {S : Type} (μ : S → Nat) (I : S → RG → List AObj → Prop) (hI : ∀ s f h,I s f h → heapOk h → n0 ≤ h.length → W prog J 49 n0 58 (subC yp1 (codeOf f58)) f h (thenK (Nx n0 μ I s) (contX pl58 prog J 49 n0 58 ct58 yp0 (codeOf f58) [] (RetQ prog [.tmp 2,.tmp 3] n0 K))))
 {s : S} {f : RG} (hi : Gets n0 I s f h) : Sem J 49 n0 58 (subC yp0 (codeOf f58)) f h (contX pl58 prog J 49 n0 58 ct58 yp0 (codeOf f58) [] (RetQ prog [.tmp 2,.tmp 3] n0 K)) :=
 loop_rule hJ mixed (b := subC yp1 (codeOf f58)) (by kernel_rfl) μ I hI hi
theorem s58_3 {f : RG} {nx0 : RG → List AObj → Prop} : W prog J 49 n0 58 (subC yp20 (codeOf f58)) f h (contX pl58 prog J 49 n0 58 ct58 yp20 (codeOf f58) [nx0] (RetQ prog [.tmp 2,.tmp 3] n0 K)) =
(cnd (f.r 39)
(retL n0 K f.ds [(vint 0),(Value.bool false)] h)
(aBin prog .mul 3 (vint 10) (f.r 4) fun v1 =>
 aIdxStr (f.r 0) (f.r 5) fun v2 =>
 aBin prog .sub 5 v2 (Value.int .u8 48) fun v3 =>
 aConvI .i64 v3 fun v4 =>
 aBin prog .add 3 v1 v4 fun v5 =>
 aBin prog .add 3 (f.r 5) (vint 1) fun v6 =>
 nx0 (RG.p (RG.p (RG.p (RG.p (RG.p (RG.p (RG.p (RG.p (RG.p (RG.p (RG.p (RG.p f 40 (f.r 4)) 41 v1) 42 (f.r 0)) 43 (f.r 5)) 44 v2) 45 v3) 46 v4) 47 v5) 4 v5) 28 (f.r 5)) 29 v6) 5 v6) h)) := sub_eq pok58 ct58 (by kernel_rfl)
theorem at59 : prog.funcs[59]? = some f59 := by kernel_rfl
theorem body59 : f59.body = some (codeOf f59) := by kernel_rfl
def pl59 : Plans := []
def ct59 : Cuts := .bin (.go) (.bin (.bin (.go) (.cut (.go))) (.go))
theorem pok59 : plansOk prog pl59 (codeOf f59) = true := by kernel_rfl
theorem e59 {a0 a1 : Value} : W prog J 20 h.length 59 (codeOf f59) (RG.mk (regs [a0,a1]) []) h (RetQ prog [.tmp 4,.tmp 5] h.length K) =
(aLenStr a0 fun v1 =>
 aBin prog .lss 3 v1 (vint 1) fun v2 =>
 cnd v2
(Hold (W prog J 20 h.length 59 (subC [1,0,1] (codeOf f59)) (RG.p (RG.p (RG.p (RG.p (RG.p (RG.p (RG.p (RG.p (RG.p (RG.p (RG.p (RG.p (RG.mk (regs [a0,a1]) []) 4 (vint 0)) 5 (Value.bool false)) 6 a0) 7 v1) 8 v2) 9 v2) 9 (Value.bool true)) 10 undef) 11 undef) 12 undef) 13 undef) 14 (Value.bool true)) h (contX pl59 prog J 20 h.length 59 ct59 [1,0,1] (codeOf f59) [] (RetQ prog [.tmp 4,.tmp 5] h.length K))))
(aSlStr a0 none (some (vint 1)) fun v3 =>
 aBin prog .neq 9 v3 a1 fun v4 =>
 Hold (W prog J 20 h.length 59 (subC [1,0,1] (codeOf f59)) (RG.p (RG.p (RG.p (RG.p (RG.p (RG.p (RG.p (RG.p (RG.p (RG.p (RG.p (RG.p (RG.mk (regs [a0,a1]) []) 4 (vint 0)) 5 (Value.bool false)) 6 a0) 7 v1) 8 v2) 9 v2) 9 (Value.bool false)) 10 a0) 11 v3) 12 a1) 13 v4) 14 v4) h (contX pl59 prog J 20 h.length 59 ct59 [1,0,1] (codeOf f59) [] (RetQ prog [.tmp 4,.tmp 5] h.length K))))) := top_eq pok59 ct59 (by kernel_rfl)
theorem g59 (hJ : Closed prog main J) {a0 a1 : Value} (hs : heapOk h → W prog J 20 h.length 59 (codeOf f59) (RG.mk (regs [a0,a1]) []) h (RetQ prog [.tmp 4,.tmp 5] h.length K)) : Good prog J 59 [a0,a1] h K :=
 good_of_W hJ mixed at59 body59 (by kernel_rfl) (Nat.le_of_ble_eq_true rfl) hs
theorem s59_1 {f : RG} : W prog J 20 n0 59 (subC [1,0,1] (codeOf f59)) f h (contX pl59 prog J 20 n0 59 ct59 [1,0,1] (codeOf f59) [] (RetQ prog [.tmp 4,.tmp 5] n0 K)) =
(cnd (f.r 14)
(retL n0 K f.ds [(vint 0),(Value.bool false)] h)
(aSlStr (f.r 0) (some (vint 1)) none fun v1 =>
 Good prog J 58 [v1] h fun v2 h3 =>
 aExt v2 0 fun v4 =>
 aExt v2 1 fun v5 =>
 retL n0 K f.ds [v4,v5] h3)) := sub_eq pok59 ct59 (by kernel_rfl)
end
section
variable {main : Bool} {J : JT} {n0 : Nat} {h : List AObj} {K : Value → List AObj → Prop}
theorem at34 : prog.funcs[34]? = some f34 := by kernel_rfl
theorem body34 : f34.body = some (codeOf f34) := by kernel_rfl
def pl34 : Plans := []
def ct34 : Cuts := .bin (.go) (.bin (.go) (.bin (.bin (.go) (.cut (.go))) (.bin (.go) (.bin (.go) (.cut (.bin (.go) (.bin (.go) (.cut (.bin (.go) (.cut (.go)))))))))))
theorem pok34 : plansOk prog pl34 (codeOf f34) = true := by kernel_rfl
theorem e34 {a0 : Value} : W prog J 64 h.length 34 (codeOf f34) (RG.mk (regs [a0]) []) h (RetQ prog [.cell 2 23,.tmp 3] h.length K) =
(aAlloc [(vint 0),(vint 0),(vint 0)] h fun v1 h2 =>
 Good prog J 33 [a0,(Value.int .u8 32)] h2 fun v3 h4 =>
 aLenS v3 fun v5 =>
 aBin prog .neq 3 v5 (vint 3) fun v6 =>
 cnd v6
(Hold (W prog J 64 h.length 34 (subC [1,1,0,1] (codeOf f34)) (RG.p (RG.p (RG.p (RG.p (RG.p (RG.p (RG.p (RG.p (RG.p (RG.p (RG.p (RG.p (RG.p (RG.p (RG.p (RG.mk (regs [a0]) []) 2 v1) 3 (Value.bool false)) 12 a0) 13 v3) 4 v3) 14 v3) 15 v5) 16 v6) 17 v6) 17 (Value.bool true)) 18 undef) 19 undef) 20 undef) 21 undef) 22 (Value.bool true)) h4 (contX pl34 prog J 64 h.length 34 ct34 [1,1,0,1] (codeOf f34) [] (RetQ prog [.cell 2 23,.tmp 3] h.length K))))
(aIdx 1 v3 (vint 0) fun v7 =>
 aLoad false 1 v7 h4 fun v8 =>
 aBin prog .neq 9 v8 (Value.string { data := #[119,101,108,108] }) fun v9 =>
 Hold (W prog J 64 h.length 34 (subC [1,1,0,1] (codeOf f34)) (RG.p (RG.p (RG.p (RG.p (RG.p (RG.p (RG.p (RG.p (RG.p (RG.p (RG.p (RG.p (RG.p (RG.p (RG.p (RG.mk (regs [a0]) []) 2 v1) 3 (Value.bool false)) 12 a0) 13 v3) 4 v3) 14 v3) 15 v5) 16 v6) 17 v6) 17 (Value.bool false)) 18 v3) 19 v7) 20 v8) 21 v9) 22 v9) h4 (contX pl34 prog J 64 h.length 34 ct34 [1,1,0,1] (codeOf f34) [] (RetQ prog [.cell 2 23,.tmp 3] h.length K))))) := top_eq pok34 ct34 (by kernel_rfl)
theorem g34 (hJ : Closed prog main J) {a0 : Value} (hs : heapOk h → W prog J 64 h.length 34 (codeOf f34) (RG.mk (regs [a0]) []) h (RetQ prog [.cell 2 23,.tmp 3] h.length K)) : Good prog J 34 [a0] h K :=
 good_of_W hJ mixed at34 body34 (by kernel_rfl) (Nat.le_of_ble_eq_true rfl) hs
theorem s34_1 {f : RG} : W prog J 64 n0 34 (subC [1,1,0,1] (codeOf f34)) f h (contX pl34 prog J 64 n0 34 ct34 [1,1,0,1] (codeOf f34) [] (RetQ prog [.cell 2 23,.tmp 3] n0 K)) =
(cnd (f.r 22)
(aFill [(vint 0),(vint 0),(vint 0)] [] fun c1 =>
 aStore 3 (f.r 2) (Value.agg ⟨c1⟩) h fun h2 =>
 RetQ prog [.cell 2 23,.tmp 3] n0 K .ret (RG.p (RG.p f 23 (Value.agg ⟨c1⟩)) 3 (Value.bool false)) h2)
(aIdx 1 (f.r 4) (vint 1) fun v3 =>
 aLoad false 1 v3 h fun v4 =>
 Good prog J 33 [v4,(Value.int .u8 47)] h fun v5 h6 =>
 aLenS v5 fun v7 =>
 aBin prog .neq 3 v7 (vint 2) fun v8 =>
 cnd v8
(aFill [(vint 0),(vint 0),(vint 0)] [] fun c9 =>
 aStore 3 (f.r 2) (Value.agg ⟨c9⟩) h6 fun h10 =>
 RetQ prog [.cell 2 23,.tmp 3] n0 K .ret (RG.p (RG.p (RG.p (RG.p (RG.p (RG.p (RG.p (RG.p (RG.p (RG.p f 24 (f.r 4)) 25 v3) 26 v4) 27 v5) 5 v5) 28 v5) 29 v7) 30 v8) 31 (Value.agg ⟨c9⟩)) 3 (Value.bool false)) h10)
(Hold (W prog J 64 n0 34 (subC yp7 (codeOf f34)) (RG.p (RG.p (RG.p (RG.p (RG.p (RG.p (RG.p (RG.p f 24 (f.r 4)) 25 v3) 26 v4) 27 v5) 5 v5) 28 v5) 29 v7) 30 v8) h6 (contX pl34 prog J 64 n0 34 ct34 yp7 (codeOf f34) [] (RetQ prog [.cell 2 23,.tmp 3] n0 K)))))) := sub_eq pok34 ct34 (by kernel_rfl)
theorem s34_2 {f : RG} : W prog J 64 n0 34 (subC yp7 (codeOf f34)) f h (contX pl34 prog J 64 n0 34 ct34 yp7 (codeOf f34) [] (RetQ prog [.cell 2 23,.tmp 3] n0 K)) =
(aIdx 1 (f.r 5) (vint 0) fun v1 =>
 aLoad false 1 v1 h fun v2 =>
 Good prog J 58 [v2] h fun v3 h4 =>
 aExt v3 0 fun v5 =>
 aExt v3 1 fun v6 =>
 aIdx 1 (f.r 5) (vint 1) fun v7 =>
 aLoad false 1 v7 h4 fun v8 =>
 Good prog J 58 [v8] h4 fun v9 h10 =>
 aExt v9 0 fun v11 =>
 aExt v9 1 fun v12 =>
 Hold (W prog J 64 n0 34 (subC yp14 (codeOf f34)) (RG.p (RG.p (RG.p (RG.p (RG.p (RG.p (RG.p (RG.p (RG.p (RG.p (RG.p (RG.p (RG.p (RG.p (RG.p (RG.p (RG.p (RG.p f 33 (f.r 5)) 34 v1) 35 v2) 36 v3) 32 v3) 37 v5) 38 v6) 6 v5) 7 v6) 40 (f.r 5)) 41 v7) 42 v8) 43 v9) 39 v9) 44 v11) 45 v12) 8 v11) 9 v12) h10 (contX pl34 prog J 64 n0 34 ct34 yp14 (codeOf f34) [] (RetQ prog [.cell 2 23,.tmp 3] n0 K)))) := sub_eq pok34 ct34 (by kernel_rfl)
theorem s34_3 {f : RG} : W prog J 64 n0 34 (subC yp14 (codeOf f34)) f h (contX pl34 prog J 64 n0 34 ct34 yp14 (codeOf f34) [] (RetQ prog [.cell 2 23,.tmp 3] n0 K)) =
(aIdx 1 (f.r 4) (vint 2) fun v1 =>
 aLoad false 1 v1 h fun v2 =>
 Good prog J 59 [v2,(Value.string { data := #[43] })] h fun v3 h4 =>
 aExt v3 0 fun v5 =>
 aExt v3 1 fun v6 =>
 Hold (W prog J 64 n0 34 (subC yp15 (codeOf f34)) (RG.p (RG.p (RG.p (RG.p (RG.p (RG.p (RG.p (RG.p (RG.p f 47 (f.r 4)) 48 v1) 49 v2) 50 v3) 46 v3) 51 v5) 52 v6) 10 v5) 11 v6) h4 (contX pl34 prog J 64 n0 34 ct34 yp15 (codeOf f34) [] (RetQ prog [.cell 2 23,.tmp 3] n0 K)))) := sub_eq pok34 ct34 (by kernel_rfl)
theorem s34_4 {f : RG} : W prog J 64 n0 34 (subC yp15 (codeOf f34)) f h (contX pl34 prog J 64 n0 34 ct34 yp15 (codeOf f34) [] (RetQ prog [.cell 2 23,.tmp 3] n0 K)) =
(aFill [(vint 0),(vint 0),(vint 0)] [(0,1,(f.r 6)),(1,1,(f.r 8)),(2,1,(f.r 10))] fun c1 =>
 cnd (f.r 7)
(cnd (f.r 9)
(aStore 3 (f.r 2) (Value.agg ⟨c1⟩) h fun h2 =>
 RetQ prog [.cell 2 23,.tmp 3] n0 K .ret (RG.p (RG.p (RG.p (RG.p (RG.p (RG.p (RG.p (RG.p (RG.p (RG.p (RG.p (RG.p (RG.p (RG.p f 53 (f.r 6)) 54 (f.r 8)) 55 (f.r 10)) 56 (Value.agg ⟨c1⟩)) 57 (f.r 7)) 58 (f.r 7)) 58 (Value.bool true)) 59 (f.r 9)) 60 (f.r 9)) 61 (f.r 9)) 61 (Value.bool true)) 62 (f.r 11)) 63 (f.r 11)) 3 (f.r 11)) h2)
(aStore 3 (f.r 2) (Value.agg ⟨c1⟩) h fun h3 =>
 RetQ prog [.cell 2 23,.tmp 3] n0 K .ret (RG.p (RG.p (RG.p (RG.p (RG.p (RG.p (RG.p (RG.p (RG.p (RG.p (RG.p (RG.p (RG.p (RG.p f 53 (f.r 6)) 54 (f.r 8)) 55 (f.r 10)) 56 (Value.agg ⟨c1⟩)) 57 (f.r 7)) 58 (f.r 7)) 58 (Value.bool true)) 59 (f.r 9)) 60 (f.r 9)) 61 (f.r 9)) 61 (Value.bool false)) 62 undef) 63 (Value.bool false)) 3 (Value.bool false)) h3))
(aStore 3 (f.r 2) (Value.agg ⟨c1⟩) h fun h4 =>
 RetQ prog [.cell 2 23,.tmp 3] n0 K .ret (RG.p (RG.p (RG.p (RG.p (RG.p (RG.p (RG.p (RG.p (RG.p (RG.p (RG.p (RG.p (RG.p (RG.p f 53 (f.r 6)) 54 (f.r 8)) 55 (f.r 10)) 56 (Value.agg ⟨c1⟩)) 57 (f.r 7)) 58 (f.r 7)) 58 (Value.bool false)) 59 undef) 60 (Value.bool false)) 61 (Value.bool false)) 61 (Value.bool false)) 62 undef) 63 (Value.bool false)) 3 (Value.bool false)) h4)) := sub_eq pok34 ct34 (by kernel_rfl)
theorem at35 : prog.funcs[35]? = some f35 := by kernel_rfl
theorem body35 : f35.body = some (codeOf f35) := by kernel_rfl
def pl35 : Plans := []
def ct35 : Cuts := .bin (.go) (.bin (.go) (.bin (.bin (.go) (.cut (.go))) (.go)))
theorem pok35 : plansOk prog pl35 (codeOf f35) = true := by kernel_rfl
theorem e35 {a0 : Value} : W prog J 42 h.length 35 (codeOf f35) (RG.mk (regs [a0]) []) h (RetQ prog [.cell 2 64,.tmp 3] h.length K) =
(aAlloc [(vint 0),(vint 0)] h fun v1 h2 =>
 Good prog J 33 [a0,(Value.int .u8 32)] h2 fun v3 h4 =>
 aLenS v3 fun v5 =>
 aBin prog .neq 3 v5 (vint 3) fun v6 =>
 cnd v6
(Hold (W prog J 42 h.length 35 (subC [1,1,0,1] (codeOf f35)) (RG.p (RG.p (RG.p (RG.p (RG.p (RG.p (RG.p (RG.p (RG.p (RG.p (RG.p (RG.p (RG.p (RG.p (RG.p (RG.mk (regs [a0]) []) 2 v1) 3 (Value.bool false)) 9 a0) 10 v3) 4 v3) 11 v3) 12 v5) 13 v6) 14 v6) 14 (Value.bool true)) 15 undef) 16 undef) 17 undef) 18 undef) 19 (Value.bool true)) h4 (contX pl35 prog J 42 h.length 35 ct35 [1,1,0,1] (codeOf f35) [] (RetQ prog [.cell 2 64,.tmp 3] h.length K))))
(aIdx 1 v3 (vint 0) fun v7 =>
 aLoad false 1 v7 h4 fun v8 =>
 aBin prog .neq 9 v8 (Value.string { data := #[102,108,111,99,107] }) fun v9 =>
 Hold (W prog J 42 h.length 35 (subC [1,1,0,1] (codeOf f35)) (RG.p (RG.p (RG.p (RG.p (RG.p (RG.p (RG.p (RG.p (RG.p (RG.p (RG.p (RG.p (RG.p (RG.p (RG.p (RG.mk (regs [a0]) []) 2 v1) 3 (Value.bool false)) 9 a0) 10 v3) 4 v3) 11 v3) 12 v5) 13 v6) 14 v6) 14 (Value.bool false)) 15 v3) 16 v7) 17 v8) 18 v9) 19 v9) h4 (contX pl35 prog J 42 h.length 35 ct35 [1,1,0,1] (codeOf f35) [] (RetQ prog [.cell 2 64,.tmp 3] h.length K))))) := top_eq pok35 ct35 (by kernel_rfl)
theorem g35 (hJ : Closed prog main J) {a0 : Value} (hs : heapOk h → W prog J 42 h.length 35 (codeOf f35) (RG.mk (regs [a0]) []) h (RetQ prog [.cell 2 64,.tmp 3] h.length K)) : Good prog J 35 [a0] h K :=
 good_of_W hJ mixed at35 body35 (by kernel_rfl) (Nat.le_of_ble_eq_true rfl) hs
theorem s35_1 {f : RG} : W prog J 42 n0 35 (subC [1,1,0,1] (codeOf f35)) f h (contX pl35 prog J 42 n0 35 ct35 [1,1,0,1] (codeOf f35) [] (RetQ prog [.cell 2 64,.tmp 3] n0 K)) =
(cnd (f.r 19)
(aFill [(vint 0),(vint 0)] [] fun c1 =>
 aStore 2 (f.r 2) (Value.agg ⟨c1⟩) h fun h2 =>
 RetQ prog [.cell 2 64,.tmp 3] n0 K .ret (RG.p (RG.p f 20 (Value.agg ⟨c1⟩)) 3 (Value.bool false)) h2)
(aIdx 1 (f.r 4) (vint 1) fun v3 =>
 aLoad false 1 v3 h fun v4 =>
 Good prog J 59 [v4,(Value.string { data := #[45] })] h fun v5 h6 =>
 aExt v5 0 fun v7 =>
 aExt v5 1 fun v8 =>
 aIdx 1 (f.r 4) (vint 2) fun v9 =>
 aLoad false 1 v9 h6 fun v10 =>
 Good prog J 59 [v10,(Value.string { data := #[64] })] h6 fun v11 h12 =>
 aExt v11 0 fun v13 =>
 aExt v11 1 fun v14 =>
 aFill [(vint 0),(vint 0)] [(0,1,v7),(1,1,v13)] fun c15 =>
 cnd v8
(aStore 2 (f.r 2) (Value.agg ⟨c15⟩) h12 fun h16 =>
 RetQ prog [.cell 2 64,.tmp 3] n0 K .ret (RG.p (RG.p (RG.p (RG.p (RG.p (RG.p (RG.p (RG.p (RG.p (RG.p (RG.p (RG.p (RG.p (RG.p (RG.p (RG.p (RG.p (RG.p (RG.p (RG.p (RG.p (RG.p (RG.p (RG.p (RG.p (RG.p (RG.p f 22 (f.r 4)) 23 v3) 24 v4) 25 v5) 21 v5) 26 v7) 27 v8) 5 v7) 6 v8) 29 (f.r 4)) 30 v9) 31 v10) 32 v11) 28 v11) 33 v13) 34 v14) 7 v13) 8 v14) 35 v7) 36 v13) 37 (Value.agg ⟨c15⟩)) 38 v8) 39 v8) 39 (Value.bool true)) 40 v14) 41 v14) 3 v14) h16)
(aStore 2 (f.r 2) (Value.agg ⟨c15⟩) h12 fun h17 =>
 RetQ prog [.cell 2 64,.tmp 3] n0 K .ret (RG.p (RG.p (RG.p (RG.p (RG.p (RG.p (RG.p (RG.p (RG.p (RG.p (RG.p (RG.p (RG.p (RG.p (RG.p (RG.p (RG.p (RG.p (RG.p (RG.p (RG.p (RG.p (RG.p (RG.p (RG.p (RG.p (RG.p f 22 (f.r 4)) 23 v3) 24 v4) 25 v5) 21 v5) 26 v7) 27 v8) 5 v7) 6 v8) 29 (f.r 4)) 30 v9) 31 v10) 32 v11) 28 v11) 33 v13) 34 v14) 7 v13) 8 v14) 35 v7) 36 v13) 37 (Value.agg ⟨c15⟩)) 38 v8) 39 v8) 39 (Value.bool false)) 40 undef) 41 (Value.bool false)) 3 (Value.bool false)) h17))) := sub_eq pok35 ct35 (by kernel_rfl)
end
end Go.Proofs.YtcmgjbflljmphaaGreatDoor
namespace Go.Proofs.YtcmgjbflljmphaaGreatDoor
open Go.Conc Go.Proofs.Tryz
set_option maxRecDepth 100000
theorem parts_step {c : UInt8} {s : List UInt8} {fr i : Nat} (hf : fr ≤ i) (hx : s[i]? = some c) (hno : ∀ b ∈ (s.take i).drop fr,b ≠ c) : partsB c (s.drop fr) = (s.take i).drop fr :: partsB c (s.drop (i + 1)) := by
 obtain ⟨hi,hc⟩ := List.getElem?_eq_some_iff.1 hx
 have : s.drop fr = (s.take i).drop fr ++ c :: s.drop (i + 1) := by
  have h1 : s = s.take i ++ c :: s.drop (i + 1) := by rw [← hc,List.getElem_cons_drop,List.take_append_drop]
  have h2 : fr ≤ (s.take i).length := by simp; omega
  calc s.drop fr = (s.take i ++ c :: s.drop (i + 1)).drop fr := by rw [← h1]
   _ = _ := List.drop_append_of_le_length h2
 rw [this,partsB_cut _ _ hno]
theorem take_drop_snoc {s : List UInt8} {fr i : Nat} {x : UInt8} (hf : fr ≤ i) (hx : s[i]? = some x) : (s.take (i + 1)).drop fr = (s.take i).drop fr ++ [x] := by
 have hi := (List.getElem?_eq_some_iff.1 hx).1
 rw [take_snoc hx,List.drop_append_of_le_length (by simp; omega)]
section
variable {main : Bool} {J : JT} {H : List AObj} {K : Value → List AObj → Prop} {KV : Value → Prop} {F : RG} {n0 : Nat} {s : List UInt8} {c : UInt8}
theorem good33 (hJ : Closed prog main J) {s : List UInt8} {c : UInt8} (hs : s.length ≤ 900) (hK : ∀ v H',SameX [] H H' → Sli H' v 1 (partsB c s).length ((partsB c s).map strV) → K v H') : Good prog J 33 [strV s,.int .u8 c.toNat] H K := by
 refine g33 hJ fun ok => ?_
 rw [e33]
 refine l33_1 hJ (S := Nat) (fun i => s.length + 2 - i) (fun i F H' => ∃ (L : List (List UInt8)) (fr : Nat) (v : Value) (o : Option Nat),F.ds = [] ∧ F.r 0 = strV s ∧ F.r 1 = .int .u8 c.toNat ∧ F.r 5 = v ∧ F.r 6 = vint (fr : Nat) ∧ F.r 7 = vint (i : Nat) ∧ OwnX H' 1 (L.map strV) L.length v o ∧ (∀ k,o = some k → H.length ≤ k) ∧ SameX [] H H' ∧ L.length ≤ i ∧
   ((i ≤ s.length ∧ fr ≤ i ∧ partsB c s = L ++ partsB c (s.drop fr) ∧ ∀ b ∈ (s.take i).drop fr,b ≠ c) ∨ (i = s.length + 1 ∧ fr ≤ i ∧ L = partsB c s))) ?_ (s := 0)
  (.inl ⟨[],0,_,none,rfl,rfl,rfl,rfl,rfl,rfl,ownX_nil,(fun k e => by cases e),SameX.refl,Nat.le_refl _,.inl ⟨Nat.zero_le _,Nat.le_refl _,by simp,by simp⟩⟩)
 rintro i F H' ⟨L,fr,v,o,ds,r0,r1,r5,r6,r7,O,hO,S,hL,hcase⟩ ok' hn'
 rw [s33_1]
 simp only [ds,r0,r1,r5,r7]
 refine lenStr (leqI (cndI (fun hle => lenStr (eqlI ?_)) fun hgt => ?_))
 ·obtain ⟨hi,hf,hp,hno⟩ := hcase.resolve_right (fun h => by omega)
  have out : ∀ {F : RG} {q : Bool},F.ds = [] → F.r 0 = strV s → F.r 1 = .int .u8 c.toNat → F.r 5 = v → F.r 6 = vint (fr : Nat) → F.r 7 = vint (i : Nat) → F.r 24 = .bool q → (q = true ↔ i = s.length ∨ s[i]? = some c) → _ := fun {F q} ds r0 r1 r5 r6 r7 r24 hq => show W prog J 35 H.length 33 (subC yp5 (codeOf f33)) F H' (contX pl33 prog J 35 H.length 33 ct33 yp5 (codeOf f33) [Nx H.length (fun i => s.length + 2 - i) (fun i F H' => ∃ (L : List (List UInt8)) (fr : Nat) (v : Value) (o : Option Nat),F.ds = [] ∧ F.r 0 = strV s ∧ F.r 1 = .int .u8 c.toNat ∧ F.r 5 = v ∧ F.r 6 = vint (fr : Nat) ∧ F.r 7 = vint (i : Nat) ∧ OwnX H' 1 (L.map strV) L.length v o ∧ (∀ k,o = some k → H.length ≤ k) ∧ SameX [] H H' ∧ L.length ≤ i ∧
   ((i ≤ s.length ∧ fr ≤ i ∧ partsB c s = L ++ partsB c (s.drop fr) ∧ ∀ b ∈ (s.take i).drop fr,b ≠ c) ∨ (i = s.length + 1 ∧ fr ≤ i ∧ L = partsB c s))) i] (RetQ prog [.tmp 4] H.length K)) by
   rw [s33_2]
   simp only [r0,r5,r6,r7,r24]
   cases q with
   | true =>
    refine cnd_true.2 (slS ⟨hf,hi⟩ ⟨⟨by decide,by decide,rfl⟩,fillO (l := [strV ((s.take i).drop fr)]) rfl rfl rfl (by decide) (fillI (qNew fun H2 p2 e2 S2 c2 l2 => ⟨⟨rfl,by decide,by decide,by decide⟩,?_⟩))⟩)
    have c2 : H2[p2]? = some (.cells [strV ((s.take i).drop fr)] true 0) := c2
    have O2 := ownX_keep O S2 (by simp)
    refine ownX_more O2 (by omega) (by omega) (ownX_sli (ownX_new (s := 1) (n := 1) c2 rfl rfl)) fun v' H3 p3 e3 O3 S3 => addI (by omega) (addI (by omega) ⟨i + 1,by dsimp only; omega,.inl ⟨L ++ [(s.take i).drop fr],i + 1,v',some p3,ds,r0,r1,rfl,rfl,rfl,by simpa using O3,(fun k e => by cases e; have := S.1; have := S2.1; omega),(S.trans S2).thru S3 (fun y hy => .inr (hO y (by simpa using hy))),by simp; omega,?_⟩⟩)
    rcases Nat.lt_or_ge i s.length with hlt | hge
    ·have hx : s[i]? = some c := (hq.1 rfl).resolve_left (by omega)
     refine .inl ⟨hlt,Nat.le_refl _,?_,?_⟩
     ·rw [hp,parts_step hf hx hno]
      simp
     ·rw [List.drop_of_length_le (by simp; omega)]
      simp
    ·have hie : i = s.length := by omega
     refine .inr ⟨by omega,Nat.le_refl _,?_⟩
     subst hie
     rw [List.take_length] at hno ⊢
     rw [hp,partsB_one _ hno]
   | false =>
    have hlt : i < s.length := by
     rcases Nat.lt_or_ge i s.length with h | h
     ·exact h
     ·have := hq.2 (.inl (by omega))
      cases this
    have hx : s[i]? = some s[i] := List.getElem?_eq_getElem hlt
    refine cnd_false.2 (addI (by omega) ⟨i + 1,by dsimp only; omega,.inl ⟨L,fr,v,o,ds,r0,r1,r5,r6,rfl,O,hO,S,by omega,.inl ⟨hlt,by omega,hp,?_⟩⟩⟩)
    rw [take_drop_snoc hf hx]
    intro b hb
    rcases List.mem_append.1 hb with hb | hb
    ·exact hno b hb
    ·rw [List.mem_singleton.1 hb]
     intro e
     have := hq.2 (.inr (by rw [hx,e]))
     cases this
  refine cndI (fun he => hold.2 ?_) fun hne => ?_
  ·exact out ds r0 r1 r5 r6 r7 rfl ⟨fun _ => .inl (by omega),fun _ => rfl⟩
  ·have hlt : i < s.length := by omega
   have hx : s[i]? = some s[i] := List.getElem?_eq_getElem hlt
   refine idS hx (eqU (hold.2 (out ds r0 r1 r5 r6 r7 rfl ?_)))
   rw [decide_eq_true_iff]
   exact ⟨fun e => .inr (by rw [hx,e]),fun h => by
    rcases h with h | h
    ·omega
    ·rw [hx] at h
     exact Option.some.inj h⟩
 ·obtain ⟨hi,_,hp⟩ := hcase.resolve_left (fun h => by omega)
  subst hp
  refine retL_same (by
   intro x hx
   rw [List.mem_singleton.1 hx]
   obtain ⟨b,k,e,_⟩ := ownX_sli O
   rw [e]
   simp [unk]) (hK v H' S (ownX_sli O))
theorem dgs_1 (hJ : Closed prog main J) {d : List UInt8} (ds : F.ds = []) (r0 : F.r 0 = strV d) {pre : Bool} (r23 : F.r 23 = .bool (!pre)) (hpre : pre = true → d.length ≤ 3)
  (k1 : (pre && d.all isDig) = true → K (.tuple ⟨[vint (valB d),.bool true]⟩) H) (k2 : (pre && d.all isDig) = false → K (.tuple ⟨[vint 0,.bool false]⟩) H) :
  W prog J 49 n0 58 (subC [1,0,1] (codeOf f58)) F H (contX pl58 prog J 49 n0 58 ct58 [1,0,1] (codeOf f58) [] (RetQ prog [.tmp 2,.tmp 3] n0 K)) := by
 rw [s58_1]
 simp only [ds,r23]
 cases pre with
 | false => exact cnd_true.2 (retL_same (by simp [unk]) (k2 rfl))
 | true =>
  have hd3 := hpre rfl
  simp only [Bool.true_and] at k1 k2
  refine cnd_false.2 ?_
  refine l58_2 hJ (S := Nat) (fun i => d.length + 1 - i) (fun i F H' => H' = H ∧ i ≤ d.length ∧ F.ds = [] ∧ F.r 0 = strV d ∧ F.r 5 = vint (i : Nat) ∧ F.r 4 = vint (valB (d.take i)) ∧ (d.take i).all isDig = true) ?_ (s := 0) (.inl ⟨rfl,Nat.zero_le _,ds,r0,rfl,rfl,rfl⟩)
  rintro i F H' ⟨rfl,hi,ds,r0,r5,r4,hall⟩ ok' hn'
  rw [s58_2]
  simp only [ds,r0,r4,r5]
  have hbd := valB_small hall (by simp; omega)
  refine lenStr (lssI (cndI (fun hlt => ?_) fun hge => ?_))
  ·have hil : i < d.length := by omega
   have hx : d[i]? = some d[i] := List.getElem?_eq_getElem hil
   generalize d[i] = x at hx
   have hxl := x.toNat_lt
   have htk := take_snoc hx
   have bad : isDig x = false → d.all isDig = false := fun h => by
    cases ha : d.all isDig with
    | false => rfl
    | true =>
     rw [List.all_eq_true] at ha
     rw [ha x (List.mem_of_getElem? hx)] at h
     cases h
   have out : ∀ {F : RG} {b2 : Bool},F.ds = [] → F.r 39 = .bool b2 → F.r 4 = vint (valB (d.take i)) → F.r 0 = strV d → F.r 5 = vint (i : Nat) → isDig x = !b2 → _ := fun {F b2} ds r39 r4 r0 r5 hdig => show W prog J 49 n0 58 (subC yp20 (codeOf f58)) F H' (contX pl58 prog J 49 n0 58 ct58 yp20 (codeOf f58) [Nx n0 (fun i => d.length + 1 - i) (fun i F H2 => H2 = H' ∧ i ≤ d.length ∧ F.ds = [] ∧ F.r 0 = strV d ∧ F.r 5 = vint (i : Nat) ∧ F.r 4 = vint (valB (d.take i)) ∧ (d.take i).all isDig = true) i] (RetQ prog [.tmp 2,.tmp 3] n0 K)) by
    rw [s58_3]
    simp only [ds,r39,r4,r0,r5]
    cases b2 with
    | true => exact cnd_true.2 (retL_same (by simp [unk]) (k2 (bad hdig)))
    | false =>
     have hdig : isDig x = true := hdig
     rw [isDig_iff] at hdig
     refine cnd_false.2 (mulI ⟨by omega,by omega⟩ (idS hx (subU ⟨by omega,by omega⟩ (cvI64 ⟨by omega,by omega⟩ (addI ⟨by omega,by omega⟩ (addI ⟨by omega,by omega⟩ ⟨i + 1,by dsimp only; omega,.inl ⟨rfl,by omega,ds,r0,rfl,?_,?_⟩⟩))))))
     ·show vint _ = vint _
      rw [htk,valB_snoc,Int.mul_comm 10]
     ·rw [htk,List.all_append,hall]
      simp [isDig_iff,hdig]
   refine idS hx (lssK (cndI (fun hlo => hold.2 ?_) fun hlo => idS hx (gtrK (hold.2 ?_))))
   ·exact out ds rfl r4 r0 r5 (by
     have : ¬ (48 ≤ x.toNat) := by omega
     simp [isDig,this])
   ·refine out ds rfl r4 r0 r5 ?_
    have h48 : 48 ≤ x.toNat := by omega
    simp only [isDig,decide_eq_true h48,Bool.true_and]
    rw [← decide_not]
    congr 1
    exact propext ⟨fun h => by omega,fun h => by omega⟩
  ·have hid : i = d.length := by omega
   subst hid
   rw [List.take_length] at hall hbd
   simp only [List.take_length]
   exact retL_same (by simp [unk]) (k1 hall)
theorem good58 (hJ : Closed prog main J) {d : List UInt8} (k1 : ∀ n,unsT d = some n → K (.tuple ⟨[vint n,.bool true]⟩) H) (k2 : unsT d = none → K (.tuple ⟨[vint 0,.bool false]⟩) H) (hs : d.length ≤ 2000) : Good prog J 58 [strV d] H K := by
 refine g58 hJ fun ok => ?_
 rw [e58]
 unfold unsT dig2 at k1 k2
 have k1 : ∀ pre,pre = (decide (1 ≤ d.length) && decide (d.length ≤ 2) && !(d.head? == some 48 && decide (1 < d.length))) → (pre && d.all isDig) = true → K (.tuple ⟨[vint (valB d),.bool true]⟩) H := fun pre e h => k1 _ (by rw [← e,if_pos h])
 have k2 : ∀ pre,pre = (decide (1 ≤ d.length) && decide (d.length ≤ 2) && !(d.head? == some 48 && decide (1 < d.length))) → (pre && d.all isDig) = false → K (.tuple ⟨[vint 0,.bool false]⟩) H := fun pre e h => k2 (by rw [← e,if_neg (by simp [h])])
 have go : ∀ {F : RG} (pre : Bool),F.ds = [] → F.r 0 = strV d → F.r 23 = .bool (!pre) → pre = (decide (1 ≤ d.length) && decide (d.length ≤ 2) && !(d.head? == some 48 && decide (1 < d.length))) → _ := fun {F} pre ds r0 r23 hp =>
  dgs_1 (n0 := H.length) (F := F) hJ ds r0 r23 (fun h => by
   rw [h] at hp
   have := hp.symm
   simp only [Bool.and_eq_true,decide_eq_true_eq] at this
   omega) (k1 pre hp) (k2 pre hp)
 refine lenStr (lssI (cndI (fun h => hold.2 ?_) fun h1 => lenStr (gtrI (cndI (fun h => hold.2 ?_) fun h3 => ?_))))
 ·exact go false rfl rfl rfl (by rw [decide_eq_false (by omega : ¬ 1 ≤ d.length)]; rfl)
 ·exact go false rfl rfl rfl (by rw [decide_eq_false (by omega : ¬ d.length ≤ 2),Bool.and_false]; rfl)
 ·cases d with
  | nil => exact absurd (by simp) h1
  | cons x r =>
   have e1 : decide (1 ≤ (x :: r).length) = true := decide_eq_true (by simp)
   have e3 : decide ((x :: r).length ≤ 2) = true := decide_eq_true (by omega)
   rw [e1,e3] at go
   simp only [Bool.true_and,List.head?_cons] at go
   refine idS (j := 0) (b := x) rfl (eqU48 (cndI (fun hx => ?_) fun hx => hold.2 ?_))
   ·subst hx
    refine lenStr (gtrI (hold.2 (go (!decide (1 < (48 :: r : List UInt8).length)) rfl rfl ?_ (by simp))))
    rw [Bool.not_not]
    show Value.bool _ = Value.bool _
    congr 1
    exact decide_eq_decide.2 ⟨fun h => by omega,fun h => by omega⟩
   ·exact go true rfl rfl rfl (by
     have : (some x == some (48 : UInt8)) = false := by simpa using hx
     rw [this]
     rfl)
theorem good58q (hJ : Closed prog main J) {d : List UInt8} (hs : d.length ≤ 2000) (k : ∀ n q,unsT d = (bif q then some n else none) → K (.tuple ⟨[vint n,.bool q]⟩) H) : Good prog J 58 [strV d] H K :=
 good58 hJ (fun n h => k n true h) (fun h => k 0 false h) hs
theorem good59q (hJ : Closed prog main J) (hs : s.length ≤ 2000) (k : ∀ n q,sgnT c s = (bif q then some n else none) → K (.tuple ⟨[vint n,.bool q]⟩) H) : Good prog J 59 [strV s,strV [c]] H K := by
 refine g59 hJ fun ok => ?_
 rw [e59]
 have bad : ∀ {F : RG},F.ds = [] → F.r 14 = .bool true → sgnT c s = none → W prog J 20 H.length 59 (subC [1,0,1] (codeOf f59)) F H (contX pl59 prog J 20 H.length 59 ct59 [1,0,1] (codeOf f59) [] (RetQ prog [.tmp 4,.tmp 5] H.length K)) := fun {F} ds r14 h => by
  rw [s59_1]
  simp only [ds,r14]
  exact cnd_true.2 (retL_same (by simp [unk]) (k 0 false h))
 refine lenStr (lssI (cndI (fun h => hold.2 ?_) fun h => ?_))
 ·refine bad rfl rfl ?_
  cases s with
  | nil => rfl
  | cons x r => exact absurd h (by simp; omega)
 ·cases s with
  | nil => exact absurd (by decide) h
  | cons x r =>
   refine slTo' (hi := 1) (by simp) ?_
   rw [show (x :: r : List UInt8).take 1 = [x] from rfl]
   refine neS (hold.2 ?_)
   have hx : sgnT c (x :: r) = if x = c then unsT r else none := rfl
   by_cases e : x = c
   ·rw [hx,if_pos e] at k
    suffices w : ∀ {F : RG},F.ds = [] → F.r 0 = strV (x :: r) → F.r 14 = .bool false → W prog J 20 H.length 59 (subC [1,0,1] (codeOf f59)) F H (contX pl59 prog J 20 H.length 59 ct59 [1,0,1] (codeOf f59) [] (RetQ prog [.tmp 4,.tmp 5] H.length K)) from w rfl rfl (by show Value.bool _ = _; simp [e])
    intro F ds r0 r14
    rw [s59_1]
    simp only [ds,r0,r14]
    refine cnd_false.2 (slFr' (lo := 1) (by simp) ?_)
    rw [show (x :: r : List UInt8).drop 1 = r from rfl]
    exact good58q hJ (by have : (x :: r).length = r.length + 1 := rfl; omega) fun n q hq => ext0 (ext1 (retL_same (by simp [unk]) (k n q hq)))
   ·exact bad rfl (by show Value.bool _ = _; simp [e]) (by rw [hx,if_neg e])
def lineWel (s : List UInt8) : Option Wel :=
 match partsB 32 s with
 | [w,a,b] => if w = wWell then welR a b else none
 | _ => none
def lineDro (s : List UInt8) : Option Dro :=
 match partsB 32 s with
 | [w,a,b] => if w = wFlock then droR a b else none
 | _ => none
theorem lineTr_ref {i : Nat} {t : Tro} : lineTr i s (t,false) = if i = 0 then (lineWel s).map fun w => ({ t with well := w },false) else match lineDro s with
  | some d => some ({ t with flocks := t.flocks ++ [d] },false)
  | none => if s = wTrough then some (t,true) else none := by
 have hT : s = wTrough → partsB 32 s = [wTrough] := fun h => by rw [h]; exact trough_part
 show wordT i (partsB 32 s) (t,false) = _
 unfold lineWel lineDro
 match hw : partsB 32 s with
 | [] => exact absurd hw (partsB_ne 32 s)
 | [w] =>
  have hs : s = w := by
   have := join_parts s hw
   simpa [joinR] using this
  subst hs
  show (if s = wTrough ∧ i ≠ 0 then some (t,true) else none) = _
  by_cases h : i = 0
  ·rw [if_neg (fun h' => h'.2 h),if_pos h]
   rfl
  ·rw [if_neg h]
   by_cases e : s = wTrough
   ·rw [if_pos ⟨e,h⟩]
    exact (if_pos e).symm
   ·rw [if_neg (fun h' => e h'.1)]
    exact (if_neg e).symm
 | [w,a,b] =>
  have hs : s ≠ wTrough := fun h => by
   have := hT h
   rw [hw] at this
   cases this
  show (if w = wWell then (if i = 0 then (welR a b).map fun w => ({ t with well := w },false) else none) else if w = wFlock then (if i = 0 then none else (droR a b).map fun d => ({ t with flocks := t.flocks ++ [d] },false)) else none) = if i = 0 then Option.map _ (if w = wWell then welR a b else none) else match (if w = wFlock then droR a b else none) with
   | some d => some ({ t with flocks := t.flocks ++ [d] },false)
   | none => if s = wTrough then some (t,true) else none
  rw [if_neg hs]
  by_cases h1 : w = wWell
  ·have h2 : ¬ w = wFlock := by rw [h1]; decide
   rw [if_pos h1,if_pos h1,if_neg h2]
  ·rw [if_neg h1,if_neg h1]
   by_cases h2 : w = wFlock
   ·rw [if_pos h2,if_pos h2]
    by_cases h : i = 0
    ·rw [if_pos h,if_pos h]
     rfl
    ·rw [if_neg h,if_neg h]
     cases droR a b <;> rfl
   ·rw [if_neg h2,if_neg h2]
    by_cases h : i = 0
    ·rw [if_pos h]
     rfl
    ·rw [if_neg h]
 | [w,a] =>
  have hs : s ≠ wTrough := fun h => by
   have := hT h
   rw [hw] at this
   cases this
  show none = if i = 0 then none else (if s = wTrough then some (t,true) else none)
  rw [if_neg hs]
  split <;> rfl
 | w :: a :: b :: x :: l =>
  have hs : s ≠ wTrough := fun h => by
   have := hT h
   rw [hw] at this
   cases this
  show none = if i = 0 then none else (if s = wTrough then some (t,true) else none)
  rw [if_neg hs]
  split <;> rfl
theorem resTw {cs : List Value} {p z : Nat} {rs : List ResultVar} {tw : TypeId} {q : Bool} (hrs : rs = [.cell 2 tw,.tmp 3]) (htk : tk prog tw = some (true,z)) (ds : F.ds = []) (r2 : F.r 2 = ptr p 0) (r3 : F.r 3 = .bool q) (cp : H[p]? = some (.cells cs true 0)) (hl : cs.length = z) (hn : kn cs = true) (hK : K (.tuple ⟨[.agg ⟨cs⟩,.bool q]⟩) H) : RetQ prog rs n0 K .ret F H := by
 subst hrs
 refine retQs ds (resW_cell (gg := true) (s := z) htk ?_)
 rw [r2]
 refine load_part (c := cs) cp (by simp [hl]) (by rw [List.drop_zero,← hl,List.take_length]) hn (resW_tmp (by rw [r3]; simp [unk]) ?_)
 rw [r3]
 exact resW_nil hK
end
section
variable {main : Bool} {J : JT} {H : List AObj} {K : Value → List AObj → Prop} {KV : Value → Prop} {F : RG} {n0 p2 : Nat} {s : List UInt8} {c : UInt8}
theorem endWl {x : Wel} {q : Bool} (ds : F.ds = []) (r2 : F.r 2 = ptr p2 0) (r3 : F.r 3 = .bool q) (cp : H[p2]? = some (.cells x.cells true 0)) (hK : K (.tuple ⟨[.agg ⟨x.cells⟩,.bool q]⟩) H) : RetQ prog [.cell 2 23,.tmp 3] n0 K .ret F H :=
 resTw (z := 3) rfl (by kernel_rfl) ds r2 r3 cp rfl rfl hK
theorem endDr {x : Dro} {q : Bool} (ds : F.ds = []) (r2 : F.r 2 = ptr p2 0) (r3 : F.r 3 = .bool q) (cp : H[p2]? = some (.cells x.cells true 0)) (hK : K (.tuple ⟨[.agg ⟨x.cells⟩,.bool q]⟩) H) : RetQ prog [.cell 2 64,.tmp 3] n0 K .ret F H :=
 resTw (z := 2) rfl (by kernel_rfl) ds r2 r3 cp rfl rfl hK
theorem wordL {v : Value} {w : List (List UInt8)} {j : Nat} {u : List UInt8} {K2 : Value → Value → Prop} (hs : Sli H v 1 w.length (w.map strV)) (hu : w[j]? = some u) (hk : ∀ p,K2 p (strV u)) : aIdx 1 v (vint (j : Nat)) fun p => aLoad false 1 p H (K2 p) := by
 have hj := (List.getElem?_eq_some_iff.1 hu).1
 exact idx_load (x := strV u) hs ⟨by omega,by omega⟩ (by rw [Int.toNat_natCast,List.getElem?_map,hu]; rfl) hk
def wel0 : Wel := ⟨0,0,0⟩
def dro0 : Dro := ⟨0,0⟩
theorem twl_4 {a b d : Int} {q1 q2 q3 : Bool} {ct : List Value} (ds : F.ds = []) (r2 : F.r 2 = ptr p2 0) (r6 : F.r 6 = vint a) (r7 : F.r 7 = .bool q1) (r8 : F.r 8 = vint b) (r9 : F.r 9 = .bool q2) (r10 : F.r 10 = vint d) (r11 : F.r 11 = .bool q3) (cp : H[p2]? = some (.cells ct true 0)) (hl : ct.length = 3)
  (hK : ∀ H',SameX [p2] H H' → K (.tuple ⟨[.agg ⟨(⟨a,b,d⟩ : Wel).cells⟩,.bool (q1 && (q2 && q3))]⟩) H') :
  W prog J 64 n0 34 (subC yp15 (codeOf f34)) F H (contX pl34 prog J 64 n0 34 ct34 yp15 (codeOf f34) [] (RetQ prog [.cell 2 23,.tmp 3] n0 K)) := by
 rw [s34_4]
 simp only [r2,r6,r7,r8,r9,r10,r11]
 refine fillO (l := [vint a]) rfl rfl rfl (Nat.le_of_ble_eq_true rfl) (fillO (l := [vint b]) rfl rfl rfl (Nat.le_of_ble_eq_true rfl) (fillO (l := [vint d]) rfl rfl rfl (Nat.le_of_ble_eq_true rfl) (fillI ?_)))
 have st : ∀ {HL : List AObj → Prop},(∀ H',SameX [p2] H H' → H'[p2]? = some (.cells (⟨a,b,d⟩ : Wel).cells true 0) → HL H') → aStore 3 (ptr p2 0) (.agg ⟨(⟨a,b,d⟩ : Wel).cells⟩) H HL := fun {HL} hk => qStA (c := (⟨a,b,d⟩ : Wel).cells) cp rfl hl rfl fun H' S c _ => hk H' S c
 cases q1 with
 | false => exact cnd_false.2 (st fun H' S c => endWl ds r2 rfl c (hK H' S))
 | true =>
  cases q2 with
  | false => exact cnd_true.2 (cnd_false.2 (st fun H' S c => endWl ds r2 rfl c (hK H' S)))
  | true => exact cnd_true.2 (cnd_true.2 (st fun H' S c => endWl ds r2 rfl c (hK H' S)))
theorem good34 (hJ : Closed prog main J) (hs : s.length ≤ 900) (k : ∀ x q H',SameX [] H H' → lineWel s = (bif q then some x else none) → K (.tuple ⟨[.agg ⟨Wel.cells x⟩,.bool q]⟩) H') : Good prog J 34 [strV s] H K := by
 refine g34 hJ fun ok => ?_
 rw [e34]
 refine qAl fun H1 p2 e1 S1 c1 l1 => good33 (c := 32) hJ hs fun wv H2 S2 slw => lenI slw ?_
 have c2 := S2.get c1 (by simp)
 have S02 := S1.trans S2
 have hwl : ∀ u ∈ partsB 32 s,u.length ≤ 900 := fun u hu => by
  have := partsB_len (c := 32) s u hu
  omega
 have bad : ∀ {F : RG},F.ds = [] → F.r 2 = ptr p2 0 → F.r 22 = .bool true → lineWel s = none → W prog J 64 H.length 34 (subC [1,1,0,1] (codeOf f34)) F H2 (contX pl34 prog J 64 H.length 34 ct34 [1,1,0,1] (codeOf f34) [] (RetQ prog [.cell 2 23,.tmp 3] H.length K)) := fun {F} ds r2 r22 hn => by
  rw [s34_1]
  simp only [r2,r22]
  exact cnd_true.2 (fillI (qStA (c := wel0.cells) c2 rfl rfl rfl fun H3 S3 c3 _ => endWl (x := wel0) (q := false) ds r2 rfl c3 (k _ false H3 (S02.thru S3 (by simp; omega)) hn)))
 match hw : partsB 32 s with
 | [w0,a,b] =>
  rw [hw] at slw hwl
  refine neqI (cndI (fun h => absurd rfl h) fun _ => wordL (j := 0) slw rfl fun _ => neS (hold.2 ?_))
  by_cases h0 : w0 = wWell
  ·have hE : lineWel s = welR a b := by
    unfold lineWel
    rw [hw]
    exact if_pos h0
   suffices w1 : ∀ {F : RG},F.ds = [] → F.r 2 = ptr p2 0 → F.r 4 = wv → F.r 22 = .bool false → W prog J 64 H.length 34 (subC [1,1,0,1] (codeOf f34)) F H2 (contX pl34 prog J 64 H.length 34 ct34 [1,1,0,1] (codeOf f34) [] (RetQ prog [.cell 2 23,.tmp 3] H.length K)) from w1 rfl rfl rfl (by show Value.bool (decide (w0 ≠ wWell)) = _; simp [h0])
   intro F ds r2 r4 r22
   rw [s34_1]
   simp only [r2,r4,r22]
   have hb : b.length ≤ 900 := hwl b (by simp)
   refine cnd_false.2 (wordL (j := 1) slw rfl fun _ => good33 (c := 47) hJ (hwl a (by simp)) fun pv H3 S3 slp => lenI slp ?_)
   have c3 := S3.get c2 (by simp)
   have S03 := S02.trans S3
   match hp : partsB 47 a with
   | [x,y] =>
    rw [hp] at slp
    have hpl : ∀ u ∈ partsB 47 a,u.length ≤ 900 := fun u hu => by
     have := partsB_len (c := 47) a u hu
     have := hwl a (by simp)
     omega
    rw [hp] at hpl
    refine neqI (cndI (fun h => absurd rfl h) fun _ => hold.2 ?_)
    suffices w2 : ∀ {F : RG},F.ds = [] → F.r 2 = ptr p2 0 → F.r 4 = wv → F.r 5 = pv → W prog J 64 H.length 34 (subC yp7 (codeOf f34)) F H3 (contX pl34 prog J 64 H.length 34 ct34 yp7 (codeOf f34) [] (RetQ prog [.cell 2 23,.tmp 3] H.length K)) from w2 ds r2 r4 rfl
    intro F ds r2 r4 r5
    rw [s34_2]
    simp only [r5]
    refine wordL (j := 0) slp rfl fun _ => good58q hJ (by have := hpl x (by simp); omega) fun n q1 h1 => ext0 (ext1 ?_)
    refine wordL (j := 1) slp rfl fun _ => good58q hJ (by have := hpl y (by simp); omega) fun m q2 h2 => ext0 (ext1 (hold.2 ?_))
    suffices w3 : ∀ {F : RG},F.ds = [] → F.r 2 = ptr p2 0 → F.r 4 = wv → F.r 6 = vint n → F.r 7 = .bool q1 → F.r 8 = vint m → F.r 9 = .bool q2 → W prog J 64 H.length 34 (subC yp14 (codeOf f34)) F H3 (contX pl34 prog J 64 H.length 34 ct34 yp14 (codeOf f34) [] (RetQ prog [.cell 2 23,.tmp 3] H.length K)) from w3 ds r2 r4 rfl rfl rfl rfl
    intro F ds r2 r4 r6 r7 r8 r9
    rw [s34_3]
    simp only [r4]
    refine wordL (j := 2) (S3.sli slw (by simp)) rfl fun _ => good59q (c := 43) hJ (by omega) fun f q3 h3 => ext0 (ext1 (hold.2 ?_))
    refine twl_4 ds r2 r6 r7 r8 r9 rfl rfl c3 rfl fun H4 S4 => k _ _ H4 (S03.thru S4 (by simp; omega)) ?_
    rw [hE]
    unfold welR
    rw [hp]
    show ((unsT x).bind fun n => (unsT y).bind fun h => (sgnT 43 b).map fun f => (⟨n,h,f⟩ : Wel)) = _
    rw [h1,h2,h3]
    cases q1 <;> cases q2 <;> cases q3 <;> rfl
   | [] => exact absurd hp (partsB_ne 47 a)
   | [x] =>
    rw [hp] at slp
    refine neqI (cndI (fun _ => fillI (qStA (c := wel0.cells) c3 rfl rfl rfl fun H4 S4 c4 _ => endWl (x := wel0) (q := false) ds r2 rfl c4 (k _ false H4 (S03.thru S4 (by simp; omega)) ?_))) fun h => absurd (by simp) h)
    rw [hE]
    unfold welR
    rw [hp]
    rfl
   | x :: y :: z :: l =>
    rw [hp] at slp
    refine neqI (cndI (fun _ => fillI (qStA (c := wel0.cells) c3 rfl rfl rfl fun H4 S4 c4 _ => endWl (x := wel0) (q := false) ds r2 rfl c4 (k _ false H4 (S03.thru S4 (by simp; omega)) ?_))) fun h => absurd (by simp; omega) h)
    rw [hE]
    unfold welR
    rw [hp]
    rfl
  ·refine bad rfl rfl (by show Value.bool (decide (w0 ≠ wWell)) = _; simp [h0]) ?_
   unfold lineWel
   rw [hw]
   exact if_neg h0
 | [] => exact absurd hw (partsB_ne 32 s)
 | [w0] =>
  refine neqI (cndI (fun _ => hold.2 (bad rfl rfl rfl ?_)) fun h => absurd (by simp) h)
  unfold lineWel
  rw [hw]
 | [w0,a] =>
  refine neqI (cndI (fun _ => hold.2 (bad rfl rfl rfl ?_)) fun h => absurd (by simp) h)
  unfold lineWel
  rw [hw]
 | w0 :: a :: b :: x :: l =>
  refine neqI (cndI (fun _ => hold.2 (bad rfl rfl rfl ?_)) fun h => absurd (by simp; omega) h)
  unfold lineWel
  rw [hw]
theorem good35 (hJ : Closed prog main J) (hs : s.length ≤ 900) (k : ∀ x q H',SameX [] H H' → lineDro s = (bif q then some x else none) → K (.tuple ⟨[.agg ⟨Dro.cells x⟩,.bool q]⟩) H') : Good prog J 35 [strV s] H K := by
 refine g35 hJ fun ok => ?_
 rw [e35]
 refine qAl fun H1 p2 e1 S1 c1 l1 => good33 (c := 32) hJ hs fun wv H2 S2 slw => lenI slw ?_
 have c2 := S2.get c1 (by simp)
 have S02 := S1.trans S2
 have hwl : ∀ u ∈ partsB 32 s,u.length ≤ 900 := fun u hu => by
  have := partsB_len (c := 32) s u hu
  omega
 have bad : ∀ {F : RG},F.ds = [] → F.r 2 = ptr p2 0 → F.r 19 = .bool true → lineDro s = none → W prog J 42 H.length 35 (subC [1,1,0,1] (codeOf f35)) F H2 (contX pl35 prog J 42 H.length 35 ct35 [1,1,0,1] (codeOf f35) [] (RetQ prog [.cell 2 64,.tmp 3] H.length K)) := fun {F} ds r2 r19 hn => by
  rw [s35_1]
  simp only [r2,r19]
  exact cnd_true.2 (fillI (qStA (c := dro0.cells) c2 rfl rfl rfl fun H3 S3 c3 _ => endDr (x := dro0) (q := false) ds r2 rfl c3 (k _ false H3 (S02.thru S3 (by simp; omega)) hn)))
 match hw : partsB 32 s with
 | [w0,a,b] =>
  rw [hw] at slw hwl
  refine neqI (cndI (fun h => absurd rfl h) fun _ => wordL (j := 0) slw rfl fun _ => neS (hold.2 ?_))
  by_cases h0 : w0 = wFlock
  ·have hE : lineDro s = droR a b := by
    unfold lineDro
    rw [hw]
    exact if_pos h0
   suffices w1 : ∀ {F : RG},F.ds = [] → F.r 2 = ptr p2 0 → F.r 4 = wv → F.r 19 = .bool false → W prog J 42 H.length 35 (subC [1,1,0,1] (codeOf f35)) F H2 (contX pl35 prog J 42 H.length 35 ct35 [1,1,0,1] (codeOf f35) [] (RetQ prog [.cell 2 64,.tmp 3] H.length K)) from w1 rfl rfl rfl (by show Value.bool (decide (w0 ≠ wFlock)) = _; simp [h0])
   intro F ds r2 r4 r19
   rw [s35_1]
   simp only [r2,r4,r19]
   refine cnd_false.2 (wordL (j := 1) slw rfl fun _ => good59q (c := 45) hJ (by have := hwl a (by simp); omega) fun n q1 h1 => ext0 (ext1 ?_))
   refine wordL (j := 2) slw rfl fun _ => good59q (c := 64) hJ (by have := hwl b (by simp); omega) fun m q2 h2 => ext0 (ext1 ?_)
   refine fillO (l := [vint n]) rfl rfl rfl (Nat.le_of_ble_eq_true rfl) (fillO (l := [vint m]) rfl rfl rfl (Nat.le_of_ble_eq_true rfl) (fillI ?_))
   have st : ∀ {HL : List AObj → Prop},(∀ H',SameX [p2] H2 H' → H'[p2]? = some (.cells (⟨n,m⟩ : Dro).cells true 0) → HL H') → aStore 2 (ptr p2 0) (.agg ⟨(⟨n,m⟩ : Dro).cells⟩) H2 HL := fun {HL} hk => qStA (c := (⟨n,m⟩ : Dro).cells) c2 rfl rfl rfl fun H' S c _ => hk H' S c
   have fin : ∀ {q : Bool} {H' : List AObj},q = (q1 && q2) → SameX [p2] H2 H' → K (.tuple ⟨[.agg ⟨(⟨n,m⟩ : Dro).cells⟩,.bool q]⟩) H' := fun {q H'} hq S => k _ _ H' (S02.thru S (by simp; omega)) (by
    rw [hE]
    unfold droR
    rw [h1,h2,hq]
    cases q1 <;> cases q2 <;> rfl)
   cases q1 with
   | false => exact cnd_false.2 (st fun H' S c => endDr (q := false) ds r2 rfl c (fin rfl S))
   | true => exact cnd_true.2 (st fun H' S c => endDr (q := q2) ds r2 rfl c (fin rfl S))
  ·refine bad rfl rfl (by show Value.bool (decide (w0 ≠ wFlock)) = _; simp [h0]) ?_
   unfold lineDro
   rw [hw]
   exact if_neg h0
 | [] => exact absurd hw (partsB_ne 32 s)
 | [w0] =>
  refine neqI (cndI (fun _ => hold.2 (bad rfl rfl rfl ?_)) fun h => absurd (by simp) h)
  unfold lineDro
  rw [hw]
 | [w0,a] =>
  refine neqI (cndI (fun _ => hold.2 (bad rfl rfl rfl ?_)) fun h => absurd (by simp) h)
  unfold lineDro
  rw [hw]
 | w0 :: a :: b :: x :: l =>
  refine neqI (cndI (fun _ => hold.2 (bad rfl rfl rfl ?_)) fun h => absurd (by simp; omega) h)
  unfold lineDro
  rw [hw]
end
section
variable {main : Bool} {J : JT} {H G : List AObj} {K : Value → List AObj → Prop} {KV : Value → Prop} {HL : List AObj → Prop} {F : RG} {n0 p2 p6 i : Nat} {s u : List UInt8} {c : UInt8} {nx : RG → List AObj → Prop}
theorem qStT {b o n : Nat} {cs c : List Value} {sz : Nat} (hb : H[b]? = some (.cells cs true sz)) (hl : c.length = n) (ho : o + n ≤ cs.length) (h1 : c.all one = true) (hk : ∀ H',SameX [b] H H' → H'[b]? = some (.cells (wrAt cs o c) true sz) → H'.length = H.length → HL H') : aStore n (ptr b o) (.agg ⟨c⟩) H HL := by
 unfold aStore ptr
 simp only
 rw [hb]
 exact ⟨hl,h1,ho,hk _ (SameX.refl.set (.inl (by simp))) (List.getElem?_set_self (lt_of_get hb)) (by simp)⟩
theorem endTr {t : Tro} {fv : Value} {a e : Int} (ds : F.ds = []) (r2 : F.r 2 = ptr p2 0) (r3 : F.r 3 = vint a) (r4 : F.r 4 = vint e) (c2 : H[p2]? = some (.cells (troCells t fv) true 0)) (fk : kn1 fv = true) (hK : K (.tuple ⟨[.agg ⟨troCells t fv⟩,vint a,vint e]⟩) H) : RetQ prog [.cell 2 26,.tmp 3,.tmp 4] n0 K .ret F H := by
 refine retQs ds (resW_cell (gg := true) (s := 4) (by kernel_rfl) ?_)
 rw [r2]
 refine load_part (c := troCells t fv) c2 (by simp [troCells]) rfl (by unfold troCells kn; simp only [List.all_cons,fk]; rfl) (resW_tmp (by rw [r3]; simp [unk]) (resW_tmp (by rw [r4]; simp [unk]) ?_))
 rw [r3,r4]
 exact resW_nil hK
theorem endBad {ct : List Value} {a e : Int} (ds : F.ds = []) (r2 : F.r 2 = ptr p2 0) (c2 : H[p2]? = some (.cells ct true 0)) (hl : ct.length = 4) (r3 : F.r 3 = vint a) (r4 : F.r 4 = vint e) (hK : ∀ H',SameX [p2] H H' → K (.tuple ⟨[.agg ⟨troCells tro0 (.slice none 0 0)⟩,vint a,vint e]⟩) H') :
  aStore 4 (ptr p2 0) (.agg ⟨[vint 0,vint 0,vint 0,.slice none 0 0]⟩) H fun h' => RetQ prog [.cell 2 26,.tmp 3,.tmp 4] n0 K .ret F h' :=
 qStA (c := troCells tro0 (.slice none 0 0)) c2 rfl hl rfl fun H' S c _ => endTr (t := tro0) ds r2 r3 r4 c rfl (hK H' S)
theorem rdr_5 {q : Bool} {ct : List Value} (hi : i < 1000) (ds : F.ds = []) (r2 : F.r 2 = ptr p2 0) (r8 : F.r 8 = vint (i : Nat)) (r70 : F.r 70 = .bool q) (c2 : G[p2]? = some (.cells ct true 0)) (hl : ct.length = 4)
  (k1 : q = true → ∀ F' : RG,F'.ds = F.ds → F'.r 2 = F.r 2 → F'.r 5 = F.r 5 → F'.r 6 = F.r 6 → F'.r 7 = .bool true → F'.r 8 = vint (i + 1 : Nat) → nx F' G)
  (k2 : q = false → ∀ G',SameX [p2] G G' → K (.tuple ⟨[.agg ⟨troCells tro0 (.slice none 0 0)⟩,vint (i + 1 : Nat),vint 2]⟩) G') :
  W prog J 105 n0 13 (subC yp11 (codeOf f13)) F G (contX pl13 prog J 105 n0 13 ct13 yp11 (codeOf f13) [nx] (RetQ prog [.cell 2 26,.tmp 3,.tmp 4] n0 K)) := by
 rw [s13_5]
 simp only [r2,r8,r70]
 cases q with
 | true => exact cnd_true.2 (addI (by omega) (k1 rfl _ rfl rfl rfl rfl rfl rfl))
 | false => exact cnd_false.2 (fillI (addI (by omega) (endBad ds r2 c2 hl rfl rfl (k2 rfl))))
theorem rdr_4 (hJ : Closed prog main J) {q en : Bool} {ct : List Value} {lv fv : Value} {L : List (List UInt8)} {p11 : Nat} {t : Tro} {d : Dro} {o : Option Nat} (hi : i < 1000) (ds : F.ds = []) (r2 : F.r 2 = ptr p2 0) (r5 : F.r 5 = lv) (r6 : F.r 6 = ptr p6 0) (r7 : F.r 7 = .bool en) (r8 : F.r 8 = vint (i : Nat)) (r11 : F.r 11 = ptr p11 0) (r54 : F.r 54 = .bool q) (c2 : G[p2]? = some (.cells ct true 0)) (hl : ct.length = 4)
  (sl : Sli G lv 1 L.length (L.map strV)) (hu : L[i]? = some u) (c6 : G[p6]? = some (.cells (troCells t fv) true 0)) (c11 : G[p11]? = some (.cells d.cells true 0)) (O : OwnX G 2 (t.flocks.flatMap Dro.cells) t.flocks.length fv o) (hO : ∀ k,o = some k → k ≠ p6) (hf : t.flocks.length ≤ i)
  (k0 : q = true → ∀ (F' : RG) (fv' : Value) (p : Nat) G',F'.ds = F.ds → F'.r 2 = F.r 2 → F'.r 5 = F.r 5 → F'.r 6 = F.r 6 → F'.r 7 = F.r 7 → F'.r 8 = vint (i + 1 : Nat) → SameX (p6 :: o.toList) G G' → G'[p6]? = some (.cells (troCells { t with flocks := t.flocks ++ [d] } fv') true 0) → OwnX G' 2 ((t.flocks ++ [d]).flatMap Dro.cells) (t.flocks ++ [d]).length fv' (some p) → G.length ≤ p → nx F' G')
  (k1 : q = false → 0 < i → en = false → u = wTrough → ∀ F' : RG,F'.ds = F.ds → F'.r 2 = F.r 2 → F'.r 5 = F.r 5 → F'.r 6 = F.r 6 → F'.r 7 = .bool true → F'.r 8 = vint (i + 1 : Nat) → nx F' G)
  (k2 : q = false → ¬ (0 < i ∧ en = false ∧ u = wTrough) → ∀ G',SameX [p2] G G' → K (.tuple ⟨[.agg ⟨troCells tro0 (.slice none 0 0)⟩,vint (i + 1 : Nat),vint 2]⟩) G') :
  W prog J 105 n0 13 (subC yp8 (codeOf f13)) F G (contX pl13 prog J 105 n0 13 ct13 yp8 (codeOf f13) [nx] (RetQ prog [.cell 2 26,.tmp 3,.tmp 4] n0 K)) := by
 rw [s13_4]
 simp only [r5,r6,r7,r8,r11,r54]
 have l6 := lt_of_get c6
 have l11 := lt_of_get c11
 cases q with
 | true =>
  have fk : kn1 fv = true := (ownX_val O).2.2
  have hol : ∀ y ∈ o.toList,y ≠ p6 ∧ y < G.length := fun y hy => ⟨hO y (by simpa using hy),ownX_lt O y (by simpa using hy)⟩
  refine cnd_true.2 (offI (ldI (v := fv) c6 rfl fk (load_part (c := d.cells) c11 (by simp [Dro.cells]) rfl rfl ⟨⟨by decide,by decide,rfl⟩,?_⟩)))
  refine fillO (l := d.cells) rfl rfl rfl (Nat.le_of_ble_eq_true rfl) (fillI (qNew fun H5 p9 e9 S5 c9 l9 => ⟨⟨rfl,by decide,by decide,by decide⟩,?_⟩))
  have c9 : H5[p9]? = some (.cells d.cells true 0) := c9
  have O5 := ownX_keep O S5 (by simp)
  refine ownX_more O5 (by decide) (by omega) (ownX_sli (ownX_new (s := 2) (n := 1) c9 rfl rfl)) fun fv' H6 p7 e7 O6 S6 => offI ?_
  have hH5 := S5.1
  have hp7 : p7 ≠ p6 := by omega
  have v6 := ownX_val O6
  have g6 := S6.get (S5.get c6 (by simp)) (fun hm => (hol p6 hm).1 rfl)
  refine qSt g6 (Nat.le_of_ble_eq_true rfl) v6.1 v6.2.1 fun H7 S7 c7 _ => addI (by omega) ?_
  have S56 : SameX o.toList G H6 := S5.weak0.thru S6 (fun y hy => .inl hy)
  exact k0 rfl _ fv' p7 H7 rfl rfl rfl rfl rfl rfl ((S56.weak (Y := p6 :: o.toList) (fun y hy => by simp [hy])).thru S7 (fun y hy => .inl (by simpa using Or.inl (by simpa using hy)))) c7 (by simpa using ownX_keep O6 S7 (fun j hj => by cases hj; simpa using hp7)) (by omega)
 | false =>
  refine cnd_false.2 (gtrI (cndI (fun h1 => notI ?_) fun h1 => hold.2 ?_))
  ·have hpos : 0 < i := by omega
   cases en with
   | false =>
    refine cnd_true.2 (wordL (j := i) sl hu fun _ => eqS (hold.2 ?_))
    exact rdr_5 hi ds r2 r8 rfl c2 hl (fun hq F' x xx x5 x6 x7 x8 => k1 rfl hpos rfl (of_decide_eq_true hq) F' x xx x5 x6 x7 x8) fun hq => k2 rfl fun hh => of_decide_eq_false hq hh.2.2
   | true => exact cnd_false.2 (hold.2 (rdr_5 (q := false) hi ds r2 r8 rfl c2 hl (fun hq => by cases hq) fun _ => k2 rfl fun hh => by cases hh.2.1))
  ·exact rdr_5 (q := false) hi ds r2 r8 rfl c2 hl (fun hq => by cases hq) fun _ => k2 rfl fun hh => by omega
theorem wrWel {t : Tro} {w : Wel} {fv : Value} : wrAt (troCells t fv) 0 w.cells = troCells { t with well := w } fv := by
 simp [wrAt,troCells,Wel.cells]
def RdX (s : List UInt8) (H8 : List AObj) (p2 p6 : Nat) (lv : Value) (x : Nat × Tro × Bool) (F : RG) (G : List AObj) : Prop :=
 F.ds = [] ∧ F.r 2 = ptr p2 0 ∧ F.r 5 = lv ∧ F.r 6 = ptr p6 0 ∧ F.r 7 = .bool x.2.2 ∧ F.r 8 = vint (x.1 : Nat) ∧ x.1 ≤ (partsB 10 s).length - 1 ∧ SameX [] H8 G ∧
  (∃ fv o,G[p6]? = some (.cells (troCells x.2.1 fv) true 0) ∧ OwnX G 2 (x.2.1.flocks.flatMap Dro.cells) x.2.1.flocks.length fv o ∧ ∀ k,o = some k → k ≠ p6 ∧ H8.length ≤ k) ∧ x.2.1.flocks.length ≤ x.1 ∧ (x.2.2 = true → 0 < x.1) ∧ linesTr 0 (partsB 10 s).dropLast (tro0,false) = linesTr x.1 ((partsB 10 s).dropLast.drop x.1) x.2
set_option maxHeartbeats 1000000 in
theorem good13 (hJ : Closed prog main J) (hK : ∀ H' fv,SameX [] H H' → TroAt H' (.agg ⟨troCells (readWT s) fv⟩) (readWT s) fv → K (.tuple ⟨[.agg ⟨troCells (readWT s) fv⟩,vint (readWE s).1,vint (readWE s).2]⟩) H') : Good prog J 13 [strV s] H K := by
 refine g13 hJ fun ok => ?_
 rw [e13]
 have bad : ∀ {a e : Int} {H' : List AObj},readWE s = (a,e) → e ≠ 0 → SameX [] H H' → K (.tuple ⟨[.agg ⟨troCells tro0 (.slice none 0 0)⟩,vint a,vint e]⟩) H' := fun {a e H'} h1 h2 S => by
  have hT : readWT s = tro0 := if_neg (by rw [h1]; exact h2)
  have := hK H' (.slice none 0 0) S (by rw [hT]; exact ⟨rfl,ownX_sli ownX_nil⟩)
  rw [hT,h1] at this
  exact this
 refine qAl fun H1 p2 e1 S1 c1 l1 => lenStr (s := s) (gtrI (cndI (fun hlong => ?_) fun hshort => ?_))
 ·exact fillI (endBad rfl rfl c1 rfl rfl rfl fun H' S => bad (show readWE s = (0,10) from if_pos (by omega)) (by decide) (S1.thru S (by simp; omega)))
 have hs80 : s.length ≤ 80 := by omega
 have hE : readWE s = match readTr s with
  | .inl i => ((i : Nat),2)
  | .inr t => (0,troE t) := if_neg (by omega)
 have hpl : (partsB 10 s).length ≤ s.length + 1 := by
  rw [partsB_count]
  have : s.count 10 ≤ s.length := List.count_le_length
  omega
 have hpn : 0 < (partsB 10 s).length := List.length_pos_iff.2 (partsB_ne 10 s)
 refine good33 (c := 10) hJ (by omega) fun lv H8 S8 slv => qAl fun H10 p6 e6 S10 c10 l10 => ?_
 have c8 := S8.get c1 (by simp)
 have S08 : SameX [] H H8 := S1.trans S8
 have l8 := lt_of_get c8
 refine l13_1 hJ (S := Nat × Tro × Bool) (fun x => (partsB 10 s).length - x.1) (RdX s H8 p2 p6 lv) ?_ (s := (0,tro0,false))
  (.inl ⟨rfl,rfl,rfl,rfl,rfl,rfl,Nat.zero_le _,S10,⟨_,none,c10,ownX_nil,fun k e => by cases e⟩,Nat.le_refl _,(fun h => by cases h),rfl⟩)
 rintro ⟨i,t,en⟩ F G ⟨ds,r2,r5,r6,r7,r8,hi,S,⟨fv,o,cg,O,hO⟩,hfl,hen,hlin⟩ ok' hn'
 simp only at r7 r8 hi cg O hfl hen hlin
 rw [s13_1]
 simp only [r5,r7,r8]
 have slG := S.sli slv (by simp)
 have S0G : SameX [] H G := S08.trans S
 have cG := S.get c8 (by simp)
 have hHG := S.1
 refine lenI slG (subI (by omega) (lssI (cndI (fun hlt => ?_) fun hge => ?_)))
 ·have hil : i < (partsB 10 s).length - 1 := by omega
  obtain ⟨u,hu⟩ : ∃ u,(partsB 10 s)[i]? = some u := ⟨_,List.getElem?_eq_getElem (by omega)⟩
  have hud : (partsB 10 s).dropLast[i]? = some u := by rw [List.dropLast_eq_take,List.getElem?_take,if_pos (by omega),hu]
  have hul : u.length ≤ 80 := by
   have := partsB_len (c := 10) s u (List.mem_of_getElem? hu)
   omega
  have hnx : linesTr 0 (partsB 10 s).dropLast (tro0,false) = match lineTr i u (t,en) with
    | some y => linesTr (i + 1) ((partsB 10 s).dropLast.drop (i + 1)) y
    | none => .inl (i + 1) := by
   rw [hlin]
   obtain ⟨hi',rfl⟩ := List.getElem?_eq_some_iff.1 hud
   rw [List.drop_eq_getElem_cons hi']
   rfl
  refine wordL (j := i) slG hu fun _ => good34 hJ (by omega) fun w q1 G1 T1 hw => ext0 (ext1 ?_)
  refine qAl fun G2 p9 e9 T2 d2 m2 => qStA (c := w.cells) d2 rfl rfl rfl fun G3 T3 d3 m3 => ?_
  have T03 : SameX [] G G3 := (T1.trans T2).thru T3 (by have := T1.1; simp; omega)
  refine wordL (j := i) (T03.sli slG (by simp)) hu fun _ => good35 hJ (by omega) fun d q2 G4 T4 hd => ext0 (ext1 ?_)
  refine qAl fun G5 p11 e11 T5 d5 m5 => qStA (c := d.cells) d5 rfl rfl rfl fun G6 T6 d6 m6 => ?_
  have hT3 := T03.1
  have hT4 := T4.1
  have T36 : SameX [] G3 G6 := (T4.trans T5).thru T6 (by simp; omega)
  have T06 : SameX [] G G6 := T03.trans T36
  have d9 := T36.get d3 (by simp)
  have hp6 := lt_of_get cg
  have cg6 := T06.get cg (by simp)
  have c26 := T06.get cG (by simp)
  have O6 := ownX_keep O T06 (by simp)
  have slG6 := T06.sli slG (by simp)
  have S06 : SameX [] H G6 := S0G.trans T06
  have S86 : SameX [] H8 G6 := S.trans T06
  have hq9 := lt_of_get d9
  have hq11 := lt_of_get d6
  have hp26 : p2 ≠ p6 := by omega
  have hol : ∀ y ∈ o.toList,y ≠ p6 ∧ H8.length ≤ y ∧ y < G.length := fun y hy => ⟨(hO y (by simpa using hy)).1,(hO y (by simpa using hy)).2,ownX_lt O y (by simpa using hy)⟩
  have hH10 := l10
  -- a line that is not as said
  have lbad : ∀ {G' : List AObj},lineTr i u (t,en) = none → SameX [p2] G6 G' → K (.tuple ⟨[.agg ⟨troCells tro0 (.slice none 0 0)⟩,vint (i + 1 : Nat),vint 2]⟩) G' := fun {G'} hl T => by
   rw [hl] at hnx
   have hr : readTr s = .inl (i + 1) := by
    unfold readTr
    rw [hnx]
   exact bad (by rw [hE,hr]) (by decide) (S06.thru T (by simp; omega))
  -- the next line
  have lnext : ∀ {F' : RG} {G' : List AObj} {t' : Tro} {en' : Bool} {fv' : Value} {o' : Option Nat},F'.ds = [] → F'.r 2 = ptr p2 0 → F'.r 5 = lv → F'.r 6 = ptr p6 0 → F'.r 7 = .bool en' → F'.r 8 = vint (i + 1 : Nat) → SameX [] H8 G' → G'[p6]? = some (.cells (troCells t' fv') true 0) → OwnX G' 2 (t'.flocks.flatMap Dro.cells) t'.flocks.length fv' o' → (∀ k,o' = some k → k ≠ p6 ∧ H8.length ≤ k) → t'.flocks.length ≤ i + 1 → lineTr i u (t,en) = some (t',en') →
    Nx H.length (fun x : Nat × Tro × Bool => (partsB 10 s).length - x.1) (RdX s H8 p2 p6 lv) (i,t,en) F' G' := fun {F' G' t' en' fv' o'} x x2 x5 x6 x7 x8 SS cc OO hOO hff hl => by
   rw [hl] at hnx
   exact ⟨(i + 1,t',en'),by dsimp only; omega,.inl ⟨x,x2,x5,x6,x7,x8,(by show i + 1 ≤ _; omega),SS,⟨fv',o',cc,OO,hOO⟩,hff,(fun _ => by show 0 < i + 1; omega),hnx⟩⟩
  -- behind the two questions
  suffices w2 : ∀ {F' : RG} {q : Bool},F'.ds = [] → F'.r 2 = ptr p2 0 → F'.r 5 = lv → F'.r 6 = ptr p6 0 → F'.r 7 = .bool en → F'.r 8 = vint (i : Nat) → F'.r 9 = ptr p9 0 → F'.r 11 = ptr p11 0 → F'.r 12 = .bool q2 → F'.r 46 = .bool q → q = (decide (i = 0) && q1) →
    W prog J 105 H.length 13 (subC yp17 (codeOf f13)) F' G6 (contX pl13 prog J 105 H.length 13 ct13 yp17 (codeOf f13) [Nx H.length (fun x : Nat × Tro × Bool => (partsB 10 s).length - x.1) (RdX s H8 p2 p6 lv) (i,t,en)] (RetQ prog [.cell 2 26,.tmp 3,.tmp 4] H.length K)) by
   refine eqlI (cndI (fun h0 => hold.2 ?_) fun h0 => hold.2 ?_)
   ·exact w2 (q := q1) ds r2 r5 r6 r7 r8 rfl rfl rfl rfl (by rw [decide_eq_true (by omega : i = 0)]; rfl)
   ·exact w2 (q := false) ds r2 r5 r6 r7 r8 rfl rfl rfl rfl (by rw [decide_eq_false (by omega : ¬ i = 0)]; rfl)
  intro F' q ds r2 r5 r6 r7 r8 r9 r11 r12 r46 hq
  rw [s13_2]
  simp only [r6,r7,r8,r9,r46]
  have ref : en = false → lineTr i u (t,en) = if i = 0 then (lineWel u).map fun w => ({ t with well := w },false) else match lineDro u with
    | some d => some ({ t with flocks := t.flocks ++ [d] },false)
    | none => if u = wTrough then some (t,true) else none := fun h => by
   rw [h]
   exact lineTr_ref
  have aft : ∀ {F' : RG} {q : Bool},F'.ds = [] → F'.r 2 = ptr p2 0 → F'.r 5 = lv → F'.r 6 = ptr p6 0 → F'.r 7 = .bool en → F'.r 8 = vint (i : Nat) → F'.r 11 = ptr p11 0 → F'.r 54 = .bool q → (q = true → 0 < i ∧ en = false ∧ q2 = true) → (q = false → 0 < i → en = false → q2 = false) → (i = 0 → q1 = false) →
    W prog J 105 H.length 13 (subC yp8 (codeOf f13)) F' G6 (contX pl13 prog J 105 H.length 13 ct13 yp8 (codeOf f13) [Nx H.length (fun x : Nat × Tro × Bool => (partsB 10 s).length - x.1) (RdX s H8 p2 p6 lv) (i,t,en)] (RetQ prog [.cell 2 26,.tmp 3,.tmp 4] H.length K)) :=
   fun {F' q} ds r2 r5 r6 r7 r8 r11 r54 hq1 hq2 hq3 => rdr_4 hJ (L := partsB 10 s) (u := u) (t := t) (d := d) (o := o) (by omega) ds r2 r5 r6 r7 r8 r11 r54 c26 rfl slG6 hu cg6 d6 O6 (fun k hk => (hO k hk).1) hfl
    (fun h F2 fv' p G' x x2 x5 x6 x7 x8 TT cc OO hp => by
     obtain ⟨h1,h2,h3⟩ := hq1 h
     rw [h3] at hd
     refine lnext (t' := { t with flocks := t.flocks ++ [d] }) (en' := false) (x.trans ds) (x2.trans r2) (x5.trans r5) (x6.trans r6) (x7.trans (r7.trans (by rw [h2]))) x8 (S86.thru TT fun y hy => ?_) cc OO (fun k hk => by cases hk; omega) (by simp; omega) ?_
     ·rcases List.mem_cons.1 hy with rfl | hy
      ·exact .inr (by omega)
      ·exact .inr (hol y hy).2.1
     ·rw [ref h2,if_neg (by omega),hd]
      rfl)
    (fun h hpos h2 hw' F2 x x2 x5 x6 x7 x8 => by
     rw [hq2 h hpos h2] at hd
     refine lnext (t' := t) (en' := true) (x.trans ds) (x2.trans r2) (x5.trans r5) (x6.trans r6) x7 x8 S86 cg6 O6 hO (by omega) ?_
     rw [ref h2,if_neg (by omega),hd]
     exact if_pos hw')
    (fun h hno G' TT => by
     refine lbad ?_ TT
     by_cases h2 : en = false
     ·rw [ref h2]
      by_cases h0 : i = 0
      ·rw [hq3 h0] at hw
       rw [if_pos h0,hw]
       rfl
      ·have hpos : 0 < i := by omega
       rw [hq2 h hpos h2] at hd
       rw [if_neg h0,hd]
       exact if_neg fun h3 => hno ⟨hpos,h2,h3⟩
     ·have h2 : en = true := by simpa using h2
      rw [h2]
      rfl)
  cases q with
  | true =>
   have h1 : decide (i = 0) = true ∧ q1 = true := by
    cases hd : decide (i = 0) <;> cases q1 <;> rw [hd] at hq <;> first | exact ⟨rfl,rfl⟩ | cases hq
   have h0 : i = 0 := of_decide_eq_true h1.1
   have h2 : en = false := by
    cases en with
    | false => rfl
    | true => have := hen rfl; omega
   rw [h1.2] at hw
   refine cnd_true.2 (load_part (c := w.cells) d9 (by simp [Wel.cells]) rfl rfl (offI (qStT (c := w.cells) cg6 rfl (by simp [troCells]) rfl fun G7 T7 d7 m7 => addI (by omega) ?_)))
   rw [show (0 : Nat) + 0 = 0 from rfl,wrWel] at d7
   refine lnext (t' := { t with well := w }) (en' := false) ds r2 r5 r6 (r7.trans (by rw [h2])) rfl (S86.thru T7 (by simp; omega)) d7 (ownX_keep O6 T7 fun k hk => by have := (hO k hk).1; simpa using this) hO (by show t.flocks.length ≤ _; omega) ?_
   rw [ref h2,if_pos h0,hw]
   rfl
  | false =>
   have h3 : i = 0 → q1 = false := fun h0 => by
    rw [decide_eq_true h0,Bool.true_and] at hq
    exact hq.symm
   refine cnd_false.2 (gtrI (cndI (fun hpos => notI ?_) fun hnp => hold.2 ?_))
   ·have hpos : 0 < i := by omega
    cases hen2 : en with
    | false => exact cnd_true.2 (hold.2 (aft (q := q2) ds r2 r5 r6 (r7.trans (by rw [hen2])) r8 r11 r12 (fun h => ⟨hpos,hen2,h⟩) (fun h _ _ => h) h3))
    | true => exact cnd_false.2 (hold.2 (aft (q := false) ds r2 r5 r6 (r7.trans (by rw [hen2])) r8 r11 rfl (fun h => by cases h) (fun _ _ h => by rw [hen2] at h; cases h) h3))
   ·exact aft (q := false) ds r2 r5 r6 r7 r8 r11 rfl (fun h => by cases h) (fun _ h _ => by omega) h3
 ·have hie : i = (partsB 10 s).length - 1 := by omega
  have hdr : (partsB 10 s).dropLast.drop i = [] := List.drop_eq_nil_of_le (by simp; omega)
  rw [hdr] at hlin
  have hre : readTr s = if en = true ∧ (partsB 10 s).getLast? = some [] then .inr t else .inl (partsB 10 s).length := by
   unfold readTr
   rw [hlin]
   rfl
  have hp6 := lt_of_get cg
  have fk : kn1 fv = true := (ownX_val O).2.2
  suffices w3 : ∀ {F' : RG} {q : Bool},F'.ds = [] → F'.r 2 = ptr p2 0 → F'.r 5 = lv → F'.r 6 = ptr p6 0 → F'.r 94 = .bool q → (q = true → readTr s = .inl (partsB 10 s).length) → (q = false → readTr s = .inr t) →
    W prog J 105 H.length 13 (subC yp18 (codeOf f13)) F' G (contX pl13 prog J 105 H.length 13 ct13 yp18 (codeOf f13) [] (RetQ prog [.cell 2 26,.tmp 3,.tmp 4] H.length K)) by
   refine notI ?_
   cases en with
   | false => exact cnd_true.2 (hold.2 (w3 (q := true) ds r2 r5 r6 rfl (fun _ => by rw [hre,if_neg (by simp)]) fun h => by cases h))
   | true =>
    obtain ⟨u,hu⟩ : ∃ u,(partsB 10 s)[i]? = some u := ⟨_,List.getElem?_eq_getElem (by omega)⟩
    have hlast : (partsB 10 s).getLast? = some u := by rw [List.getLast?_eq_getElem?,← hie,hu]
    rw [hlast] at hre
    refine cnd_false.2 (lenI slG (subI (by omega) ?_))
    rw [show (((partsB 10 s).length : Nat) : Int) - 1 = (i : Nat) by omega]
    refine wordL (j := i) slG hu fun _ => neS (b := []) (hold.2 ?_)
    refine w3 ds r2 r5 r6 rfl (fun hq => ?_) fun hq => ?_
    ·rw [hre,if_neg]
     rintro ⟨_,h⟩
     exact of_decide_eq_true hq (Option.some.inj h)
    ·have : u = [] := Decidable.not_not.1 (of_decide_eq_false hq)
     rw [hre,if_pos ⟨rfl,by rw [this]⟩]
  intro F' q ds r2 r5 r6 r94 hb hg
  rw [s13_3]
  simp only [r2,r5,r6,r94]
  cases q with
  | true =>
   refine cnd_true.2 (fillI (lenI slG (endBad ds r2 cG rfl rfl rfl fun H' T => bad (by rw [hE,hb rfl]) (by decide) (S0G.thru T (by simp; omega)))))
  | false =>
   have hr := hg rfl
   have hEt : readWE s = (0,troE t) := by rw [hE,hr]
   have kT : kn (troCells t fv) = true := by unfold troCells kn; simp only [List.all_cons,fk]; rfl
   have oT : (troCells t fv).all one = true := by unfold troCells; simp only [List.all_cons,(ownX_val O).2.1]; rfl
   refine cnd_false.2 (load_part (c := troCells t fv) cg (by simp [troCells]) rfl kT ?_)
   refine good29 hJ ⟨rfl,ownX_sli O⟩ (by omega) fun G2 T2 => neqI (cndI (fun he => ?_) fun he => ?_)
   ·exact fillI (endBad ds r2 (T2.get cG (by simp)) rfl rfl rfl fun H' T => bad hEt he ((S0G.trans T2).thru T (by simp; omega)))
   ·have he0 : troE t = 0 := Decidable.not_not.1 he
    refine load_part (c := troCells t fv) (T2.get cg (by simp)) (by simp [troCells]) rfl kT (qStA (c := troCells t fv) (T2.get cG (by simp)) rfl rfl oT fun G3 T3 d3 m3 => ?_)
    refine endTr ds r2 rfl rfl d3 fk ?_
    have hw : readWT s = t := by
     unfold readWT
     rw [if_pos (by rw [hEt]; exact he0),hr]
    have T23 : SameX [p2] G G3 := T2.weak0.thru T3 (by simp)
    have := hK G3 fv (S0G.thru T23 (by simp; omega)) (by rw [hw]; exact ⟨rfl,ownX_sli (ownX_keep O T23 fun k hk => by have := (hO k hk).2; simp; omega)⟩)
    rw [hw,hEt,he0] at this
    exact this
end
end Go.Proofs.YtcmgjbflljmphaaGreatDoor
namespace Go.Proofs.YtcmgjbflljmphaaGreatDoor
open Go.Conc Go.Proofs.Tryz
set_option maxRecDepth 100000
set_option maxHeartbeats 4000000
set_option linter.unusedVariables false
section
variable {main : Bool} {J : JT} {n0 : Nat} {h : List AObj} {K : Value → List AObj → Prop}
theorem at11 : prog.funcs[11]? = some f11 := by kernel_rfl
theorem body11 : f11.body = some (codeOf f11) := by kernel_rfl
def pl11 : Plans := [(6,true,.take 0 (.take 1 (.take 3 (.take 7 (.take 8 (.take 9 (.alt 2 false (.alt 4 false (.alt 5 false (.take 6 (.last 10 false (.take 11 (.take 12 (.fin))))) (.last 10 false (.last 5 false (.take 6 (.take 11 (.take 12 (.fin))))))) (.last 10 false (.last 4 false (.last 5 false (.take 6 (.take 11 (.take 12 (.fin)))))))) (.alt 4 false (.alt 2 false (.alt 5 false (.take 6 (.last 10 false (.take 11 (.take 12 (.fin))))) (.last 10 false (.last 5 false (.take 6 (.take 11 (.take 12 (.fin))))))) (.alt 5 false (.alt 2 false (.take 6 (.last 10 false (.take 11 (.take 12 (.fin))))) (.last 10 false (.last 2 false (.take 6 (.take 11 (.take 12 (.fin))))))) (.last 10 false (.alt 2 false (.last 5 false (.take 6 (.take 11 (.take 12 (.fin))))) (.last 5 false (.last 2 false (.take 6 (.take 11 (.take 12 (.fin)))))))))) (.last 10 false (.alt 2 false (.last 4 false (.last 5 false (.take 6 (.take 11 (.take 12 (.fin)))))) (.last 4 false (.alt 2 false (.last 5 false (.take 6 (.take 11 (.take 12 (.fin))))) (.last 5 false (.last 2 false (.take 6 (.take 11 (.take 12 (.fin)))))))))))))))))),
 (8,true,.take 0 (.take 1 (.take 3 (.take 4 (.take 5 (.alt 2 false (.last 6 false (.take 7 (.take 8 (.fin)))) (.last 6 false (.last 2 false (.take 7 (.take 8 (.fin))))))))))),
 (9,true,.take 0 (.take 1 (.take 3 (.take 7 (.take 8 (.alt 2 false (.alt 4 false (.alt 5 false (.take 6 (.last 9 false (.take 10 (.take 11 (.fin))))) (.last 9 false (.last 5 false (.take 6 (.take 10 (.take 11 (.fin))))))) (.last 9 false (.last 4 false (.last 5 false (.take 6 (.take 10 (.take 11 (.fin)))))))) (.alt 4 false (.alt 2 false (.alt 5 false (.take 6 (.last 9 false (.take 10 (.take 11 (.fin))))) (.last 9 false (.last 5 false (.take 6 (.take 10 (.take 11 (.fin))))))) (.alt 5 false (.alt 2 false (.take 6 (.last 9 false (.take 10 (.take 11 (.fin))))) (.last 9 false (.last 2 false (.take 6 (.take 10 (.take 11 (.fin))))))) (.last 9 false (.alt 2 false (.last 5 false (.take 6 (.take 10 (.take 11 (.fin))))) (.last 5 false (.last 2 false (.take 6 (.take 10 (.take 11 (.fin)))))))))) (.last 9 false (.alt 2 false (.last 4 false (.last 5 false (.take 6 (.take 10 (.take 11 (.fin)))))) (.last 4 false (.alt 2 false (.last 5 false (.take 6 (.take 10 (.take 11 (.fin))))) (.last 5 false (.last 2 false (.take 6 (.take 10 (.take 11 (.fin)))))))))))))))))]
def ct11 : Cuts := .go
theorem pok11 : plansOk prog pl11 (codeOf f11) = true := by kernel_rfl
theorem e11 {a0 a1 a2 a3 : Value} : W prog J 57 h.length 11 (codeOf f11) (RG.mk (regs [a0,a1,a2,a3]) []) h (RetQ prog [.tmp 8] h.length K) =
(aLenStr a0 fun v1 =>
 aBin prog .eql 3 v1 (vint 0) fun v2 =>
 cnd v2
((((1 * 1 : Nat) ≤ 16777216 ∧ (1 : Nat) ≤ 16777216 ∧ List.length [(Value.int .u8 0)] = 1) ∧ aFill (zrep [(Value.int .u8 0)] 1) [(0,1,a3)] fun c3 =>
 aNewS 1 c3 h fun v4 h5 =>
 aB2S v4 h5 fun v6 =>
 retL h.length K [] [v6] h5))
(aLenStr a0 fun v7 =>
 Good prog J 30 [a1,v7] h fun v8 h9 =>
 Good prog J 30 [a2,(vint 3)] h9 fun v10 h11 =>
 aBin prog .eql 3 v10 (vint 0) fun v12 =>
 cnd v12
(aBin prog .add 3 v8 (vint 1) fun v13 =>
(aSlStr a0 none (some v8) fun v14 =>
((((1 * 1 : Nat) ≤ 16777216 ∧ (1 : Nat) ≤ 16777216 ∧ List.length [(Value.int .u8 0)] = 1) ∧ aFill (zrep [(Value.int .u8 0)] 1) [(0,1,a3)] fun c15 =>
 aNewS 1 c15 h11 fun v16 h17 =>
(aB2S v16 h17 fun v18 =>
 aBin prog .add 9 v14 v18 fun v19 =>
 aSlStr a0 (some v13) none fun v20 =>
 aBin prog .add 9 v19 v20 fun v21 =>
 retL h.length K [] [v21] h17) ∧ (aSlStr a0 (some v13) none fun v22 =>
 aB2S v16 h17 fun v23 =>
 aBin prog .add 9 v14 v23 fun v24 =>
 aBin prog .add 9 v24 v22 fun v25 =>
 retL h.length K [] [v25] h17))) ∧ (aSlStr a0 (some v13) none fun v26 =>
(((1 * 1 : Nat) ≤ 16777216 ∧ (1 : Nat) ≤ 16777216 ∧ List.length [(Value.int .u8 0)] = 1) ∧ aFill (zrep [(Value.int .u8 0)] 1) [(0,1,a3)] fun c27 =>
 aNewS 1 c27 h11 fun v28 h29 =>
 aB2S v28 h29 fun v30 =>
 aBin prog .add 9 v14 v30 fun v31 =>
 aBin prog .add 9 v31 v26 fun v32 =>
 retL h.length K [] [v32] h29))) ∧ ((((1 * 1 : Nat) ≤ 16777216 ∧ (1 : Nat) ≤ 16777216 ∧ List.length [(Value.int .u8 0)] = 1) ∧ aFill (zrep [(Value.int .u8 0)] 1) [(0,1,a3)] fun c33 =>
 aNewS 1 c33 h11 fun v34 h35 =>
(aSlStr a0 none (some v8) fun v36 =>
(aB2S v34 h35 fun v37 =>
 aBin prog .add 9 v36 v37 fun v38 =>
 aSlStr a0 (some v13) none fun v39 =>
 aBin prog .add 9 v38 v39 fun v40 =>
 retL h.length K [] [v40] h35) ∧ (aSlStr a0 (some v13) none fun v41 =>
 aB2S v34 h35 fun v42 =>
 aBin prog .add 9 v36 v42 fun v43 =>
 aBin prog .add 9 v43 v41 fun v44 =>
 retL h.length K [] [v44] h35)) ∧ (aB2S v34 h35 fun v45 =>
(aSlStr a0 none (some v8) fun v46 =>
 aBin prog .add 9 v46 v45 fun v47 =>
 aSlStr a0 (some v13) none fun v48 =>
 aBin prog .add 9 v47 v48 fun v49 =>
 retL h.length K [] [v49] h35) ∧ (aSlStr a0 (some v13) none fun v50 =>
 aSlStr a0 none (some v8) fun v51 =>
 aBin prog .add 9 v51 v45 fun v52 =>
 aBin prog .add 9 v52 v50 fun v53 =>
 retL h.length K [] [v53] h35)) ∧ (aSlStr a0 (some v13) none fun v54 =>
(aSlStr a0 none (some v8) fun v55 =>
 aB2S v34 h35 fun v56 =>
 aBin prog .add 9 v55 v56 fun v57 =>
 aBin prog .add 9 v57 v54 fun v58 =>
 retL h.length K [] [v58] h35) ∧ (aB2S v34 h35 fun v59 =>
 aSlStr a0 none (some v8) fun v60 =>
 aBin prog .add 9 v60 v59 fun v61 =>
 aBin prog .add 9 v61 v54 fun v62 =>
 retL h.length K [] [v62] h35)))) ∧ (aSlStr a0 (some v13) none fun v63 =>
(aSlStr a0 none (some v8) fun v64 =>
(((1 * 1 : Nat) ≤ 16777216 ∧ (1 : Nat) ≤ 16777216 ∧ List.length [(Value.int .u8 0)] = 1) ∧ aFill (zrep [(Value.int .u8 0)] 1) [(0,1,a3)] fun c65 =>
 aNewS 1 c65 h11 fun v66 h67 =>
 aB2S v66 h67 fun v68 =>
 aBin prog .add 9 v64 v68 fun v69 =>
 aBin prog .add 9 v69 v63 fun v70 =>
 retL h.length K [] [v70] h67)) ∧ ((((1 * 1 : Nat) ≤ 16777216 ∧ (1 : Nat) ≤ 16777216 ∧ List.length [(Value.int .u8 0)] = 1) ∧ aFill (zrep [(Value.int .u8 0)] 1) [(0,1,a3)] fun c71 =>
 aNewS 1 c71 h11 fun v72 h73 =>
(aSlStr a0 none (some v8) fun v74 =>
 aB2S v72 h73 fun v75 =>
 aBin prog .add 9 v74 v75 fun v76 =>
 aBin prog .add 9 v76 v63 fun v77 =>
 retL h.length K [] [v77] h73) ∧ (aB2S v72 h73 fun v78 =>
 aSlStr a0 none (some v8) fun v79 =>
 aBin prog .add 9 v79 v78 fun v80 =>
 aBin prog .add 9 v80 v63 fun v81 =>
 retL h.length K [] [v81] h73)))))
(aBin prog .eql 3 v10 (vint 1) fun v82 =>
 cnd v82
(aBin prog .add 3 v8 (vint 1) fun v83 =>
(aSlStr a0 none (some v8) fun v84 =>
 aSlStr a0 (some v83) none fun v85 =>
 aBin prog .add 9 v84 v85 fun v86 =>
 retL h.length K [] [v86] h11) ∧ (aSlStr a0 (some v83) none fun v87 =>
 aSlStr a0 none (some v8) fun v88 =>
 aBin prog .add 9 v88 v87 fun v89 =>
 retL h.length K [] [v89] h11))
((aSlStr a0 none (some v8) fun v90 =>
((((1 * 1 : Nat) ≤ 16777216 ∧ (1 : Nat) ≤ 16777216 ∧ List.length [(Value.int .u8 0)] = 1) ∧ aFill (zrep [(Value.int .u8 0)] 1) [(0,1,a3)] fun c91 =>
 aNewS 1 c91 h11 fun v92 h93 =>
(aB2S v92 h93 fun v94 =>
 aBin prog .add 9 v90 v94 fun v95 =>
 aSlStr a0 (some v8) none fun v96 =>
 aBin prog .add 9 v95 v96 fun v97 =>
 retL h.length K [] [v97] h93) ∧ (aSlStr a0 (some v8) none fun v98 =>
 aB2S v92 h93 fun v99 =>
 aBin prog .add 9 v90 v99 fun v100 =>
 aBin prog .add 9 v100 v98 fun v101 =>
 retL h.length K [] [v101] h93))) ∧ (aSlStr a0 (some v8) none fun v102 =>
(((1 * 1 : Nat) ≤ 16777216 ∧ (1 : Nat) ≤ 16777216 ∧ List.length [(Value.int .u8 0)] = 1) ∧ aFill (zrep [(Value.int .u8 0)] 1) [(0,1,a3)] fun c103 =>
 aNewS 1 c103 h11 fun v104 h105 =>
 aB2S v104 h105 fun v106 =>
 aBin prog .add 9 v90 v106 fun v107 =>
 aBin prog .add 9 v107 v102 fun v108 =>
 retL h.length K [] [v108] h105))) ∧ ((((1 * 1 : Nat) ≤ 16777216 ∧ (1 : Nat) ≤ 16777216 ∧ List.length [(Value.int .u8 0)] = 1) ∧ aFill (zrep [(Value.int .u8 0)] 1) [(0,1,a3)] fun c109 =>
 aNewS 1 c109 h11 fun v110 h111 =>
(aSlStr a0 none (some v8) fun v112 =>
(aB2S v110 h111 fun v113 =>
 aBin prog .add 9 v112 v113 fun v114 =>
 aSlStr a0 (some v8) none fun v115 =>
 aBin prog .add 9 v114 v115 fun v116 =>
 retL h.length K [] [v116] h111) ∧ (aSlStr a0 (some v8) none fun v117 =>
 aB2S v110 h111 fun v118 =>
 aBin prog .add 9 v112 v118 fun v119 =>
 aBin prog .add 9 v119 v117 fun v120 =>
 retL h.length K [] [v120] h111)) ∧ (aB2S v110 h111 fun v121 =>
(aSlStr a0 none (some v8) fun v122 =>
 aBin prog .add 9 v122 v121 fun v123 =>
 aSlStr a0 (some v8) none fun v124 =>
 aBin prog .add 9 v123 v124 fun v125 =>
 retL h.length K [] [v125] h111) ∧ (aSlStr a0 (some v8) none fun v126 =>
 aSlStr a0 none (some v8) fun v127 =>
 aBin prog .add 9 v127 v121 fun v128 =>
 aBin prog .add 9 v128 v126 fun v129 =>
 retL h.length K [] [v129] h111)) ∧ (aSlStr a0 (some v8) none fun v130 =>
(aSlStr a0 none (some v8) fun v131 =>
 aB2S v110 h111 fun v132 =>
 aBin prog .add 9 v131 v132 fun v133 =>
 aBin prog .add 9 v133 v130 fun v134 =>
 retL h.length K [] [v134] h111) ∧ (aB2S v110 h111 fun v135 =>
 aSlStr a0 none (some v8) fun v136 =>
 aBin prog .add 9 v136 v135 fun v137 =>
 aBin prog .add 9 v137 v130 fun v138 =>
 retL h.length K [] [v138] h111)))) ∧ (aSlStr a0 (some v8) none fun v139 =>
(aSlStr a0 none (some v8) fun v140 =>
(((1 * 1 : Nat) ≤ 16777216 ∧ (1 : Nat) ≤ 16777216 ∧ List.length [(Value.int .u8 0)] = 1) ∧ aFill (zrep [(Value.int .u8 0)] 1) [(0,1,a3)] fun c141 =>
 aNewS 1 c141 h11 fun v142 h143 =>
 aB2S v142 h143 fun v144 =>
 aBin prog .add 9 v140 v144 fun v145 =>
 aBin prog .add 9 v145 v139 fun v146 =>
 retL h.length K [] [v146] h143)) ∧ ((((1 * 1 : Nat) ≤ 16777216 ∧ (1 : Nat) ≤ 16777216 ∧ List.length [(Value.int .u8 0)] = 1) ∧ aFill (zrep [(Value.int .u8 0)] 1) [(0,1,a3)] fun c147 =>
 aNewS 1 c147 h11 fun v148 h149 =>
(aSlStr a0 none (some v8) fun v150 =>
 aB2S v148 h149 fun v151 =>
 aBin prog .add 9 v150 v151 fun v152 =>
 aBin prog .add 9 v152 v139 fun v153 =>
 retL h.length K [] [v153] h149) ∧ (aB2S v148 h149 fun v154 =>
 aSlStr a0 none (some v8) fun v155 =>
 aBin prog .add 9 v155 v154 fun v156 =>
 aBin prog .add 9 v156 v139 fun v157 =>
 retL h.length K [] [v157] h149)))))))) := top_eq pok11 ct11 (by kernel_rfl)
theorem g11 (hJ : Closed prog main J) {a0 a1 a2 a3 : Value} (hs : heapOk h → W prog J 57 h.length 11 (codeOf f11) (RG.mk (regs [a0,a1,a2,a3]) []) h (RetQ prog [.tmp 8] h.length K)) : Good prog J 11 [a0,a1,a2,a3] h K :=
 good_of_W hJ mixed at11 body11 (by kernel_rfl) (Nat.le_of_ble_eq_true rfl) hs
theorem at30 : prog.funcs[30]? = some f30 := by kernel_rfl
theorem body30 : f30.body = some (codeOf f30) := by kernel_rfl
def pl30 : Plans := []
def ct30 : Cuts := .go
theorem pok30 : plansOk prog pl30 (codeOf f30) = true := by kernel_rfl
theorem e30 {a0 a1 : Value} : W prog J 16 h.length 30 (codeOf f30) (RG.mk (regs [a0,a1]) []) h (RetQ prog [.tmp 4] h.length K) =
(aBin prog .lss 3 a1 (vint 1) fun v1 =>
 cnd v1
(retL h.length K [] [(vint 0)] h)
(aBin prog .rem 3 a0 a1 fun v2 =>
 aBin prog .lss 3 v2 (vint 0) fun v3 =>
 cnd v3
(aBin prog .add 3 v2 a1 fun v4 =>
 retL h.length K [] [v4] h)
(retL h.length K [] [v2] h))) := top_eq pok30 ct30 (by kernel_rfl)
theorem g30 (hJ : Closed prog main J) {a0 a1 : Value} (hs : heapOk h → W prog J 16 h.length 30 (codeOf f30) (RG.mk (regs [a0,a1]) []) h (RetQ prog [.tmp 4] h.length K)) : Good prog J 30 [a0,a1] h K :=
 good_of_W hJ mixed at30 body30 (by kernel_rfl) (Nat.le_of_ble_eq_true rfl) hs
end
end Go.Proofs.YtcmgjbflljmphaaGreatDoor
namespace Go.Proofs.YtcmgjbflljmphaaGreatDoor
open Go.Conc Go.Proofs.Tryz
set_option maxRecDepth 100000
section
variable {main : Bool} {J : JT} {h H : List AObj} {K : Value → List AObj → Prop} {KV : Value → Prop}
theorem remX {t : TypeId} {x n : Int} (hn : 1 ≤ n) (hK : ∀ r : Int,-n < r → r < n → KV (vint r)) : aBin prog .rem t (vint x) (vint n) KV := by
 simp only [aBin,aInt,true_and]
 exact ⟨by omega,hK _ (Int.lt_tmod_of_pos x (by omega)) (Int.tmod_lt_of_pos x (by omega))⟩
theorem good30 (hJ : Closed prog main J) {x n : Int} (hn : 1 ≤ n ∧ n ≤ 1000000) (hK : ∀ r : Int,0 ≤ r → r < n → K (vint r) H) : Good prog J 30 [vint x,vint n] H K := by
 refine g30 hJ fun ok => ?_
 rw [e30]
 refine lssI (cndI (fun h1 => absurd h1 (by omega)) fun _ => ?_)
 refine remX (by omega) fun r b2 b1 => lssI (cndI (fun h2 => ?_) fun h2 => retL_same (by simp [unk]) (hK r (by omega) b1))
 exact addI (by omega) (retL_same (by simp [unk]) (hK _ (by omega) (by omega)))
theorem slTo {w : List UInt8} {k : Int} (hk : 0 ≤ k ∧ k ≤ w.length) (hK : ∀ u : List UInt8,(u.length : Int) = k → KV (strV u)) : aSlStr (strV w) none (some (vint k)) KV := by
 obtain ⟨n,rfl⟩ := Int.eq_ofNat_of_zero_le hk.1
 show match (some 0 : Option Nat),(bif decide ((0 : Int) ≤ (n : Nat)) then some ((n : Nat) : Int).toNat else none) with
  | some l,some u => (l ≤ u ∧ u ≤ w.length) ∧ KV (.string ⟨⟨(w.take u).drop l⟩⟩)
  | _,_ => False
 rw [decide_eq_true (by omega : (0 : Int) ≤ (n : Nat)),cond_true,Int.toNat_natCast]
 exact ⟨⟨by omega,by omega⟩,hK _ (by simp; omega)⟩
theorem slFr {w : List UInt8} {k : Int} (hk : 0 ≤ k ∧ k ≤ w.length) (hK : ∀ u : List UInt8,(u.length : Int) = w.length - k → KV (strV u)) : aSlStr (strV w) (some (vint k)) none KV := by
 obtain ⟨n,rfl⟩ := Int.eq_ofNat_of_zero_le hk.1
 show match (bif decide ((0 : Int) ≤ (n : Nat)) then some ((n : Nat) : Int).toNat else none),(some w.length : Option Nat) with
  | some l,some u => (l ≤ u ∧ u ≤ w.length) ∧ KV (.string ⟨⟨(w.take u).drop l⟩⟩)
  | _,_ => False
 rw [decide_eq_true (by omega : (0 : Int) ≤ (n : Nat)),cond_true,Int.toNat_natCast]
 exact ⟨⟨by omega,by omega⟩,hK _ (by simp; omega)⟩
theorem catS {t : TypeId} {u v : List UInt8} (hl : u.length + v.length ≤ 1000000) (hK : ∀ x : List UInt8,x.length = u.length + v.length → KV (strV x)) : aBin prog .add t (strV u) (strV v) KV := by
 have hrm : (2000000 : Nat) < room := by decide
 show (ByteArray.mk ⟨u⟩).size + (ByteArray.mk ⟨v⟩).size ≤ room ∧ KV (.string (ByteArray.mk ⟨u⟩ ++ ByteArray.mk ⟨v⟩))
 have e1 : (ByteArray.mk ⟨v⟩).size = v.length := rfl
 have e2 : (ByteArray.mk ⟨u⟩).size = u.length := rfl
 have e3 : ByteArray.mk ⟨u⟩ ++ ByteArray.mk ⟨v⟩ = ByteArray.mk ⟨u ++ v⟩ := by
  apply ByteArray.ext
  rw [ByteArray.data_append]
  apply Array.ext'
  rw [Array.toList_append]
 rw [e1,e2,e3]
 exact ⟨by omega,hK _ (by simp)⟩
theorem newB {b : UInt8} {KB : Value → List AObj → Prop} (hK : ∀ H' p,SameX [] H H' → H'[p]? = some (.cells [bV b] true 0) → KB (.slice (some ⟨p,0,none⟩) 1 1) H') :
  ((1 * 1 : Nat) ≤ 16777216 ∧ (1 : Nat) ≤ 16777216 ∧ List.length [(Value.int .u8 0)] = 1) ∧ aFill (zrep [(Value.int .u8 0)] 1) [(0,1,bV b)] fun c3 => aNewS 1 c3 H KB :=
 ⟨by decide,fillO (l := [bV b]) rfl rfl rfl (by decide) (fillI (qNew fun H1 p1 e1 S1 c1 l1 => hK H1 p1 S1 c1))⟩
theorem b2s {b : UInt8} {p : Nat} (hp : H[p]? = some (.cells [bV b] true 0)) (hK : ∀ u : List UInt8,u.length = 1 → KV (strV u)) : aB2S (.slice (some ⟨p,0,none⟩) 1 1) H KV := strI (w := [b]) hp rfl rfl (hK [b] rfl)
set_option maxHeartbeats 2000000 in
theorem good11 (hJ : Closed prog main J) {w : List UInt8} {b : UInt8} {at_ how : Int} (hw : w.length ≤ 1000) (hK : ∀ (u : List UInt8) H',u.length ≤ w.length + 1 → SameX [] H H' → K (strV u) H') : Good prog J 11 [strV w,vint at_,vint how,bV b] H K := by
 refine g11 hJ fun ok => ?_
 rw [e11]
 have fin : ∀ {u : List UInt8} {H' : List AObj},u.length ≤ w.length + 1 → SameX [] H H' → retL H.length K [] [strV u] H' := fun h1 h2 => retL_same (by simp [unk,strV]) (hK _ _ h1 h2)
 refine lenStrI (eqlI (cndI (fun h0 => newB fun H1 p1 S1 c1 => b2s c1 fun u hu => fin (by omega) S1) fun h0 => ?_))
 refine lenStrI (good30 hJ (by omega) fun k k0 k1 => good30 hJ (by decide) fun m m0 m1 => eqlI (cndI (fun _ => addI (by omega) ?_) fun _ => eqlI (cndI (fun _ => addI (by omega) ?_) fun _ => ?_)))
 all_goals
  repeat' first
   | exact fin (by omega) (by first | assumption | exact SameX.refl)
   | refine slTo (by omega) fun _ _ => ?_
   | refine slFr (by omega) fun _ _ => ?_
   | refine catS (by omega) fun _ _ => ?_
   | refine newB fun _ _ _ _ => ?_
   | refine b2s (by assumption) fun _ _ => ?_
   | refine ⟨?_,?_⟩
end
end Go.Proofs.YtcmgjbflljmphaaGreatDoor
namespace Go.Proofs.YtcmgjbflljmphaaGreatDoor
open Go.Conc Go.Proofs.Tryz
set_option maxRecDepth 100000
set_option maxHeartbeats 4000000
set_option linter.unusedVariables false
section
variable {main : Bool} {J : JT} {n0 : Nat} {h : List AObj} {K : Value → List AObj → Prop}
theorem at3 : prog.funcs[3]? = some f3 := by kernel_rfl
theorem body3 : f3.body = some (codeOf f3) := by kernel_rfl
def pl3 : Plans := [(3,false,.take 0 (.take 1 (.take 5 (.alt 2 true (.alt 3 true (.alt 4 false (.take 7 (.last 6 true (.take 8 (.fin)))) (.last 6 true (.last 4 false (.take 7 (.take 8 (.fin)))))) (.last 6 true (.last 3 true (.last 4 false (.take 7 (.take 8 (.fin))))))) (.last 6 true (.last 2 true (.last 3 true (.last 4 false (.take 7 (.take 8 (.fin)))))))))))]
def ct3 : Cuts := .bin (.go) (.bin (.bin (.go) (.cut (.go))) (.cut (.bin (.go) (.cut (.bin (.bin (.go) (.un (.un (.bin (.go) (.bin (.un (.bin (.go) (.cut (.bin (.go) (.cut (.bin (.bin (.go) (.cut (.go))) (.go))))))) (.go)))))) (.cut (.bin (.go) (.cut (.bin (.bin (.go) (.un (.un (.bin (.go) (.bin (.un (.bin (.go) (.cut (.bin (.go) (.cut (.bin (.go) (.cut (.go)))))))) (.go)))))) (.go))))))))))
theorem pok3 : plansOk prog pl3 (codeOf f3) = true := by kernel_rfl
theorem e3 {a0 a1 a2 a3 a4 a5 : Value} : W prog J 130 h.length 3 (codeOf f3) (RG.mk (regs [a0,a1,a2,a3,a4,a5]) []) h (RetQ prog [.tmp 12] h.length K) =
(aBox a0 h fun v1 h2 =>
 aLoad true 4 v1 h2 fun v3 =>
 Good prog J 5 [v3,(Value.slice none 0 0)] h2 fun v4 h5 =>
 cnd v4
(Hold (W prog J 130 h.length 3 (subC [1,0,1] (codeOf f3)) (RG.p (RG.p (RG.p (RG.p (RG.p (RG.p (RG.p (RG.p (RG.p (RG.p (RG.p (RG.p (RG.p (RG.p (RG.p (RG.mk (regs [a0,a1,a2,a3,a4,a5]) []) 6 v1) 12 (Value.bool false)) 27 v3) 28 v4) 29 v4) 29 (Value.bool true)) 30 undef) 31 undef) 32 undef) 33 undef) 34 undef) 35 undef) 36 undef) 37 undef) 38 (Value.bool true)) h5 (contX pl3 prog J 130 h.length 3 ct3 [1,0,1] (codeOf f3) [] (RetQ prog [.tmp 12] h.length K))))
(aLenStr a1 fun v6 =>
 aBin prog .gtr 3 v6 (vint 70) fun v7 =>
 cnd v7
(aLenStr a1 fun v8 =>
 aBin prog .leq 3 v8 (vint 80) fun v9 =>
 Hold (W prog J 130 h.length 3 (subC [1,0,1] (codeOf f3)) (RG.p (RG.p (RG.p (RG.p (RG.p (RG.p (RG.p (RG.p (RG.p (RG.p (RG.p (RG.p (RG.p (RG.p (RG.p (RG.p (RG.mk (regs [a0,a1,a2,a3,a4,a5]) []) 6 v1) 12 (Value.bool false)) 27 v3) 28 v4) 29 v4) 29 (Value.bool false)) 30 a1) 31 v6) 32 v7) 33 v7) 33 (Value.bool true)) 34 a1) 35 v8) 36 v9) 37 v9) 38 v9) h5 (contX pl3 prog J 130 h.length 3 ct3 [1,0,1] (codeOf f3) [] (RetQ prog [.tmp 12] h.length K))))
(Hold (W prog J 130 h.length 3 (subC [1,0,1] (codeOf f3)) (RG.p (RG.p (RG.p (RG.p (RG.p (RG.p (RG.p (RG.p (RG.p (RG.p (RG.p (RG.p (RG.p (RG.p (RG.p (RG.p (RG.mk (regs [a0,a1,a2,a3,a4,a5]) []) 6 v1) 12 (Value.bool false)) 27 v3) 28 v4) 29 v4) 29 (Value.bool false)) 30 a1) 31 v6) 32 v7) 33 v7) 33 (Value.bool false)) 34 undef) 35 undef) 36 undef) 37 (Value.bool false)) 38 (Value.bool false)) h5 (contX pl3 prog J 130 h.length 3 ct3 [1,0,1] (codeOf f3) [] (RetQ prog [.tmp 12] h.length K)))))) := top_eq pok3 ct3 (by kernel_rfl)
theorem g3 (hJ : Closed prog main J) {a0 a1 a2 a3 a4 a5 : Value} (hs : heapOk h → W prog J 130 h.length 3 (codeOf f3) (RG.mk (regs [a0,a1,a2,a3,a4,a5]) []) h (RetQ prog [.tmp 12] h.length K)) : Good prog J 3 [a0,a1,a2,a3,a4,a5] h K :=
 good_of_W hJ mixed at3 body3 (by kernel_rfl) (Nat.le_of_ble_eq_true rfl) hs
theorem s3_1 {f : RG} : W prog J 130 n0 3 (subC [1,0,1] (codeOf f3)) f h (contX pl3 prog J 130 n0 3 ct3 [1,0,1] (codeOf f3) [] (RetQ prog [.tmp 12] n0 K)) =
(cnd (f.r 38)
(Good prog J 6 [] h fun v1 h2 =>
 retL n0 K f.ds [v1] h2)
(Hold (W prog J 130 n0 3 (subC [1,1] (codeOf f3)) f h (contX pl3 prog J 130 n0 3 ct3 [1,1] (codeOf f3) [] (RetQ prog [.tmp 12] n0 K))))) := sub_eq pok3 ct3 (by kernel_rfl)
theorem s3_2 {f : RG} : W prog J 130 n0 3 (subC [1,1] (codeOf f3)) f h (contX pl3 prog J 130 n0 3 ct3 [1,1] (codeOf f3) [] (RetQ prog [.tmp 12] n0 K)) =
((∃ B,aLoad true 4 (f.r 6) h fun v1 =>
 RdOk (some B) (ptrBlk (f.r 6)) ∧ ((Good prog J 8 [(f.r 2)] h fun v2 h3 =>
 SameB (some B) h h3 ∧ ((Good prog J 7 [v2,(vint 3),(vint 40)] h3 fun v4 h5 =>
 SameB (some B) h h5 ∧ (((((2 * 4 : Nat) ≤ 16777216 ∧ (2 : Nat) ≤ 16777216 ∧ List.length [(vint 0),(vint 0),(vint 0),(Value.slice none 0 0)] = 4) ∧ aFill (zrep [(vint 0),(vint 0),(vint 0),(Value.slice none 0 0)] 2) [(0,4,v1),(4,4,v4)] fun c6 =>
 aNewS 2 c6 h5 fun v7 h8 =>
(((1 * 1 : Nat) ≤ 16777216 ∧ (1 : Nat) ≤ 16777216 ∧ List.length [(Value.string { data := #[] })] = 1) ∧ aFill (zrep [(Value.string { data := #[] })] 1) [(0,1,(f.r 1))] fun c9 =>
 aNewS 1 c9 h8 fun v10 h11 =>
 SameB (some B) h h11 ∧ (Hold (W prog J 130 n0 3 (subC [1,1,1] (codeOf f3)) (RG.p (RG.p (RG.p (RG.p (RG.p (RG.p (RG.p (RG.p (RG.p f 40 v1) 41 (f.r 2)) 45 (f.r 1)) 42 v2) 43 v4) 44 v7) 13 v7) 46 v10) 14 v10) h11 (contX pl3 prog J 130 n0 3 ct3 [1,1,1] (codeOf f3) [] (RetQ prog [.tmp 12] n0 K))))))) ∧ ((((1 * 1 : Nat) ≤ 16777216 ∧ (1 : Nat) ≤ 16777216 ∧ List.length [(Value.string { data := #[] })] = 1) ∧ aFill (zrep [(Value.string { data := #[] })] 1) [(0,1,(f.r 1))] fun c12 =>
 aNewS 1 c12 h5 fun v13 h14 =>
 SameB (some B) h h14 ∧ ((((2 * 4 : Nat) ≤ 16777216 ∧ (2 : Nat) ≤ 16777216 ∧ List.length [(vint 0),(vint 0),(vint 0),(Value.slice none 0 0)] = 4) ∧ aFill (zrep [(vint 0),(vint 0),(vint 0),(Value.slice none 0 0)] 2) [(0,4,v1),(4,4,v4)] fun c15 =>
 aNewS 2 c15 h14 fun v16 h17 =>
 Hold (W prog J 130 n0 3 (subC [1,1,1] (codeOf f3)) (RG.p (RG.p (RG.p (RG.p (RG.p (RG.p (RG.p (RG.p (RG.p f 40 v1) 41 (f.r 2)) 45 (f.r 1)) 42 v2) 43 v4) 46 v13) 44 v16) 13 v16) 14 v13) h17 (contX pl3 prog J 130 n0 3 ct3 [1,1,1] (codeOf f3) [] (RetQ prog [.tmp 12] n0 K))))))))) ∧ ((((1 * 1 : Nat) ≤ 16777216 ∧ (1 : Nat) ≤ 16777216 ∧ List.length [(Value.string { data := #[] })] = 1) ∧ aFill (zrep [(Value.string { data := #[] })] 1) [(0,1,(f.r 1))] fun c18 =>
 aNewS 1 c18 h3 fun v19 h20 =>
 SameB (some B) h h20 ∧ (Good prog J 7 [v2,(vint 3),(vint 40)] h20 fun v21 h22 =>
 SameB (some B) h h22 ∧ ((((2 * 4 : Nat) ≤ 16777216 ∧ (2 : Nat) ≤ 16777216 ∧ List.length [(vint 0),(vint 0),(vint 0),(Value.slice none 0 0)] = 4) ∧ aFill (zrep [(vint 0),(vint 0),(vint 0),(Value.slice none 0 0)] 2) [(0,4,v1),(4,4,v21)] fun c23 =>
 aNewS 2 c23 h22 fun v24 h25 =>
 Hold (W prog J 130 n0 3 (subC [1,1,1] (codeOf f3)) (RG.p (RG.p (RG.p (RG.p (RG.p (RG.p (RG.p (RG.p (RG.p f 40 v1) 41 (f.r 2)) 45 (f.r 1)) 42 v2) 46 v19) 43 v21) 44 v24) 13 v24) 14 v19) h25 (contX pl3 prog J 130 n0 3 ct3 [1,1,1] (codeOf f3) [] (RetQ prog [.tmp 12] n0 K)))))))))) ∧ ((((1 * 1 : Nat) ≤ 16777216 ∧ (1 : Nat) ≤ 16777216 ∧ List.length [(Value.string { data := #[] })] = 1) ∧ aFill (zrep [(Value.string { data := #[] })] 1) [(0,1,(f.r 1))] fun c26 =>
 aNewS 1 c26 h fun v27 h28 =>
 SameB (some B) h h28 ∧ (Good prog J 8 [(f.r 2)] h28 fun v29 h30 =>
 SameB (some B) h h30 ∧ (Good prog J 7 [v29,(vint 3),(vint 40)] h30 fun v31 h32 =>
 SameB (some B) h h32 ∧ ((((2 * 4 : Nat) ≤ 16777216 ∧ (2 : Nat) ≤ 16777216 ∧ List.length [(vint 0),(vint 0),(vint 0),(Value.slice none 0 0)] = 4) ∧ aFill (zrep [(vint 0),(vint 0),(vint 0),(Value.slice none 0 0)] 2) [(0,4,v1),(4,4,v31)] fun c33 =>
 aNewS 2 c33 h32 fun v34 h35 =>
 Hold (W prog J 130 n0 3 (subC [1,1,1] (codeOf f3)) (RG.p (RG.p (RG.p (RG.p (RG.p (RG.p (RG.p (RG.p (RG.p f 40 v1) 41 (f.r 2)) 45 (f.r 1)) 46 v27) 42 v29) 43 v31) 44 v34) 13 v34) 14 v27) h35 (contX pl3 prog J 130 n0 3 ct3 [1,1,1] (codeOf f3) [] (RetQ prog [.tmp 12] n0 K)))))))))))) := sub_eq pok3 ct3 (by kernel_rfl)
theorem s3_3 {f : RG} : W prog J 130 n0 3 (subC [1,1,1] (codeOf f3)) f h (contX pl3 prog J 130 n0 3 ct3 [1,1,1] (codeOf f3) [] (RetQ prog [.tmp 12] n0 K)) =
(Sem J 130 n0 3 (subC yp0 (codeOf f3)) (RG.p f 15 (vint 0)) h (contX pl3 prog J 130 n0 3 ct3 yp0 (codeOf f3) [] (RetQ prog [.tmp 12] n0 K))) := sub_eq pok3 ct3 (by kernel_rfl)
theorem s3_4 {f : RG} {nx0 : RG → List AObj → Prop} : W prog J 130 n0 3 (subC yp1 (codeOf f3)) f h (thenK nx0 (contX pl3 prog J 130 n0 3 ct3 yp0 (codeOf f3) [] (RetQ prog [.tmp 12] n0 K))) =
(aLenS (f.r 13) fun v1 =>
 aBin prog .lss 3 (f.r 15) v1 fun v2 =>
 cnd v2
(aIdx 4 (f.r 13) (f.r 15) fun v3 =>
 aLoad true 4 v3 h fun v4 =>
 Good prog J 9 [v4] h fun v5 h6 =>
 aExt v5 0 fun v7 =>
 aExt v5 1 fun v8 =>
 Hold (W prog J 130 n0 3 (subC yp5 (codeOf f3)) (RG.p (RG.p (RG.p (RG.p (RG.p (RG.p (RG.p (RG.p (RG.p (RG.p (RG.p (RG.p (RG.p (RG.p f 47 (f.r 15)) 48 (f.r 13)) 49 v1) 50 v2) 54 (f.r 13)) 55 (f.r 15)) 56 v3) 57 v4) 58 v5) 53 v5) 59 v7) 60 v8) 16 v7) 17 v8) h6 (contX pl3 prog J 130 n0 3 ct3 yp5 (codeOf f3) [nx0] (RetQ prog [.tmp 12] n0 K))))
(Hold (W prog J 130 n0 3 (subC [1,1,1,1] (codeOf f3)) (RG.p (RG.p (RG.p (RG.p f 47 (f.r 15)) 48 (f.r 13)) 49 v1) 50 v2) h (contX pl3 prog J 130 n0 3 ct3 [1,1,1,1] (codeOf f3) [] (RetQ prog [.tmp 12] n0 K))))) := sub_eq pok3 ct3 (by kernel_rfl)
theorem l3_4 (hJ : Closed prog main J) {S : Type} (μ : S → Nat) (I : S → RG → List AObj → Prop) (hI : ∀ s f h,I s f h → heapOk h → n0 ≤ h.length → W prog J 130 n0 3 (subC yp1 (codeOf f3)) f h (thenK (Nx n0 μ I s) (contX pl3 prog J 130 n0 3 ct3 yp0 (codeOf f3) [] (RetQ prog [.tmp 12] n0 K))))
 {s : S} {f : RG} (hi : Gets n0 I s f h) : Sem J 130 n0 3 (subC yp0 (codeOf f3)) f h (contX pl3 prog J 130 n0 3 ct3 yp0 (codeOf f3) [] (RetQ prog [.tmp 12] n0 K)) :=
 loop_rule hJ mixed (b := subC yp1 (codeOf f3)) (by kernel_rfl) μ I hI hi
theorem s3_5 {f : RG} {nx0 : RG → List AObj → Prop} : W prog J 130 n0 3 (subC yp5 (codeOf f3)) f h (contX pl3 prog J 130 n0 3 ct3 yp5 (codeOf f3) [nx0] (RetQ prog [.tmp 12] n0 K)) =
(aIdx 4 (f.r 13) (f.r 15) fun v1 =>
 aLoad true 4 v1 h fun v2 =>
 Good prog J 10 [v2] h fun v3 h4 =>
 aExt v3 0 fun v5 =>
 aExt v3 1 fun v6 =>
 Hold (W prog J 130 n0 3 (subC yp26 (codeOf f3)) (RG.p (RG.p (RG.p (RG.p (RG.p (RG.p (RG.p (RG.p (RG.p (RG.p f 62 (f.r 13)) 63 (f.r 15)) 64 v1) 65 v2) 66 v3) 61 v3) 67 v5) 68 v6) 18 v5) 19 v6) h4 (contX pl3 prog J 130 n0 3 ct3 yp26 (codeOf f3) [nx0] (RetQ prog [.tmp 12] n0 K)))) := sub_eq pok3 ct3 (by kernel_rfl)
theorem s3_6 {f : RG} : W prog J 130 n0 3 (subC [1,1,1,1] (codeOf f3)) f h (contX pl3 prog J 130 n0 3 ct3 [1,1,1,1] (codeOf f3) [] (RetQ prog [.tmp 12] n0 K)) =
(aIdx 1 (f.r 14) (vint 2) fun v1 =>
 aLoad false 1 v1 h fun v2 =>
 Good prog J 11 [v2,(f.r 3),(f.r 4),(f.r 5)] h fun v3 h4 =>
(((1 * 1 : Nat) ≤ 16777216 ∧ (1 : Nat) ≤ 16777216 ∧ List.length [(Value.string { data := #[] })] = 1) ∧ aFill (zrep [(Value.string { data := #[] })] 1) [(0,1,v3)] fun c5 =>
 aNewS 1 c5 h4 fun v6 h7 =>
((List.length [(Value.string { data := #[] })] = 1 ∧ 0 < (1 : Nat) ∧ 0 < (16 : Nat) ∧ (16 : Nat) ≤ 1024) ∧ aApp 1 (f.r 14) v6 h7 fun v8 h9 =>
 Hold (W prog J 130 n0 3 (subC yp7 (codeOf f3)) (RG.p (RG.p (RG.p (RG.p (RG.p (RG.p (RG.p (RG.p (RG.p (RG.p (RG.p f 81 (f.r 14)) 82 (f.r 14)) 83 v1) 84 v2) 85 (f.r 3)) 86 (f.r 4)) 87 (f.r 5)) 88 v3) 89 v6) 90 v8) 14 v8) h9 (contX pl3 prog J 130 n0 3 ct3 yp7 (codeOf f3) [] (RetQ prog [.tmp 12] n0 K)))))) := sub_eq pok3 ct3 (by kernel_rfl)
theorem s3_7 {f : RG} {nx0 : RG → List AObj → Prop} : W prog J 130 n0 3 (subC yp26 (codeOf f3)) f h (contX pl3 prog J 130 n0 3 ct3 yp26 (codeOf f3) [nx0] (RetQ prog [.tmp 12] n0 K)) =
(aBin prog .neq 9 (f.r 16) (f.r 18) fun v1 =>
 cnd v1
(Hold (W prog J 130 n0 3 (subC yp21 (codeOf f3)) (RG.p (RG.p (RG.p (RG.p (RG.p (RG.p (RG.p (RG.p (RG.p f 69 (f.r 16)) 70 (f.r 18)) 71 v1) 72 v1) 72 (Value.bool true)) 73 undef) 74 undef) 75 undef) 76 (Value.bool true)) h (contX pl3 prog J 130 n0 3 ct3 yp21 (codeOf f3) [nx0] (RetQ prog [.tmp 12] n0 K))))
(aBin prog .neq 35 (f.r 17) (f.r 19) fun v2 =>
 Hold (W prog J 130 n0 3 (subC yp21 (codeOf f3)) (RG.p (RG.p (RG.p (RG.p (RG.p (RG.p (RG.p (RG.p (RG.p f 69 (f.r 16)) 70 (f.r 18)) 71 v1) 72 v1) 72 (Value.bool false)) 73 (f.r 17)) 74 (f.r 19)) 75 v2) 76 v2) h (contX pl3 prog J 130 n0 3 ct3 yp21 (codeOf f3) [nx0] (RetQ prog [.tmp 12] n0 K))))) := sub_eq pok3 ct3 (by kernel_rfl)
theorem s3_8 {f : RG} : W prog J 130 n0 3 (subC yp7 (codeOf f3)) f h (contX pl3 prog J 130 n0 3 ct3 yp7 (codeOf f3) [] (RetQ prog [.tmp 12] n0 K)) =
(Sem J 130 n0 3 (subC yp4 (codeOf f3)) (RG.p f 20 (vint 0)) h (contX pl3 prog J 130 n0 3 ct3 yp4 (codeOf f3) [] (RetQ prog [.tmp 12] n0 K))) := sub_eq pok3 ct3 (by kernel_rfl)
theorem s3_9 {f : RG} {nx0 : RG → List AObj → Prop} : W prog J 130 n0 3 (subC yp21 (codeOf f3)) f h (contX pl3 prog J 130 n0 3 ct3 yp21 (codeOf f3) [nx0] (RetQ prog [.tmp 12] n0 K)) =
(cnd (f.r 76)
(retL n0 K f.ds [(Value.bool false)] h)
((((1 * 1 : Nat) ≤ 16777216 ∧ (1 : Nat) ≤ 16777216 ∧ List.length [(Value.string { data := #[] })] = 1) ∧ aFill (zrep [(Value.string { data := #[] })] 1) [(0,1,(f.r 18))] fun c1 =>
 aNewS 1 c1 h fun v2 h3 =>
((List.length [(Value.string { data := #[] })] = 1 ∧ 0 < (1 : Nat) ∧ 0 < (16 : Nat) ∧ (16 : Nat) ≤ 1024) ∧ aApp 1 (f.r 14) v2 h3 fun v4 h5 =>
 aBin prog .add 3 (f.r 15) (vint 1) fun v6 =>
 nx0 (RG.p (RG.p (RG.p (RG.p (RG.p (RG.p (RG.p (RG.p f 77 (f.r 14)) 78 (f.r 18)) 79 v2) 80 v4) 14 v4) 51 (f.r 15)) 52 v6) 15 v6) h5)))) := sub_eq pok3 ct3 (by kernel_rfl)
theorem s3_10 {f : RG} {nx0 : RG → List AObj → Prop} : W prog J 130 n0 3 (subC yp25 (codeOf f3)) f h (thenK nx0 (contX pl3 prog J 130 n0 3 ct3 yp4 (codeOf f3) [] (RetQ prog [.tmp 12] n0 K))) =
(aLenS (f.r 14) fun v1 =>
 aBin prog .lss 3 (f.r 20) v1 fun v2 =>
 cnd v2
(aIdx 1 (f.r 14) (f.r 20) fun v3 =>
 aLoad false 1 v3 h fun v4 =>
 Good prog J 12 [v4] h fun v5 h6 =>
 aExt v5 0 fun v7 =>
 aExt v5 1 fun v8 =>
 aExt v5 2 fun v9 =>
 aAlloc [(vint 0),(vint 0),(vint 0),(Value.slice none 0 0)] h6 fun v10 h11 =>
 aStore 4 v10 v7 h11 fun h12 =>
 Hold (W prog J 130 n0 3 (subC yp27 (codeOf f3)) (RG.p (RG.p (RG.p (RG.p (RG.p (RG.p (RG.p (RG.p (RG.p (RG.p (RG.p (RG.p (RG.p (RG.p (RG.p (RG.p f 91 (f.r 20)) 92 (f.r 14)) 93 v1) 94 v2) 98 (f.r 14)) 99 (f.r 20)) 100 v3) 101 v4) 102 v5) 97 v5) 103 v7) 104 v8) 105 v9) 21 v10) 22 v8) 23 v9) h12 (contX pl3 prog J 130 n0 3 ct3 yp27 (codeOf f3) [nx0] (RetQ prog [.tmp 12] n0 K))))
(Good prog J 6 [] h fun v13 h14 =>
 retL n0 K f.ds [v13] h14)) := sub_eq pok3 ct3 (by kernel_rfl)
theorem l3_10 (hJ : Closed prog main J) {S : Type} (μ : S → Nat) (I : S → RG → List AObj → Prop) (hI : ∀ s f h,I s f h → heapOk h → n0 ≤ h.length → W prog J 130 n0 3 (subC yp25 (codeOf f3)) f h (thenK (Nx n0 μ I s) (contX pl3 prog J 130 n0 3 ct3 yp4 (codeOf f3) [] (RetQ prog [.tmp 12] n0 K))))
 {s : S} {f : RG} (hi : Gets n0 I s f h) : Sem J 130 n0 3 (subC yp4 (codeOf f3)) f h (contX pl3 prog J 130 n0 3 ct3 yp4 (codeOf f3) [] (RetQ prog [.tmp 12] n0 K)) :=
 loop_rule hJ mixed (b := subC yp25 (codeOf f3)) (by kernel_rfl) μ I hI hi
theorem s3_11 {f : RG} {nx0 : RG → List AObj → Prop} : W prog J 130 n0 3 (subC yp27 (codeOf f3)) f h (contX pl3 prog J 130 n0 3 ct3 yp27 (codeOf f3) [nx0] (RetQ prog [.tmp 12] n0 K)) =
(aIdx 1 (f.r 14) (f.r 20) fun v1 =>
 aLoad false 1 v1 h fun v2 =>
 Good prog J 13 [v2] h fun v3 h4 =>
 aExt v3 0 fun v5 =>
 aExt v3 1 fun v6 =>
 aExt v3 2 fun v7 =>
 aAlloc [(vint 0),(vint 0),(vint 0),(Value.slice none 0 0)] h4 fun v8 h9 =>
 aStore 4 v8 v5 h9 fun h10 =>
 Hold (W prog J 130 n0 3 (subC yp28 (codeOf f3)) (RG.p (RG.p (RG.p (RG.p (RG.p (RG.p (RG.p (RG.p (RG.p (RG.p (RG.p (RG.p f 107 (f.r 14)) 108 (f.r 20)) 109 v1) 110 v2) 111 v3) 106 v3) 112 v5) 113 v6) 114 v7) 24 v8) 25 v6) 26 v7) h10 (contX pl3 prog J 130 n0 3 ct3 yp28 (codeOf f3) [nx0] (RetQ prog [.tmp 12] n0 K)))) := sub_eq pok3 ct3 (by kernel_rfl)
theorem s3_12 {f : RG} {nx0 : RG → List AObj → Prop} : W prog J 130 n0 3 (subC yp28 (codeOf f3)) f h (contX pl3 prog J 130 n0 3 ct3 yp28 (codeOf f3) [nx0] (RetQ prog [.tmp 12] n0 K)) =
(aBin prog .neq 3 (f.r 22) (f.r 25) fun v1 =>
 cnd v1
(Hold (W prog J 130 n0 3 (subC yp22 (codeOf f3)) (RG.p (RG.p (RG.p (RG.p (RG.p (RG.p (RG.p (RG.p (RG.p (RG.p (RG.p (RG.p (RG.p (RG.p (RG.p (RG.p f 115 (f.r 22)) 116 (f.r 25)) 117 v1) 118 v1) 118 (Value.bool true)) 119 undef) 120 undef) 121 undef) 122 (Value.bool true)) 123 (Value.bool true)) 123 (Value.bool true)) 124 undef) 125 undef) 126 undef) 127 undef) 128 (Value.bool true)) h (contX pl3 prog J 130 n0 3 ct3 yp22 (codeOf f3) [nx0] (RetQ prog [.tmp 12] n0 K))))
(aBin prog .neq 35 (f.r 23) (f.r 26) fun v2 =>
 cnd v2
(Hold (W prog J 130 n0 3 (subC yp22 (codeOf f3)) (RG.p (RG.p (RG.p (RG.p (RG.p (RG.p (RG.p (RG.p (RG.p (RG.p (RG.p (RG.p (RG.p (RG.p (RG.p (RG.p f 115 (f.r 22)) 116 (f.r 25)) 117 v1) 118 v1) 118 (Value.bool false)) 119 (f.r 23)) 120 (f.r 26)) 121 v2) 122 v2) 123 v2) 123 (Value.bool true)) 124 undef) 125 undef) 126 undef) 127 undef) 128 (Value.bool true)) h (contX pl3 prog J 130 n0 3 ct3 yp22 (codeOf f3) [nx0] (RetQ prog [.tmp 12] n0 K))))
(aLoad true 4 (f.r 21) h fun v3 =>
 aLoad true 4 (f.r 24) h fun v4 =>
 Good prog J 14 [v3,v4] h fun v5 h6 =>
 aUn .not v5 fun v7 =>
 Hold (W prog J 130 n0 3 (subC yp22 (codeOf f3)) (RG.p (RG.p (RG.p (RG.p (RG.p (RG.p (RG.p (RG.p (RG.p (RG.p (RG.p (RG.p (RG.p (RG.p (RG.p (RG.p f 115 (f.r 22)) 116 (f.r 25)) 117 v1) 118 v1) 118 (Value.bool false)) 119 (f.r 23)) 120 (f.r 26)) 121 v2) 122 v2) 123 v2) 123 (Value.bool false)) 124 v3) 125 v4) 126 v5) 127 v7) 128 v7) h6 (contX pl3 prog J 130 n0 3 ct3 yp22 (codeOf f3) [nx0] (RetQ prog [.tmp 12] n0 K)))))) := sub_eq pok3 ct3 (by kernel_rfl)
theorem s3_13 {f : RG} {nx0 : RG → List AObj → Prop} : W prog J 130 n0 3 (subC yp22 (codeOf f3)) f h (contX pl3 prog J 130 n0 3 ct3 yp22 (codeOf f3) [nx0] (RetQ prog [.tmp 12] n0 K)) =
(cnd (f.r 128)
(retL n0 K f.ds [(Value.bool false)] h)
(aBin prog .add 3 (f.r 20) (vint 1) fun v1 =>
 nx0 (RG.p (RG.p (RG.p f 95 (f.r 20)) 96 v1) 20 v1) h)) := sub_eq pok3 ct3 (by kernel_rfl)
end
end Go.Proofs.YtcmgjbflljmphaaGreatDoor
namespace Go.Proofs.YtcmgjbflljmphaaGreatDoor
open Go.Conc Go.Proofs.Tryz
set_option maxRecDepth 100000
abbrev TrW := Tro × Value
def trC (x : TrW) : List Value := troCells x.1 x.2
theorem w8t {z0 z1 z2 z3 a0 a1 a2 a3 b0 b1 b2 b3 : Value} : wrAt (wrAt (zrep [z0,z1,z2,z3] 2) 0 [a0,a1,a2,a3]) 4 [b0,b1,b2,b3] = [a0,a1,a2,a3,b0,b1,b2,b3] := by kernel_rfl
theorem z8t {z0 z1 z2 z3 : Value} : (zrep [z0,z1,z2,z3] 2).length = 8 := by kernel_rfl
theorem fill8t {x y : TrW} {KL : List Value → Prop} (hx : (trC x).all one = true) (hy : (trC y).all one = true) (hk : KL (trC x ++ trC y)) :
  aFill (zrep [vint 0,vint 0,vint 0,.slice none 0 0] 2) [(0,4,.agg ⟨trC x⟩),(4,4,.agg ⟨trC y⟩)] KL := by
 unfold aFill
 refine ⟨rfl,hx,by rw [z8t]; decide,?_⟩
 unfold aFill
 refine ⟨rfl,hy,by rw [wrAt_length,z8t]; decide,?_⟩
 unfold aFill
 show KL (wrAt (wrAt _ 0 (trC x)) 4 (trC y))
 unfold trC troCells
 rw [w8t]
 exact hk
theorem readWT_few (s : List UInt8) : (readWT s).flocks.length < 1000000 := by
 by_cases h : (readWE s).2 = 0
 ·obtain ⟨_,f,_⟩ := readWE_ok h
  have := f.len
  omega
 ·have : readWT s = tro0 := if_neg h
  rw [this]
  decide
theorem txtT_short {t : Tro} : (txtT t).length ≤ 1000 := by
 unfold txtT
 by_cases h : troE t = 0
 ·rw [if_neg (by omega)]
  have := trough_short (troE_fine h)
  omega
 ·rw [if_pos h]
  decide
section
variable {W0 : World} {Post : Value → World → Prop} {h : List AObj} {K : Value → List AObj → Prop} {n0 : Nat}
theorem addRT {t : TypeId} {x : Value} {a b : Int} {KV : Value → Prop} (hx : x = vint a) (h : -9223372036854775808 ≤ a + b ∧ a + b < 9223372036854775808) (hk : KV (vint (a + b))) : aBin prog .add t x (vint b) KV := by
 subst hx
 exact addI h hk
theorem wtx_5 {H0 : List AObj} {F : RG} {L : List (List UInt8)} {v : Value} (ds : F.ds = []) (r14 : F.r 14 = v) (r20 : F.r 20 = vint (0 : Nat)) (sl : Sli H0 v 1 L.length (L.map strV)) (hL : L.length ≤ 100)
  (fin : ∀ H,Good prog (J1 prog W0 Post) 6 [] H fun v h' => retL n0 K [] [v] h') :
  Sem (J1 prog W0 Post) 130 n0 3 (subC yp4 (codeOf f3)) F H0 (contX pl3 prog (J1 prog W0 Post) 130 n0 3 ct3 yp4 (codeOf f3) [] (RetQ prog [.tmp 12] n0 K)) := by
 have hJ := J1.closed prog W0 Post
 refine l3_10 hJ (fun i : Nat => L.length - i) (fun i f H => SameX [] H0 H ∧ i ≤ L.length ∧ f.ds = [] ∧ f.r 14 = v ∧ f.r 20 = vint (i : Nat)) ?_ (s := 0) (.inl ⟨SameX.refl,Nat.zero_le _,ds,r14,r20⟩)
 rintro i f H ⟨S,hi,ds,r14,r20⟩ ok' hn'
 rw [s3_10]
 simp only [ds,r14,r20]
 have slH := S.sli sl (by simp)
 refine lenI slH (lssI (cndI (fun hlt => ?_) fun hge => fin _))
 obtain ⟨u,hu⟩ : ∃ u,L[i]? = some u := ⟨_,List.getElem?_eq_getElem (by omega)⟩
 have hfew := readWT_few u
 refine wordL (j := i) slH hu fun _ => good12 (s := u) hJ fun H1 fv1 S1 T1 => ext30 (ext31 (ext32 ?_))
 refine qAl fun H2 p2 e2 S2 c2 l2 => qStA (c := troCells (readWT u) fv1) c2 rfl rfl (troC_kn T1).2 fun H3 S3 c3 l3 => hold.2 ?_
 have S13 : SameX [] H1 H3 := S2.thru S3 (by simp; omega)
 have S03 := (S.trans S1).trans S13
 suffices w11 : ∀ {F' : RG},F'.ds = [] → F'.r 14 = v → F'.r 20 = vint (i : Nat) → F'.r 21 = ptr p2 0 → F'.r 22 = vint (readWE u).1 → F'.r 23 = vint (readWE u).2 →
   W prog (J1 prog W0 Post) 130 n0 3 (subC yp27 (codeOf f3)) F' H3 (contX pl3 prog (J1 prog W0 Post) 130 n0 3 ct3 yp27 (codeOf f3) [Nx n0 (fun i : Nat => L.length - i) (fun i f H => SameX [] H0 H ∧ i ≤ L.length ∧ f.ds = [] ∧ f.r 14 = v ∧ f.r 20 = vint (i : Nat)) i] (RetQ prog [.tmp 12] n0 K)) from w11 ds r14 r20 rfl rfl rfl
 intro F' ds r14 r20 r21 r22 r23
 rw [s3_11]
 simp only [r14,r20]
 refine wordL (j := i) (S03.sli sl (by simp)) hu fun _ => good13 (s := u) hJ fun H4 fv2 S4 T2 => ext30 (ext31 (ext32 ?_))
 refine qAl fun H5 p5 e5 S5 c5 l5 => qStA (c := troCells (readWT u) fv2) c5 rfl rfl (troC_kn T2).2 fun H6 S6 c6 l6 => hold.2 ?_
 have S46 : SameX [] H4 H6 := S5.thru S6 (by simp; omega)
 have S36 := S4.trans S46
 have T1' := troAt_same T1 (S13.trans S36) (by simp)
 have T2' := troAt_same T2 S46 (by simp)
 have d3 := S36.get c3 (by simp)
 suffices w12 : ∀ {F' : RG},F'.ds = [] → F'.r 14 = v → F'.r 20 = vint (i : Nat) → F'.r 21 = ptr p2 0 → F'.r 22 = vint (readWE u).1 → F'.r 23 = vint (readWE u).2 → F'.r 24 = ptr p5 0 → F'.r 25 = vint (readWE u).1 → F'.r 26 = vint (readWE u).2 →
   W prog (J1 prog W0 Post) 130 n0 3 (subC yp28 (codeOf f3)) F' H6 (contX pl3 prog (J1 prog W0 Post) 130 n0 3 ct3 yp28 (codeOf f3) [Nx n0 (fun i : Nat => L.length - i) (fun i f H => SameX [] H0 H ∧ i ≤ L.length ∧ f.ds = [] ∧ f.r 14 = v ∧ f.r 20 = vint (i : Nat)) i] (RetQ prog [.tmp 12] n0 K)) from w12 ds r14 r20 r21 r22 r23 rfl rfl rfl
 intro F' ds r14 r20 r21 r22 r23 r24 r25 r26
 rw [s3_12]
 simp only [r21,r22,r23,r24,r25,r26]
 refine neqI (cndI (fun hx => absurd rfl hx) fun _ => neqI (cndI (fun hx => absurd rfl hx) fun _ => ?_))
 refine load_part (b := p2) (c := troCells (readWT u) fv1) d3 (by simp [troCells]) rfl (troC_kn T1').1 (load_part (b := p5) (c := troCells (readWT u) fv2) c6 (by simp [troCells]) rfl (troC_kn T2').1 ?_)
 refine good14 hJ T1' T2' hfew fun H7 S7 => notI (hold.2 ?_)
 rw [s3_13]
 refine cnd_false.2 (addRT r20 (by omega) ⟨i + 1,by dsimp only; omega,.inl ⟨(S03.trans S36).trans S7,by omega,ds,r14,by show vint _ = vint _; congr 1⟩⟩)
def TxW (H0 G : List AObj) (p14 : Nat) (text : List UInt8) (L : List (List UInt8)) (v : Value) : Prop :=
 (L = [text] ∧ v = .slice (some ⟨p14,0,none⟩) 1 1) ∨ ∃ q,OwnX G 1 (L.map strV) L.length v (some q) ∧ H0.length ≤ q
theorem TxW.keep {H0 G G' : List AObj} {p14 : Nat} {text : List UInt8} {L : List (List UInt8)} {v : Value} (a : TxW H0 G p14 text L v) (S : SameX [] G G') : TxW H0 G' p14 text L v :=
 a.imp id fun ⟨q,O,hq⟩ => ⟨q,ownX_keep O S (by simp),hq⟩
theorem TxW.sli {H0 G : List AObj} {p14 : Nat} {text : List UInt8} {L : List (List UInt8)} {v : Value} (a : TxW H0 G p14 text L v) (c : G[p14]? = some (.cells [strV text] true 0)) : Sli G v 1 L.length (L.map strV) := by
 rcases a with ⟨rfl,rfl⟩ | ⟨q,O,_⟩
 ·exact sli_new c rfl rfl
 ·exact ownX_sli O
theorem TxW.app {H0 G : List AObj} {p14 : Nat} {text u : List UInt8} {L : List (List UInt8)} {v y : Value} {KK : Value → List AObj → Prop} (a : TxW H0 G p14 text L v) (S : SameX [] H0 G) (c : G[p14]? = some (.cells [strV text] true 0)) (hl : L.length < 1000) (hy : Sli G y 1 1 [strV u])
  (hk : ∀ v' G',SameX [] H0 G' → TxW H0 G' p14 text (L ++ [u]) v' → KK v' G') : aApp 1 v y G KK := by
 rcases a with ⟨rfl,rfl⟩ | ⟨q,O,hq⟩
 ·refine app_copy (cs := [strV text]) c (by simp) rfl (by omega) (by omega) hy (by decide) ?_
  have e : (G ++ [AObj.cells ((([strV text] : List Value).drop 0).take (1 * 1) ++ [strV u]) true 1])[G.length]? = some (.cells [strV text,strV u] true 1) := by simp
  refine hk _ _ S.app (.inr ⟨G.length,⟨rfl,rfl,.inr ⟨G.length,fz,1,rfl,rfl,e,.inl ⟨rfl,rfl⟩⟩⟩,S.1⟩)
 ·refine ownX_more O (by omega) (by omega) hy fun v' G' p' e' O' S' => hk v' G' (S.thru S' (by simp; omega)) (.inr ⟨p',by simpa using O',by have := S.1; omega⟩)
theorem wtx_4 {H0 G : List AObj} {F : RG} {p14 : Nat} {text u : List UInt8} {L : List (List UInt8)} {v : Value} {i : Nat} {I : Nat → RG → List AObj → Prop} (S : SameX [] H0 G) (a : TxW H0 G p14 text L v) (c : G[p14]? = some (.cells [strV text] true 0)) (hl : L.length < 1000) (hi : i < 3)
  (ds : F.ds = []) (r3 : ∀ {F'} v' G',F'.ds = [] → F'.r 3 = F.r 3 → F'.r 4 = F.r 4 → F'.r 5 = F.r 5 → F'.r 13 = F.r 13 → F'.r 14 = v' → F'.r 15 = vint ((i + 1 : Nat) : Int) → SameX [] H0 G' → TxW H0 G' p14 text (L ++ [u]) v' → I (i + 1) F' G') (r14 : F.r 14 = v) (r15 : F.r 15 = vint (i : Nat)) (r18 : F.r 18 = strV u) (r76 : F.r 76 = .bool false) :
  W prog (J1 prog W0 Post) 130 n0 3 (subC yp21 (codeOf f3)) F G (contX pl3 prog (J1 prog W0 Post) 130 n0 3 ct3 yp21 (codeOf f3) [Nx n0 (fun i : Nat => 3 - i) I i] (RetQ prog [.tmp 12] n0 K)) := by
 rw [s3_9]
 simp only [r14,r15,r18,r76]
 refine cnd_false.2 ⟨⟨by decide,by decide,rfl⟩,fillO (l := [strV u]) rfl rfl rfl (by decide) (fillI (qNew fun G1 p1 e1 S1 c1 l1 => ⟨⟨rfl,by decide,by decide,by decide⟩,?_⟩))⟩
 have c1 : G1[p1]? = some (.cells [strV u] true 0) := c1
 refine (a.keep S1).app (S.trans S1) (S1.get c (by simp)) hl (sli_new (n := 1) (c := 1) c1 rfl rfl) fun v' G' S' a' => addI (by omega) ⟨i + 1,by dsimp only; omega,.inl (r3 v' G' ds rfl rfl rfl rfl rfl rfl S' a')⟩
theorem wtx_3 {H0 : List AObj} {F : RG} {x y : TrW} {text : List UInt8} {p13 p14 : Nat} {at_ how : Int} {b : UInt8} (ds : F.ds = []) (r3 : F.r 3 = vint at_) (r4 : F.r 4 = vint how) (r5 : F.r 5 = bV b)
  (r13 : F.r 13 = .slice (some ⟨p13,0,none⟩) 2 2) (r14 : F.r 14 = .slice (some ⟨p14,0,none⟩) 1 1) (r15 : F.r 15 = vint (0 : Nat)) (c13 : H0[p13]? = some (.cells (trC x ++ trC y) true 0)) (c14 : H0[p14]? = some (.cells [strV text] true 0))
  (hx : TroAt H0 (.agg ⟨trC x⟩) x.1 x.2) (hy : TroAt H0 (.agg ⟨trC y⟩) y.1 y.2) (hxf : x.1.flocks.length ≤ 1000) (hyf : y.1.flocks.length ≤ 1000)
  (fin : ∀ H,Good prog (J1 prog W0 Post) 6 [] H fun v h' => retL n0 K [] [v] h') :
  Sem (J1 prog W0 Post) 130 n0 3 (subC yp0 (codeOf f3)) F H0 (contX pl3 prog (J1 prog W0 Post) 130 n0 3 ct3 yp0 (codeOf f3) [] (RetQ prog [.tmp 12] n0 K)) := by
 have hJ := J1.closed prog W0 Post
 refine l3_4 hJ (fun i : Nat => 3 - i) (fun i f G => ∃ L v,SameX [] H0 G ∧ i ≤ 2 ∧ f.ds = [] ∧ f.r 3 = vint at_ ∧ f.r 4 = vint how ∧ f.r 5 = bV b ∧ f.r 13 = .slice (some ⟨p13,0,none⟩) 2 2 ∧ f.r 14 = v ∧ f.r 15 = vint (i : Nat) ∧ L.length = i + 1 ∧ TxW H0 G p14 text L v ∧ ∀ u,L[2]? = some u → u.length ≤ 1000) ?_ (s := 0)
  (.inl ⟨[text],_,SameX.refl,by omega,ds,r3,r4,r5,r13,r14,r15,rfl,.inl ⟨rfl,rfl⟩,fun u hu => by cases hu⟩)
 rintro i f G ⟨L,v,S,hi,ds,r3,r4,r5,r13,r14,r15,hL,a,hL2⟩ ok' hn'
 rw [s3_4]
 simp only [r13,r15]
 have cG := S.get c14 (by simp)
 refine lenSl (lssI (cndI (fun hlt => ?_) fun hge => hold.2 ?_))
 ·have hi2 : i < 2 := by omega
  obtain ⟨z,hz,hzx,hzf⟩ : ∃ z : TrW,((∀ {G' : List AObj} {KI : Value → Value → Prop},SameX [] H0 G' → (∀ p,KI p (.agg ⟨trC z⟩)) → aIdx 4 (.slice (some ⟨p13,0,none⟩) 2 2) (vint (i : Nat)) fun v => aLoad true 4 v G' (KI v))) ∧ TroAt H0 (.agg ⟨trC z⟩) z.1 z.2 ∧ z.1.flocks.length ≤ 1000 := by
   rcases (by omega : i = 0 ∨ i = 1) with rfl | rfl
   ·exact ⟨x,fun S' hk => idxI ⟨by decide,by decide⟩ (load_part (c := trC x) (S'.get c13 (by simp)) (by simp [trC,troCells]) rfl (troC_kn hx).1 (hk _)),hx,hxf⟩
   ·exact ⟨y,fun S' hk => idxI ⟨by decide,by decide⟩ (load_part (c := trC y) (S'.get c13 (by simp)) (by simp [trC,troCells]) rfl (troC_kn hy).1 (hk _)),hy,hyf⟩
  refine hz S fun _ => good9t hJ (troAt_same hzx S (by simp)) fun G1 S1 => ext0 (ext1 (hold.2 ?_))
  have S01 := S.trans S1
  suffices w5 : ∀ {F' : RG},F'.ds = [] → F'.r 3 = vint at_ → F'.r 4 = vint how → F'.r 5 = bV b → F'.r 13 = .slice (some ⟨p13,0,none⟩) 2 2 → F'.r 14 = v → F'.r 15 = vint (i : Nat) → F'.r 16 = strV (txtT z.1) → F'.r 17 = vint (troE z.1) →
    W prog (J1 prog W0 Post) 130 n0 3 (subC yp5 (codeOf f3)) F' G1 (contX pl3 prog (J1 prog W0 Post) 130 n0 3 ct3 yp5 (codeOf f3) [Nx n0 (fun i : Nat => 3 - i) (fun i f G => ∃ L v,SameX [] H0 G ∧ i ≤ 2 ∧ f.ds = [] ∧ f.r 3 = vint at_ ∧ f.r 4 = vint how ∧ f.r 5 = bV b ∧ f.r 13 = .slice (some ⟨p13,0,none⟩) 2 2 ∧ f.r 14 = v ∧ f.r 15 = vint (i : Nat) ∧ L.length = i + 1 ∧ TxW H0 G p14 text L v ∧ ∀ u,L[2]? = some u → u.length ≤ 1000) i] (RetQ prog [.tmp 12] n0 K)) from w5 ds r3 r4 r5 r13 r14 r15 rfl rfl
  intro F' ds r3 r4 r5 r13 r14 r15 r16 r17
  rw [s3_5]
  simp only [r13,r15]
  refine hz S01 fun _ => good10 hJ (troAt_same hzx S01 (by simp)) (by omega) fun G2 S2 => ext0 (ext1 (hold.2 ?_))
  have S02 := S01.trans S2
  have cG2 := S02.get c14 (by simp)
  have a2 := (a.keep S1).keep S2
  suffices w7 : ∀ {F' : RG},F'.ds = [] → F'.r 3 = vint at_ → F'.r 4 = vint how → F'.r 5 = bV b → F'.r 13 = .slice (some ⟨p13,0,none⟩) 2 2 → F'.r 14 = v → F'.r 15 = vint (i : Nat) → F'.r 16 = strV (txtT z.1) → F'.r 17 = vint (troE z.1) → F'.r 18 = strV (txtT z.1) → F'.r 19 = vint (troE z.1) →
    W prog (J1 prog W0 Post) 130 n0 3 (subC yp26 (codeOf f3)) F' G2 (contX pl3 prog (J1 prog W0 Post) 130 n0 3 ct3 yp26 (codeOf f3) [Nx n0 (fun i : Nat => 3 - i) (fun i f G => ∃ L v,SameX [] H0 G ∧ i ≤ 2 ∧ f.ds = [] ∧ f.r 3 = vint at_ ∧ f.r 4 = vint how ∧ f.r 5 = bV b ∧ f.r 13 = .slice (some ⟨p13,0,none⟩) 2 2 ∧ f.r 14 = v ∧ f.r 15 = vint (i : Nat) ∧ L.length = i + 1 ∧ TxW H0 G p14 text L v ∧ ∀ u,L[2]? = some u → u.length ≤ 1000) i] (RetQ prog [.tmp 12] n0 K)) from w7 ds r3 r4 r5 r13 r14 r15 r16 r17 rfl rfl
  intro F' ds r3 r4 r5 r13 r14 r15 r16 r17 r18 r19
  rw [s3_7]
  simp only [r16,r17,r18,r19]
  refine neS (cndI (fun h => absurd rfl h) fun _ => neqI (hold.2 ?_))
  refine wtx_4 (u := txtT z.1) S02 a2 cG2 (by omega) (by omega) ds (fun v' G' d3 d4 d5 d6 d7 d8 d9 S' a' => ⟨L ++ [txtT z.1],v',S',by omega,d3,d4.trans r3,d5.trans r4,d6.trans r5,d7.trans r13,d8,d9,by simp; omega,a',fun u hu => ?_⟩) r14 r15 r18 (by
   show Value.bool (decide (troE z.1 ≠ troE z.1)) = _
   simp)
  rcases (by omega : i = 0 ∨ i = 1) with rfl | rfl
  ·rw [List.getElem?_eq_none (by simp; omega)] at hu
   cases hu
  ·rw [List.getElem?_append_right (by omega),hL] at hu
   have : txtT z.1 = u := by simpa using hu
   rw [← this]
   exact txtT_short
 ·have hi2 : i = 2 := by omega
  subst hi2
  obtain ⟨u,hu⟩ : ∃ u,L[2]? = some u := ⟨_,List.getElem?_eq_getElem (by omega)⟩
  suffices w6 : ∀ {F' : RG},F'.ds = [] → F'.r 3 = vint at_ → F'.r 4 = vint how → F'.r 5 = bV b → F'.r 14 = v →
    W prog (J1 prog W0 Post) 130 n0 3 (subC [1,1,1,1] (codeOf f3)) F' G (contX pl3 prog (J1 prog W0 Post) 130 n0 3 ct3 [1,1,1,1] (codeOf f3) [] (RetQ prog [.tmp 12] n0 K)) from w6 ds r3 r4 r5 r14
  intro F' ds r3 r4 r5 r14
  rw [s3_6]
  simp only [r3,r4,r5,r14]
  refine wordL (j := 2) (a.sli cG) hu fun _ => ?_
  refine good11 hJ (hL2 u hu) fun w G1 hw S1 => ?_
  refine ⟨⟨by decide,by decide,rfl⟩,fillO (l := [strV w]) rfl rfl rfl (by decide) (fillI (qNew fun G2 p2 e2 S2 c2 l2 => ⟨⟨rfl,by decide,by decide,by decide⟩,?_⟩))⟩
  have c2 : G2[p2]? = some (.cells [strV w] true 0) := c2
  have S02 := (S.trans S1).trans S2
  refine ((a.keep S1).keep S2).app S02 (S02.get c14 (by simp)) (by omega) (sli_new (n := 1) (c := 1) c2 rfl rfl) fun v' G' S' a' => hold.2 ?_
  rw [s3_8]
  exact wtx_5 ds rfl rfl (a'.sli (S'.get c14 (by simp))) (by simp; omega) fin
set_option maxHeartbeats 1000000 in
theorem walk3 {tv fv nv : Value} {t : Tro} {ns : List Int} {text : List UInt8} {at_ how : Int} {b : UInt8} (ht : TroAt h tv t fv) (sn : Sli h nv 1 ns.length (ns.map vint)) (hln : ns.length < 4611686018427387904) (hK : ∀ h',K (.bool true) h') :
  W prog (J1 prog W0 Post) 130 h.length 3 (codeOf f3) (RG.mk (regs [tv,strV text,nv,vint at_,vint how,bV b]) []) h (RetQ prog [.tmp 12] h.length K) := by
 have hJ := J1.closed prog W0 Post
 rw [e3,ht.val]
 have fin : ∀ {n0 : Nat} (H : List AObj),Good prog (J1 prog W0 Post) 6 [] H fun v h' => retL n0 K [] [v] h' := fun H => good6 fun H' => retL_same (by simp [unk]) (hK H')
 refine qBox (tro_one ht) fun H1 p1 e1 S1 c1 l1 => ?_
 have T1 : TroAt H1 (.agg ⟨troCells t fv⟩) t fv := ⟨rfl,S1.sli ht.fl (by simp)⟩
 obtain ⟨kt,one1⟩ := troC_kn T1
 refine load_part (c := troCells t fv) c1 (by simp [troCells]) rfl kt (good5 hJ (r := []) T1 (ownX_sli ownX_nil) fun H2 S2 => ?_)
 have S02 := S1.trans S2
 have c2 := S2.get c1 (by simp)
 have T2 := troAt_same T1 S2 (by simp)
 have lp1 := lt_of_get c2
 have go : ∀ {F : RG} {q : Bool},F.ds = [] → F.r 1 = strV text → F.r 2 = nv → F.r 3 = vint at_ → F.r 4 = vint how → F.r 5 = bV b → F.r 6 = ptr p1 0 → F.r 38 = .bool q → (q = false → t.flocks.length ≤ 20) → W prog (J1 prog W0 Post) 130 h.length 3 (subC [1,0,1] (codeOf f3)) F H2 (contX pl3 prog (J1 prog W0 Post) 130 h.length 3 ct3 [1,0,1] (codeOf f3) [] (RetQ prog [.tmp 12] h.length K)) := fun {F q} ds r1 r2 r3 r4 r5 r6 r38 hq => by
  rw [s3_1]
  simp only [ds,r38]
  cases q with
  | true => exact cnd_true.2 (fin _)
  | false =>
   have hfl := hq rfl
   refine cnd_false.2 (hold.2 ?_)
   rw [s3_2]
   simp only [r1,r2,r6]
   have sbq : ∀ {H' : List AObj},SameX [] H2 H' → SameB (some [p1]) H2 H' := fun S y hy => by
    have : y = p1 := by simpa using hy
    subst this
    exact S.2 _ lp1 (by simp)
   have leaf : ∀ {F' : RG} {Hn : List AObj} {p13 p14 : Nat} {t2 : Tro} {fv2 : Value},F'.ds = [] → F'.r 3 = vint at_ → F'.r 4 = vint how → F'.r 5 = bV b → F'.r 13 = .slice (some ⟨p13,0,none⟩) 2 2 → F'.r 14 = .slice (some ⟨p14,0,none⟩) 1 1 → SameX [] H2 Hn → TroOk 3 40 t2 → TroAt Hn (.agg ⟨troCells t2 fv2⟩) t2 fv2 → Hn[p13]? = some (.cells (trC (t,fv) ++ trC (t2,fv2)) true 0) → Hn[p14]? = some (.cells [strV text] true 0) →
     W prog (J1 prog W0 Post) 130 h.length 3 (subC [1,1,1] (codeOf f3)) F' Hn (contX pl3 prog (J1 prog W0 Post) 130 h.length 3 ct3 [1,1,1] (codeOf f3) [] (RetQ prog [.tmp 12] h.length K)) :=
    fun {F' Hn p13 p14 t2 fv2} ds r3 r4 r5 r13 r14 Sn Tk T3 c13 c14 => by
     rw [s3_3]
     exact wtx_3 (x := (t,fv)) (y := (t2,fv2)) ds r3 r4 r5 r13 r14 rfl c13 c14 (troAt_same T2 Sn (by simp)) T3 (by show t.flocks.length ≤ 1000; omega) (by have := Tk.len; show t2.flocks.length ≤ 1000; omega) fin
   refine ⟨[p1],load_part (c := troCells t fv) c2 (by simp [troCells]) rfl kt ⟨by simp [RdOk,ptr,ptrBlk],?_,?_⟩⟩
   ·refine newX hJ (S02.sli sn (by simp)) hln fun H3 a3 => ⟨sbq a3.pre,?_,?_⟩
    ·refine good7 hJ a3 (by omega) (F := 3) (B := 40) (by decide) (by decide) fun t2 fv2 o H4 Tk S4 a4 O4 => ⟨sbq a4.pre,?_,?_⟩
     ·have one2 := (troC_kn O4.at).2
      refine ⟨⟨by decide,by decide,rfl⟩,fill8t (x := (t,fv)) (y := (t2,fv2)) one1 one2 (qNew fun H5 p5 e5 S5 c5 l5 => ?_)⟩
      refine ⟨⟨by decide,by decide,rfl⟩,fillO (l := [strV text]) rfl rfl rfl (by decide) (fillI (qNew fun H6 p6 e6 S6 c6 l6 => ⟨sbq ((a4.pre.trans S5).trans S6),hold.2 ?_⟩))⟩
      exact leaf ds r3 r4 r5 rfl rfl ((a4.pre.trans S5).trans S6) Tk (troAt_same O4.at (S5.trans S6) (by simp)) (S6.get c5 (by simp)) c6
     ·have one2 := (troC_kn O4.at).2
      refine ⟨⟨by decide,by decide,rfl⟩,fillO (l := [strV text]) rfl rfl rfl (by decide) (fillI (qNew fun H5 p5 e5 S5 c5 l5 => ⟨sbq (a4.pre.trans S5),?_⟩))⟩
      refine ⟨⟨by decide,by decide,rfl⟩,fill8t (x := (t,fv)) (y := (t2,fv2)) one1 one2 (qNew fun H6 p6 e6 S6 c6 l6 => hold.2 ?_)⟩
      exact leaf ds r3 r4 r5 rfl rfl ((a4.pre.trans S5).trans S6) Tk (troAt_same O4.at (S5.trans S6) (by simp)) c6 (S6.get c5 (by simp))
    ·refine ⟨⟨by decide,by decide,rfl⟩,fillO (l := [strV text]) rfl rfl rfl (by decide) (fillI (qNew fun H4 p4 e4 S4 c4 l4 => ⟨sbq (a3.pre.trans S4),?_⟩))⟩
     have a4 : HX H2 H4 ns 0 := a3.same S4 (by simp)
     refine good7 hJ a4 (by omega) (F := 3) (B := 40) (by decide) (by decide) fun t2 fv2 o H5 Tk S5 a5 O5 => ⟨sbq a5.pre,?_⟩
     have one2 := (troC_kn O5.at).2
     refine ⟨⟨by decide,by decide,rfl⟩,fill8t (x := (t,fv)) (y := (t2,fv2)) one1 one2 (qNew fun H6 p6 e6 S6 c6 l6 => hold.2 ?_)⟩
     exact leaf ds r3 r4 r5 rfl rfl (a5.pre.trans S6) Tk (troAt_same O5.at S6 (by simp)) c6 (S6.get (S5.get c4 (by have := a3.lt; simp; omega)) (by simp))
   ·refine ⟨⟨by decide,by decide,rfl⟩,fillO (l := [strV text]) rfl rfl rfl (by decide) (fillI (qNew fun H3 p3 e3 S3 c3 l3 => ⟨sbq S3,?_⟩))⟩
    refine newX hJ ((S02.trans S3).sli sn (by simp)) hln fun H4 a4 => ⟨sbq (S3.trans a4.pre),?_⟩
    refine good7 hJ a4 (by omega) (F := 3) (B := 40) (by decide) (by decide) fun t2 fv2 o H5 Tk S5 a5 O5 => ⟨sbq (S3.trans a5.pre),?_⟩
    have one2 := (troC_kn O5.at).2
    refine ⟨⟨by decide,by decide,rfl⟩,fill8t (x := (t,fv)) (y := (t2,fv2)) one1 one2 (qNew fun H6 p6 e6 S6 c6 l6 => hold.2 ?_)⟩
    exact leaf ds r3 r4 r5 rfl rfl ((S3.trans a5.pre).trans S6) Tk (troAt_same O5.at S6 (by simp)) c6 (S6.get (a5.pre.get c3 (by simp)) (by simp))
 refine cndI (fun h1 => hold.2 (go (q := true) rfl rfl rfl rfl rfl rfl rfl rfl fun h => by cases h)) fun h1 => ?_
 have hfl : t.flocks.length ≤ 20 := by simp at h1; omega
 refine lenStr (gtrI (cndI (fun h2 => lenStr (leqI (hold.2 (go rfl rfl rfl rfl rfl rfl rfl rfl fun _ => hfl)))) fun h2 => hold.2 (go rfl rfl rfl rfl rfl rfl rfl rfl fun _ => hfl)))
end
end Go.Proofs.YtcmgjbflljmphaaGreatDoor
namespace Go.Proofs.YtcmgjbflljmphaaGreatDoor
open Go.Conc Go.RowKit
def idEnv : Env := ⟨fun b => b,fun _ => 0⟩
def startFt (w : World) : Foot := ⟨fun b => b < w.heap.size,fun _ => False,0⟩
def startFC (w : World) : Frm := ⟨fun b => w.heap[b]?,fun _ => False⟩
def Fine (n : Nat) (v : Value) : Prop := VOk n v ∧ one v = true ∧ ren idEnv v = v
open Classical in
noncomputable def clean (n : Nat) (v : Value) : Value := if Fine n v then v else unk
noncomputable def absO (n : Nat) : Obj → AObj
 | .cells c _ _ => .cells (c.toList.map (clean n)) false 0
 | _ => .dead
noncomputable def absH (w : World) : List AObj := w.heap.toList.map (absO w.heap.size)
section
variable {w w' : World} {n : Nat}
theorem clean_fine {v : Value} (h : Fine n v) : clean n v = v := by simp [clean,h]
theorem absH_len : (absH w).length = w.heap.size := by simp [absH]
theorem absH_get {b : Nat} : (absH w)[b]? = (w.heap[b]?).map (absO w.heap.size) := by simp [absH]
theorem absO_wrt (x : Obj) : (absO n x).wrt = false := by cases x <;> rfl
theorem start_rel (w : World) : HRel idEnv (absH w) (startFC w) w (startFt w) where
 obj := fun b o hb => by
  rw [absH_get] at hb
  obtain ⟨x,hx,rfl⟩ := Option.map_eq_some_iff.1 hb
  show ORel (absH w).length idEnv b (absO w.heap.size x) w.heap[b]?
  rw [absH_len,hx]
  cases x with
  | cells c ty fr =>
   refine ⟨fun i v hv => ?_,fun _ => by simp,fun hz => absurd rfl hz,fun e => by cases e⟩
   rw [List.getElem?_map] at hv
   obtain ⟨u,hu,rfl⟩ := Option.map_eq_some_iff.1 hv
   by_cases hf : Fine w.heap.size u
   ·rw [clean_fine hf]
    exact .inr ⟨hf.1,hf.2.1,by rw [hf.2.2]; simpa using hu⟩
   ·exact .inl ⟨by simp [clean,hf],rfl⟩
  | _ => trivial
 inj := fun b b' o o' _ _ _ _ _ e => e
 rd := fun b o hb _ => by
  have : b < (absH w).length := (List.getElem?_eq_some_iff.1 hb).1
  rw [absH_len] at this
  exact this
 wr := fun b o hb hw => by
  rw [absH_get] at hb
  obtain ⟨x,hx,rfl⟩ := Option.map_eq_some_iff.1 hb
  rw [absO_wrt] at hw
  cases hw
 lt := fun b hb => hb
 sub := fun b hb => hb.elim
 kept := fun b o hb => by
  refine ⟨hb,?_,fun a oa ha hw => ?_⟩
  ·exact (Array.getElem?_eq_some_iff.1 hb).1
  ·rw [absH_get] at ha
   obtain ⟨x,hx,rfl⟩ := Option.map_eq_some_iff.1 ha
   rw [absO_wrt] at hw
   cases hw
 keptW := fun b hb => hb.elim
 tag := fun b x hb => by
  rw [absH_get] at hb
  obtain ⟨y,_,e⟩ := Option.map_eq_some_iff.1 hb
  cases y <;> cases e
theorem absH_cell {b o : Nat} {v : Value} (hc : w.cell? ⟨b,o,none⟩ = some v) (hf : Fine w.heap.size v) : ∃ c,(absH w)[b]? = some (.cells c false 0) ∧ c[o]? = some v := by
 unfold World.cell? at hc
 simp only at hc
 split at hc
 ·rename_i c ty fr hx
  refine ⟨c.toList.map (clean w.heap.size),by rw [absH_get,hx]; rfl,?_⟩
  have hc' : c[o]? = some v := by simpa using hc
  rw [List.getElem?_map,Array.getElem?_toList,hc']
  simp [clean_fine hf]
 ·cases hc
theorem below_of {ρ' : Env} {h' : List AObj} {ft' : Foot} (H : HRel ρ' h' (startFC w) w' ft') (B : Base w w') : Below w.heap.size w w' :=
 ⟨B.os,B.tape,B.output,B.size,fun k hk => by
  have : (startFC w).ob k = some w.heap[k] := by simp [startFC,hk]
  rw [(H.kept k _ this).1,Array.getElem?_eq_getElem hk]⟩
end
end Go.Proofs.YtcmgjbflljmphaaGreatDoor
namespace Go.Proofs.YtcmgjbflljmphaaGreatDoor
open Go.Conc Go.ChangeShapes Go.WideShapes Go.ChangeAt Go.RowKit Go.Proofs.Tryz
set_option maxRecDepth 100000
theorem own : ownKnob prog.godebug = none := by kernel_rfl
theorem laidOut : laidOutB prog = true := by kernel_rfl
def ArgOk (W : World) (v : Value) : Prop := VOk W.heap.size v ∧ ren idEnv v = v
theorem law_run1 {g : FuncId} {fn : Func} {c : Code} (hf : prog.funcs[g]? = some fn) (hb : fn.body = some c) (hin : prog.inits.idxOf? g = none) (W₀ : World) (args : List Value) (ha : args.length ≤ fn.ntmps) (hok : ∀ v ∈ args,ArgOk W₀ v)
  (walk : ∀ Post,W prog (J1 prog W₀ Post) fn.ntmps (absH W₀).length g c ⟨regs args,[]⟩ (absH W₀) (RetQ prog fn.results.toList (absH W₀).length fun v _ => v = .bool true)) :
  Ends prog (fun v w' => v = .bool true ∧ Below W₀.heap.size W₀ w') (solo (G (Frame.enter prog g ⟨args⟩ .normal) []) W₀) #[] := by
 refine run_of_J1 (W0 := W₀) (ft := startFt W₀) (top_of_W mixed hf hb hin ha rfl (fun i => ?_) (start_rel W₀) (walk _) ?_) (fun b hb => hb) (fun b hb => hb.elim) rfl
 ·show VRel (absH W₀).length idEnv (args.getD i unk) (args.getD i undef)
  simp only [List.getD_eq_getElem?_getD]
  cases hi : args[i]? with
  | none => exact .inl rfl
  | some v =>
   obtain ⟨h1,h2⟩ := hok v (List.mem_of_getElem? hi)
   exact .inr ⟨by rw [absH_len]; exact h1,h2.symm⟩
 ·intro v h' ρ' w' ft' cv hv H' _ _ hcv hB
  subst hv
  refine ⟨?_,below_of H' hB⟩
  rcases hcv with e | ⟨_,e⟩
  ·cases e
  ·rw [e]
   rfl
theorem argOk_int {W : World} {k : IntKind} {n : Int} : ArgOk W (.int k n) := ⟨by simp [VOk],by simp [ren]⟩
section
variable {H : Type} {enc : TypeId × Value → H}
theorem arg_ints {t e : TypeId} (ht : prog.underlying t = some (.slice e)) (he : prog.underlying e = some (.int .i64)) (hc : prog.cellsOf e = 1) {W : World} {base : Nat} {v : Value} {d : DataW H} {ps : List MemPlace}
  (hval : Value.okWide prog W .any base t v) (hd : DataW.Trod enc prog W 0 (fun _ => true) true t v d ps) :
  ∃ zs : List Int,Sli (absH W) v 1 zs.length (zs.map vint) ∧ ArgOk W v ∧ (zs = [] ∨ ∃ es sp,d = .slice es sp ∧ zs.length ≤ es.length + sp.length) := by
 obtain ⟨a0,len,cap,rfl⟩ := okWide_slice ht hval
 obtain ⟨fuel,hf⟩ := hd
 rcases open_ints ht he hc hf with ⟨hcs,hx⟩ | ⟨a,len',cap',zs,hcs,_,hl,hm,hz,hx,hcell,hwz⟩
 ·simp [Value.cells] at hcs
  obtain ⟨rfl,rfl,rfl⟩ := hcs
  exact ⟨[],sli_nil,⟨by simp [VOk],by simp [ren]⟩,.inl rfl⟩
 ·simp [Value.cells] at hcs
  obtain ⟨rfl,rfl,rfl⟩ := hcs
  simp only [Prod.mk.injEq] at hx
  obtain ⟨rfl,rfl⟩ := hx
  simp only [if_true] at hz
  simp only [Value.okWide,ht,Cell.okWide,Cell.ok,World.has] at hval
  obtain ⟨_,_,_,hspot,row,cells,hshape,_⟩ := hval
  obtain ⟨b,o,spot⟩ := a
  simp only at hspot hshape
  subst hspot
  have hb : b < W.heap.size := by
   unfold World.shape? at hshape
   split at hshape
   ·rename_i h
    exact (Array.getElem?_eq_some_iff.1 h).1
   ·cases hshape
  have hlen : (zs.take len).length = len := by simp; omega
  have hcell' : ∀ i,i < zs.length → W.cell? ⟨b,o + i,none⟩ = some (vint (zs.getD i 0)) := by
   intro i hi
   have := hcell i hi
   unfold Addr.add at this
   by_cases h0 : i = 0
   ·subst h0; simpa using this
   ·simpa [h0] using this
  have hmax : cap < fz := by
   simp only [maxLen] at hm
   unfold fz
   omega
  refine ⟨zs.take len,?_,⟨by simp only [VOk,AddrOk]; exact ⟨hb,trivial⟩,?_⟩,.inr ⟨_,_,rfl,?_⟩⟩
  ·refine ⟨some ⟨b,o,none⟩,cap,by rw [hlen],⟨by simp,kn_ints _⟩,.inr ⟨b,o,rfl,?_⟩⟩
   rw [hlen]
   by_cases h0 : len = 0
   ·exact .inl h0
   ·right
    have fine : ∀ n : Int,Fine W.heap.size (vint n) := fun n => ⟨by simp [VOk],rfl,by simp [ren]⟩
    obtain ⟨c,hc1,hc2⟩ := absH_cell (hcell' 0 (by omega)) (fine _)
    refine ⟨c,false,0,hc1,?_⟩
    apply List.ext_getElem?
    intro i
    rw [Nat.mul_one]
    by_cases hi : i < len
    ·obtain ⟨c',hc1',hc2'⟩ := absH_cell (hcell' i (by omega)) (fine _)
     rw [hc1] at hc1'
     cases hc1'
     rw [List.getElem?_take,if_pos hi,List.getElem?_drop,hc2']
     have hzi : i < zs.length := by omega
     simp [hi,hzi]
    ·rw [List.getElem?_take,if_neg hi,List.getElem?_eq_none (by simp; omega)]
  ·have hnf : ¬ fz ≤ cap := by omega
   simp [ren,renAddr,renCap,idEnv,hnf]
  ·simp only [lits,List.length_map,List.length_take,List.length_drop]
   omega
end
theorem flat_get {α : Type} {enc : α → List Value} {s : Nat} (hen : ∀ x,(enc x).length = s) (xs : List α) {i j : Nat} (hi : i < xs.length) (hj : j < s) : (xs.flatMap enc)[i * s + j]? = (enc xs[i])[j]? := by
 have := flat_take hen xs i hi
 rw [← this,List.getElem?_take,if_pos hj,List.getElem?_drop]
theorem flat_len {α : Type} {enc : α → List Value} {s : Nat} (hen : ∀ x,(enc x).length = s) : ∀ xs : List α,(xs.flatMap enc).length = xs.length * s
 | [] => by simp
 | x :: xs => by rw [List.flatMap_cons,List.length_append,flat_len hen xs,hen,List.length_cons,Nat.succ_mul]; omega
theorem flat_kn {α : Type} {enc : α → List Value} (hk : ∀ x,kn (enc x) = true) : ∀ xs : List α,kn (xs.flatMap enc) = true
 | [] => rfl
 | x :: xs => by
  have h1 := hk x
  have h2 := flat_kn hk xs
  unfold kn at *
  rw [List.flatMap_cons,List.all_append,h1,h2]
  rfl
theorem trodAll_cons {H : Type} {enc : TypeId × Value → H} {P : Program} {w : World} {base : Nat} {spare : Nat → Bool} {held : Bool} {t : TypeId} {ts : List TypeId} {vs : List Value} {ds : List (DataW H)} {ps : List MemPlace}
  (h : DataW.TrodAll enc P w base spare held (t :: ts) vs ds ps) : ∃ v vs' d ds' p q,vs = v :: vs' ∧ ds = d :: ds' ∧ ps = p ++ q ∧ DataW.Trod enc P w base spare held t v d p ∧ DataW.TrodAll enc P w base spare held ts vs' ds' q := by
 match vs,ds,h with
 | v :: vs,d :: ds,⟨p,q,h1,h2,h3⟩ => exact ⟨v,vs,d,ds,p,q,rfl,rfl,h3,h1,h2⟩
theorem trodAll_nil {H : Type} {enc : TypeId × Value → H} {P : Program} {w : World} {base : Nat} {spare : Nat → Bool} {held : Bool} {vs : List Value} {ds : List (DataW H)} {ps : List MemPlace}
  (h : DataW.TrodAll enc P w base spare held [] vs ds ps) : vs = [] ∧ ds = [] ∧ ps = [] := by
 match vs,ds,h with
 | [],[],h => exact ⟨rfl,rfl,h⟩
theorem trodAll_mkc {H : Type} {enc : TypeId × Value → H} {P : Program} {w : World} {base : Nat} {spare : Nat → Bool} {held : Bool} {t : TypeId} {ts : List TypeId} {v : Value} {vs : List Value} {d : DataW H} {ds : List (DataW H)} {p q : List MemPlace}
 (h1 : DataW.Trod enc P w base spare held t v d p) (h2 : DataW.TrodAll enc P w base spare held ts vs ds q) : DataW.TrodAll enc P w base spare held (t :: ts) (v :: vs) (d :: ds) (p ++ q) := ⟨p,q,h1,h2,rfl⟩
section
variable {H : Type} {enc : TypeId × Value → H}
theorem arg_sliE {α : Type} [Inhabited α] {encE : α → List Value} {t e : TypeId} {s : Nat} (ht : prog.underlying t = some (.slice e)) (hc : prog.cellsOf e = s) (hs : 0 < s) {W : World} {base n : Nat} {v : Value} {x : DataW H × List MemPlace}
  (hlen : ∀ x,(encE x).length = s) (hkn : ∀ x,kn (encE x) = true) (hfine : ∀ x,∀ y ∈ encE x,∀ m,Fine m y)
  (dec : ∀ n cs r,DataW.trod enc prog W 0 (fun _ => true) true n e cs = some r → ∃ x,cs = encE x)
  (hval : Cell.okWide prog W .any base t v) (hf : DataW.trod enc prog W 0 (fun _ => true) true n t v.cells.toList = some x) :
  ∃ xs : List α,SliE (absH W) v s encE xs ∧ ArgOk W v := by
 have hval' : Value.okWide prog W .any base t v := by
  unfold Value.okWide
  rw [ht]
  exact hval
 obtain ⟨a0,len0,cap0,rfl⟩ := okWide_slice ht hval'
 clear hval'
 rcases Deep.open_slice ht hf with ⟨hcs,hx⟩ | ⟨a,len,cap,m,n',D,Pl,hcs,_,hl,hm,hmm,hx,hel⟩
 ·simp [Value.cells] at hcs
  obtain ⟨rfl,rfl,rfl⟩ := hcs
  exact ⟨[],⟨none,0,rfl,⟨by simp,rfl⟩,.inl ⟨rfl,rfl⟩⟩,⟨by simp [VOk],by simp [ren]⟩⟩
 ·simp [Value.cells] at hcs
  obtain ⟨rfl,rfl,rfl⟩ := hcs
  simp only [if_true] at hmm
  subst hmm
  simp only [ht,Cell.okWide,Cell.ok,World.has] at hval
  obtain ⟨_,_,_,hspot,row,cells,hshape,_⟩ := hval
  obtain ⟨b,o,spot⟩ := a
  simp only at hspot hshape
  subst hspot
  have hb : b < W.heap.size := by
   unfold World.shape? at hshape
   split at hshape
   ·rename_i h
    exact (Array.getElem?_eq_some_iff.1 h).1
   ·cases hshape
  have hmax : m < fz := by
   simp only [maxLen] at hm
   unfold fz
   omega
  obtain ⟨f,hfx⟩ := Deep.choose_lt (α := α) (p := fun i x => W.cells? 0 ((⟨b,o,none⟩ : Addr).add (i * prog.cellsOf e)) (prog.cellsOf e) = some (encE x)) (fun i (hi : i < m) => by
   obtain ⟨cs',h1,h2⟩ := hel i hi
   obtain ⟨x,rfl⟩ := dec _ _ _ h2
   exact ⟨x,h1⟩)
  rw [hc] at hfx
  have hcell : ∀ i j,i < m → j < s → W.cell? ⟨b,o + (i * s + j),none⟩ = (encE (f i))[j]? := fun i j hi hj => by
   have := (World.cells?_some (hfx i hi)).2.2 j hj
   rw [Deep.add_add] at this
   revert this
   generalize i * s + j = k
   intro this
   unfold Addr.add at this
   by_cases h0 : k = 0
   ·subst h0
    simpa using this
   ·simpa [h0] using this
  have hxl : ((List.range len0).map f).length = len0 := by simp
  refine ⟨(List.range len0).map f,?_,⟨by simp only [VOk,AddrOk]; exact ⟨hb,trivial⟩,?_⟩⟩
  ·refine ⟨some ⟨b,o,none⟩,m,by rw [hxl],⟨flat_len hlen _,flat_kn hkn _⟩,.inr ⟨b,o,rfl,?_⟩⟩
   rw [hxl]
   by_cases h0 : len0 = 0
   ·exact .inl h0
   ·right
    have key : ∀ i j,i < len0 → j < s → ∃ c,(absH W)[b]? = some (.cells c false 0) ∧ c[o + (i * s + j)]? = (encE (f i))[j]? := fun i j hi hj => by
     have h1 := hcell i j (by omega) hj
     have h2 : j < (encE (f i)).length := by rw [hlen]; exact hj
     rw [List.getElem?_eq_getElem h2] at h1 ⊢
     exact absH_cell h1 (hfine _ _ (List.getElem_mem h2) _)
    obtain ⟨c,hc1,_⟩ := key 0 0 (by omega) hs
    refine ⟨c,false,0,hc1,?_⟩
    apply List.ext_getElem?
    intro k
    by_cases hk : k < len0 * s
    ·have hq : k / s < len0 := Nat.div_lt_of_lt_mul (by rw [Nat.mul_comm]; exact hk)
     have hr : k % s < s := Nat.mod_lt _ hs
     have hkk : k / s * s + k % s = k := by rw [Nat.mul_comm]; exact Nat.div_add_mod k s
     obtain ⟨c',hc1',hc2'⟩ := key _ _ hq hr
     rw [hc1] at hc1'
     cases hc1'
     rw [List.getElem?_take,if_pos hk,List.getElem?_drop]
     rw [hkk] at hc2'
     rw [hc2']
     have := flat_get hlen ((List.range len0).map f) (i := k / s) (j := k % s) (by rw [hxl]; exact hq) hr
     rw [hkk] at this
     rw [this]
     simp
    ·rw [List.getElem?_take,if_neg hk,List.getElem?_eq_none (by rw [flat_len hlen,hxl]; omega)]
  ·have hnf : ¬ fz ≤ m := by omega
   simp [ren,renAddr,renCap,idEnv,hnf]
theorem fine_int {m : Nat} {n : Int} : Fine m (vint n) := ⟨by simp [VOk],rfl,by simp [ren]⟩
theorem trod_vint {W : World} {n : Nat} {cs : List Value} {r : DataW H × List MemPlace} {t : TypeId} (u : prog.underlying t = some (.int .i64)) (h : DataW.trod enc prog W 0 (fun _ => true) true n t cs = some r) : ∃ z,cs = [vint z] := by
 obtain ⟨z,h1,_⟩ := DataW.trod_int u h
 exact ⟨z,h1⟩
end
instance : Inhabited Dro := ⟨⟨0,0⟩⟩
section
variable {H : Type} {enc : TypeId × Value → H} {W : World} {n base : Nat} {cs : List Value} {r : DataW H × List MemPlace}
def structOf : Option TypeDesc → Option (List (TypeId × Nat))
 | some (.struct fs) => some (fs.toList.map fun f => (f.type,f.offset))
 | _ => none
theorem trod_fields {t : TypeId} {l : List (TypeId × Nat)} (hs : structOf (prog.underlying t) = some l) (h : DataW.trod enc prog W 0 (fun _ => true) true n t cs = some r) :
  cs.length = prog.cellsOf t ∧ ∃ n' : Nat,∀ (i : Nat) (ty : TypeId) (off : Nat),l[i]? = some (ty,off) → ∃ r',DataW.trod enc prog W 0 (fun _ => true) true n' ty ((cs.drop off).take (prog.cellsOf ty)) = some r' := by
 unfold structOf at hs
 split at hs
 ·rename_i fs hu
  cases hs
  obtain ⟨xs,n',_,rfl,hl,hxl,hf⟩ := DataW.trod_struct hu h
  refine ⟨hl,n',fun i ty off hi => ?_⟩
  rw [List.getElem?_map,Option.map_eq_some_iff] at hi
  obtain ⟨f,hfi,he⟩ := hi
  cases he
  have hfi' : fs[i]? = some f := by simpa using hfi
  have hil : i < xs.length := by rw [hxl]; exact (Array.getElem?_eq_some_iff.1 hfi').1
  exact ⟨xs[i],by rw [hf i f hfi',List.getElem?_eq_getElem hil]⟩
 ·cases hs
theorem dec_dro (h : DataW.trod enc prog W 0 (fun _ => true) true n 64 cs = some r) : ∃ x : Dro,cs = x.cells := by
 have u3 : prog.underlying 3 = some (.int .i64) := by kernel_rfl
 have c3 : prog.cellsOf 3 = 1 := by kernel_rfl
 have cD : prog.cellsOf 64 = 2 := by kernel_rfl
 obtain ⟨hl,n',hf⟩ := trod_fields (l := [(3,0),(3,1)]) (by kernel_rfl) h
 rw [cD] at hl
 obtain ⟨a,b,rfl⟩ : ∃ a b,cs = [a,b] := by
  match cs,hl with
  | [a,b],_ => exact ⟨a,b,rfl⟩
 obtain ⟨_,g0⟩ := hf 0 3 0 rfl
 obtain ⟨_,g1⟩ := hf 1 3 1 rfl
 rw [c3] at g0 g1
 obtain ⟨z0,w0⟩ := trod_vint u3 g0
 obtain ⟨z1,w1⟩ := trod_vint u3 g1
 simp at w0 w1
 exact ⟨⟨z0,z1⟩,by rw [w0,w1]; rfl⟩
theorem dec_wel (h : DataW.trod enc prog W 0 (fun _ => true) true n 23 cs = some r) : ∃ x : Wel,cs = x.cells := by
 have u3 : prog.underlying 3 = some (.int .i64) := by kernel_rfl
 have c3 : prog.cellsOf 3 = 1 := by kernel_rfl
 have cW : prog.cellsOf 23 = 3 := by kernel_rfl
 obtain ⟨hl,n',hf⟩ := trod_fields (l := [(3,0),(3,1),(3,2)]) (by kernel_rfl) h
 rw [cW] at hl
 obtain ⟨a,b,c,rfl⟩ : ∃ a b c,cs = [a,b,c] := by
  match cs,hl with
  | [a,b,c],_ => exact ⟨a,b,c,rfl⟩
 obtain ⟨_,g0⟩ := hf 0 3 0 rfl
 obtain ⟨_,g1⟩ := hf 1 3 1 rfl
 obtain ⟨_,g2⟩ := hf 2 3 2 rfl
 rw [c3] at g0 g1 g2
 obtain ⟨z0,w0⟩ := trod_vint u3 g0
 obtain ⟨z1,w1⟩ := trod_vint u3 g1
 obtain ⟨z2,w2⟩ := trod_vint u3 g2
 simp at w0 w1 w2
 exact ⟨⟨z0,z1,z2⟩,by rw [w0,w1,w2]; rfl⟩
theorem fine_dro (x : Dro) : ∀ y ∈ x.cells,∀ m,Fine m y := fun y hy m => by
 simp only [Dro.cells,List.mem_cons,List.not_mem_nil,or_false] at hy
 rcases hy with rfl | rfl <;> exact fine_int
theorem lok_of : ∀ {l : List Value} {m : Nat},(∀ v ∈ l,VOk m v) → LOk m l
 | [],_,_ => by simp [LOk]
 | v :: l,m,h => by
  simp only [LOk]
  exact ⟨h v (by simp),lok_of fun u hu => h u (by simp [hu])⟩
theorem argOk_agg {l : List Value} (h : ∀ v ∈ l,ArgOk W v) : ArgOk W (.agg ⟨l⟩) := by
 refine ⟨?_,?_⟩
 ·simp only [VOk,AOk]
  exact lok_of fun v hv => (h v hv).1
 ·simp only [ren,renA,renL_eq]
  congr 2
  rw [List.map_congr_left (g := id) fun v hv => (h v hv).2,List.map_id]
theorem argOk_fine {v : Value} (h : ∀ m,Fine m v) : ArgOk W v := ⟨(h _).1,(h 0).2.2⟩
theorem agg_of {t : TypeId} {l : List (TypeId × Nat)} {v : Value} (hs : structOf (prog.underlying t) = some l) (hval : Value.okWide prog W .any base t v) : ∃ cs,v = .agg cs ∧ Row.okWide prog W .any base t cs := by
 unfold structOf at hs
 split at hs
 ·rename_i fs hu
  simp only [Value.okWide,hu] at hval
  obtain ⟨cs,h1,_,h3⟩ := hval
  exact ⟨cs,h1,h3⟩
 ·cases hs
theorem arg_tro {v : Value} {d : DataW H} {ps : List MemPlace} (hval : Value.okWide prog W .any base 26 v) (hd : DataW.Trod enc prog W 0 (fun _ => true) true 26 v d ps) : ∃ (t : Tro) (fv : Value),TroAt (absH W) v t fv ∧ ArgOk W v := by
 have uS : prog.underlying 24 = some (.slice 64) := by kernel_rfl
 have cS : prog.cellsOf 24 = 1 := by kernel_rfl
 have cD : prog.cellsOf 64 = 2 := by kernel_rfl
 have cW : prog.cellsOf 23 = 3 := by kernel_rfl
 have cT : prog.cellsOf 26 = 4 := by kernel_rfl
 have hst : structOf (prog.underlying 26) = some [(23,0),(24,3)] := by kernel_rfl
 have hct : prog.cellTypes prog.depth 26 = some [3,3,3,24] := by kernel_rfl
 obtain ⟨fuel,hf⟩ := hd
 obtain ⟨⟨cs⟩,rfl,ts,hts,_,hrow⟩ := agg_of hst hval
 rw [hct] at hts
 cases hts
 have hf' : DataW.trod enc prog W 0 (fun _ => true) true fuel 26 cs = some (d,ps) := by simpa [Value.cells] using hf
 obtain ⟨hl,n',hfl⟩ := trod_fields hst hf'
 rw [cT] at hl
 obtain ⟨x0,x1,x2,x3,rfl⟩ : ∃ a b c d,cs = [a,b,c,d] := by
  match cs,hl with
  | [a,b,c,d],_ => exact ⟨a,b,c,d,rfl⟩
 obtain ⟨_,g0⟩ := hfl 0 23 0 rfl
 obtain ⟨y3,g3⟩ := hfl 1 24 3 rfl
 rw [cW] at g0
 rw [cS] at g3
 obtain ⟨w,w0⟩ := dec_wel g0
 simp [Wel.cells] at w0
 obtain ⟨w0,w1,w2⟩ := w0
 subst w0 w1 w2
 obtain ⟨u,hu,k3⟩ := hrow 3 x3 rfl
 cases hu
 have v3 : x3.cells.toList = [x3] := by
  obtain ⟨a0,a1,a2,rfl⟩ := okWide_slice uS (show Value.okWide prog W .any base 24 x3 by unfold Value.okWide; rw [uS]; exact k3)
  rfl
 obtain ⟨fls,s3,ok3⟩ := arg_sliE (encE := Dro.cells) (n := n') (x := y3) uS cD (by omega) (fun _ => rfl) (fun _ => rfl) fine_dro (fun _ _ _ h => dec_dro h) k3 (by rw [v3]; exact g3)
 refine ⟨⟨w,fls⟩,x3,⟨rfl,s3⟩,argOk_agg fun v hv => ?_⟩
 simp only [List.mem_cons,List.not_mem_nil,or_false] at hv
 rcases hv with rfl | rfl | rfl | rfl
 ·exact argOk_int
 ·exact argOk_int
 ·exact argOk_int
 ·exact ok3
end
end Go.Proofs.YtcmgjbflljmphaaGreatDoor
