/- The card of GrassWritten: it answers true at every input, its arguments read as before, and what its row lists is tied to the program's text. -/
import Derived.Test.YtlhanfcgdfjhjaaGreatDoorK6
import Derived.Test.YtlhanfcgdfjhjaaGreatDoorK3
import Derived.Test.YtlhanfcgdfjhjaaGreatDoorK2
import Derived.Test.YtlhanfcgdfjhjaaGreatDoorK5
import Derived.Below
import Derived.Test.YtlhanfcgdfjhjaaGreatDoorRows
import Derived.Conc.LeavingOf
import Derived.ChangeSlices
import Derived.OpenShut
import Derived.Carry
import Derived.Handed
import Derived.Test.YtlhanfcgdfjhjaaGreatDoorK4
import Derived.Deep.Slices
import Derived.LaidLaws
import Derived.LaidHandle
import Derived.Deep.DeepLaidRun
import Derived.ChangeMaps5
import Derived.JoinedOf
import Derived.Test.YtlhanfcgdfjhjaaGreatDoorTie
import Derived.Test.YtlhanfcgdfjhjaaGreatDoorCards
import Derived.SevenTiedAt
namespace Go.Proofs.YtlhanfcgdfjhjaaGreatDoor
open Go.Conc Go.Proofs.Tryz
set_option maxRecDepth 100000
section
variable {main : Bool} {J : JT} {h H : List AObj} {K : Value → List AObj → Prop} {KV : Value → Prop} {HL : List AObj → Prop} {n0 : Nat} {ns : List Int} {k : Nat}
theorem quoZ {t : TypeId} {a b : Int} (ha : 0 ≤ a ∧ a ≤ 1000000) (hb : 0 < b) (hk : KV (vint (a / b))) : aBin prog .quo t (vint a) (vint b) KV := by
 have h1 : Int.tdiv a b = a / b := Int.tdiv_eq_ediv_of_nonneg ha.1
 have h2 : 0 ≤ a / b := Int.ediv_nonneg ha.1 (by omega)
 have h3 : a / b ≤ a := Int.ediv_le_self _ ha.1
 simp only [aBin,aInt,true_and]
 rw [h1,wrap64 (by omega) (by omega)]
 exact ⟨by omega,hk⟩
theorem hxLt (a : HX h H ns k) : h.length < H.length := by
 obtain ⟨nv,k1,s,rest,rfl,_⟩ := a
 rw [hf_len]
 omega
theorem ofZ (hJ : Closed prog main J) (a : HX h H ns k) (hk : k < 1000000) {x : Int} {others : List Int} {p n c : Nat} (hp : H[p]? = some (.cells (others.map vint) true 0)) (hne : p ≠ h.length) (hn : others.length = n) (hl : n < 1000)
  (hK : ∀ y H',(y = x ∨ y ∈ others) → SameX [h.length] H H' → H'.length = H.length → HX h H' ns (k + 1) → K (vint y) H') : Good prog J 24 [ptr h.length 0,vint x,.slice (some ⟨p,0,none⟩) n c] H K := by
 subst hn
 obtain ⟨nv,k1,s,rest,rfl,b1,b2,b3⟩ := a
 refine good24 hJ (hf_hand b3.list b3.sane (by omega) b2.1 b2.2) (others := others) (fun h' hd => ?_) (by omega) fun y h1 hy hd => ?_
 ·obtain ⟨k',s',c1,c2,c3,rfl⟩ := hf_dealt hd
  have S := hf_same (h := h) (nv := nv) (k1 := k1) (k2 := k') (s1 := s) (s2 := s') (rest := rest) (g := [])
  rw [List.append_nil] at S
  exact sli_new (wr := true) (sz := 0) (S.get hp (by simpa using hne)) (by simp) (kn_ints _)
 ·obtain ⟨k',s',c1,c2,c3,rfl⟩ := hf_dealt hd
  have S := hf_same (h := h) (nv := nv) (k1 := k1) (k2 := k') (s1 := s) (s2 := s') (rest := rest) (g := [])
  rw [List.append_nil] at S
  exact hK y _ hy S (by simp [hf_len]) ⟨nv,k',s',rest,rfl,by omega,⟨c2,c3⟩,b3⟩
theorem good8 (hJ : Closed prog main J) (a : HX h H ns k) (hk : k < 400000) {D : Int} (hD : 1 ≤ D ∧ D ≤ 8)
  (hK : ∀ s H',skyOk s → s.days ≤ D → SameX [h.length] H H' → HX h H' ns (k + 3) → K (.agg ⟨s.cells⟩) H') : Good prog J 8 [ptr h.length 0,vint D] H K := by
 refine g8 hJ fun ok => ?_
 rw [e8]
 have hlt := hxLt a
 refine qAl fun H1 p1 e1 S1 c1 l1 => ?_
 have a1 := a.same S1 (by simp)
 refine amX hJ a1 (by omega) (by omega) (by omega) fun d H2 b1 b2 S2 l2 a2 => ?_
 refine fillO (l := [vint d]) rfl rfl rfl (Nat.le_of_ble_eq_true rfl) (fillI ?_)
 refine qAl fun H3 p3 e3 S3 c3 l3 => qStA (c := [vint d,vint 0,vint 0]) c3 rfl rfl rfl fun H4 S4 c4 l4 => ?_
 have a4 := (a2.same S3 (by simp)).same S4 (by simp; omega)
 have hp4 : p3 < H4.length := lt_of_get c4
 refine ⟨[p3],offI (ldI (v := vint d) c4 rfl rfl ⟨by simp [RdOk,ptrBlk],offI (ldI (v := vint d) c4 rfl rfl ⟨by simp [RdOk,ptrBlk],?_⟩)⟩)⟩
 refine amX hJ a4 (by omega) (by omega) (by omega) fun u H5 d1 d2 S5 l5 a5 => ⟨sbOne S5 hp4 (by simp; omega),offI ?_⟩
 refine amX hJ a5 (by omega) (by omega) (by omega) fun w H6 f1 f2 S6 l6 a6 => ⟨sbOne (S5.trans S6) hp4 (by simp; omega),?_⟩
 have T6 : SameX [h.length] H4 H6 := S5.trans S6
 refine qSt (T6.get c4 (by simp; omega)) (by simp) rfl rfl fun H7 S7 c7 l7 => offI (qSt c7 (by simp) rfl rfl fun H8 S8 c8 l8 => ?_)
 refine load_part (c := (⟨d,u,w⟩ : SkyR).cells) c8 (by simp) rfl rfl ?_
 have T4 : SameX [h.length] H H4 := (((S1.weak0).trans S2).trans S3.weak0).thru S4 (by simp; omega)
 have T8 : SameX [h.length] H H8 := ((T4.trans T6).thru S7 (by simp; omega)).thru S8 (by simp; omega)
 have c1' := S8.get (S7.get (T6.get (S4.get (S3.get (S2.get c1 (by simp; omega)) (by simp)) (by simp; omega)) (by simp; omega)) (by simp; omega)) (by simp; omega)
 refine qStA (c := (⟨d,u,w⟩ : SkyR).cells) c1' rfl rfl rfl fun H9 S9 c9 l9 => ?_
 refine retQs rfl (resW_cell (gg := true) (s := 3) (by kernel_rfl) (load_part (c := (⟨d,u,w⟩ : SkyR).cells) c9 (by simp [SkyR.cells]) rfl rfl (resW_nil ?_)))
 refine hK ⟨d,u,w⟩ H9 ⟨by show 1 ≤ d ∧ d ≤ 8; omega,by show 1 ≤ u ∧ u ≤ d; omega,by show 1 ≤ w ∧ w ≤ d; omega⟩ (by show d ≤ D; omega) (T8.thru S9 (by simp; omega)) (((a6.same S7 (by simp; omega)).same S8 (by simp; omega)).same S9 (by simp; omega))
set_option maxHeartbeats 800000 in
theorem good7 (hJ : Closed prog main J) (a : HX h H ns k) (hk : k < 400000)
  (hK : ∀ p H',pasOk p → 3 ≤ p.bears ∧ p.bears ≤ 30 → SameX [h.length] H H' → HX h H' ns (k + 12) → K (.agg ⟨p.cells⟩) H') : Good prog J 7 [ptr h.length 0] H K := by
 refine g7 hJ fun ok => ?_
 rw [e7]
 have hlt := hxLt a
 refine qAl fun H1 p1 e1 S1 c1 l1 => ?_
 have a1 := a.same S1 (by simp)
 refine amX hJ a1 (by omega) (by omega) (by omega) fun b H2 b1 b2 S2 l2 a2 => ?_
 refine ⟨by decide,fillO (l := [vint 1]) rfl rfl rfl (Nat.le_of_ble_eq_true rfl) (fillO (l := [vint 1]) rfl rfl rfl (Nat.le_of_ble_eq_true rfl) (fillO (l := [vint 2]) rfl rfl rfl (Nat.le_of_ble_eq_true rfl) (fillI (qNew fun H3 p3 e3 S3 c3 l3 => ?_))))⟩
 have c3 : H3[p3]? = some (.cells (([1,1,2] : List Int).map vint) true 0) := c3
 refine ofZ hJ (a2.same S3 (by simp)) (by omega) c3 (by omega) rfl (by simp) fun dr H4 m4 S4 l4 a4 => ?_
 refine upX hJ a4 (by omega) (by omega) fun u5 H5 d1 d2 S5 l5 a5 => ?_
 refine ⟨by decide,fillO (l := [vint 1]) rfl rfl rfl (Nat.le_of_ble_eq_true rfl) (fillO (l := [vint 2]) rfl rfl rfl (Nat.le_of_ble_eq_true rfl) (fillO (l := [vint u5]) rfl rfl rfl (Nat.le_of_ble_eq_true rfl) (fillI (qNew fun H6 p6 e6 S6 c6 l6 => ?_))))⟩
 have c6 : H6[p6]? = some (.cells (([1,2,u5] : List Int).map vint) true 0) := c6
 refine ofZ hJ (a5.same S6 (by simp)) (by omega) c6 (by omega) rfl (by simp) fun sl H7 m7 S7 l7 a7 => ?_
 refine fillO (l := [vint b]) rfl rfl rfl (Nat.le_of_ble_eq_true rfl) (fillO (l := [vint dr]) rfl rfl rfl (Nat.le_of_ble_eq_true rfl) (fillO (l := [vint sl]) rfl rfl rfl (Nat.le_of_ble_eq_true rfl) (fillI ?_)))
 refine qAl fun H8 p8 e8 S8 c8 l8 => qStA (c := [vint 0,vint b,vint dr,vint 0,vint 0,vint sl]) c8 rfl rfl rfl fun H9 S9 c9 l9 => ?_
 have a9 := (a7.same S8 (by simp)).same S9 (by simp; omega)
 have hp9 : p8 < H9.length := lt_of_get c9
 have hdr : 0 ≤ dr ∧ dr ≤ 2 := by
  rcases m4 with h | h
  ·omega
  ·simp only [List.mem_cons,List.not_mem_nil,or_false] at h
   omega
 have hsl : 0 ≤ sl ∧ sl ≤ 5 := by
  rcases m7 with h | h
  ·omega
  ·simp only [List.mem_cons,List.not_mem_nil,or_false] at h
   omega
 refine ⟨[p8],offI (ldI (v := vint b) c9 rfl rfl ⟨by simp [RdOk,ptrBlk],offI (ldI (v := vint b) c9 rfl rfl ⟨by simp [RdOk,ptrBlk],offI (ldI (v := vint b) c9 rfl rfl ⟨by simp [RdOk,ptrBlk],quoZ (by omega) (by decide) (offI (ldI (v := vint b) c9 rfl rfl ⟨by simp [RdOk,ptrBlk],?_⟩))⟩)⟩)⟩)⟩
 have T9 : ∀ {H'},SameX [h.length] H9 H' → SameB (some [p8]) H9 H' := fun S => sbOne S hp9 (by simp; omega)
 refine upX hJ a9 (by omega) (by omega) fun u10 H10 f1 f2 S10 l10 a10 => ⟨T9 S10,?_⟩
 refine amX hJ a10 (by omega) (by omega) (by omega) fun u11 H11 g1 g2 S11 l11 a11 => ⟨T9 (S10.trans S11),?_⟩
 have Q11 : SameX [h.length] H9 H11 := S10.trans S11
 refine ⟨by decide,fillO (l := [vint u10]) rfl rfl rfl (Nat.le_of_ble_eq_true rfl) (fillO (l := [vint u11]) rfl rfl rfl (Nat.le_of_ble_eq_true rfl) (fillI (qNew fun H12 p12 e12 S12 c12 l12 => ⟨T9 (Q11.trans S12.weak0),?_⟩)))⟩
 have c12 : H12[p12]? = some (.cells (([u10,u11] : List Int).map vint) true 0) := c12
 have hl11 := hxLt a11
 refine ofZ hJ (a11.same S12 (by simp)) (by omega) c12 (by omega) rfl (by simp) fun gr H13 m13 S13 l13 a13 => ?_
 have Q13 : SameX [h.length] H9 H13 := (Q11.trans S12.weak0).trans S13
 refine ⟨T9 Q13,offI ?_⟩
 have hgr : 0 ≤ gr ∧ gr ≤ b := by
  rcases m13 with h | h
  ·omega
  ·simp only [List.mem_cons,List.not_mem_nil,or_false] at h
   omega
 refine qSt (Q13.get c9 (by simp; omega)) (by simp) rfl rfl fun H14 S14 c14 l14 => ?_
 have c14 : H14[p8]? = some (.cells [vint gr,vint b,vint dr,vint 0,vint 0,vint sl] true 0) := c14
 have a14 := a13.same S14 (by simp; omega)
 refine offI (ldI (v := vint dr) c14 rfl rfl (offI (ldI (v := vint dr) c14 rfl rfl (addI (by omega) (minI ?_)))))
 refine amX hJ a14 (by omega) (by omega) (by omega) fun wt H15 h1 h2 S15 l15 a15 => offI ?_
 refine qSt (S15.get c14 (by simp; omega)) (by simp) rfl rfl fun H16 S16 c16 l16 => ?_
 have c16 : H16[p8]? = some (.cells [vint gr,vint b,vint dr,vint wt,vint 0,vint sl] true 0) := c16
 have a16 := a15.same S16 (by simp; omega)
 have hp16 : p8 < H16.length := lt_of_get c16
 have T16 : ∀ {H'},SameX [h.length] H16 H' → SameB (some [p8]) H16 H' := fun S => sbOne S hp16 (by simp; omega)
 refine ⟨[p8],offI (ldI (v := vint b) c16 rfl rfl ⟨by simp [RdOk,ptrBlk],quoZ (by omega) (by decide) (offI (ldI (v := vint b) c16 rfl rfl ⟨by simp [RdOk,ptrBlk],?_⟩))⟩)⟩
 refine upX hJ a16 (by omega) (by omega) fun u17 H17 q1 q2 S17 l17 a17 => ⟨T16 S17,?_⟩
 refine upX hJ a17 (by omega) (by omega) fun u18 H18 q3 q4 S18 l18 a18 => ⟨T16 (S17.trans S18),?_⟩
 have Q18 : SameX [h.length] H16 H18 := S17.trans S18
 refine ⟨by decide,fillO (l := [vint 1]) rfl rfl rfl (Nat.le_of_ble_eq_true rfl) (fillO (l := [vint 2]) rfl rfl rfl (Nat.le_of_ble_eq_true rfl) (fillO (l := [vint u17]) rfl rfl rfl (Nat.le_of_ble_eq_true rfl) (fillO (l := [vint u18]) rfl rfl rfl (Nat.le_of_ble_eq_true rfl) (fillI (qNew fun H19 p19 e19 S19 c19 l19 => ⟨T16 (Q18.trans S19.weak0),?_⟩)))))⟩
 have c19 : H19[p19]? = some (.cells (([1,2,u17,u18] : List Int).map vint) true 0) := c19
 have hl18 := hxLt a18
 refine ofZ hJ (a18.same S19 (by simp)) (by omega) c19 (by omega) rfl (by simp) fun st H20 m20 S20 l20 a20 => ?_
 have Q20 : SameX [h.length] H16 H20 := (Q18.trans S19.weak0).trans S20
 have hst : 0 ≤ st ∧ st ≤ b := by
  rcases m20 with h | h
  ·omega
  ·simp only [List.mem_cons,List.not_mem_nil,or_false] at h
   omega
 refine ⟨T16 Q20,offI (qSt (Q20.get c16 (by simp; omega)) (by simp) rfl rfl fun H21 S21 c21 l21 => ?_)⟩
 have c21 : H21[p8]? = some (.cells (⟨gr,b,dr,wt,st,sl⟩ : Pas).cells true 0) := c21
 refine load_part (c := (⟨gr,b,dr,wt,st,sl⟩ : Pas).cells) c21 (by simp [Pas.cells]) rfl rfl ?_
 have U7 : SameX [h.length] H H7 := ((((((S1.weak0).trans S2).trans S3.weak0).trans S4).trans S5).trans S6.weak0).trans S7
 have U9 : SameX [h.length] H H9 := (U7.trans S8.weak0).thru S9 (by have := U7.1; simp; omega)
 have U21 : SameX [h.length] H H21 := ((((U9.trans Q13).thru S14 (by have := U7.1; simp; omega)).trans S15).thru S16 (by have := U7.1; simp; omega)).trans Q20 |>.thru S21 (by have := U7.1; simp; omega)
 have V1 : SameX [h.length] H1 H7 := ((((S2.trans S3.weak0).trans S4).trans S5).trans S6.weak0).trans S7
 have hv1 := V1.1
 have V9 : SameX [h.length,p8] H1 H9 := ((V1.trans S8.weak0).weak (by simp)).trans (S9.weak (by simp))
 have V21 : SameX [h.length,p8] H1 H21 := (((((V9.trans (Q13.weak (by simp))).trans (S14.weak (by simp))).trans (S15.weak (by simp))).trans (S16.weak (by simp))).trans (Q20.weak (by simp))).trans (S21.weak (by simp))
 have c1' := V21.get c1 (by simp; omega)
 refine qStA (c := (⟨gr,b,dr,wt,st,sl⟩ : Pas).cells) c1' rfl rfl rfl fun H22 S22 c22 l22 => ?_
 refine retQs rfl (resW_cell (gg := true) (s := 6) (by kernel_rfl) (load_part (c := (⟨gr,b,dr,wt,st,sl⟩ : Pas).cells) c22 (by simp [Pas.cells]) rfl rfl (resW_nil ?_)))
 refine hK ⟨gr,b,dr,wt,st,sl⟩ H22 ⟨by show 1 ≤ b ∧ b ≤ 99; omega,hgr,by show 0 ≤ dr ∧ dr ≤ 9; omega,by show dr ≤ wt ∧ wt ≤ 9; omega,hst,hsl⟩ (by show 3 ≤ b ∧ b ≤ 30; omega) (U21.thru S22 (by simp; omega)) ?_
 have z21 := a20.same S21 (by simp; omega)
 have z22 := z21.same S22 (by simp; omega)
 exact z22.mono (by omega)
end
end Go.Proofs.YtlhanfcgdfjhjaaGreatDoor
namespace Go.Proofs.YtlhanfcgdfjhjaaGreatDoor
open Go.Conc Go.Proofs.Tryz
set_option maxRecDepth 100000
set_option maxHeartbeats 4000000
set_option linter.unusedVariables false
section
variable {main : Bool} {J : JT} {n0 : Nat} {h : List AObj} {K : Value → List AObj → Prop}
theorem at4 : prog.funcs[4]? = some f4 := by kernel_rfl
theorem body4 : f4.body = some (codeOf f4) := by kernel_rfl
def pl4 : Plans := []
def ct4 : Cuts := .bin (.go) (.bin (.go) (.cut (.bin (.go) (.cut (.bin (.go) (.cut (.bin (.go) (.cut (.bin (.go) (.cut (.bin (.bin (.go) (.cut (.go))) (.cut (.bin (.go) (.cut (.bin (.go) (.cut (.go)))))))))))))))))
theorem pok4 : plansOk prog pl4 (codeOf f4) = true := by kernel_rfl
theorem e4 {a0 a1 : Value} : W prog J 87 h.length 4 (codeOf f4) (RG.mk (regs [a0,a1]) []) h (RetQ prog [.tmp 4] h.length K) =
(aLenStr a1 fun v1 =>
aBin prog .gtr 3 v1 (vint 110) fun v2 =>
cnd v2
(Good prog J 5 [] h fun v3 h4 =>
retL h.length K [] [v3] h4)
(Hold (W prog J 87 h.length 4 (subC [1,1] (codeOf f4)) (RG.p (RG.p (RG.p (RG.p (RG.mk (regs [a0,a1]) []) 4 (Value.bool false)) 18 a1) 19 v1) 20 v2) h (contX pl4 prog J 87 h.length 4 ct4 [1,1] (codeOf f4) [] (RetQ prog [.tmp 4] h.length K))))) := top_eq pok4 ct4 (by kernel_rfl)
theorem g4 (hJ : Closed prog main J) {a0 a1 : Value} (hs : heapOk h → W prog J 87 h.length 4 (codeOf f4) (RG.mk (regs [a0,a1]) []) h (RetQ prog [.tmp 4] h.length K)) : Good prog J 4 [a0,a1] h K :=
 good_of_W hJ mixed at4 body4 (by kernel_rfl) (Nat.le_of_ble_eq_true rfl) hs
theorem s4_1 {f : RG} : W prog J 87 n0 4 (subC [1,1] (codeOf f4)) f h (contX pl4 prog J 87 n0 4 ct4 [1,1] (codeOf f4) [] (RetQ prog [.tmp 4] n0 K)) =
(Good prog J 6 [(f.r 0)] h fun v1 h2 =>
Hold (W prog J 87 n0 4 (subC [1,1,1] (codeOf f4)) (RG.p (RG.p (RG.p f 22 (f.r 0)) 23 v1) 5 v1) h2 (contX pl4 prog J 87 n0 4 ct4 [1,1,1] (codeOf f4) [] (RetQ prog [.tmp 4] n0 K)))) := sub_eq pok4 ct4 (by kernel_rfl)
theorem s4_2 {f : RG} : W prog J 87 n0 4 (subC [1,1,1] (codeOf f4)) f h (contX pl4 prog J 87 n0 4 ct4 [1,1,1] (codeOf f4) [] (RetQ prog [.tmp 4] n0 K)) =
(Good prog J 7 [(f.r 5)] h fun v1 h2 =>
Good prog J 8 [(f.r 5),(vint 8)] h2 fun v3 h4 =>
aAlloc [(vint 0),(vint 0),(vint 0),(vint 0),(vint 0),(vint 0)] h4 fun v5 h6 =>
aAlloc [(vint 0),(vint 0),(vint 0)] h6 fun v7 h8 =>
aStore 6 v5 v1 h8 fun h9 =>
aStore 3 v7 v3 h9 fun h10 =>
Hold (W prog J 87 n0 4 (subC [1,1,1,1] (codeOf f4)) (RG.p (RG.p (RG.p (RG.p (RG.p (RG.p f 24 (f.r 5)) 25 v1) 26 (f.r 5)) 27 v3) 6 v5) 7 v7) h10 (contX pl4 prog J 87 n0 4 ct4 [1,1,1,1] (codeOf f4) [] (RetQ prog [.tmp 4] n0 K)))) := sub_eq pok4 ct4 (by kernel_rfl)
theorem s4_3 {f : RG} : W prog J 87 n0 4 (subC [1,1,1,1] (codeOf f4)) f h (contX pl4 prog J 87 n0 4 ct4 [1,1,1,1] (codeOf f4) [] (RetQ prog [.tmp 4] n0 K)) =
(aLoad true 6 (f.r 6) h fun v1 =>
aLoad true 3 (f.r 7) h fun v2 =>
Good prog J 9 [v1,v2] h fun v3 h4 =>
aExt v3 0 fun v5 =>
aExt v3 1 fun v6 =>
Hold (W prog J 87 n0 4 (subC [1,1,1,1,1] (codeOf f4)) (RG.p (RG.p (RG.p (RG.p (RG.p (RG.p (RG.p (RG.p f 29 v1) 30 v2) 31 v3) 28 v3) 32 v5) 33 v6) 8 v5) 9 v6) h4 (contX pl4 prog J 87 n0 4 ct4 [1,1,1,1,1] (codeOf f4) [] (RetQ prog [.tmp 4] n0 K)))) := sub_eq pok4 ct4 (by kernel_rfl)
theorem s4_4 {f : RG} : W prog J 87 n0 4 (subC [1,1,1,1,1] (codeOf f4)) f h (contX pl4 prog J 87 n0 4 ct4 [1,1,1,1,1] (codeOf f4) [] (RetQ prog [.tmp 4] n0 K)) =
(Good prog J 12 [(f.r 8)] h fun v1 h2 =>
aExt v1 0 fun v3 =>
aExt v1 1 fun v4 =>
aExt v1 2 fun v5 =>
aExt v1 3 fun v6 =>
aAlloc [(vint 0),(vint 0),(vint 0),(vint 0),(vint 0),(vint 0)] h2 fun v7 h8 =>
aAlloc [(vint 0),(vint 0),(vint 0)] h8 fun v9 h10 =>
aStore 6 v7 v3 h10 fun h11 =>
aStore 3 v9 v4 h11 fun h12 =>
Hold (W prog J 87 n0 4 (subC [1,1,1,1,1,1] (codeOf f4)) (RG.p (RG.p (RG.p (RG.p (RG.p (RG.p (RG.p (RG.p (RG.p (RG.p (RG.p f 35 (f.r 8)) 36 v1) 34 v1) 37 v3) 38 v4) 39 v5) 40 v6) 10 v7) 11 v9) 12 v5) 13 v6) h12 (contX pl4 prog J 87 n0 4 ct4 [1,1,1,1,1,1] (codeOf f4) [] (RetQ prog [.tmp 4] n0 K)))) := sub_eq pok4 ct4 (by kernel_rfl)
theorem s4_5 {f : RG} : W prog J 87 n0 4 (subC [1,1,1,1,1,1] (codeOf f4)) f h (contX pl4 prog J 87 n0 4 ct4 [1,1,1,1,1,1] (codeOf f4) [] (RetQ prog [.tmp 4] n0 K)) =
(aBin prog .neq 35 (f.r 9) (vint 0) fun v1 =>
cnd v1
(Hold (W prog J 87 n0 4 (subC yp6 (codeOf f4)) (RG.p (RG.p (RG.p (RG.p (RG.p (RG.p (RG.p (RG.p (RG.p (RG.p (RG.p (RG.p (RG.p (RG.p (RG.p (RG.p (RG.p (RG.p (RG.p (RG.p (RG.p (RG.p (RG.p (RG.p f 41 (f.r 9)) 42 v1) 43 v1) 43 (Value.bool true)) 44 undef) 45 undef) 46 (Value.bool true)) 47 (Value.bool true)) 47 (Value.bool true)) 48 undef) 49 undef) 50 (Value.bool true)) 51 (Value.bool true)) 51 (Value.bool true)) 52 undef) 53 undef) 54 undef) 55 (Value.bool true)) 56 (Value.bool true)) 56 (Value.bool true)) 57 undef) 58 undef) 59 undef) 60 (Value.bool true)) h (contX pl4 prog J 87 n0 4 ct4 yp6 (codeOf f4) [] (RetQ prog [.tmp 4] n0 K))))
(aBin prog .neq 35 (f.r 13) (vint 0) fun v2 =>
cnd v2
(Hold (W prog J 87 n0 4 (subC yp6 (codeOf f4)) (RG.p (RG.p (RG.p (RG.p (RG.p (RG.p (RG.p (RG.p (RG.p (RG.p (RG.p (RG.p (RG.p (RG.p (RG.p (RG.p (RG.p (RG.p (RG.p (RG.p (RG.p (RG.p (RG.p (RG.p f 41 (f.r 9)) 42 v1) 43 v1) 43 (Value.bool false)) 44 (f.r 13)) 45 v2) 46 v2) 47 v2) 47 (Value.bool true)) 48 undef) 49 undef) 50 (Value.bool true)) 51 (Value.bool true)) 51 (Value.bool true)) 52 undef) 53 undef) 54 undef) 55 (Value.bool true)) 56 (Value.bool true)) 56 (Value.bool true)) 57 undef) 58 undef) 59 undef) 60 (Value.bool true)) h (contX pl4 prog J 87 n0 4 ct4 yp6 (codeOf f4) [] (RetQ prog [.tmp 4] n0 K))))
(aBin prog .neq 3 (f.r 12) (vint 0) fun v3 =>
cnd v3
(Hold (W prog J 87 n0 4 (subC yp6 (codeOf f4)) (RG.p (RG.p (RG.p (RG.p (RG.p (RG.p (RG.p (RG.p (RG.p (RG.p (RG.p (RG.p (RG.p (RG.p (RG.p (RG.p (RG.p (RG.p (RG.p (RG.p (RG.p (RG.p (RG.p (RG.p f 41 (f.r 9)) 42 v1) 43 v1) 43 (Value.bool false)) 44 (f.r 13)) 45 v2) 46 v2) 47 v2) 47 (Value.bool false)) 48 (f.r 12)) 49 v3) 50 v3) 51 v3) 51 (Value.bool true)) 52 undef) 53 undef) 54 undef) 55 (Value.bool true)) 56 (Value.bool true)) 56 (Value.bool true)) 57 undef) 58 undef) 59 undef) 60 (Value.bool true)) h (contX pl4 prog J 87 n0 4 ct4 yp6 (codeOf f4) [] (RetQ prog [.tmp 4] n0 K))))
(aLoad true 6 (f.r 6) h fun v4 =>
aLoad true 6 (f.r 10) h fun v5 =>
aBin prog .neq 23 v4 v5 fun v6 =>
cnd v6
(Hold (W prog J 87 n0 4 (subC yp6 (codeOf f4)) (RG.p (RG.p (RG.p (RG.p (RG.p (RG.p (RG.p (RG.p (RG.p (RG.p (RG.p (RG.p (RG.p (RG.p (RG.p (RG.p (RG.p (RG.p (RG.p (RG.p (RG.p (RG.p (RG.p (RG.p f 41 (f.r 9)) 42 v1) 43 v1) 43 (Value.bool false)) 44 (f.r 13)) 45 v2) 46 v2) 47 v2) 47 (Value.bool false)) 48 (f.r 12)) 49 v3) 50 v3) 51 v3) 51 (Value.bool false)) 52 v4) 53 v5) 54 v6) 55 v6) 56 v6) 56 (Value.bool true)) 57 undef) 58 undef) 59 undef) 60 (Value.bool true)) h (contX pl4 prog J 87 n0 4 ct4 yp6 (codeOf f4) [] (RetQ prog [.tmp 4] n0 K))))
(aLoad true 3 (f.r 7) h fun v7 =>
aLoad true 3 (f.r 11) h fun v8 =>
aBin prog .neq 25 v7 v8 fun v9 =>
Hold (W prog J 87 n0 4 (subC yp6 (codeOf f4)) (RG.p (RG.p (RG.p (RG.p (RG.p (RG.p (RG.p (RG.p (RG.p (RG.p (RG.p (RG.p (RG.p (RG.p (RG.p (RG.p (RG.p (RG.p (RG.p (RG.p (RG.p (RG.p (RG.p (RG.p f 41 (f.r 9)) 42 v1) 43 v1) 43 (Value.bool false)) 44 (f.r 13)) 45 v2) 46 v2) 47 v2) 47 (Value.bool false)) 48 (f.r 12)) 49 v3) 50 v3) 51 v3) 51 (Value.bool false)) 52 v4) 53 v5) 54 v6) 55 v6) 56 v6) 56 (Value.bool false)) 57 v7) 58 v8) 59 v9) 60 v9) h (contX pl4 prog J 87 n0 4 ct4 yp6 (codeOf f4) [] (RetQ prog [.tmp 4] n0 K)))))))) := sub_eq pok4 ct4 (by kernel_rfl)
theorem s4_6 {f : RG} : W prog J 87 n0 4 (subC yp6 (codeOf f4)) f h (contX pl4 prog J 87 n0 4 ct4 yp6 (codeOf f4) [] (RetQ prog [.tmp 4] n0 K)) =
(cnd (f.r 60)
(retL n0 K f.ds [(Value.bool false)] h)
(Hold (W prog J 87 n0 4 (subC [1,1,1,1,1,1,1] (codeOf f4)) f h (contX pl4 prog J 87 n0 4 ct4 [1,1,1,1,1,1,1] (codeOf f4) [] (RetQ prog [.tmp 4] n0 K))))) := sub_eq pok4 ct4 (by kernel_rfl)
theorem s4_7 {f : RG} : W prog J 87 n0 4 (subC [1,1,1,1,1,1,1] (codeOf f4)) f h (contX pl4 prog J 87 n0 4 ct4 [1,1,1,1,1,1,1] (codeOf f4) [] (RetQ prog [.tmp 4] n0 K)) =
(Good prog J 12 [(f.r 1)] h fun v1 h2 =>
aExt v1 0 fun v3 =>
aExt v1 1 fun v4 =>
aExt v1 2 fun v5 =>
aExt v1 3 fun v6 =>
aStore 6 (f.r 10) v3 h2 fun h7 =>
aStore 3 (f.r 11) v4 h7 fun h8 =>
Hold (W prog J 87 n0 4 (subC [1,1,1,1,1,1,1,1] (codeOf f4)) (RG.p (RG.p (RG.p (RG.p (RG.p (RG.p (RG.p (RG.p (RG.p f 62 (f.r 1)) 63 v1) 61 v1) 64 v3) 65 v4) 66 v5) 67 v6) 14 v5) 15 v6) h8 (contX pl4 prog J 87 n0 4 ct4 [1,1,1,1,1,1,1,1] (codeOf f4) [] (RetQ prog [.tmp 4] n0 K)))) := sub_eq pok4 ct4 (by kernel_rfl)
theorem s4_8 {f : RG} : W prog J 87 n0 4 (subC [1,1,1,1,1,1,1,1] (codeOf f4)) f h (contX pl4 prog J 87 n0 4 ct4 [1,1,1,1,1,1,1,1] (codeOf f4) [] (RetQ prog [.tmp 4] n0 K)) =
(aBin prog .neq 35 (f.r 15) (vint 0) fun v1 =>
cnd v1
(Good prog J 5 [] h fun v2 h3 =>
retL n0 K f.ds [v2] h3)
(Hold (W prog J 87 n0 4 (subC yp3 (codeOf f4)) (RG.p (RG.p f 68 (f.r 15)) 69 v1) h (contX pl4 prog J 87 n0 4 ct4 yp3 (codeOf f4) [] (RetQ prog [.tmp 4] n0 K))))) := sub_eq pok4 ct4 (by kernel_rfl)
theorem s4_9 {f : RG} : W prog J 87 n0 4 (subC yp3 (codeOf f4)) f h (contX pl4 prog J 87 n0 4 ct4 yp3 (codeOf f4) [] (RetQ prog [.tmp 4] n0 K)) =
(aLoad true 6 (f.r 10) h fun v1 =>
aLoad true 3 (f.r 11) h fun v2 =>
Good prog J 9 [v1,v2] h fun v3 h4 =>
aExt v3 0 fun v5 =>
aExt v3 1 fun v6 =>
aBin prog .eql 35 v6 (vint 0) fun v7 =>
cnd v7
(aBin prog .eql 9 v5 (f.r 1) fun v8 =>
cnd v8
(Good prog J 5 [] h4 fun v9 h10 =>
retL n0 K f.ds [v9] h10)
(retL n0 K f.ds [(Value.bool false)] h4))
(retL n0 K f.ds [(Value.bool false)] h4)) := sub_eq pok4 ct4 (by kernel_rfl)
end
end Go.Proofs.YtlhanfcgdfjhjaaGreatDoor
namespace Go.Proofs.YtlhanfcgdfjhjaaGreatDoor
open Go.Conc Go.Proofs.Tryz
set_option maxRecDepth 100000
section
variable {W0 : World} {Post : Value → World → Prop} {h H : List AObj} {K : Value → List AObj → Prop} {KV : Value → Prop} {F : RG} {n0 : Nat}
theorem teqPZ (p : Pas) : teq prog 10000 23 (.agg ⟨p.cells⟩) (.agg ⟨p.cells⟩) = some true := by
 have e : ∀ a b c d e f : Int,teq prog 10000 23 (.agg ⟨[vint a,vint b,vint c,vint d,vint e,vint f]⟩) (.agg ⟨[vint a,vint b,vint c,vint d,vint e,vint f]⟩) =
  match some (a == a) with
  | some true => match some (b == b) with
   | some true => match some (c == c) with
    | some true => match some (d == d) with
     | some true => match some (e == e) with
      | some true => match some (f == f) with
       | some true => some true
       | some false => some false
       | none => none
      | some false => some false
      | none => none
     | some false => some false
     | none => none
    | some false => some false
    | none => none
   | some false => some false
   | none => none
  | some false => some false
  | none => none := fun a b c d e f => by kernel_rfl
 have := e p.grass p.bears p.dry p.wet p.stubble p.sleep
 simp only [beq_self_eq_true] at this
 exact this
theorem teqSZ (p : SkyR) : teq prog 10000 25 (.agg ⟨p.cells⟩) (.agg ⟨p.cells⟩) = some true := by
 have e : ∀ a b c : Int,teq prog 10000 25 (.agg ⟨[vint a,vint b,vint c]⟩) (.agg ⟨[vint a,vint b,vint c]⟩) =
  match some (a == a) with
  | some true => match some (b == b) with
   | some true => match some (c == c) with
    | some true => some true
    | some false => some false
    | none => none
   | some false => some false
   | none => none
  | some false => some false
  | none => none := fun a b c => by kernel_rfl
 have := e p.days p.drought p.flood
 simp only [beq_self_eq_true] at this
 exact this
theorem neqPZ {p : Pas} (hk : KV (.bool false)) : aBin prog .neq 23 (.agg ⟨p.cells⟩) (.agg ⟨p.cells⟩) KV := by
 show aEq prog true 23 _ _ _
 unfold aEq
 rw [teqPZ]
 exact ⟨by kernel_rfl,hk⟩
theorem neqSZ {p : SkyR} (hk : KV (.bool false)) : aBin prog .neq 25 (.agg ⟨p.cells⟩) (.agg ⟨p.cells⟩) KV := by
 show aEq prog true 25 _ _ _
 unfold aEq
 rw [teqSZ]
 exact ⟨by kernel_rfl,hk⟩
theorem ext40 {a b c d : Value} (hk : KV a) : aExt (.tuple ⟨[a,b,c,d]⟩) 0 KV := hk
theorem ext41 {a b c d : Value} (hk : KV b) : aExt (.tuple ⟨[a,b,c,d]⟩) 1 KV := hk
theorem ext42 {a b c d : Value} (hk : KV c) : aExt (.tuple ⟨[a,b,c,d]⟩) 2 KV := hk
theorem ext43 {a b c d : Value} (hk : KV d) : aExt (.tuple ⟨[a,b,c,d]⟩) 3 KV := hk
theorem readGV_text {p : Pas} {s : SkyR} (hp : pasOk p) (hs : skyOk s) : readGV (textP p s) = .tuple ⟨[.agg ⟨p.cells⟩,.agg ⟨s.cells⟩,vint 0,vint 0]⟩ := by
 obtain ⟨h1,h2⟩ := readGE_text hp hs
 unfold readGV
 rw [h1,h2]
theorem fst2_ok {p : Pas} {s : SkyR} (hp : pasOk p) (hs : skyOk s) : fst2 (pasE p) (skyE s) = 0 := by
 unfold pasE skyE
 rw [if_pos hp,if_pos hs]
 rfl
theorem wr_8 (hK : ∀ H',K (.bool true) H') {text : List UInt8} {b10 b11 : Nat} (ds : F.ds = []) (r1 : F.r 1 = strV text) (r10 : F.r 10 = ptr b10 0) (r11 : F.r 11 = ptr b11 0) (r15 : F.r 15 = vint (readGE text).2) (c10 : H[b10]? = some (.cells (readGP text).1.cells true 0)) (c11 : H[b11]? = some (.cells (readGP text).2.cells true 0)) :
  W prog (J2 prog W0 Post) 87 n0 4 (subC [1,1,1,1,1,1,1,1] (codeOf f4)) F H (contX pl4 prog (J2 prog W0 Post) 87 n0 4 ct4 [1,1,1,1,1,1,1,1] (codeOf f4) [] (RetQ prog [.tmp 4] n0 K)) := by
 have hJ := J2.closed prog W0 Post
 rw [s4_8]
 simp only [ds,r15]
 refine neqI (cndI (fun _ => good5 fun H' _ => retL_same (by simp [unk]) (hK H')) fun he => hold.2 ?_)
 obtain ⟨l,hr,hp,hs,hP,_⟩ := readGE_ok (Decidable.not_not.1 he)
 have ht := textP_read hr hp hs
 suffices w : ∀ {F : RG},F.ds = [] → F.r 1 = strV text → F.r 10 = ptr b10 0 → F.r 11 = ptr b11 0 → W prog (J2 prog W0 Post) 87 n0 4 (subC yp3 (codeOf f4)) F H (contX pl4 prog (J2 prog W0 Post) 87 n0 4 ct4 yp3 (codeOf f4) [] (RetQ prog [.tmp 4] n0 K)) from w ds r1 r10 r11
 intro F ds r1 r10 r11
 rw [s4_9]
 simp only [ds,r1,r10,r11]
 rw [hP] at c10 c11
 refine load_part (c := (pasX l).cells) c10 (by simp [Pas.cells]) rfl rfl (load_part (c := (skyX l).cells) c11 (by simp [SkyR.cells]) rfl rfl ?_)
 refine good9 hJ (fun H' h1 _ => absurd (fst2_ok hp hs) h1) fun H' _ _ => ext0 (ext1 (eqlI (cndI (fun _ => ?_) fun h1 => absurd rfl h1)))
 rw [ht]
 exact eqS (cndI (fun _ => good5 fun H' _ => retL_same (by simp [unk]) (hK H')) fun h1 => absurd rfl h1)
set_option maxHeartbeats 1000000 in
theorem walk4 {nv : Value} {ns : List Int} {text : List UInt8} (hE : ErrAt h) (sn : Sli h nv 1 ns.length (ns.map vint)) (hln : ns.length < 4611686018427387904) (hK : ∀ H',K (.bool true) H') :
  W prog (J2 prog W0 Post) 87 h.length 4 (codeOf f4) (RG.mk (regs [nv,strV text]) []) h (RetQ prog [.tmp 4] h.length K) := by
 have hJ := J2.closed prog W0 Post
 rw [e4]
 refine lenStr (gtrI (cndI (fun _ => good5 fun H' _ => retL_same (by simp [unk]) (hK H')) fun _ => hold.2 ?_))
 rw [s4_1]
 refine newX hJ sn hln fun H1 a1 => hold.2 ?_
 rw [s4_2]
 refine good7 hJ a1 (by omega) fun p H2 hp _ S2 a2 => good8 hJ a2 (by omega) (D := 8) (by decide) fun s H3 hs _ S3 a3 => ?_
 have E3 : ErrAt H3 := hE.keep a3.pre
 refine qAl fun H4 b6 e4 S4 c4 l4 => qAl fun H5 b7 e5 S5 c5 l5 => qStA (c := p.cells) (S5.get c4 (by simp)) rfl rfl rfl fun H6 S6 c6 l6 => qStA (c := s.cells) (S6.get c5 (by simp; omega)) rfl rfl rfl fun H7 S7 c7 l7 => hold.2 ?_
 have c67 := S7.get c6 (by simp; omega)
 have E7 : ErrAt H7 := E3.keep (((S4.trans S5).thru S6 (by simp; omega)).thru S7 (by simp; omega))
 rw [s4_3]
 refine load_part (b := b6) (c := p.cells) c67 (by simp [Pas.cells]) rfl rfl (load_part (b := b7) (c := s.cells) c7 (by simp [SkyR.cells]) rfl rfl ?_)
 refine good9 hJ (fun H' h1 _ => absurd (fst2_ok hp hs) h1) fun H8 _ S8 => ext0 (ext1 (hold.2 ?_))
 rw [s4_4]
 refine good12 (s := textP p s) hJ (E7.keep S8) fun H9 S9 => ?_
 rw [readGV_text hp hs]
 refine ext40 (ext41 (ext42 (ext43 ?_)))
 refine qAl fun H10 b10 e10 S10 c10 l10 => qAl fun H11 b11 e11 S11 c11 l11 => qStA (c := p.cells) (S11.get c10 (by simp)) rfl rfl rfl fun H12 S12 c12 l12 => qStA (c := s.cells) (S12.get c11 (by simp; omega)) rfl rfl rfl fun H13 S13 c13 l13 => hold.2 ?_
 have T : SameX [] H7 H13 := (((S8.trans S9).trans S10).trans S11).thru S12 (by have := S8.1; have := S9.1; simp; omega) |>.thru S13 (by have := S8.1; have := S9.1; simp; omega)
 have E13 := E7.keep T
 have d6 := T.get c67 (by simp)
 have d7 := T.get c7 (by simp)
 have d10 := S13.get c12 (by simp; omega)
 suffices w5 : ∀ {F : RG},F.ds = [] → F.r 1 = strV text → F.r 6 = ptr b6 0 → F.r 7 = ptr b7 0 → F.r 9 = vint 0 → F.r 10 = ptr b10 0 → F.r 11 = ptr b11 0 → F.r 12 = vint 0 → F.r 13 = vint 0 → W prog (J2 prog W0 Post) 87 h.length 4 (subC [1,1,1,1,1,1] (codeOf f4)) F H13 (contX pl4 prog (J2 prog W0 Post) 87 h.length 4 ct4 [1,1,1,1,1,1] (codeOf f4) [] (RetQ prog [.tmp 4] h.length K)) from w5 rfl rfl rfl rfl rfl rfl rfl rfl rfl
 intro F ds r1 r6 r7 r9 r10 r11 r12 r13
 rw [s4_5]
 simp only [r6,r7,r9,r10,r11,r12,r13]
 refine neqI (cndI (fun h1 => absurd rfl h1) fun _ => neqI (cndI (fun h1 => absurd rfl h1) fun _ => neqI (cndI (fun h1 => absurd rfl h1) fun _ => ?_)))
 refine load_part (c := p.cells) d6 (by simp [Pas.cells]) rfl rfl (load_part (c := p.cells) d10 (by simp [Pas.cells]) rfl rfl (neqPZ (cnd_false.2 ?_)))
 refine load_part (c := s.cells) d7 (by simp [SkyR.cells]) rfl rfl (load_part (c := s.cells) c13 (by simp [SkyR.cells]) rfl rfl (neqSZ (hold.2 ?_)))
 rw [s4_6]
 refine cnd_false.2 (hold.2 ?_)
 suffices w7 : ∀ {F : RG},F.ds = [] → F.r 1 = strV text → F.r 10 = ptr b10 0 → F.r 11 = ptr b11 0 → W prog (J2 prog W0 Post) 87 h.length 4 (subC [1,1,1,1,1,1,1] (codeOf f4)) F H13 (contX pl4 prog (J2 prog W0 Post) 87 h.length 4 ct4 [1,1,1,1,1,1,1] (codeOf f4) [] (RetQ prog [.tmp 4] h.length K)) from w7 ds r1 r10 r11
 intro F ds r1 r10 r11
 rw [s4_7]
 simp only [r1,r10,r11]
 refine good12 (s := text) hJ E13 fun H14 S14 => ext40 (ext41 (ext42 (ext43 ?_)))
 refine qStA (c := (readGP text).1.cells) (S14.get d10 (by simp)) rfl rfl rfl fun H15 S15 c15 l15 => qStA (c := (readGP text).2.cells) (S15.get (S14.get c13 (by simp)) (by simp; omega)) rfl rfl rfl fun H16 S16 c16 l16 => hold.2 ?_
 exact wr_8 hK (text := text) ds r1 r10 r11 rfl (S16.get c15 (by simp; omega)) c16
end
end Go.Proofs.YtlhanfcgdfjhjaaGreatDoor
namespace Go.Proofs.YtlhanfcgdfjhjaaGreatDoor
open Go.Conc Go.RowKit
def idEnv : Env := ⟨fun b => b,fun _ => 0⟩
def startFt (w : World) : Foot := ⟨fun b => b < w.heap.size,fun _ => False,0⟩
def startFC (w : World) : Frm := ⟨fun b => w.heap[b]?,fun _ => False⟩
def Fine (n : Nat) (v : Value) : Prop := VOk n v ∧ one v = true ∧ ren idEnv v = v
open Classical in
noncomputable def clean (n : Nat) (v : Value) : Value := if Fine n v then v else unk
noncomputable def absO (n : Nat) : Obj → AObj
 | .cells c _ _ => .cells (c.toList.map (clean n)) false 0
 | _ => .dead
noncomputable def absH (w : World) : List AObj := w.heap.toList.map (absO w.heap.size)
section
variable {w w' : World} {n : Nat}
theorem clean_fine {v : Value} (h : Fine n v) : clean n v = v := by simp [clean,h]
theorem absH_len : (absH w).length = w.heap.size := by simp [absH]
theorem absH_get {b : Nat} : (absH w)[b]? = (w.heap[b]?).map (absO w.heap.size) := by simp [absH]
theorem absO_wrt (x : Obj) : (absO n x).wrt = false := by cases x <;> rfl
theorem start_rel (w : World) : HRel idEnv (absH w) (startFC w) w (startFt w) where
 obj := fun b o hb => by
  rw [absH_get] at hb
  obtain ⟨x,hx,rfl⟩ := Option.map_eq_some_iff.1 hb
  show ORel (absH w).length idEnv b (absO w.heap.size x) w.heap[b]?
  rw [absH_len,hx]
  cases x with
  | cells c ty fr =>
   refine ⟨fun i v hv => ?_,fun _ => by simp,fun hz => absurd rfl hz,fun e => by cases e⟩
   rw [List.getElem?_map] at hv
   obtain ⟨u,hu,rfl⟩ := Option.map_eq_some_iff.1 hv
   by_cases hf : Fine w.heap.size u
   ·rw [clean_fine hf]
    exact .inr ⟨hf.1,hf.2.1,by rw [hf.2.2]; simpa using hu⟩
   ·exact .inl ⟨by simp [clean,hf],rfl⟩
  | _ => trivial
 inj := fun b b' o o' _ _ _ _ _ e => e
 rd := fun b o hb _ => by
  have : b < (absH w).length := (List.getElem?_eq_some_iff.1 hb).1
  rw [absH_len] at this
  exact this
 wr := fun b o hb hw => by
  rw [absH_get] at hb
  obtain ⟨x,hx,rfl⟩ := Option.map_eq_some_iff.1 hb
  rw [absO_wrt] at hw
  cases hw
 lt := fun b hb => hb
 sub := fun b hb => hb.elim
 kept := fun b o hb => by
  refine ⟨hb,?_,fun a oa ha hw => ?_⟩
  ·exact (Array.getElem?_eq_some_iff.1 hb).1
  ·rw [absH_get] at ha
   obtain ⟨x,hx,rfl⟩ := Option.map_eq_some_iff.1 ha
   rw [absO_wrt] at hw
   cases hw
 keptW := fun b hb => hb.elim
 tag := fun b x hb => by
  rw [absH_get] at hb
  obtain ⟨y,_,e⟩ := Option.map_eq_some_iff.1 hb
  cases y <;> cases e
theorem absH_cell {b o : Nat} {v : Value} (hc : w.cell? ⟨b,o,none⟩ = some v) (hf : Fine w.heap.size v) : ∃ c,(absH w)[b]? = some (.cells c false 0) ∧ c[o]? = some v := by
 unfold World.cell? at hc
 simp only at hc
 split at hc
 ·rename_i c ty fr hx
  refine ⟨c.toList.map (clean w.heap.size),by rw [absH_get,hx]; rfl,?_⟩
  have hc' : c[o]? = some v := by simpa using hc
  rw [List.getElem?_map,Array.getElem?_toList,hc']
  simp [clean_fine hf]
 ·cases hc
theorem below_of {ρ' : Env} {h' : List AObj} {ft' : Foot} (H : HRel ρ' h' (startFC w) w' ft') (B : Base w w') : Below w.heap.size w w' :=
 ⟨B.os,B.tape,B.output,B.size,fun k hk => by
  have : (startFC w).ob k = some w.heap[k] := by simp [startFC,hk]
  rw [(H.kept k _ this).1,Array.getElem?_eq_getElem hk]⟩
end
end Go.Proofs.YtlhanfcgdfjhjaaGreatDoor
namespace Go.Proofs.YtlhanfcgdfjhjaaGreatDoor
open Go.Conc Go.ChangeShapes Go.WideShapes Go.ChangeAt Go.RowKit Go.Proofs.Tryz
set_option maxRecDepth 100000
theorem own : ownKnob prog.godebug = none := by kernel_rfl
theorem laidOut : laidOutB prog = true := by kernel_rfl
def ArgOk (W : World) (v : Value) : Prop := VOk W.heap.size v ∧ ren idEnv v = v
section
variable {H : Type} {enc : TypeId × Value → H}
theorem arg_ints {t e : TypeId} (ht : prog.underlying t = some (.slice e)) (he : prog.underlying e = some (.int .i64)) (hc : prog.cellsOf e = 1) {W : World} {base : Nat} {v : Value} {d : DataW H} {ps : List MemPlace}
  (hval : Value.okWide prog W .any base t v) (hd : DataW.Trod enc prog W 0 (fun _ => true) true t v d ps) :
  ∃ zs : List Int,Sli (absH W) v 1 zs.length (zs.map vint) ∧ ArgOk W v ∧ (zs = [] ∨ ∃ es sp,d = .slice es sp ∧ zs.length ≤ es.length + sp.length) := by
 obtain ⟨a0,len,cap,rfl⟩ := okWide_slice ht hval
 obtain ⟨fuel,hf⟩ := hd
 rcases open_ints ht he hc hf with ⟨hcs,hx⟩ | ⟨a,len',cap',zs,hcs,_,hl,hm,hz,hx,hcell,hwz⟩
 ·simp [Value.cells] at hcs
  obtain ⟨rfl,rfl,rfl⟩ := hcs
  exact ⟨[],sli_nil,⟨by simp [VOk],by simp [ren]⟩,.inl rfl⟩
 ·simp [Value.cells] at hcs
  obtain ⟨rfl,rfl,rfl⟩ := hcs
  simp only [Prod.mk.injEq] at hx
  obtain ⟨rfl,rfl⟩ := hx
  simp only [if_true] at hz
  simp only [Value.okWide,ht,Cell.okWide,Cell.ok,World.has] at hval
  obtain ⟨_,_,_,hspot,row,cells,hshape,_⟩ := hval
  obtain ⟨b,o,spot⟩ := a
  simp only at hspot hshape
  subst hspot
  have hb : b < W.heap.size := by
   unfold World.shape? at hshape
   split at hshape
   ·rename_i h
    exact (Array.getElem?_eq_some_iff.1 h).1
   ·cases hshape
  have hlen : (zs.take len).length = len := by simp; omega
  have hcell' : ∀ i,i < zs.length → W.cell? ⟨b,o + i,none⟩ = some (vint (zs.getD i 0)) := by
   intro i hi
   have := hcell i hi
   unfold Addr.add at this
   by_cases h0 : i = 0
   ·subst h0; simpa using this
   ·simpa [h0] using this
  have hmax : cap < fz := by
   simp only [maxLen] at hm
   unfold fz
   omega
  refine ⟨zs.take len,?_,⟨by simp only [VOk,AddrOk]; exact ⟨hb,trivial⟩,?_⟩,.inr ⟨_,_,rfl,?_⟩⟩
  ·refine ⟨some ⟨b,o,none⟩,cap,by rw [hlen],⟨by simp,kn_ints _⟩,.inr ⟨b,o,rfl,?_⟩⟩
   rw [hlen]
   by_cases h0 : len = 0
   ·exact .inl h0
   ·right
    have fine : ∀ n : Int,Fine W.heap.size (vint n) := fun n => ⟨by simp [VOk],rfl,by simp [ren]⟩
    obtain ⟨c,hc1,hc2⟩ := absH_cell (hcell' 0 (by omega)) (fine _)
    refine ⟨c,false,0,hc1,?_⟩
    apply List.ext_getElem?
    intro i
    rw [Nat.mul_one]
    by_cases hi : i < len
    ·obtain ⟨c',hc1',hc2'⟩ := absH_cell (hcell' i (by omega)) (fine _)
     rw [hc1] at hc1'
     cases hc1'
     rw [List.getElem?_take,if_pos hi,List.getElem?_drop,hc2']
     have hzi : i < zs.length := by omega
     simp [hi,hzi]
    ·rw [List.getElem?_take,if_neg hi,List.getElem?_eq_none (by simp; omega)]
  ·have hnf : ¬ fz ≤ cap := by omega
   simp [ren,renAddr,renCap,idEnv,hnf]
  ·simp only [lits,List.length_map,List.length_take,List.length_drop]
   omega
end
section
variable {n m : Nat} {σ : Nat → Nat}
mutual
theorem vok_sub (h : ∀ b,b < n → σ b < m) : ∀ v : Value,VOk n v → VOk m (sub σ v)
 | .pointer (some a),hv => by simp only [VOk,AddrOk,sub] at hv ⊢; exact ⟨h _ hv.1,hv.2⟩
 | .slice (some a) _ _,hv => by simp only [VOk,AddrOk,sub] at hv ⊢; exact ⟨h _ hv.1,hv.2⟩
 | .map (some r),hv => by simp only [VOk,sub] at hv ⊢; exact h _ hv
 | .chan (some r),hv => by simp only [VOk,sub] at hv ⊢; exact h _ hv
 | .func fn first cap,hv => by
  simp only [VOk,sub] at hv ⊢
  refine ⟨?_,aok_sub h first hv.2.1,aok_sub h cap hv.2.2⟩
  have h1 := hv.1
  cases fn <;> simp only [subFn,FnOk] at h1 ⊢
  exact h _ h1
 | .iface _ v,hv => by simp only [VOk,sub] at hv ⊢; exact vok_sub h v hv
 | .agg cs,hv => by simp only [VOk,sub] at hv ⊢; exact aok_sub h cs hv
 | .tuple vs,hv => by simp only [VOk,sub] at hv ⊢; exact aok_sub h vs hv
 | .bool _,_ | .int _ _,_ | .float _ _,_ | .complex _ _ _,_ | .string _,_ | .pointer none,_ | .slice none _ _,_ | .map none,_ | .chan none,_ | .nilFunc,_ | .nilIface,_ => by simp only [VOk,sub]
theorem aok_sub (h : ∀ b,b < n → σ b < m) : ∀ a : Array Value,AOk n a → AOk m (subA σ a)
 | ⟨l⟩,hv => by simp only [AOk,subA] at hv ⊢; exact lok_sub h l hv
theorem lok_sub (h : ∀ b,b < n → σ b < m) : ∀ l : List Value,LOk n l → LOk m (subL σ l)
 | [],_ => by simp only [LOk,subL]
 | v :: l,hv => by simp only [LOk,subL] at hv ⊢; exact ⟨vok_sub h v hv.1,lok_sub h l hv.2⟩
end
end
theorem ro_rel {ρ : Env} {h : List AObj} {w : World} (hobj : ∀ b o,h[b]? = some o → ORel h.length ρ b o w.heap[ρ.blk b]?) (hro : ∀ o ∈ h,o.wrt = false ∧ ∀ x,o ≠ .group x)
  (hrd : ∀ b o,h[b]? = some o → o.live = true → ρ.blk b < w.heap.size) : HRel ρ h (startFC w) w (startFt w) where
 obj := hobj
 inj := fun b b' o o' hb hb' _ _ lw _ => lw.elim (fun k => by rw [(hro o (List.mem_of_getElem? hb)).1] at k; cases k) fun k => by rw [(hro o' (List.mem_of_getElem? hb')).1] at k; cases k
 rd := hrd
 wr := fun b o hb hw => by rw [(hro o (List.mem_of_getElem? hb)).1] at hw; cases hw
 lt := fun b hb => hb
 sub := fun b hb => hb.elim
 kept := fun b o hb => ⟨hb,(Array.getElem?_eq_some_iff.1 hb).1,fun a oa ha hw => by rw [(hro oa (List.mem_of_getElem? ha)).1] at hw; cases hw⟩
 keptW := fun b hb => hb.elim
 tag := fun b x hb => absurd rfl ((hro _ (List.mem_of_getElem? hb)).2 x)
open Classical in
noncomputable def flat (v : Value) : Value := if VOk 0 v ∧ one v = true then v else unk
theorem flat_of {v : Value} (h : VOk 0 v ∧ one v = true) : flat v = v := if_pos h
noncomputable def flatO : AObj → AObj
 | .cells c _ _ => .cells (c.map flat) false 0
 | _ => .dead
def toldEnv (n g : Nat) : Env := ⟨fun b => if b < n then b else if b = n then g else b - (n + 1),fun _ => 0⟩
abbrev shift (n : Nat) : Nat → Nat := fun b => n + 1 + b
def toldO (told : Nat → Option (List Value)) (i : Nat) : AObj := match told i with | some c => .typed false i c false | none => .dead
noncomputable def toldH (told : Nat → Option (List Value)) (g : Nat) (w : World) : List AObj := (List.range w.heap.size).map (toldO told) ++ .place g :: (absH w).map flatO
section
variable {told : Nat → Option (List Value)} {g : Nat} {w : World}
theorem toldH_len : (toldH told g w).length = w.heap.size + 1 + w.heap.size := by simp [toldH,absH_len]; omega
theorem toldH_lo {i : Nat} (hi : i < w.heap.size) : (toldH told g w)[i]? = some (toldO told i) := by
 unfold toldH
 rw [List.getElem?_append_left (by simpa using hi)]
 simp [hi]
theorem toldH_mid : (toldH told g w)[w.heap.size]? = some (.place g) := by
 unfold toldH
 rw [List.getElem?_append_right (by simp)]
 simp
theorem toldH_hi (i : Nat) : (toldH told g w)[w.heap.size + 1 + i]? = ((absH w)[i]?).map flatO := by
 unfold toldH
 rw [List.getElem?_append_right (by simp; omega)]
 have : w.heap.size + 1 + i - ((List.range w.heap.size).map (toldO told)).length = i + 1 := by simp; omega
 rw [this,List.getElem?_cons_succ,List.getElem?_map]
theorem toldO_wrt (i : Nat) : (toldO told i).wrt = false ∧ ∀ x,toldO told i ≠ .group x := by
 unfold toldO
 split <;> exact ⟨rfl,fun x e => by cases e⟩
theorem flatO_wrt (o : AObj) : (flatO o).wrt = false ∧ ∀ x,flatO o ≠ .group x := by
 cases o <;> exact ⟨rfl,fun x e => by cases e⟩
theorem toldH_cases {i : Nat} {o : AObj} (h : (toldH told g w)[i]? = some o) : (i < w.heap.size ∧ o = toldO told i) ∨ (i = w.heap.size ∧ o = .place g) ∨ ∃ j x,i = w.heap.size + 1 + j ∧ (absH w)[j]? = some x ∧ o = flatO x := by
 rcases Nat.lt_trichotomy i w.heap.size with hi | rfl | hi
 ·rw [toldH_lo hi] at h
  cases h
  exact .inl ⟨hi,rfl⟩
 ·rw [toldH_mid] at h
  cases h
  exact .inr (.inl ⟨rfl,rfl⟩)
 ·obtain ⟨j,rfl⟩ : ∃ j,i = w.heap.size + 1 + j := ⟨i - (w.heap.size + 1),by omega⟩
  rw [toldH_hi] at h
  obtain ⟨x,hx,rfl⟩ := Option.map_eq_some_iff.1 h
  exact .inr (.inr ⟨j,x,rfl,hx,rfl⟩)
theorem env_lo {n i : Nat} (hi : i < n) : (toldEnv n g).blk i = i := if_pos hi
theorem env_mid {n : Nat} : (toldEnv n g).blk n = g := by simp [toldEnv]
theorem env_hi {n i : Nat} : (toldEnv n g).blk (n + 1 + i) = i := by
 unfold toldEnv
 simp only
 rw [if_neg (by omega),if_neg (by omega)]
 omega
theorem told_rel (ht : ∀ i c,told i = some c → i < w.heap.size → ∃ c' ty fr,w.heap[i]? = some (.cells c' ty fr) ∧ CellsRel (toldH told g w).length (toldEnv w.heap.size g) i c false 0 c' fr) :
  HRel (toldEnv w.heap.size g) (toldH told g w) (startFC w) w (startFt w) := by
 refine ro_rel (fun b o hb => ?_) (fun o ho => ?_) fun b o hb hl => ?_
 ·rcases toldH_cases hb with ⟨hi,rfl⟩ | ⟨rfl,rfl⟩ | ⟨j,x,rfl,hx,rfl⟩
  ·rw [env_lo hi]
   unfold toldO
   cases hc : told b with
   | none => trivial
   | some c =>
    obtain ⟨c',ty,fr,hw,hr⟩ := ht b c hc hi
    rw [hw]
    exact ⟨hr,(fun e => by cases e),fun _ => env_lo hi⟩
  ·exact env_mid
  ·rw [env_hi]
   cases x with
   | cells c wr sz =>
    have h1 := (start_rel w).obj j _ hx
    have h1 : ORel (absH w).length idEnv j (.cells c wr sz) w.heap[j]? := h1
    rw [absH_get] at hx
    obtain ⟨y,hy,e⟩ := Option.map_eq_some_iff.1 hx
    rw [hy] at h1 ⊢
    cases y with
    | cells c' ty fr =>
     cases e
     obtain ⟨a1,a2,_,_⟩ := h1
     refine ⟨fun i v hv => ?_,fun _ => by rw [List.length_map]; exact a2 rfl,fun hz => absurd rfl hz,fun e => by cases e⟩
     rw [List.getElem?_map] at hv
     obtain ⟨u,hu,rfl⟩ := Option.map_eq_some_iff.1 hv
     by_cases hf : VOk 0 u ∧ one u = true
     ·rw [flat_of hf]
      rcases a1 i u hu with ⟨rfl,_⟩ | ⟨_,_,b3⟩
      ·exact .inl ⟨rfl,rfl⟩
      ·exact .inr ⟨VOk.mono (Nat.zero_le _) _ hf.1,hf.2,by rw [b3,ren0 u hf.1,ren0 u hf.1]⟩
     ·exact .inl ⟨if_neg hf,rfl⟩
    | _ => cases e
   | _ => trivial
 ·obtain ⟨i,hi⟩ := List.mem_iff_getElem?.1 ho
  rcases toldH_cases hi with ⟨_,rfl⟩ | ⟨_,rfl⟩ | ⟨j,x,_,_,rfl⟩
  ·exact toldO_wrt i
  ·exact ⟨rfl,fun x e => by cases e⟩
  ·exact flatO_wrt x
 ·rcases toldH_cases hb with ⟨hi,rfl⟩ | ⟨rfl,rfl⟩ | ⟨j,x,rfl,hx,rfl⟩
  ·rw [env_lo hi]
   exact hi
  ·cases hl
  ·rw [env_hi]
   have := (List.getElem?_eq_some_iff.1 hx).1
   rwa [absH_len] at this
theorem told_sli {v : Value} {s k : Nat} {cells : List Value} (h : Sli (absH w) v s k cells) (hf : ∀ x ∈ cells,VOk 0 x ∧ one x = true) : Sli (toldH told g w) (sub (shift w.heap.size) v) s k cells := by
 obtain ⟨base,c,rfl,hk,hb⟩ := h
 rcases hb with ⟨rfl,h0⟩ | ⟨b,o,rfl,hn⟩
 ·exact ⟨none,c,by simp [sub],hk,.inl ⟨rfl,h0⟩⟩
 ·refine ⟨some ⟨shift w.heap.size b,o,none⟩,c,by simp [sub],hk,.inr ⟨_,o,rfl,hn.imp id ?_⟩⟩
  rintro ⟨cs,wr,sz,hcs,e⟩
  refine ⟨cs.map flat,false,0,by rw [toldH_hi,hcs]; rfl,?_⟩
  rw [← List.map_drop,← List.map_take,e]
  refine (List.map_congr_left (g := id) fun x hx => flat_of (hf x hx)).trans (List.map_id _)
theorem flat_int {n : Int} : VOk 0 (vint n) ∧ one (vint n) = true := ⟨by simp [VOk],rfl⟩
theorem told_ints {v : Value} {ns : List Int} (h : Sli (absH w) v 1 ns.length (ns.map vint)) : Sli (toldH told g w) (sub (shift w.heap.size) v) 1 ns.length (ns.map vint) :=
 told_sli h fun x hx => by
  obtain ⟨i,_,rfl⟩ := List.mem_map.1 hx
  exact flat_int
theorem told_arg {v : Value} (h : ArgOk w v) : VRel (toldH told g w).length (toldEnv w.heap.size g) (sub (shift w.heap.size) v) v := by
 obtain ⟨h1,h2⟩ := h
 refine .inr ⟨vok_sub (fun b hb => by rw [toldH_len]; show w.heap.size + 1 + b < _; omega) v h1,?_⟩
 rw [ren_sub]
 refine (h2.symm.trans ?_)
 refine (ren_congr (fun b _ => ?_) v h1 : ren ((toldEnv w.heap.size g).comp (shift w.heap.size)) v = ren idEnv v).symm
 exact ⟨env_hi,rfl⟩
end
end Go.Proofs.YtlhanfcgdfjhjaaGreatDoor
namespace Go.Proofs.YtlhanfcgdfjhjaaGreatDoor
open Go.Conc
section
variable {P : Program} {W0 : World} {Post : Value → World → Prop} {ρ : Env} {h : List AObj} {FC : Frm} {w : World} {ft : Foot} {f : RG} {a : Act} {b : FB} {K : Value → List AObj → Prop} {n0 : Nat}
theorem leave_top2 {fn : Func} (hk : b.kind = .normal) (hf : P.funcs[b.fn]? = some fn) (hin : P.inits.idxOf? b.fn = none)
  (hc : ∀ v h' ρ' w' ft' cv,K v h' → HRel ρ' h' FC w' ft' → Env.upto n0 ρ ρ' → n0 ≤ h'.length → VRel h'.length ρ' v cv → Base W0 w' → Post cv w') :
  ∀ (ds : List Nat) (h : List AObj) (w : World) (ft : Foot) (a : Act) (fr : Frame),fr.fn = b.fn → fr.kind = .normal → fr.mode = .returning → fr.tmps = a.tmps → fr.defers = ds.map (fun d => { target := .collected (ρ.blk d),args := #[] }) → RegRel h.length ρ f.r a.tmps → HRel ρ h FC w ft → n0 ≤ h.length →
   takeW ds h (fun h => resW P fn.results.toList f.r h fun vs => K (pack vs) h ∨ ∃ σ h' v,GC n0 σ h h' ∧ pack vs = sub σ v ∧ VOk h'.length v ∧ K v h') → J2 P W0 Post (G fr []) w ft
 | [],h,w,ft,a,fr,e1,e2,e3,e4,e5,hr,H,hn,hq => by
  obtain ⟨fn',tmps,todo,defers,mode,kind,ro⟩ := fr
  simp only at e1 e2 e3 e4 e5
  subst e1 e2 e3 e4 e5
  refine J2.both rfl fun w₁ h₁ hbase => .inr ?_
  have H₁ := H.rely h₁
  have hrun : RunsTo P (EvOk ft) (results fn a.tmps) w₁ fun cv w' => w' = w₁ ∧ ∃ vs,cv = ren ρ (pack vs) ∧ (∀ v ∈ vs,VOk h.length v) ∧ (K (pack vs) h ∨ ∃ σ h' v,GC n0 σ h h' ∧ pack vs = sub σ v ∧ VOk h'.length v ∧ K v h') := by
   unfold results
   have : (fn.results.mapM (resF a.tmps)) = List.toArray <$> fn.results.toList.mapM (resF a.tmps) := by
    rw [Array.mapM_eq_mapM_toList]
   show RunsTo P (EvOk ft) (do
    let vs ← fn.results.mapM (resF a.tmps)
    pure (if h : vs.size = 1 then vs[0] else .tuple vs)) w₁ _
   rw [this]
   refine RunsTo.bind (RunsTo.map (res_run (n := 0) H₁ hr fn.results.toList hq fun vs hvs hok => RunsTo.pure ⟨rfl,vs,?_,hok,hvs⟩))
   exact pack_ren vs
  obtain ⟨cv,w',es,hr',he,rfl,vs,rfl,hvok,hvs⟩ := hrun #[] (by simp)
  have hes : ∀ e ∈ seen P b.fn es,EvOk ft e := fun e hm => he e (mem_seen hm)
  refine ⟨ren ρ (pack vs),seen P b.fn es,?_,hes,?_⟩
  ·simp only [G,stepG,unwind,List.map_nil,hf,hr']
   simp [doReturn,GStep.after,hin]
  ·rcases hvs with hK | ⟨σ,h',v,g,hp,hok,hK⟩
   ·exact hc _ h _ w' ft _ hK H₁ (Env.upto_refl _ _) hn (.inr ⟨pack_ok hvok,rfl⟩) hbase
   ·rw [hp,ren_sub]
    exact hc v h' _ w' ft _ hK (g.rel H₁) g.upto g.le (.inr ⟨hok,rfl⟩) hbase
 | d :: ds,h,w,ft,a,fr,e1,e2,e3,e4,e5,hr,H,hn,hq => by
  obtain ⟨fn',tmps,todo,defers,mode,kind,ro⟩ := fr
  simp only at e1 e2 e3 e4 e5
  subst e1 e2 e3 e4 e5
  obtain ⟨hd,hq⟩ := hq
  refine (J2.closed P W0 Post).step rfl fun w₁ h₁ => ?_
  have H₁ := H.rely h₁
  obtain ⟨cv,w',es,hr',he,rfl,H',hst,hsz⟩ := take_run (P := P) H₁ hd (Q := fun l w' => l = [] ∧ HRel ρ (h.set d .dead) FC w' ft ∧ Stays ft w₁ w' ∧ w'.heap.size = w₁.heap.size) (fun w' a1 a2 a3 => ⟨rfl,a1,a2,a3⟩) #[] (by simp)
  have hes : ∀ e ∈ seen P b.fn es,EvOk ft e := fun e hm => he e (mem_seen hm)
  refine ⟨G { fn := b.fn,tmps := a.tmps,todo := todo,defers := ds.map (fun d => { target := .collected (ρ.blk d),args := #[] }),mode := .returning,kind := .normal,roundOf := ro } [],w',seen P b.fn es,?_,rfl,hst.guar hes,?_⟩
  ·simp only [G,stepG,unwind,List.map_cons,hr']
   simp [GStep.after]
  ·rw [hsz,Foot.ext_self]
   exact leave_top2 hk hf hin hc ds _ w' ft a _ rfl rfl rfl rfl rfl (by rw [List.length_set]; exact hr) H' (by rw [List.length_set]; exact hn) hq
theorem top_of_W2 (hm : P.follows .mixedOrders = true) {g : FuncId} {fn : Func} (hf : P.funcs[g]? = some fn) {c : Code} (hb : fn.body = some c) (hin : P.inits.idxOf? g = none) {args : List Value} {cargs : Array Value} (ha : args.length ≤ fn.ntmps) (hl : cargs.size = args.length)
  (hr : ∀ i : Nat,VRel h.length ρ (args.getD i unk) (cargs.toList.getD i undef)) (H : HRel ρ h FC w ft)
  (hs : W P (J2 P W0 Post) fn.ntmps h.length g c ⟨regs args,[]⟩ h (RetQ P fn.results.toList h.length K))
  (hc : ∀ v h' ρ' w' ft' cv,K v h' → HRel ρ' h' FC w' ft' → Env.upto h.length ρ ρ' → h.length ≤ h'.length → VRel h'.length ρ' v cv → Base W0 w' → Post cv w') : J2 P W0 Post (G (Frame.enter P g cargs .normal) []) w ft := by
 have hJ := J2.closed P W0 Post
 obtain ⟨cargs⟩ := cargs
 simp only at hl hr
 have he : Frame.enter P g ⟨cargs⟩ .normal = FB.at ⟨g,.normal,none,[]⟩ ⟨⟨cargs⟩ ++ Array.replicate (fn.ntmps - cargs.length) undef,[]⟩ [.code c] := by
  simp [Frame.enter,FB.at,hf,hb]
 rw [he]
 have A : ActRel h.length ρ fn.ntmps ⟨regs args,[]⟩ ⟨⟨cargs⟩ ++ Array.replicate (fn.ntmps - cargs.length) undef,[]⟩ := by
  refine ⟨fun t => ?_,by simp at hl ⊢; omega,rfl,by simp⟩
  have := hr t
  have ht : ((⟨cargs⟩ : Array Value) ++ Array.replicate (fn.ntmps - cargs.length) undef).getD t undef = cargs.getD t undef := by
   rw [Array.getD_eq_getD_getElem?,List.getD_eq_getElem?_getD]
   by_cases hx : t < cargs.length
   ·rw [Array.getElem?_append_left (by simpa using hx)]
    simp
   ·rw [Array.getElem?_append_right (by simp; omega),List.getElem?_eq_none (by omega)]
    simp only [Array.getElem?_replicate]
    split <;> rfl
  rw [ht]
  exact this
 have last : ∀ f' h' ρ' w' ft' a' todo,RetQ P fn.results.toList h.length K .ret f' h' → ActRel h'.length ρ' fn.ntmps f' a' → HRel ρ' h' FC w' ft' → Env.upto h.length ρ ρ' → h.length ≤ h'.length →
   J2 P W0 Post (G { (FB.at ⟨g,.normal,none,[]⟩ a' todo) with mode := .returning } []) w' ft' := by
  intro f' h' ρ' w' ft' a' todo q A' H' hu hl
  exact leave_top2 (b := ⟨g,.normal,none,[]⟩) (f := f') (n0 := h.length) (ρ := ρ') rfl hf hin (fun v h2 ρ2 w2 ft2 cv k H2 u2 l2 v2 => hc v h2 ρ2 w2 ft2 cv k H2 (Env.upto_trans hu u2) l2 v2) f'.ds h' w' ft' a' _ rfl rfl rfl rfl ((List.append_nil _).trans A'.defers) A'.regs H' hl q
 refine W_sound hJ hm c hs ⟨g,.normal,none,[]⟩ _ [] [] (fun jump a w ft => jump = some .ret ∧ ∀ todo,J2 P W0 Post (G { (FB.at ⟨g,.normal,none,[]⟩ a todo) with mode := .returning } []) w ft) ρ FC w ft rfl (by simp) ?_ A H (Nat.le_refl _) ?_
 ·rintro jump a w ft todo ⟨rfl,hj⟩ hh
  rcases hh with ⟨_,k,rfl⟩ | ⟨id,k,e,_⟩ | ⟨e,_⟩
  ·exact hJ.ctrl rfl rfl (fun w => by simp [G,stepG,stepG.exec,FB.at]) (hj (.code .ret :: k))
  ·cases e
  ·cases e
 ·intro e f' h' ρ' w' ft' a' q A' H' hu hl
  cases e with
  | normal => exact hJ.ctrl rfl rfl (fun w => by simp [G,stepG,stepG.exec,FB.at]) (last f' h' ρ' w' ft' a' [] q A' H' hu hl)
  | ret => exact ⟨rfl,fun todo => last f' h' ρ' w' ft' a' todo q A' H' hu hl⟩
  | exit id => exact q.elim
  | goto l => exact q.elim
  | panic l => exact q.elim
  | outgrown => exact q.elim
end
end Go.Proofs.YtlhanfcgdfjhjaaGreatDoor
namespace Go.Proofs.YtlhanfcgdfjhjaaGreatDoor
open Go.Conc Go.ChangeShapes Go.WideShapes Go.ChangeAt Go.RowKit Go.Proofs.Tryz
set_option maxRecDepth 100000
theorem trodAll_cons {H : Type} {enc : TypeId × Value → H} {P : Program} {w : World} {base : Nat} {spare : Nat → Bool} {held : Bool} {t : TypeId} {ts : List TypeId} {vs : List Value} {ds : List (DataW H)} {ps : List MemPlace}
  (h : DataW.TrodAll enc P w base spare held (t :: ts) vs ds ps) : ∃ v vs' d ds' p q,vs = v :: vs' ∧ ds = d :: ds' ∧ ps = p ++ q ∧ DataW.Trod enc P w base spare held t v d p ∧ DataW.TrodAll enc P w base spare held ts vs' ds' q := by
 match vs,ds,h with
 | v :: vs,d :: ds,⟨p,q,h1,h2,h3⟩ => exact ⟨v,vs,d,ds,p,q,rfl,rfl,h3,h1,h2⟩
theorem trodAll_nil {H : Type} {enc : TypeId × Value → H} {P : Program} {w : World} {base : Nat} {spare : Nat → Bool} {held : Bool} {vs : List Value} {ds : List (DataW H)} {ps : List MemPlace}
  (h : DataW.TrodAll enc P w base spare held [] vs ds ps) : vs = [] ∧ ds = [] ∧ ps = [] := by
 match vs,ds,h with
 | [],[],h => exact ⟨rfl,rfl,h⟩
theorem trodAll_mkc {H : Type} {enc : TypeId × Value → H} {P : Program} {w : World} {base : Nat} {spare : Nat → Bool} {held : Bool} {t : TypeId} {ts : List TypeId} {v : Value} {vs : List Value} {d : DataW H} {ds : List (DataW H)} {p q : List MemPlace}
 (h1 : DataW.Trod enc P w base spare held t v d p) (h2 : DataW.TrodAll enc P w base spare held ts vs ds q) : DataW.TrodAll enc P w base spare held (t :: ts) (v :: vs) (d :: ds) (p ++ q) := ⟨p,q,h1,h2,rfl⟩
section
variable {H : Type} {enc : TypeId × Value → H} {W : World} {n base : Nat} {cs : List Value} {r : DataW H × List MemPlace}
theorem argOk_fine {v : Value} (h : ∀ m,Fine m v) : ArgOk W v := ⟨(h _).1,(h 0).2.2⟩
end
abbrev laidL : List (String × DataW Unit) := [("math/bits.deBruijn32tab", Rows.laid_math_bits_deBruijn32tab), ("math/bits.deBruijn64tab", Rows.laid_math_bits_deBruijn64tab), ("internal/strconv.uint64pow10", Rows.laid_internal_strconv_uint64pow10), ("unicode/utf8.acceptRanges", Rows.laid_unicode_utf8_acceptRanges), ("errors.errorType", Rows.laid_errors_errorType), ("unicode/utf8.first", Rows.laid_unicode_utf8_first)]
abbrev laidData : List (String × DataW Unit) := [("math/bits.deBruijn32tab", Rows.laid_math_bits_deBruijn32tab), ("math/bits.deBruijn64tab", Rows.laid_math_bits_deBruijn64tab), ("internal/strconv.uint64pow10", Rows.laid_internal_strconv_uint64pow10), ("unicode/utf8.acceptRanges", Rows.laid_unicode_utf8_acceptRanges), ("unicode/utf8.first", Rows.laid_unicode_utf8_first)]
theorem laid_split : laidL.filter (fun x => x.2.handleName?.isSome) = [("errors.errorType", Rows.laid_errors_errorType)] ∧ laidL.filter (fun x => x.2.handleName?.isNone) = laidData := ⟨by kernel_rfl, by kernel_rfl⟩
def cellsN : Nat → DataW Unit → List Value
 | 0,_ => []
 | n + 1,.agg ds => ds.flatMap (cellsN n)
 | _,.lit (.int k n) => [.int k n]
 | _,_ => []
def laySet (d : DataW Unit) : Obj → Obj
 | .cells _ t frozen => .cells ⟨cellsN 4 d⟩ t frozen
 | o => o
noncomputable def laySetE : Obj → Obj
 | .cells _ t frozen => .cells #[.iface 176 (.agg #[typeHandle prog 75])] t frozen
 | o => o
noncomputable def laidWorld (os : Os) (args : Array Value) : World :=
 let w0 := World.holding prog os ⟨#[],args,[]⟩
 { w0 with heap := (((((w0.heap.modify 0 laySetE).modify 1 (laySet Rows.laid_internal_strconv_uint64pow10)).modify 3 (laySet Rows.laid_math_bits_deBruijn32tab)).modify 4 (laySet Rows.laid_math_bits_deBruijn64tab)).modify 5 (laySet Rows.laid_unicode_utf8_first)).modify 6 (laySet Rows.laid_unicode_utf8_acceptRanges) }
theorem laid_parts {w : World} (h : laidMetH prog laidL w) : laidMet prog laidData w ∧ handlesMet prog [("errors.errorType", Rows.laid_errors_errorType)] w := by
 unfold laidMetH at h
 rw [laid_split.1,laid_split.2] at h
 exact h
theorem err_row : (List.range prog.types.size).all (fun t => !prog.rowNamed t [101,114,114,111,114] || t == 75) = true := by kernel_rfl
theorem err_cells {w : World} (h : laidMetH prog laidL w) : ∃ ty fr,w.heap[0]? = some (.cells #[.iface 176 (.agg #[typeHandle prog 75])] ty fr) := by
 have h1 := (laid_parts h).2 ("errors.errorType", Rows.laid_errors_errorType) (by simp)
 have e : (Rows.laid_errors_errorType : DataW Unit).funcsIn? = none := by kernel_rfl
 rw [e] at h1
 obtain ⟨name,u,ty,a1,a2,a3,a4,a5⟩ := h1
 have en : (Rows.laid_errors_errorType : DataW Unit).handleName? = some [101,114,114,111,114] := by kernel_rfl
 rw [en] at a1
 cases a1
 have eu : (prog.cutTypes.find? (·.1 == "internal/reflectlite.rtype")).map (·.2) = some 176 := by kernel_rfl
 rw [eu] at a2
 cases a2
 have et : ty = 75 := by
  have := List.all_eq_true.1 err_row ty (List.mem_range.2 a3)
  rw [a4] at this
  simpa using this
 subst et
 have hg0 : prog.globalNamed "errors.errorType" = some 0 := by kernel_rfl
 unfold World.var? at a5
 simp only at a5
 rw [hg0] at a5
 simp only [Option.bind_some] at a5
 split at a5
 ·rename_i c ty fr hw
  cases a5
  exact ⟨_,_,hw⟩
 ·cases a5
def toldE (n : Nat) : Nat → Option (List Value)
 | 0 => some [rtV n 75]
 | _ => none
theorem toldE_ok {w : World} {t0 : TypeId} {f0 : Nat × Nat} (h0 : w.heap[0]? = some (.cells #[.iface 176 (.agg #[typeHandle prog 75])] t0 f0)) :
  ∀ i c,toldE w.heap.size i = some c → i < w.heap.size → ∃ c' ty fr,w.heap[i]? = some (.cells c' ty fr) ∧ CellsRel (toldH (toldE w.heap.size) gsz w).length (toldEnv w.heap.size gsz) i c false 0 c' fr := by
 intro i c hc _
 match i,hc with
 | 0,hc =>
  cases hc
  refine ⟨_,_,_,h0,fun j v hv => ?_,fun _ => rfl,fun hz => absurd rfl hz,fun e => by cases e⟩
  match j,hv with
  | 0,hv =>
   cases hv
   have hl := toldH_len (told := toldE w.heap.size) (g := gsz) (w := w)
   refine .inr ⟨by simp [VOk,AOk,LOk,AddrOk,hl],rfl,?_⟩
   simp [ren,renA,renL,renAddr,env_mid,typeHandle,gsz]
theorem told_err {w : World} (h0 : 0 < w.heap.size) : ErrAt (toldH (toldE w.heap.size) gsz w) := ⟨w.heap.size,toldH_mid,toldH_lo h0⟩
section
variable {told : Nat → Option (List Value)} {g : Nat} {w : World}
theorem law_run2T {f : FuncId} {fn : Func} {c : Code} (hf : prog.funcs[f]? = some fn) (hb : fn.body = some c) (hin : prog.inits.idxOf? f = none) (args : List Value) (ha : args.length ≤ fn.ntmps) (hok : ∀ v ∈ args,ArgOk w v)
  (ht : ∀ i c,told i = some c → i < w.heap.size → ∃ c' ty fr,w.heap[i]? = some (.cells c' ty fr) ∧ CellsRel (toldH told g w).length (toldEnv w.heap.size g) i c false 0 c' fr)
  (walk : ∀ Post,W prog (J2 prog w Post) fn.ntmps (toldH told g w).length f c ⟨regs (args.map (sub (shift w.heap.size))),[]⟩ (toldH told g w) (RetQ prog fn.results.toList (toldH told g w).length fun v _ => v = .bool true)) :
  Ends prog (fun v w' => v = .bool true ∧ Below w.heap.size w w') (solo (G (Frame.enter prog f ⟨args⟩ .normal) []) w) #[] := by
 refine run_of_J2 (W0 := w) (ft := startFt w) (top_of_W2 (args := args.map (sub (shift w.heap.size))) mixed hf hb hin (by rw [List.length_map]; exact ha) (by simp) (fun i => ?_) (told_rel ht) (walk _) ?_) (fun b hb => hb) (fun b hb => hb.elim) rfl
 ·show VRel _ _ ((args.map (sub (shift w.heap.size))).getD i unk) (args.getD i undef)
  simp only [List.getD_eq_getElem?_getD,List.getElem?_map]
  cases hi : args[i]? with
  | none => exact .inl rfl
  | some v => exact told_arg (hok v (List.mem_of_getElem? hi))
 ·intro v h' ρ' w' ft' cv hv H' _ _ hcv hB
  subst hv
  refine ⟨?_,below_of H' hB⟩
  rcases hcv with e | ⟨_,e⟩
  ·cases e
  ·rw [e]
   rfl
end
section
variable {H : Type} {enc : TypeId × Value → H}
theorem leaving_told {a : Assume} {C : Checked} {os : Os} {f : FuncId} {fn : Func} {s : ChangeSpec} {conds : List PathCond} {apart fresh handsOn again : Bool} {X : World → Array Value → Prop}
  (own : ownKnob C.prog.godebug = none) (started : os.Started) (hfn : C.prog.funcs[f]? = some fn)
  (witness : ∃ (w : World) (tape : Tape) (i : Input),w.os = os ∧ (w.forCall tape i).Shaped C.prog ∧ i.vars = [] ∧ Input.okWide C.prog (w.forCall tape i) .any w.heap.size f i ∧
   ((s.pre enc C.prog fn conds apart (w.forCall tape i).memory i.args ∧ X (w.forCall tape i).memory i.args) ∧ sizedMet enc C.prog fn (OpenSpec.ofChange s) apart (w.forCall tape i).memory i.args) ∧ a.holds C.prog (lone (Frame.enter C.prog f i.args .normal) [] (w.forCall tape i)))
  (runs : ∀ (W : World) (base : Nat) (args : Array Value) (ds gs : List (DataW H)) (before : List MemPlace),W.ShapedOpen C.prog →
   (∀ (j : Nat) t v,fn.params[j]? = some t → args[j]? = some v → Value.okWide C.prog W .any base t v) →
   DataW.Whole enc C.prog fn.params.toList s.vars apart W args.toList ds gs before →
   conds.all (PathCond.test C.prog ⟨fn.params.toList,ds,s.plain.varTypes C.prog,gs⟩) = true →
   (DataW.weightsEach C.prog (fn.params.toList ++ s.plain.varTypes C.prog) (ds ++ gs)).all (· ≤ reachBytes) = true → X W.memory args →
   Ends C.prog (fun v W' => s.post enc C.prog fn apart fresh handsOn again W args v W') (solo (G (Frame.enter C.prog f args .normal) []) W) #[]) :
  ReturnsInLeavingWide a C os f .any (fun w args => (s.pre enc C.prog fn conds apart w args ∧ X w args) ∧ sizedMet enc C.prog fn (OpenSpec.ofChange s) apart w args) (s.post enc C.prog fn apart fresh handsOn again) := by
 refine returnsInLeavingWide_of_good own started witness ?_
 intro w tape i _ hsh _ hok hpre hholds
 obtain ⟨_,_,_,fn',hfn',_,_,_,_,hval⟩ := hok
 have e : fn' = fn := Option.some.inj (hfn'.symm.trans hfn)
 subst e
 obtain ⟨⟨⟨ds,gs,before,hw,hc⟩,hx⟩,hz⟩ := hpre
 have hw' := DataW.Whole.of_heap (w' := w.forCall tape i) (by rfl) hw
 obtain ⟨M,last,o,w',t',h1,h2,h3,h4⟩ := runs (w.forCall tape i) w.heap.size i.args ds gs before hsh hval hw' hc (hz.weights hw) hx
 exact ⟨M,last,o,w',t',h1,h2,h3,h4.mono fun v hp => ChangeSpec.post_blind hp⟩
end
section
variable {H : Type} {enc : TypeId × Value → H} {W : World} {base : Nat}
theorem argT_str {t : TypeId} (u : prog.underlying t = some .string) {v : Value} {d : DataW H} {ps : List MemPlace} (hval : Value.okWide prog W .any base t v) (hd : DataW.Trod enc prog W 0 (fun _ => true) true t v d ps) : ∃ w : List UInt8,v = strV w ∧ ArgOk W v ∧ w.length ≤ maxLen := by
 obtain ⟨⟨⟨w⟩⟩,rfl,_,_,hl⟩ := Go.ChangeMaps.open_string u hval hd
 exact ⟨w,rfl,argOk_fine fun m => ⟨by simp [VOk],rfl,by simp [ren]⟩,hl⟩
end
end Go.Proofs.YtlhanfcgdfjhjaaGreatDoor
namespace Go.Proofs.YtlhanfcgdfjhjaaGreatDoor
open Go Go.Conc Go.ChangeShapes Go.WideShapes Go.ChangeAt Go.RowKit Go.Proofs.Tryz
set_option maxRecDepth 100000
theorem tied_goes {p : Pinned} {s : OpenSpec} {c : OpenClaim} (Lk : Looks) (kinds : List LaidKind) (tests : Bool) (har : Bool × String) (lk : Bool)
  (hc : c.holds p s) (hw : c.wfByText s = true) (htie : c.laidByTextAt Lk p kinds tests)
  (hst : c.start = .entering) (hnb : c.noBlocks = false ∧ c.again = false) (hm : p.checked.prog.mainIs = some (har.1,har.2.toList)) (hn : (!har.1 && har.2.isEmpty && !lk) = false)
  (hl : ∀ f fn,p.checked.prog.funcNamed c.func = some f → p.checked.prog.funcs[f]? = some fn → lk = p.checked.prog.looks [] ∧ ∀ (j : Nat) t,fn.params[j]? = some t → p.checked.prog.wantsStandIn t = false)
  (hg : true = c.goesBy p.checked.prog) :
  Claim7.holds p (.plain s) { stood := { row := c,standIns := [],harness := har,looks := lk },kinds := [],alts := [],goes := true,laidByText := true,laidKinds := kinds,laidTests := tests,laidLooks := Lk } := by
 have h6 : Claim7.isSixth { stood := { row := c,standIns := [],harness := har,looks := lk },kinds := [] } = false := by simpa [Claim7.isSixth] using hn
 exact ⟨Claim7.tied_new_at Lk kinds tests (Claim7.new_of_sixth hc har lk hst hnb hm h6 hl) hw,(fun D hD => by cases hD),htie,(fun h => by cases h),hg⟩
theorem lifted4 (os : Os) (started : os.Started) (H : Type) (enc : TypeId × Value → H) :
  ReturnsInLeavingWide {} checked os 4 .any (fun w args => (Rows.grassWrittenSpec.pre enc prog f4 Rows.grassWrittenRow.domain false w args ∧ laidMetH prog laidL w) ∧ sizedMet enc prog f4 (OpenSpec.ofChange Rows.grassWrittenSpec) false w args) (Rows.grassWrittenSpec.post enc prog f4 false true false false) := by
 refine leaving_told (C := checked) (X := fun w _ => laidMetH prog laidL w) own started at4
  (ChangeSpec.witness_at (enc := enc) (C := checked) (os := os) (X := fun w _ => laidMetH prog laidL w) false (laidWorld os #[.slice none 0 0,.string ⟨#[]⟩]) #[.slice none 0 0,.string ⟨#[]⟩] 8 rfl (by kernel_rfl) (by kernel_rfl) (by kernel_rfl) (by kernel_rfl) (by kernel_rfl)
   (laidMetH_of_parts (by rw [laid_split.2]; exact laidMet_of_run3 8 (by kernel_rfl) (by kernel_rfl) (by kernel_rfl)) (by rw [laid_split.1]; kernel_rfl))) ?_
 intro W base args ds gs before hsh hval0 hW _ hsz0 hlaid
 have hsz : (DataW.weightsEach prog (f4.params.toList ++ Rows.grassWrittenSpec.plain.varTypes prog) (ds ++ gs)).all (· ≤ reachBytes) = true := hsz0
 clear hsz0
 have hval : ∀ (j : Nat) t v,f4.params[j]? = some t → args[j]? = some v → Value.okWide prog W .any base t v := hval0
 have hW' := hW
 obtain ⟨p,q,hA0,hV,rfl,_,_⟩ := hW
 have hA : DataW.TrodAll enc prog W 0 (fun _ => true) true f4.params.toList args.toList ds p := hA0
 have hps : f4.params = #[26,9] := by kernel_rfl
 have uti : prog.underlying 26 = some (.slice 3) := by kernel_rfl
 have ui : prog.underlying 3 = some (.int .i64) := by kernel_rfl
 have uts : prog.underlying 9 = some .string := by kernel_rfl
 have cti : prog.cellsOf 3 = 1 := by kernel_rfl
 have bti : prog.bytesOf 3 = 8 := by kernel_rfl
 rw [hps] at hA hval hsz
 obtain ⟨args⟩ := args
 obtain ⟨v0,vs0,d0,ds0,p0,q0,hvv,hdd,hpp,h0,hA⟩ := trodAll_cons hA
 obtain ⟨v1,vs1,d1,ds1,p1,q1,hvv1,hdd1,hpp1,h1,hA⟩ := trodAll_cons hA
 obtain ⟨hvn,hdn,hpn⟩ := trodAll_nil hA
 subst hvn hdn hpn hvv1 hdd1 hpp1 hdd hpp
 have hvv : args = [v0,v1] := hvv
 subst hvv
 obtain ⟨rfl,rfl⟩ := trodVars_none hV
 have u4 : prog.underlying 4 = some .bool := by kernel_rfl
 have hlt : ∀ x ∈ p0 ++ (p1 ++ []),x.block < W.heap.size := fun x hx => by simpa using hW'.lt x (by simpa using hx)
 have hargs : ∀ (W' : World),Below W.heap.size W W' → DataW.TrodAll enc prog W' 0 (fun b => decide (b < W.heap.size)) true [26,9] [v0,v1] [d0,d1] (p0 ++ (p1 ++ [])) := fun W' hn =>
  trodAll_mkc (Below.trod laidOut (by kernel_rfl) (of_decide_eq_true (by kernel_rfl)) h0 hn fun x hx => hlt x (by simp [hx])) (trodAll_mkc (Below.trod laidOut (by kernel_rfl) (of_decide_eq_true (by kernel_rfl)) h1 hn fun x hx => hlt x (by simp [hx])) rfl)
 obtain ⟨ns,sn,ok0,hbig⟩ := arg_ints uti ui cti (hval 0 26 v0 rfl rfl) h0
 obtain ⟨text,rfl,ok1,htl⟩ := argT_str uts (hval 1 9 v1 rfl rfl) h1
 have hln : ns.length < 4611686018427387904 := by
  rcases hbig with rfl | ⟨es,sp,rfl,hle⟩
  ·simp
  ·have := sized_slice hsz (j := 0) (t := 26) (e := 3) rfl rfl uti
   rw [bti] at this
   simp only [reachBytes] at this
   omega
 have hlaid : laidMetH prog laidL W.memory := hlaid
 obtain ⟨t0,f0,w0⟩ := err_cells hlaid
 have w0 : W.heap[0]? = _ := w0
 have hh0 : 0 < W.heap.size := (Array.getElem?_eq_some_iff.1 w0).1
 obtain ⟨M,last,o,w',t',r1,r2,r3,r4⟩ := law_run2T (w := W) (f := 4) (fn := f4) at4 body4 (by kernel_rfl) [v0,strV text] (Nat.le_of_ble_eq_true (by kernel_rfl : Nat.ble 2 f4.ntmps = true))
  (by
   intro v hv
   simp only [List.mem_cons,List.not_mem_nil,or_false] at hv
   rcases hv with rfl | rfl
   ·exact ok0
   ·exact ok1)
  (toldE_ok w0)
  (fun Post => walk4 (K := fun v _ => v = .bool true) (told_err hh0) (told_ints sn) hln fun _ => rfl)
 refine ⟨M,last,o,w',t',r1,r2,r3,r4.mono fun v hF => ?_⟩
 obtain ⟨rfl,hbelow⟩ := hF
 refine ⟨_,_,_,[],_,[],hW',?_,hargs _ hbelow,by rfl,hbelow.frame _,fun h => by cases h⟩
 exact trodAll_mk1 (shut_bool u4 true)
theorem grassWritten_row : Rows.GrassWrittenSaid :=
 OpenClaim.holds_of_wide_leaving 4 f4 rfl rfl rfl rfl rfl rfl rfl ⟨rfl,rfl,rfl,rfl,rfl⟩ rfl rfl rfl rfl rfl (by kernel_rfl) at4 (by kernel_rfl)
  (of_decide_eq_true (by kernel_rfl)) (by unfold Func.isWrapper; first | (rw [if_pos (by decide +kernel)]; kernel_rfl) | (rw [if_neg (by decide +kernel)]; exact ⟨rfl,rfl⟩))
  (fun os started H enc _ => lifted4 os started H enc)
theorem grassWritten_holds : Rows.GrassWrittenCardSaid :=
 tied_goes .later [.data, .data, .data, .data, .handle, .pinned] true (true, "5d666c7c44cec2b0fd822916a791ef6d70807ad9b324b43de390656d1d49b836") true
  grassWritten_row (by kernel_rfl) grassWritten_row_tie rfl ⟨rfl,rfl⟩ (by kernel_rfl) rfl
  (fun f fn hf hfn => by
   have e : Tryz.prog.funcNamed "mesta/mestalaw01.GrassWritten" = some 4 := by kernel_rfl
   obtain rfl : f = 4 := (Option.some.inj (e.symm.trans hf)).symm
   obtain rfl : fn = f4 := (Option.some.inj (at4.symm.trans hfn)).symm
   exact ⟨by kernel_rfl,fun j t ht => by
    have e0 : Tryz.f4.params = #[26,9] := by kernel_rfl
    rw [e0] at ht
    rcases j with _ | _ | j
    ·cases ht
     exact (by kernel_rfl : Tryz.prog.wantsStandIn 26 = false)
    ·cases ht
     exact (by kernel_rfl : Tryz.prog.wantsStandIn 9 = false)
    ·simp at ht⟩)
  (by kernel_rfl)
#print axioms grassWritten_holds
end Go.Proofs.YtlhanfcgdfjhjaaGreatDoor
