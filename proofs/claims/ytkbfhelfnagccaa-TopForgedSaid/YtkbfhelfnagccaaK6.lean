/- TopForged answers true at every input, and its argument reads behind the call as it read before. No conditions. -/
import Derived.Test.YtkbfhelfnagccaaK4
import Derived.Test.YtkbfhelfnagccaaK5
import Derived.Test.YtkbfhelfnagccaaK2
import Derived.JoinedOf
namespace Go.Proofs.Ytkbfhelfnagccaa
open Go.Conc Go.Proofs.Try
set_option maxRecDepth 100000
def penB : Bok := ⟨1,[⟨1,0,0⟩,⟨3,0,1⟩],0,1,[1,1],[0,0],[⟨3,0,-1⟩]⟩
theorem pen_reg : RegOk 1 [⟨1,0,0⟩,⟨3,0,1⟩] := ⟨by decide,by decide,fun m hm => by
 simp only [List.mem_cons,List.not_mem_nil,or_false] at hm
 rcases hm with rfl | rfl
 ·exact ⟨by decide,by decide,by decide⟩
 ·exact ⟨by decide,by decide,by decide⟩,fun i j x y hij hx hy => by
 have h1 := (List.getElem?_eq_some_iff.1 hx).1
 have h1 : i < 2 := h1
 have : i = 1 := by omega
 have : j = 0 := by omega
 subst_vars
 cases hx
 cases hy
 decide⟩
theorem pen_ok : BokOk penB := ⟨pen_reg,by decide,by decide,rfl,rfl,by decide,by decide,by decide,fun s hs => by
 rw [List.mem_singleton.1 hs]
 exact ⟨by decide,.inr (by decide),.inl rfl⟩⟩
theorem pen_tru : truB penB (-1) 0 = true := by decide +kernel
theorem pen_ends : endsL penB (-1) 0 ≠ [] := fun e => by
 have := pen_tru
 unfold truB at this
 rw [e] at this
 cases this
theorem pen_rng : rngL penB 2 = [⟨1,1⟩,⟨1,1⟩] := by decide +kernel
theorem pen_f1 : forgeN ⟨1,0,0⟩ ⟨3,0,1⟩ = 2 := by decide +kernel
theorem pen_f2 : forgeN ⟨3,0,1⟩ ⟨1,0,0⟩ = -1 := by decide +kernel
section
variable {main : Bool} {J : JT} {n0 : Nat} {h H : List AObj} {K : Value → List AObj → Prop} {KV : Value → Prop} {HL : List AObj → Prop}
theorem good31 (hJ : Closed prog main J) (hK : ∀ mv kv hv dv H',SameX [] H H' → HerdAt H' penB mv kv hv dv → K (.agg ⟨herdC penB mv kv hv dv⟩) H') : Good prog J 31 [] H K := by
 refine g31 hJ fun ok => ?_
 rw [e31]
 refine qAl fun H1 p1 e1 S1 c1 l1 => fillV rfl rfl (by decide) (fillI (fillV rfl rfl (by decide) (fillV rfl rfl (by simp only [wrAt_length]; decide) (fillI ⟨⟨by decide,by decide,rfl⟩,fillA (l := [vint 1,vint 0,vint 0]) rfl rfl (by decide) (fillA (l := [vint 3,vint 0,vint 1]) rfl rfl (by simp only [wrAt_length]; decide) (fillI (qNew fun H2 q2 e2 S2 c2 l2 => ?_)))⟩))))
 have c2 : H2[q2]? = some (.cells ((penB.ms).flatMap Mrk.cells) true 0) := c2
 refine fillV rfl rfl (by simp) (fillV rfl rfl (by simp only [wrAt_length]; simp) (fillI ⟨⟨by decide,by decide,rfl⟩,fillV rfl rfl (by decide) (fillV rfl rfl (by simp only [wrAt_length]; decide) (fillI (qNew fun H3 q3 e3 S3 c3 l3 => ?_)))⟩))
 have c3 : H3[q3]? = some (.cells [vint 0,vint 1] true 0) := c3
 refine ⟨⟨by decide,by decide,rfl⟩,fillV rfl rfl (by decide) (fillV rfl rfl (by simp only [wrAt_length]; decide) (fillI (qNew fun H4 q4 e4 S4 c4 l4 => ?_)))⟩
 have c4 : H4[q4]? = some (.cells [vint 1,vint 1] true 0) := c4
 refine ⟨⟨by decide,by decide,rfl⟩,fillV rfl rfl (by decide) (fillV rfl rfl (by simp only [wrAt_length]; decide) (fillI (qNew fun H5 q5 e5 S5 c5 l5 => ?_)))⟩
 have c5 : H5[q5]? = some (.cells [vint 0,vint 0] true 0) := c5
 refine ⟨⟨by decide,by decide,rfl⟩,fillV rfl rfl (by simp [zrep]) (fillV rfl rfl (by simp only [wrAt_length]; simp [zrep]) (fillI (qNew fun H6 q6 e6 S6 c6 l6 => ?_)))⟩
 have c6 : H6[q6]? = some (.cells [.slice (some ⟨q4,0,none⟩) 2 2,.slice (some ⟨q5,0,none⟩) 2 2] true 0) := c6
 refine fillV rfl rfl (by decide) (fillV rfl rfl (by simp only [wrAt_length]; decide) (fillI (fillV rfl rfl (by decide) (fillV rfl rfl (by simp only [wrAt_length]; decide) (fillA (l := [vint 3,.bool false,.bool false,vint 0,vint (-1)]) rfl rfl (by simp only [wrAt_length]; decide) (fillI ⟨⟨by decide,by decide,rfl⟩,fillA (l := strayC ⟨3,0,-1⟩) rfl rfl (by decide) (fillI (qNew fun H7 q7 e7 S7 c7 l7 => ?_))⟩))))))
 have c7 : H7[q7]? = some (.cells (strayC ⟨3,0,-1⟩) true 0) := c7
 refine fillA (l := [vint 1,.slice (some ⟨q2,0,none⟩) 2 2]) rfl rfl (by simp) (fillV rfl rfl (by simp only [wrAt_length]; simp) (fillV rfl rfl (by simp only [wrAt_length]; simp) (fillV rfl rfl (by simp only [wrAt_length]; simp) (fillI ?_))))
 have T27 := (((S3.trans S4).trans S5).trans S6).trans S7
 have T7 := (S1.trans S2).trans T27
 refine qStA (c := herdC penB (.slice (some ⟨q2,0,none⟩) 2 2) (.slice (some ⟨q3,0,none⟩) 2 2) (.slice (some ⟨q6,0,none⟩) 2 2) (.slice (some ⟨q7,0,none⟩) 1 1)) ((S2.trans T27).get c1 (by simp)) rfl rfl rfl fun H8 S8 c8 l8 => retQs rfl (resW_cell (gg := true) (s := 5) (by kernel_rfl) (load_part c8 (by simp [herdC]) rfl rfl (resW_nil ?_)))
 have g : ∀ {q : Nat} {o : AObj},H7[q]? = some o → q ≠ p1 → H8[q]? = some o := fun h hne => S8.get h (by simpa using hne)
 have d2 := g (T27.get c2 (by simp)) (by omega)
 have d3 := g ((((S4.trans S5).trans S6).trans S7).get c3 (by simp)) (by omega)
 have d4 := g (((S5.trans S6).trans S7).get c4 (by simp)) (by omega)
 have d5 := g ((S6.trans S7).get c5 (by simp)) (by omega)
 have d6 := g (S7.get c6 (by simp)) (by omega)
 have d7 := g c7 (by omega)
 refine hK _ _ _ _ H8 (T7.thru S8 (by simp; omega)) ⟨⟨_,ownX_new (s := 3) (n := 2) d2 rfl rfl⟩,ownX_sli (ownX_new (s := 1) (n := 2) d3 rfl rfl),⟨_,rfl,ownX_sli (ownX_new (s := 1) (n := 2) d6 rfl rfl),fun i r hr => ?_⟩,ownX_sli (ownX_new (s := 12) (n := 1) d7 rfl rfl)⟩
 have hi : i < 2 := (List.getElem?_eq_some_iff.1 hr).1
 rcases (by omega : i = 0 ∨ i = 1) with rfl | rfl
 ·cases hr
  exact ⟨_,rfl,ownX_sli (ownX_new (s := 1) (n := 2) d4 rfl rfl)⟩
 ·cases hr
  exact ⟨_,rfl,ownX_sli (ownX_new (s := 1) (n := 2) d5 rfl rfl)⟩
theorem good13 (hJ : Closed prog main J) (hK : ∀ H',K (.bool true) H') : Good prog J 13 [] H K := by
 refine g13 hJ fun ok => ?_
 rw [e13]
 refine good31 hJ fun m1 k1 h1 d1 H1 S1 A1 => ⟨by simp [herdC],?_⟩
 refine good8 hJ (i := 0) (j := 1) (x := ⟨1,0,0⟩) (y := ⟨3,0,1⟩) A1.m pen_reg rfl rfl fun H2 S2 => ext0 (ext1 (good31 hJ fun m2 k2 h2 d2 H3 S3 A3 => ⟨by simp [herdC],?_⟩))
 refine good8 hJ (i := 1) (j := 0) (x := ⟨3,0,1⟩) (y := ⟨1,0,0⟩) A3.m pen_reg rfl rfl fun H4 S4 => ext0 (ext1 (good31 hJ fun m5 k5 h5 d5 H5 S5 A5 => ?_))
 refine good11 hJ pen_ok A5 pen_ends fun H6 v o S6 O6 => ext0 (ext1 ?_)
 rw [pen_f1,pen_f2]
 have hl : penB.ms.length = 2 := rfl
 rw [hl,pen_rng] at O6
 refine eqlT rfl (cnd_true.2 (eqlT rfl (cnd_true.2 (eqlT rfl (cnd_true.2 (eqlT rfl (cnd_true.2 ?_)))))))
 refine fillV rfl rfl (by decide) (fillV rfl rfl (by simp only [wrAt_length]; decide) (fillI (fillV rfl rfl (by decide) (fillV rfl rfl (by simp only [wrAt_length]; decide) (fillI ⟨⟨by decide,by decide,rfl⟩,fillA (l := [vint 1,vint 1]) rfl rfl (by decide) (fillA (l := [vint 1,vint 1]) rfl rfl (by simp only [wrAt_length]; decide) (fillI (qNew fun H7 q7 e7 S7 c7 l7 => ?_)))⟩)))))
 have c7 : H7[q7]? = some (.cells (([⟨1,1⟩,⟨1,1⟩] : List Rge).flatMap Rge.cells) true 0) := c7
 exact good32 hJ (L := [⟨1,1⟩,⟨1,1⟩]) (S7.sli (ownX_sli O6) (by simp)) (ownX_sli (ownX_new (s := 2) (n := 2) c7 rfl rfl)) (by decide) (retL_same (by simp [unk]) (hK H7))
end
structure LwF (H : List AObj) (p5 p6 p16 : Nat) (t : Int) (ms : List Mrk) (mv : Value) (y : Mrk) (v : Value) : Prop where
 c5 : H[p5]? = some (.cells [vint t,mv] true 0)
 c6 : H[p6]? = some (.cells y.cells true 0)
 c16 : H[p16]? = some (.cells (sgtOf y).cells true 0)
 am : MksAt H mv ms
 my : Sli H v 1 (mayL t (sgtOf y) ms).length (natsV (mayL t (sgtOf y) ms))
theorem LwF.same {H H' : List AObj} {p5 p6 p16 : Nat} {t : Int} {ms : List Mrk} {mv : Value} {y : Mrk} {v : Value} (a : LwF H p5 p6 p16 t ms mv y v) (S : SameX [] H H') : LwF H' p5 p6 p16 t ms mv y v :=
 ⟨S.get a.c5 (by simp),S.get a.c6 (by simp),S.get a.c16 (by simp),a.am.same S,S.sli a.my (by simp)⟩
structure RgF (F : RG) (p5 p6 p16 n j i : Nat) (v : Value) : Prop where
 ds : F.ds = []
 r4 : F.r 4 = ptr p5 0
 r5 : F.r 5 = vint (n : Nat)
 r6 : F.r 6 = vint (j : Nat)
 r7 : F.r 7 = ptr p6 0
 r8 : F.r 8 = ptr p16 0
 r9 : F.r 9 = v
 r11 : F.r 11 = vint (i : Nat)
structure BkF (H : List AObj) (m n i j pk r0 r1 hd bb : Nat) (t : Int) (mv : Value) (row : List Int) : Prop where
 k : H[pk]? = some (.cells [vint (i : Nat),vint (j : Nat)] true 0)
 c0 : H[r0]? = some (.cells (row.map vint) true 0)
 c1 : H[r1]? = some (.cells ((List.replicate n (0 : Int)).map vint) true 0)
 h : H[hd]? = some (.cells [.slice (some ⟨r0,0,none⟩) n n,.slice (some ⟨r1,0,none⟩) n n] true 0)
 b : H[bb]? = some (.cells [vint t,mv,.slice (some ⟨pk,0,none⟩) 2 2,.slice (some ⟨hd,0,none⟩) 2 2,.slice none 0 0] true 0)
 nk : r0 ≠ pk
 n1 : r0 ≠ r1
 nh : r0 ≠ hd
 nb : r0 ≠ bb
 g0 : m ≤ r0
theorem BkF.same {H H' : List AObj} {m n i j pk r0 r1 hd bb : Nat} {t : Int} {mv : Value} {row : List Int} (B : BkF H m n i j pk r0 r1 hd bb t mv row) (S : SameX [] H H') : BkF H' m n i j pk r0 r1 hd bb t mv row :=
 ⟨S.get B.k (by simp),S.get B.c0 (by simp),S.get B.c1 (by simp),S.get B.h (by simp),S.get B.b (by simp),B.nk,B.n1,B.nh,B.nb,B.g0⟩
theorem BkF.put {H H' : List AObj} {m n i j pk r0 r1 hd bb : Nat} {t : Int} {mv : Value} {row row' : List Int} (B : BkF H m n i j pk r0 r1 hd bb t mv row) (S : SameX [r0] H H') (c : H'[r0]? = some (.cells (row'.map vint) true 0)) : BkF H' m n i j pk r0 r1 hd bb t mv row' :=
 ⟨S.get B.k (by simpa using B.nk.symm),c,S.get B.c1 (by simpa using B.n1.symm),S.get B.h (by simpa using B.nh.symm),S.get B.b (by simpa using B.nb.symm),B.nk,B.n1,B.nh,B.nb,B.g0⟩
theorem BkF.herd {H : List AObj} {m i j pk r0 r1 hd bb : Nat} {t : Int} {ms : List Mrk} {mv : Value} {row : List Int} (B : BkF H m ms.length i j pk r0 r1 hd bb t mv row) (M : MksAt H mv ms) (hl : row.length = ms.length) : HerdAt H ⟨t,ms,i,j,row,List.replicate ms.length 0,[]⟩ mv (.slice (some ⟨pk,0,none⟩) 2 2) (.slice (some ⟨hd,0,none⟩) 2 2) (.slice none 0 0) := by
 refine ⟨M,ownX_sli (ownX_new (s := 1) (n := 2) B.k rfl rfl),⟨_,rfl,ownX_sli (ownX_new (s := 1) (n := 2) B.h rfl rfl),fun k r hr => ?_⟩,sli_nil⟩
 have hk : k < 2 := (List.getElem?_eq_some_iff.1 hr).1
 rcases (by omega : k = 0 ∨ k = 1) with rfl | rfl
 ·cases hr
  exact ⟨_,rfl,by rw [hl]; exact ownX_sli (ownX_new (s := 1) (n := ms.length) B.c0 (by simp [hl]) (knV _))⟩
 ·cases hr
  refine ⟨_,rfl,?_⟩
  rw [List.length_replicate]
  exact ownX_sli (ownX_new (s := 1) (n := ms.length) B.c1 (by simp) (knV _))
section
variable {main : Bool} {J : JT} {n0 : Nat} {h H Hs : List AObj} {K : Value → List AObj → Prop} {KV : Value → Prop} {HL : List AObj → Prop}
variable {t : Int} {ms : List Mrk} {mv v : Value} {x y : Mrk} {i j p5 p6 p16 pk r0 r1 hd bb : Nat} {F : RG} {nx0 st : RG → List AObj → Prop}
theorem neqBo {a c : Bool} (hk : KV (.bool (a != c))) : aBin prog .neq 4 (.bool a) (.bool c) KV := by
 show aEq prog true 4 (.bool a) (.bool c) KV
 unfold aEq
 have : teq prog 10000 4 (.bool a) (.bool c) = some (a == c) := by kernel_rfl
 rw [this]
 exact ⟨by kernel_rfl,by simpa [bne] using hk⟩
theorem two_ints (hJ : Closed prog main J) {l m : Value} {xs : List Int} (hl : Sli H l 1 xs.length (xs.map vint)) (hm : Sli H m 1 xs.length (xs.map vint)) (h5 : xs.length ≤ 5) (hK : K (.bool true) H) : Good prog J 12 [l,m] H K := good12 hJ hl hm (by omega) (by rw [decide_eq_true rfl]; exact hK)
theorem law7 (hJ : Closed prog main J) (L : LwF Hs p5 p6 p16 t ms mv y v) (ok : RegOk t ms) (hi : ms[i]? = some x) (hj : ms[j]? = some y) (hij : i ≠ j) (hs : stillB t x y = true) (I : RgF F p5 p6 p16 ms.length j i v) (S : SameX [] Hs H) (B : BkF H Hs.length ms.length i j pk r0 r1 hd bb t mv (row1 ms.length i)) {p14 : Nat} (c14 : ∃ l,l.length = 5 ∧ H[p14]? = some (.cells l true 0)) (g14 : Hs.length ≤ p14) (n14 : p14 ≠ r0)
  (r15 : F.r 15 = ptr bb 0) (r16 : F.r 16 = ptr p14 0) (r183 : F.r 183 = .bool false) (hst : ∀ {F' : RG} {H' : List AObj},SameX [] Hs H' → RgF F' p5 p6 p16 ms.length j (i + 1) v → st F' H') :
  W prog J 221 n0 3 (subC [1,1,1,1,0,1,0,0,1,0,0,1,1,1,1,1,0,0,1,0,0,1,1,1,1,1,1,1,1,1,1,1,0,1] (codeOf f3)) F H (contX pl3 prog J 221 n0 3 ct3 [1,1,1,1,0,1,0,0,1,0,0,1,1,1,1,1,0,0,1,0,0,1,1,1,1,1,1,1,1,1,1,1,0,1] (codeOf f3) [nx0,st] (RetQ prog [.tmp 2] n0 K)) := by
 rw [s3_7,r183,r15,r16,I.r6,I.r8,I.r11]
 have hml := ok.len
 have hil := (List.getElem?_eq_some_iff.1 hi).1
 have hjl := (List.getElem?_eq_some_iff.1 hj).1
 have yo := sgtOf_ok (ok.each y (List.mem_of_getElem? hj))
 refine cnd_false.2 (offI (ldI (v := .slice (some ⟨hd,0,none⟩) 2 2) B.b rfl rfl (idxI (by omega) (ldI (v := .slice (some ⟨r0,0,none⟩) ms.length ms.length) B.h rfl rfl (idxI (by omega) ?_)))))
 rw [Int.toNat_natCast,Nat.zero_add,Nat.mul_one]
 refine qSt B.c0 (by rw [List.length_map,row1_len]; exact hjl) rfl rfl fun H1 S1 c1 l1 => ?_
 have c1 : H1[r0]? = some (.cells ((row2 ms.length i j).map vint) true 0) := by rw [row2,List.map_set]; exact c1
 have B1 := B.put S1 c1
 have g0 := B.g0
 have T1 : SameX [] Hs H1 := S.thru S1 (by simp; omega)
 have L1 := L.same T1
 have A1 : HerdAt H1 (bokB t ms i j) mv (.slice (some ⟨pk,0,none⟩) 2 2) (.slice (some ⟨hd,0,none⟩) 2 2) (.slice none 0 0) := B1.herd L1.am row2_len
 refine load_part (c := herdC (bokB t ms i j) mv (.slice (some ⟨pk,0,none⟩) 2 2) (.slice (some ⟨hd,0,none⟩) 2 2) (.slice none 0 0)) B1.b (by simp) rfl A1.kn (load_part (c := (sgtOf y).cells) L1.c16 (by simp [Sgt.cells]) rfl rfl ?_)
 refine fillV rfl rfl (by decide) (fillV rfl rfl (by simp only [wrAt_length]; decide) (fillA (l := (sgtOf y).cells) rfl rfl (by simp only [wrAt_length]; decide) (fillI ?_)))
 obtain ⟨l14,hl14,c14⟩ := c14
 have lt14 := lt_of_get c14
 refine good9 hJ (bokB_ok ok hil hjl) rfl A1 (s := sgtOf y) yo [p14] (by simp; have := S1.1; omega) (fun _ H2 mv' kv' hv' dv' S2 Q2 => ?_) fun hf => by rw [bokB_tru ok hi hj] at hf; cases hf
 have T2 := T1.trans S2
 have A2 := Q2.now
 refine ext0 (ext1 (qStA (c := herdC ((bokB t ms i j).with (sgtOf y)) mv' kv' hv' dv') (S2.get (S1.get c14 (by simpa using n14)) (by simp)) rfl hl14 A2.one fun H3 S3 c3 l3 => ?_))
 have A3 := Q2 H3 S3
 have T3 : SameX [] Hs H3 := T2.thru S3 (by simp; omega)
 refine load_part c3 (by simp [herdC]) rfl A3.kn ?_
 have hw := bokB_who ok hi hj hij hs
 refine good10 hJ ((bokB_ok ok hil hjl).with yo) A3 (s := sgtOf y) rfl (by rw [hw]; simp) fun H4 v4 o4 S4 O4 => ext0 (ext1 (neqF rfl (cnd_false.2 (neqF rfl (cnd_false.2 (minI (maxI ?_)))))))
 rw [hw] at O4
 rw [show min (i : Int) (j : Int) = ((min i j : Nat) : Int) from by omega,show max (i : Int) (j : Int) = ((max i j : Nat) : Int) from by omega]
 refine ⟨⟨by decide,by decide,rfl⟩,fillV rfl rfl (by decide) (fillV rfl rfl (by simp only [wrAt_length]; decide) (fillI (qNew fun H5 q e5 S5 c5 l5 => ?_)))⟩
 have c5 : H5[q]? = some (.cells (([((min i j : Nat) : Int),((max i j : Nat) : Int)] : List Int).map vint) true 0) := c5
 refine two_ints hJ (xs := [((min i j : Nat) : Int),((max i j : Nat) : Int)]) (S5.sli (ownX_sli O4) (by simp)) (ownX_sli (ownX_new (s := 1) (n := 2) c5 rfl rfl)) (by simp) (notI (hold.2 ?_))
 rw [s3_8]
 refine cnd_false.2 ?_
 show aBin prog .add 3 (F.r 11) (vint 1) _
 rw [I.r11]
 exact addI (by omega) (hst ((T3.trans S4).trans S5) ⟨I.ds,I.r4,I.r5,I.r6,I.r7,I.r8,I.r9,by show vint _ = vint _; congr 1⟩)
theorem law6 (hJ : Closed prog main J) (L : LwF Hs p5 p6 p16 t ms mv y v) (ok : RegOk t ms) (hi : ms[i]? = some x) (hj : ms[j]? = some y) (hij : i ≠ j) (I : RgF F p5 p6 p16 ms.length j i v) (S : SameX [] Hs H) (B : BkF H Hs.length ms.length i j pk r0 r1 hd bb t mv (List.replicate ms.length 0))
  (r14 : F.r 14 = .bool (stillB t x y)) (r15 : F.r 15 = ptr bb 0) (hst : ∀ {F' : RG} {H' : List AObj},SameX [] Hs H' → RgF F' p5 p6 p16 ms.length j (i + 1) v → st F' H') :
  W prog J 221 n0 3 (subC [1,1,1,1,0,1,0,0,1,0,0,1,1,1,1,1,0,0,1,0,0,1,1,1,1,1,1] (codeOf f3)) F H (contX pl3 prog J 221 n0 3 ct3 [1,1,1,1,0,1,0,0,1,0,0,1,1,1,1,1,0,0,1,0,0,1,1,1,1,1,1] (codeOf f3) [nx0,st] (RetQ prog [.tmp 2] n0 K)) := by
 rw [s3_6,r14,r15,I.r5,I.r6,I.r8,I.r11]
 have hml := ok.len
 have hil := (List.getElem?_eq_some_iff.1 hi).1
 have hjl := (List.getElem?_eq_some_iff.1 hj).1
 have yo := sgtOf_ok (ok.each y (List.mem_of_getElem? hj))
 refine offI (ldI (v := .slice (some ⟨hd,0,none⟩) 2 2) B.b rfl rfl (idxI (by omega) (ldI (v := .slice (some ⟨r0,0,none⟩) ms.length ms.length) B.h rfl rfl (idxI (by omega) ?_))))
 rw [Int.toNat_natCast,Nat.zero_add,Nat.mul_one]
 refine qSt B.c0 (by rw [List.length_map,List.length_replicate]; exact hil) rfl rfl fun H1 S1 c1 l1 => ?_
 have c1 : H1[r0]? = some (.cells ((row1 ms.length i).map vint) true 0) := by rw [row1,List.map_set]; exact c1
 have B1 := B.put S1 c1
 have g0 := B.g0
 have T1 : SameX [] Hs H1 := S.thru S1 (by simp; omega)
 have L1 := L.same T1
 have A1 : HerdAt H1 (bokA t ms i j) mv (.slice (some ⟨pk,0,none⟩) 2 2) (.slice (some ⟨hd,0,none⟩) 2 2) (.slice none 0 0) := B1.herd L1.am row1_len
 refine load_part (c := herdC (bokA t ms i j) mv (.slice (some ⟨pk,0,none⟩) 2 2) (.slice (some ⟨hd,0,none⟩) 2 2) (.slice none 0 0)) B1.b (by simp) rfl A1.kn (load_part (c := (sgtOf y).cells) L1.c16 (by simp [Sgt.cells]) rfl rfl ?_)
 refine fillV rfl rfl (by decide) (fillV rfl rfl (by simp only [wrAt_length]; decide) (fillA (l := (sgtOf y).cells) rfl rfl (by simp only [wrAt_length]; decide) (fillI ?_)))
 refine good9 hJ (bokA_ok ok hil hjl) rfl A1 (s := sgtOf y) yo [] (by simp) (fun ht H2 mv' kv' hv' dv' S2 Q2 => ?_) fun hf H2 S2 => ?_
 ·rw [bokA_tru ok hi hj hij] at ht
  rw [ht]
  have A2 := Q2.now
  refine ext0 (ext1 (qAl fun H3 p14 e3 S3 c3 l3 => qStA (c := herdC ((bokA t ms i j).with (sgtOf y)) mv' kv' hv' dv') c3 rfl rfl A2.one fun H4 S4 c4 l4 => notI (cnd_false.2 ?_)))
  have U4 : SameX [] H2 H4 := S3.thru S4 (by simp; omega)
  have A4 := A2.same U4
  have V4 := S2.trans U4
  have m0 := lt_of_get B1.c0
  have z2 := S2.1
  refine load_part c4 (by simp [herdC]) rfl A4.kn ?_
  have hw := bokA_who ok hi hj hij ht
  refine good10 hJ ((bokA_ok ok hil hjl).with yo) A4 (s := sgtOf y) rfl (by rw [hw]; simp) fun H5 v5 o5 S5 O5 => ext0 (ext1 ?_)
  rw [hw] at O5
  refine load_part (S5.get c4 (by simp)) (by simp [herdC]) rfl A4.kn ?_
  have A5 := A4.same S5
  refine good11 hJ ((bokA_ok ok hil hjl).with yo) A5 (fun e => ?_) fun H6 v6 o6 S6 O6 => ext0 (ext1 (neqF rfl (cnd_false.2 (neqF rfl (cnd_false.2 (neqF rfl (cnd_false.2 ?_)))))))
  ·have := bokA_tru ok hi hj hij
   rw [ht] at this
   unfold truB at this
   rw [e] at this
   cases this
  have O6 : OwnX H6 2 ((rngL ((bokA t ms i j).with (sgtOf y)) ms.length).flatMap Rge.cells) (rngL ((bokA t ms i j).with (sgtOf y)) ms.length).length v6 o6 := O6
  refine ⟨⟨by decide,by decide,rfl⟩,fillV rfl rfl (by decide) (fillI (qNew fun H7 q e7 S7 c7 l7 => ?_))⟩
  have c7 : H7[q]? = some (.cells (([(i : Int)] : List Int).map vint) true 0) := c7
  refine two_ints hJ (xs := [(i : Int)]) ((S6.trans S7).sli (ownX_sli O5) (by simp)) (ownX_sli (ownX_new (s := 1) (n := 1) c7 rfl rfl)) (by simp) (notI (cnd_false.2 ?_))
  have s6 : SliE H7 v6 2 Rge.cells (rngL ((bokA t ms i j).with (sgtOf y)) ms.length) := S7.sli (ownX_sli O6) (by simp)
  refine lenI s6 (neqF (by rw [rngL_len]) (cnd_false.2 ?_))
  have hjr : j < (rngL ((bokA t ms i j).with (sgtOf y)) ms.length).length := by rw [rngL_len]; exact hjl
  have hval : (rngL ((bokA t ms i j).with (sgtOf y)) ms.length)[j] = ⟨0,0⟩ := by
   have := bokA_own ok hil hjl hij (s := sgtOf y)
   rw [List.getElem?_eq_getElem hjr] at this
   exact Option.some.inj this
  refine elemE (enc := Rge.cells) (fun _ => rfl) (by decide) s6 hjr fun q2 => fillI ?_
  rw [hval]
  refine neqRge (x := ⟨0,0⟩) (y := ⟨0,0⟩) (hold.2 ?_)
  have X7 := ((V4.trans S5).trans S6).trans S7
  exact law7 hJ L ok hi hj hij ht ⟨I.ds,I.r4,I.r5,I.r6,I.r7,I.r8,I.r9,I.r11⟩ (T1.trans X7) (B1.same X7) ⟨_,rfl,((S5.trans S6).trans S7).get c4 (by simp)⟩ (by have := T1.1; omega) (by omega) (by exact r15) rfl (by rw [decide_eq_false (not_not_intro rfl)]; rfl) hst
 ·rw [bokA_tru ok hi hj hij] at hf
  rw [hf]
  refine ext0 (ext1 (qAl fun H3 p14 e3 S3 c3 l3 => qStA (c := [vint 0,.slice none 0 0,.slice none 0 0,.slice none 0 0,.slice none 0 0]) c3 rfl rfl rfl fun H4 S4 c4 l4 => notI (cnd_true.2 (neqF rfl (cnd_false.2 ?_)))))
  exact addI (by omega) (hst ((T1.trans S2).trans (S3.thru S4 (by simp; omega))) ⟨I.ds,I.r4,I.r5,I.r6,I.r7,I.r8,I.r9,by show vint _ = vint _; congr 1⟩)
end
def KnH (H2 Hc : List AObj) (l : List (Nat × AObj)) : Prop := SameX [] H2 Hc ∧ (∀ e ∈ l,Hc[e.1]? = some e.2 ∧ H2.length ≤ e.1) ∧ (l.map Prod.fst).Pairwise (· > ·)
theorem KnH.add {H2 Hc H' : List AObj} {l : List (Nat × AObj)} {q : Nat} {o : AObj} (k : KnH H2 Hc l) (hq : q = Hc.length) (S : SameX [] Hc H') (c : H'[q]? = some o) : KnH H2 H' ((q,o) :: l) := by
 subst hq
 refine ⟨k.1.trans S,fun e he => ?_,?_⟩
 ·rcases List.mem_cons.1 he with rfl | he
  ·exact ⟨c,k.1.1⟩
  ·exact ⟨S.get (k.2.1 e he).1 (by simp),(k.2.1 e he).2⟩
 ·rw [List.map_cons,List.pairwise_cons]
  refine ⟨fun a ha => ?_,k.2.2⟩
  obtain ⟨e,he,rfl⟩ := List.mem_map.1 ha
  exact lt_of_get (k.2.1 e he).1
theorem zrep0 : ∀ n : Nat,zrep [vint 0] n = (List.replicate n (0 : Int)).map vint
 | 0 => rfl
 | n + 1 => by
  show [vint 0] ++ zrep [vint 0] n = _
  rw [zrep0 n]
  rfl
section
variable {main : Bool} {J : JT} {n0 : Nat} {h H H2 Hc Hs : List AObj} {K : Value → List AObj → Prop} {KV : Value → Prop} {HL : List AObj → Prop} {l : List (Nat × AObj)}
variable {t : Int} {ms : List Mrk} {mv v : Value} {x y : Mrk} {i j n p5 p6 p16 pk r0 r1 hd bb : Nat} {F : RG} {nx0 st : RG → List AObj → Prop}
theorem kKeep {a b : Int} (k : KnH H2 Hc l) (hk : ∀ q H',KnH H2 H' ((q,.cells [vint a,vint b] true 0) :: l) → K (.slice (some ⟨q,0,none⟩) 2 2) H') : ((2 * 1 : Nat) ≤ 16777216 ∧ (2 : Nat) ≤ 16777216 ∧ List.length [(vint 0)] = 1) ∧ aFill (zrep [(vint 0)] 2) [(0,1,vint a),(1,1,vint b)] fun c => aNewS 2 c Hc K :=
 ⟨⟨by decide,by decide,rfl⟩,fillV rfl rfl (by decide) (fillV rfl rfl (by simp only [wrAt_length]; decide) (fillI (qNew fun H' q e S c _ => hk q H' (k.add e S c))))⟩
theorem kHeads {a b m m' : Nat} (k : KnH H2 Hc l) (hk : ∀ q H',KnH H2 H' ((q,.cells [.slice (some ⟨a,0,none⟩) m m,.slice (some ⟨b,0,none⟩) m' m'] true 0) :: l) → K (.slice (some ⟨q,0,none⟩) 2 2) H') : ((2 * 1 : Nat) ≤ 16777216 ∧ (2 : Nat) ≤ 16777216 ∧ List.length [(Value.slice none 0 0)] = 1) ∧ aFill (zrep [(Value.slice none 0 0)] 2) [(0,1,.slice (some ⟨a,0,none⟩) m m),(1,1,.slice (some ⟨b,0,none⟩) m' m')] fun c => aNewS 2 c Hc K :=
 ⟨⟨by decide,by decide,rfl⟩,fillV rfl rfl (by simp [zrep]) (fillV rfl rfl (by simp only [wrAt_length]; simp [zrep]) (fillI (qNew fun H' q e S c _ => hk q H' (k.add e S c))))⟩
theorem kRow (k : KnH H2 Hc l) (hn : n ≤ 5) (hk : ∀ q H',KnH H2 H' ((q,.cells ((List.replicate n (0 : Int)).map vint) true 0) :: l) → K (.slice (some ⟨q,0,none⟩) n n) H') : (List.length [(vint 0)] = 1 ∧ (8 : Nat) ≤ 1024) ∧ aMkS [(vint 0)] (vint (n : Nat)) (vint (n : Nat)) Hc K :=
 ⟨⟨rfl,by decide⟩,qMk (by omega) fun H' q e S c _ => hk q H' (k.add e S (by rw [← zrep0]; exact c))⟩
theorem kBook (k : KnH H2 Hc l) (hk : ∀ q H',KnH H2 H' ((q,.cells [vint 0,.slice none 0 0,.slice none 0 0,.slice none 0 0,.slice none 0 0] true 0) :: l) → K (ptr q 0) H') : aAlloc [(vint 0),(Value.slice none 0 0),(Value.slice none 0 0),(Value.slice none 0 0),(Value.slice none 0 0)] Hc K :=
 qAl fun H' q e S c _ => hk q H' (k.add e S c)
theorem kFill {pk hd : Nat} {KL : List Value → Prop} (km : mv.cells = #[mv] ∧ one mv = true) (hk : KL [vint t,mv,.slice (some ⟨pk,0,none⟩) 2 2,.slice (some ⟨hd,0,none⟩) 2 2,.slice none 0 0]) : aFill [(vint 0),(Value.slice none 0 0),(Value.slice none 0 0),(Value.slice none 0 0),(Value.slice none 0 0)] [(0,2,.agg ⟨[vint t,mv]⟩),(2,1,.slice (some ⟨pk,0,none⟩) 2 2),(3,1,.slice (some ⟨hd,0,none⟩) 2 2)] KL :=
 fillA (l := [vint t,mv]) rfl (by simp [km.2]; exact rfl) (by simp) (fillV rfl rfl (by simp only [wrAt_length]; simp) (fillV rfl rfl (by simp only [wrAt_length]; simp) (fillI hk)))
theorem sbK {B : List Nat} (k : KnH H2 Hc l) (hB : ∀ p ∈ B,p < H2.length) {Q : Prop} (hq : Q) : SameB (some B) H2 Hc ∧ Q := ⟨sbX k.1 fun p hp => ⟨hB p hp,by simp⟩,hq⟩
theorem leafK (k : KnH H2 Hc l) (km : one mv = true)
  (m4 : (hd,AObj.cells [.slice (some ⟨r0,0,none⟩) n n,.slice (some ⟨r1,0,none⟩) n n] true 0) ∈ l) (m1 : (pk,AObj.cells [vint (i : Nat),vint (j : Nat)] true 0) ∈ l) (m2 : (r0,AObj.cells ((List.replicate n (0 : Int)).map vint) true 0) ∈ l) (m3 : (r1,AObj.cells ((List.replicate n (0 : Int)).map vint) true 0) ∈ l) (m5 : (bb,AObj.cells [vint 0,.slice none 0 0,.slice none 0 0,.slice none 0 0,.slice none 0 0] true 0) ∈ l)
  (nn : r0 ≠ pk ∧ r0 ≠ r1 ∧ r0 ≠ hd ∧ r0 ≠ bb ∧ pk ≠ bb ∧ r1 ≠ bb ∧ hd ≠ bb) (hk : ∀ H',SameX [] H2 H' → BkF H' H2.length n i j pk r0 r1 hd bb t mv (List.replicate n 0) → HL H') : aStore 5 (ptr bb 0) (.agg ⟨[vint t,mv,.slice (some ⟨pk,0,none⟩) 2 2,.slice (some ⟨hd,0,none⟩) 2 2,.slice none 0 0]⟩) Hc HL := by
 obtain ⟨a1,a2,a3,a4,a5,a6,a7⟩ := nn
 obtain ⟨b5,g5⟩ := k.2.1 _ m5
 obtain ⟨b1,g1⟩ := k.2.1 _ m1
 obtain ⟨b2,g2⟩ := k.2.1 _ m2
 obtain ⟨b3,g3⟩ := k.2.1 _ m3
 obtain ⟨b4,g4⟩ := k.2.1 _ m4
 refine qStA (c := [vint t,mv,.slice (some ⟨pk,0,none⟩) 2 2,.slice (some ⟨hd,0,none⟩) 2 2,.slice none 0 0]) b5 rfl rfl (by simp [km]; exact ⟨rfl,rfl,rfl,rfl⟩) fun H' S c _ => ?_
 exact hk H' (k.1.thru S (by simp; exact g5)) ⟨S.get b1 (by simpa using a5),S.get b2 (by simpa using a4),S.get b3 (by simpa using a6),S.get b4 (by simpa using a7),c,a1,a2,a3,a4,g2⟩
set_option maxHeartbeats 8000000 in
theorem law5 (hJ : Closed prog main J) (L : LwF H p5 p6 p16 t ms mv y v) (ok : RegOk t ms) (hi : ms[i]? = some x) (hj : ms[j]? = some y) (hij : i ≠ j) (I : RgF F p5 p6 p16 ms.length j i v)
    (r14 : F.r 14 = .bool (stillB t x y)) (hst : ∀ {F' : RG} {H' : List AObj},SameX [] H H' → RgF F' p5 p6 p16 ms.length j (i + 1) v → st F' H') :
    W prog J 221 n0 3 (subC [1,1,1,1,0,1,0,0,1,0,0,1,1,1,1,1,0,0,1,0,0,1,1,1,1] (codeOf f3)) F H (contX pl3 prog J 221 n0 3 ct3 [1,1,1,1,0,1,0,0,1,0,0,1,1,1,1,1,0,0,1,0,0,1,1,1,1] (codeOf f3) [nx0,st] (RetQ prog [.tmp 2] n0 K)) := by
  rw [s3_5,I.r9,I.r11]
  have hml := ok.len
  have hil := (List.getElem?_eq_some_iff.1 hi).1
  have hjl := (List.getElem?_eq_some_iff.1 hj).1
  have km := sli1 L.am.sli
  have l5 := lt_of_get L.c5
  refine good7 hJ L.my (Nat.le_trans (mayT_len _ _ _ _) hml) fun r hr => geqI ?_
  have hb : decide (r ≥ 0) = stillB t x y := by
    rw [Bool.eq_iff_iff,decide_eq_true_eq,← may_still ok hi hj hij]
    exact hr
  rw [hb,r14]
  refine neqBo ?_
  have hxx : (stillB t x y != stillB t x y) = false := by simp
  rw [hxx]
  rw [I.r4,I.r5,I.r6]
  refine cnd_false.2 ⟨[p5],load_part (c := [vint t,mv]) L.c5 (by simp) rfl (by simp [kn,km.2.2]; exact rfl) ⟨by simp [RdOk,ptrBlk],?_⟩⟩
  have hB : ∀ p ∈ [p5],p < H.length := by simpa using l5
  have goW : ∀ {F' : RG} {H' : List AObj} {pk r0 r1 hd bb : Nat},SameX [] H H' → BkF H' H.length ms.length i j pk r0 r1 hd bb t mv (List.replicate ms.length 0) → RgF F' p5 p6 p16 ms.length j i v → F'.r 14 = .bool (stillB t x y) → F'.r 15 = ptr bb 0 →
      W prog J 221 n0 3 (subC [1,1,1,1,0,1,0,0,1,0,0,1,1,1,1,1,0,0,1,0,0,1,1,1,1,1,1] (codeOf f3)) F' H' (contX pl3 prog J 221 n0 3 ct3 [1,1,1,1,0,1,0,0,1,0,0,1,1,1,1,1,0,0,1,0,0,1,1,1,1,1,1] (codeOf f3) [nx0,st] (RetQ prog [.tmp 2] n0 K)) :=
    fun S B I' r14 r15 => law6 hJ L ok hi hj hij I' S B r14 r15 hst
  have kn : KnH H H [] := ⟨SameX.refl,by simp,by simp⟩
  repeat' (first
    | (refine kKeep kn fun q Hc kn => ?_)
    | (refine kRow kn hml fun q Hc kn => ?_)
    | (refine kHeads kn fun q Hc kn => ?_)
    | (refine kBook kn fun q Hc kn => ?_)
    | (refine kFill ⟨km.1,km.2.1⟩ ?_)
    | (refine sbK kn hB ?_)
    | (refine leafK kn km.2.1 (by repeat (first | exact List.mem_cons_self | refine List.mem_cons_of_mem _ ?_)) (by repeat (first | exact List.mem_cons_self | refine List.mem_cons_of_mem _ ?_)) (by repeat (first | exact List.mem_cons_self | refine List.mem_cons_of_mem _ ?_)) (by repeat (first | exact List.mem_cons_self | refine List.mem_cons_of_mem _ ?_)) (by repeat (first | exact List.mem_cons_self | refine List.mem_cons_of_mem _ ?_)) (by
        have hnd := kn.2.2
        simp only [List.map_cons,List.map_nil,List.pairwise_cons,List.mem_cons,List.not_mem_nil,or_false,forall_eq_or_imp,forall_eq] at hnd
        omega) fun H' S B => hold.2 ?_
       exact goW S B ⟨I.ds,I.r4,I.r5,I.r6,I.r7,I.r8,I.r9,I.r11⟩ r14 rfl)
    | (refine ⟨?_,?_⟩))
end
section
variable {main : Bool} {J : JT} {n0 : Nat} {h H Hs : List AObj} {K : Value → List AObj → Prop} {KV : Value → Prop} {HL : List AObj → Prop}
variable {t : Int} {ms : List Mrk} {mv v : Value} {x y : Mrk} {i j p5 p6 p16 : Nat} {F : RG} {nx0 st : RG → List AObj → Prop}
set_option maxHeartbeats 1000000 in
theorem law4 (hJ : Closed prog main J) (L : LwF H p5 p6 p16 t ms mv y v) (ok : RegOk t ms) (hi : ms[i]? = some x) (hj : ms[j]? = some y) (hij : i ≠ j) (I : RgF F p5 p6 p16 ms.length j i v)
  (r12 : F.r 12 = vint (if forgeN x y < 0 then 0 else forgeN x y)) (r13 : F.r 13 = vint (if forgeN x y < 0 then 11 else 0)) (r79 : F.r 79 = .bool false) (hst : ∀ {F' : RG} {H' : List AObj},SameX [] H H' → RgF F' p5 p6 p16 ms.length j (i + 1) v → st F' H') :
  W prog J 221 n0 3 (subC [1,1,1,1,0,1,0,0,1,0,0,1,1,1,1,1,0,0,1,0,0,1,1,0,1] (codeOf f3)) F H (contX pl3 prog J 221 n0 3 ct3 [1,1,1,1,0,1,0,0,1,0,0,1,1,1,1,1,0,0,1,0,0,1,1,0,1] (codeOf f3) [nx0,st] (RetQ prog [.tmp 2] n0 K)) := by
 rw [s3_4,r79,r12,r13,I.r4,I.r7,I.r11]
 have hil := (List.getElem?_eq_some_iff.1 hi).1
 have km := sli1 L.am.sli
 have go : ∀ {F' : RG},RgF F' p5 p6 p16 ms.length j i v → F'.r 14 = .bool (stillB t x y) →
   W prog J 221 n0 3 (subC [1,1,1,1,0,1,0,0,1,0,0,1,1,1,1,1,0,0,1,0,0,1,1,1,1] (codeOf f3)) F' H (contX pl3 prog J 221 n0 3 ct3 [1,1,1,1,0,1,0,0,1,0,0,1,1,1,1,1,0,0,1,0,0,1,1,1,1] (codeOf f3) [nx0,st] (RetQ prog [.tmp 2] n0 K)) :=
  fun I' r14 => law5 hJ L ok hi hj hij I' r14 hst
 refine cnd_false.2 ?_
 by_cases hf : forgeN x y < 0
 ·have hs : stillB t x y = false := by unfold stillB; rw [if_pos hf]
  rw [if_pos hf,if_pos hf]
  refine eqlF (by decide) (cnd_false.2 (hold.2 ?_))
  exact go ⟨I.ds,I.r4,I.r5,I.r6,I.r7,I.r8,I.r9,I.r11⟩ (by rw [hs]; rfl)
 ·have hs : stillB t x y = (decide (forgeN x y ≤ t) && (decide (x.b = y.b) && decide (x.p = y.p))) := by unfold stillB; rw [if_neg hf]
  rw [if_neg hf,if_neg hf]
  refine eqlT rfl (cnd_true.2 (offI (ldI (v := vint t) L.c5 rfl rfl (leqI (cndI (fun h1 => ?_) fun h1 => hold.2 ?_)))))
  ·rw [decide_eq_true h1,Bool.true_and] at hs
   obtain ⟨b,o,cs,wr,sz,hidx,hb,hos,htk,hkn⟩ := sliE_elem (s := 3) (enc := Mrk.cells) (fun _ => rfl) (by decide) L.am.sli hil
   have ex : ms[i] = x := by rw [List.getElem?_eq_getElem hil] at hi; exact Option.some.inj hi
   rw [ex] at htk
   refine offI (ldI (v := mv) L.c5 rfl km.2.2 (hidx _ (offI (ldI (v := vint x.b) hb (part_get htk rfl) rfl (offI (ldI (v := vint y.b) L.c6 rfl rfl (eqlI (cndI (fun h2 => ?_) fun h2 => hold.2 ?_))))))))
   ·rw [decide_eq_true h2,Bool.true_and] at hs
    refine offI (ldI (v := mv) L.c5 rfl km.2.2 (hidx _ (offI (ldI (v := vint x.p) hb (part_get htk rfl) rfl (offI (ldI (v := vint y.p) L.c6 rfl rfl (eqlI (hold.2 ?_))))))))
    exact go ⟨I.ds,I.r4,I.r5,I.r6,I.r7,I.r8,I.r9,I.r11⟩ (by rw [hs]; rfl)
   ·rw [decide_eq_false h2,Bool.false_and] at hs
    exact go ⟨I.ds,I.r4,I.r5,I.r6,I.r7,I.r8,I.r9,I.r11⟩ (by rw [hs]; rfl)
  ·rw [decide_eq_false h1,Bool.false_and] at hs
   exact go ⟨I.ds,I.r4,I.r5,I.r6,I.r7,I.r8,I.r9,I.r11⟩ (by rw [hs]; rfl)
theorem law3 (hJ : Closed prog main J) (L : LwF Hs p5 p6 p16 t ms mv y v) (ok : RegOk t ms) (hj : ms[j]? = some y) (I : RgF F p5 p6 p16 ms.length j 0 v) (hn0 : n0 ≤ Hs.length)
  (hst : ∀ {F' : RG} {H' : List AObj},SameX [] Hs H' → F'.ds = [] → F'.r 4 = ptr p5 0 → F'.r 5 = vint (ms.length : Nat) → F'.r 6 = vint ((j : Int) + 1) → st F' H') :
  Sem J 221 n0 3 (subC [1,1,1,1,0,1,0,0,1,0,0,1,1,1,1,1,0] (codeOf f3)) F Hs (contX pl3 prog J 221 n0 3 ct3 [1,1,1,1,0,1,0,0,1,0,0,1,1,1,1,1,0] (codeOf f3) [st] (RetQ prog [.tmp 2] n0 K)) := by
 have hml := ok.len
 have hjl := (List.getElem?_eq_some_iff.1 hj).1
 have km := sli1 L.am.sli
 refine l3_3 hJ (fun k : Nat => ms.length - k) (fun k F H' => k ≤ ms.length ∧ SameX [] Hs H' ∧ RgF F p5 p6 p16 ms.length j k v) ?_ (s := 0) (.inl ⟨by omega,SameX.refl,I⟩)
 clear I
 rintro k F H' ⟨hk,S,I⟩ okc hnc
 rw [s3_3,I.r4,I.r5,I.r6,I.r11]
 have L1 := L.same S
 refine lssI (cndI (fun hlt => ?_) fun hge => ?_)
 rotate_left
 ·exact addI (by omega) (hst S I.ds I.r4 I.r5 rfl)
 have hkl : k < ms.length := by omega
 have next : ∀ {F' : RG} {H2 : List AObj},SameX [] H' H2 → RgF F' p5 p6 p16 ms.length j (k + 1) v → Nx n0 (fun k : Nat => ms.length - k) (fun k F H' => k ≤ ms.length ∧ SameX [] Hs H' ∧ RgF F p5 p6 p16 ms.length j k v) k F' H2 := fun S2 I' => ⟨k + 1,by dsimp only; omega,.inl ⟨by omega,S.trans S2,I'⟩⟩
 refine eqlI (cndI (fun he => ?_) fun hne => ?_)
 ·exact addI (by omega) (next SameX.refl ⟨I.ds,I.r4,I.r5,I.r6,I.r7,I.r8,I.r9,by show vint _ = vint _; congr 1⟩)
 have hkj : k ≠ j := fun e => hne (by rw [e])
 have hget : ms[k]? = some ms[k] := List.getElem?_eq_getElem hkl
 generalize ms[k] = x at hget
 refine load_part (c := [vint t,mv]) L1.c5 (by simp) rfl (by simp [kn,km.2.2]; exact rfl) (good8 hJ (i := k) (j := j) L1.am ok hget hj fun H2 S2 => ext0 (ext1 ?_))
 have L2 := L1.same S2
 have go : ∀ {F' : RG},RgF F' p5 p6 p16 ms.length j k v → F'.r 12 = vint (if forgeN x y < 0 then 0 else forgeN x y) → F'.r 13 = vint (if forgeN x y < 0 then 11 else 0) → F'.r 79 = .bool false → _ :=
  fun {F'} I' r12 r13 r79 => law4 (F := F') (H := H2) (n0 := n0) (K := K) (nx0 := st) (st := Nx n0 (fun k : Nat => ms.length - k) (fun k F H' => k ≤ ms.length ∧ SameX [] Hs H' ∧ RgF F p5 p6 p16 ms.length j k v) k) hJ L2 ok hget hj hkj I' r12 r13 r79 fun S3 I3 => next (S2.trans S3) I3
 by_cases hf : forgeN x y < 0
 ·have e1 : (if forgeN x y < 0 then (11 : Int) else 0) = 11 := if_pos hf
  rw [e1]
  refine neqT (by decide) (cnd_true.2 (neqF rfl (hold.2 ?_)))
  exact go ⟨I.ds,I.r4,I.r5,I.r6,I.r7,I.r8,I.r9,I.r11⟩ rfl (by rw [e1]; rfl) rfl
 ·have e1 : (if forgeN x y < 0 then (11 : Int) else 0) = 0 := if_neg hf
  rw [e1]
  refine neqF rfl (cnd_false.2 (hold.2 ?_))
  exact go ⟨I.ds,I.r4,I.r5,I.r6,I.r7,I.r8,I.r9,I.r11⟩ rfl (by rw [e1]; rfl) rfl
theorem walk3 (hJ : Closed prog main J) {nv : Value} {ns : List Int} (sn : Sli h nv 1 ns.length (ns.map vint)) (hln : ns.length < 4611686018427387904) (hK : ∀ H',K (.bool true) H') :
  W prog J 221 h.length 3 (codeOf f3) (RG.mk (regs [nv]) []) h (RetQ prog [.tmp 2] h.length K) := by
 rw [e3]
 refine newX hJ sn hln fun H1 X1 => good5 hJ X1 (by omega) fun t ms mv H2 ok hl4 M2 S2 => ?_
 have km := sli1 M2.sli
 refine qAl fun H3 p5 e3 S3 c3 l3 => qStA (c := [vint t,mv]) c3 rfl rfl (by simp [km.2.1]; exact rfl) fun H4 S4 c4 l4 => ?_
 have U4 : SameX [] H2 H4 := S3.thru S4 (by simp; omega)
 have M4 := M2.same U4
 have hlt := X1.ltz
 have z2 := S2.1
 have z4 := U4.1
 refine offI (ldI (v := mv) c4 rfl km.2.2 (lenI M4.sli ?_))
 have hml := ok.len
 refine l3_1 hJ (fun k : Nat => ms.length - k) (fun k F H' => k ≤ ms.length ∧ SameX [] H4 H' ∧ F.ds = [] ∧ F.r 4 = ptr p5 0 ∧ F.r 5 = vint (ms.length : Nat) ∧ F.r 6 = vint (k : Nat)) ?_ (s := 0) (.inl ⟨by omega,SameX.refl,rfl,rfl,rfl,rfl⟩)
 rintro j F H' ⟨hj,S,ds,r4,r5,r6⟩ okc hnc
 rw [s3_1,r4,r5,r6,ds]
 have M := M4.same S
 have c5 := S.get c4 (by simp)
 refine lssI (cndI (fun hlt => ?_) fun hge => good13 hJ fun H5 => retL_same (by simp [unk]) (hK H5))
 have hjl : j < ms.length := by omega
 refine offI (ldI (v := mv) c5 rfl km.2.2 (elemE (enc := Mrk.cells) (fun _ => rfl) (by decide) M.sli hjl fun q => ?_))
 have hget : ms[j]? = some ms[j] := List.getElem?_eq_getElem hjl
 generalize ms[j] = y at *
 have yo := ok.each y (List.mem_of_getElem? hget)
 refine qAl fun H5 p6 e5 S5 d5 l5 => qStA (c := y.cells) d5 rfl rfl rfl fun H6 S6 c6 l6 => ?_
 refine offI (ldI (v := vint y.n) c6 rfl rfl (offI (ldI (v := vint y.b) c6 rfl rfl (offI (ldI (v := vint y.p) c6 rfl rfl (fillV rfl rfl (by decide) (fillV rfl rfl (by simp only [wrAt_length]; decide) (fillV rfl rfl (by simp only [wrAt_length]; decide) (fillI ?_)))))))))
 have U6 : SameX [] H' H6 := S5.thru S6 (by simp; omega)
 refine qAl fun H7 p16 e7 S7 d7 l7 => qStA (c := (sgtOf y).cells) d7 rfl rfl rfl fun H8 S8 c8 l8 => ?_
 have U8 : SameX [] H6 H8 := S7.thru S8 (by simp; omega)
 have T8 := U6.trans U8
 have knm : kn [vint t,mv] = true := by simp [kn,km.2.2]; exact rfl
 refine load_part (c := [vint t,mv]) (T8.get c5 (by simp)) (by simp) rfl knm (load_part (c := (sgtOf y).cells) c8 (by simp [Sgt.cells]) rfl rfl ?_)
 refine good6 hJ (M.same T8) ok (sgtOf_ok yo) fun v o H9 S9 O9 => ext0 (ext1 (neqF rfl (cnd_false.2 ?_)))
 refine good7 hJ (L := mayL t (sgtOf y) ms) (ownX_sli O9) (Nat.le_trans (mayT_len _ _ _ _) hml) fun r hr => lssF (by have := hr.2 (may_self ok hget); omega) (hold.2 ?_)
 rw [s3_2]
 refine cnd_false.2 ?_
 have T9 := T8.trans S9
 have hT9 := T9.1
 have hS := S.1
 refine law3 hJ (p5 := p5) (p6 := p6) (p16 := p16) (v := v) (mv := mv) (y := y) (j := j) (st := Nx h.length (fun k : Nat => ms.length - k) (fun k F H' => k ≤ ms.length ∧ SameX [] H4 H' ∧ F.ds = [] ∧ F.r 4 = ptr p5 0 ∧ F.r 5 = vint (ms.length : Nat) ∧ F.r 6 = vint (k : Nat)) j) ⟨T9.get c5 (by simp),(U8.trans S9).get c6 (by simp),S9.get c8 (by simp),M.same T9,ownX_sli O9⟩ ok hget ⟨ds,r4,r5,r6,rfl,rfl,rfl,rfl⟩ (by omega) fun {F' H10} S10 ds' r4' r5' r6' => ⟨j + 1,by dsimp only; omega,.inl ⟨by omega,(S.trans T9).trans S10,ds',r4',r5',by rw [r6']; congr 1⟩⟩
end
end Go.Proofs.Ytkbfhelfnagccaa
namespace Go.Proofs.Ytkbfhelfnagccaa
open Go.Conc Go.ChangeShapes Go.WideShapes Go.ChangeAt Go.RowKit Go.Proofs.Try
set_option maxRecDepth 100000
theorem lifted3 (os : Os) (started : os.Started) (H : Type) (enc : TypeId × Value → H) :
  ReturnsInHanded {} checked os 3 .any (Rows.topForgedSpec.pre6 enc prog f3 Rows.topForgedRow.domain false) (Rows.topForgedSpec.post enc prog f3 false true false false) := by
 refine handed_of_change (C := checked) own started at3
  (ChangeSpec.witness6 (enc := enc) (C := checked) false ⟨#[],#[.slice none 0 0],[]⟩ 8 (by kernel_rfl) (by kernel_rfl) (by kernel_rfl) (by kernel_rfl)) ?_
 intro W base args ds gs before hval0 hW _ hsz0 _
 have hsz : (DataW.weightsEach prog (f3.params.toList ++ Rows.topForgedSpec.plain.varTypes prog) (ds ++ gs)).all (· ≤ reachBytes) = true := hsz0
 clear hsz0
 have hval : ∀ (j : Nat) t v,f3.params[j]? = some t → args[j]? = some v → Value.okWide prog W .any base t v := hval0
 have hW' := hW
 obtain ⟨p,q,hA0,hV,rfl,_,_⟩ := hW
 have hA : DataW.TrodAll enc prog W 0 (fun _ => true) true f3.params.toList args.toList ds p := hA0
 have hps : f3.params = #[22] := by kernel_rfl
 rw [hps] at hA hval hsz
 obtain ⟨v0,d0,rfl,rfl,h0⟩ := trodAll_one hA
 obtain ⟨rfl,rfl⟩ := trodVars_none hV
 have u3 : prog.underlying 3 = some (.int .i64) := by kernel_rfl
 have u22 : prog.underlying 22 = some (.slice 3) := by kernel_rfl
 have u4 : prog.underlying 4 = some .bool := by kernel_rfl
 have c3 : prog.cellsOf 3 = 1 := by kernel_rfl
 have b3 : prog.bytesOf 3 = 8 := by kernel_rfl
 have hlt : ∀ x ∈ p,x.block < W.heap.size := fun x hx => by simpa using hW'.lt x (by simpa using hx)
 have hargs : ∀ (W' : World),Below W.heap.size W W' → DataW.TrodAll enc prog W' 0 (fun b => decide (b < W.heap.size)) true [22] [v0] [d0] p := fun W' hn =>
  trodAll_mk1 (Below.trod laidOut (by kernel_rfl) (of_decide_eq_true (by kernel_rfl)) h0 hn hlt)
 obtain ⟨ns,sn,ok2,hbig⟩ := arg_ints u22 u3 c3 (hval 0 22 v0 rfl rfl) h0
 have hln : ns.length < 4611686018427387904 := by
  rcases hbig with rfl | ⟨es,sp,rfl,hle⟩
  ·simp
  ·have := sized_slice hsz (j := 0) (t := 22) (e := 3) rfl rfl u22
   rw [b3] at this
   simp only [reachBytes] at this
   omega
 obtain ⟨M,last,o,w',t',r1,r2,r3,r4,r5⟩ := law_run0 (g := 3) (fn := f3) at3 body3 (by kernel_rfl) W [v0] (Nat.le_of_ble_eq_true (by kernel_rfl : Nat.ble 1 f3.ntmps = true))
  (by
   intro v hv
   simp only [List.mem_cons,List.not_mem_nil,or_false] at hv
   subst hv
   exact ok2)
  (fun J hJ => walk3 (K := fun v _ => v = .bool true) hJ sn hln fun _ => rfl)
 refine ⟨M,last,o,w',t',r1,r2,r3,r4.mono fun v hF => ?_,r5⟩
 obtain ⟨rfl,hbelow⟩ := hF
 refine ⟨_,_,_,[],_,[],hW',?_,hargs _ hbelow,by rfl,hbelow.frame _,fun h => by cases h⟩
 exact trodAll_mk1 (shut_bool u4 true)
theorem topForged_holds : Rows.TopForgedSaid :=
 OpenClaim.holds_of_wide 3 f3 rfl rfl rfl rfl rfl rfl rfl ⟨rfl,rfl,rfl,rfl,rfl⟩ rfl rfl rfl rfl rfl (by kernel_rfl) at3 (by kernel_rfl)
  (of_decide_eq_true (by kernel_rfl)) (by unfold Func.isWrapper; first | (rw [if_pos (by decide +kernel)]; kernel_rfl) | (rw [if_neg (by decide +kernel)]; exact ⟨rfl,rfl⟩))
  (fun os started H enc _ => lifted3 os started H enc)
#print axioms topForged_holds
end Go.Proofs.Ytkbfhelfnagccaa
