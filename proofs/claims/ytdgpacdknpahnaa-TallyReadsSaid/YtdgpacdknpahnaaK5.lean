/- TallyReads answers true at every input, and its arguments read behind the call as they read before. No conditions. -/
import Derived.Test.YtdgpacdknpahnaaK2
import Derived.Test.YtdgpacdknpahnaaK4
import Derived.Test.YtdgpacdknpahnaaK3
import Derived.Conc.Holds
import Derived.Conc.Beside
import Derived.Below
import Derived.Test.YtdgpacdknpahnaaRows
import Derived.Conc.LeavingOf
import Derived.ChangeSlices
import Derived.OpenShut
import Derived.Carry
import Derived.Deep.Slices

namespace Go.Proofs.Ytdgpacdknpahnaa
open Go.Conc Go.Proofs.Try
set_option maxRecDepth 100000
theorem cnt_flat : ∀ cs : List Cnt, (cs.flatMap Cnt.cells).length = cs.length * 4
  | [] => rfl
  | x :: cs => by rw [List.flatMap_cons, List.length_append, cnt_flat cs, List.length_cons]; show 4 + cs.length * 4 = _; omega
theorem w12 {z0 z1 z2 z3 a0 a1 a2 a3 b0 b1 b2 b3 c0 c1 c2 c3 : Value} :
    wrAt (wrAt (wrAt (zrep [z0, z1, z2, z3] 3) 0 [a0, a1, a2, a3]) 4 [b0, b1, b2, b3]) 8 [c0, c1, c2, c3] = [a0, a1, a2, a3, b0, b1, b2, b3, c0, c1, c2, c3] := by kernel_rfl
theorem z12 {z0 z1 z2 z3 : Value} : (zrep [z0, z1, z2, z3] 3).length = 12 := by kernel_rfl
theorem fill12 {x y z : Cnt} {KL : List Value → Prop} (hk : KL ([x, y, z].flatMap Cnt.cells)) :
    aFill (zrep [vint 0, vint 0, vint 0, vint 0] 3) [(0, 4, .agg ⟨x.cells⟩), (4, 4, .agg ⟨y.cells⟩), (8, 4, .agg ⟨z.cells⟩)] KL := by
  unfold aFill
  refine ⟨rfl, rfl, by rw [z12]; decide, ?_⟩
  unfold aFill
  refine ⟨rfl, rfl, by rw [wrAt_length, z12]; decide, ?_⟩
  unfold aFill
  refine ⟨rfl, rfl, by rw [wrAt_length, wrAt_length, z12]; decide, ?_⟩
  unfold aFill
  show KL (wrAt (wrAt (wrAt _ 0 x.cells) 4 y.cells) 8 z.cells)
  unfold Cnt.cells
  rw [w12]
  exact hk
theorem w18 {z0 z1 z2 z3 z4 z5 a0 a1 a2 a3 a4 a5 b0 b1 b2 b3 b4 b5 c0 c1 c2 c3 c4 c5 : Value} :
    wrAt (wrAt (wrAt (zrep [z0, z1, z2, z3, z4, z5] 3) 0 [a0, a1, a2, a3, a4, a5]) 6 [b0, b1, b2, b3, b4, b5]) 12 [c0, c1, c2, c3, c4, c5] =
      [a0, a1, a2, a3, a4, a5, b0, b1, b2, b3, b4, b5, c0, c1, c2, c3, c4, c5] := by kernel_rfl
theorem z18 {z0 z1 z2 z3 z4 z5 : Value} : (zrep [z0, z1, z2, z3, z4, z5] 3).length = 18 := by kernel_rfl
theorem fill18 {x y z : TV} {KL : List Value → Prop} (hx : (tvC x).all one = true) (hy : (tvC y).all one = true) (hz : (tvC z).all one = true) (hk : KL ([x, y, z].flatMap tvC)) :
    aFill (zrep [vint 0, vint 0, vint 0, .slice none 0 0, vint 0, .slice none 0 0] 3) [(0, 6, .agg ⟨tvC x⟩), (6, 6, .agg ⟨tvC y⟩), (12, 6, .agg ⟨tvC z⟩)] KL := by
  unfold aFill
  refine ⟨rfl, hx, by rw [z18]; decide, ?_⟩
  unfold aFill
  refine ⟨rfl, hy, by rw [wrAt_length, z18]; decide, ?_⟩
  unfold aFill
  refine ⟨rfl, hz, by rw [wrAt_length, wrAt_length, z18]; decide, ?_⟩
  unfold aFill
  show KL (wrAt (wrAt (wrAt _ 0 (tvC x)) 6 (tvC y)) 12 (tvC z))
  unfold tvC talCells
  rw [w18]
  exact hk
section
variable {main : Bool} {J : JT} {h : List AObj} {K : Value → List AObj → Prop} {n0 : Nat}
theorem loop13 (hJ : Closed prog main J) {H0 : List AObj} {p10 p11 : Nat} {xs : List TV} {cs : List Cnt} {F : RG}
    (t0 : F.ds = []) (t10 : F.r 10 = .slice (some ⟨p10, 0, none⟩) 3 3) (t11 : F.r 11 = .slice (some ⟨p11, 0, none⟩) 3 3) (t12 : F.r 12 = vint (0 : Nat))
    (h10 : H0[p10]? = some (.cells (xs.flatMap tvC) true 0)) (h11 : H0[p11]? = some (.cells (cs.flatMap Cnt.cells) true 0))
    (lx : xs.length = 3) (lc : cs.length = 3) (hx : ∀ x ∈ xs, TalAt H0 (.agg ⟨tvC x⟩) x.1 x.2.1 x.2.2 ∧ x.1.changes.length < 900 ∧ x.1.counts.length < 900)
    (fin : ∀ H, Good prog J 18 [] H fun v h' => retL n0 K [] [v] h') :
    Sem J 136 n0 13 (subC [1, 1, 1, 1, 1, 1, 0, 1, 0] (codeOf f13)) F H0 (contX pl13 prog J 136 n0 13 ct13 [1, 1, 1, 1, 1, 1, 0, 1, 0] (codeOf f13) [] (RetQ prog [.tmp 6] n0 K)) := by
  refine l13_2 hJ (fun i : Nat => 3 - i) (fun i f H => SameX [] H0 H ∧ i ≤ 3 ∧ f.ds = [] ∧ f.r 10 = .slice (some ⟨p10, 0, none⟩) 3 3 ∧ f.r 11 = .slice (some ⟨p11, 0, none⟩) 3 3 ∧ f.r 12 = vint (i : Nat)) ?_ (s := 0)
    (.inl ⟨SameX.refl, by omega, t0, t10, t11, t12⟩)
  rintro i f H ⟨S, hi, hds, r10, r11, r12⟩ ok' hn'
  rw [s13_2]
  simp only [r10, r11, r12, hds, lenS]
  refine lssI (cndI (fun hlt => ?_) fun hge => fin _)
  have hi3 : i < 3 := by omega
  obtain ⟨tx, lx1, lx2⟩ := hx xs[i] (List.getElem_mem (by omega))
  have hft := flat_take tvC_len xs i (by omega)
  have hfl : (xs.flatMap tvC).length = 18 := by rw [tvC_flat, lx]
  have hgt := flat_take (enc := Cnt.cells) (s := 4) (fun _ => rfl) cs i (by omega)
  have hgl : (cs.flatMap Cnt.cells).length = 12 := by rw [cnt_flat, lc]
  generalize xs[i] = x at *
  generalize cs[i] = c at *
  have kx : kn (tvC x) = true := talAt_kc tx
  have idx : ∀ {H' : List AObj} {KI : Value → Value → Prop}, SameX [] H0 H' → (KI (ptr p10 (i * 6)) (.agg ⟨tvC x⟩)) → aIdx 6 (.slice (some ⟨p10, 0, none⟩) 3 3) (vint (i : Nat)) fun v => aLoad true 6 v H' (KI v) := fun S' hk => by
    refine idxI ⟨by omega, by omega⟩ ?_
    rw [Int.toNat_natCast, Nat.zero_add]
    exact load_part (c := tvC x) (S'.get h10 (by simp)) (by omega) hft kx hk
  have idc : ∀ {H' : List AObj} {KI : Value → Value → Prop}, SameX [] H0 H' → (KI (ptr p11 (i * 4)) c.val) → aIdx 4 (.slice (some ⟨p11, 0, none⟩) 3 3) (vint (i : Nat)) fun v => aLoad true 4 v H' (KI v) := fun S' hk => by
    refine idxI ⟨by omega, by omega⟩ ?_
    rw [Int.toNat_natCast, Nat.zero_add]
    exact load_part (c := c.cells) (S'.get h11 (by simp)) (by omega) hgt rfl hk
  refine idx S (good38 hJ (talAt_same tx S (by simp)) ⟨by omega, by omega⟩ fun H1 cv' nv' o1 o2 S1 O1 O2 _ _ _ => ?_)
  have ta1 : TalAt H1 (.agg ⟨talCells x.1 cv' nv'⟩) x.1 cv' nv' := ⟨rfl, ownX_sli O1, ownX_sli O2⟩
  refine qAl fun H2 p13 e2 S2 c2 l2 => qStA (c := talCells x.1 cv' nv') c2 rfl rfl (tal_one ta1) fun H3 S3 c3 l3 => ?_
  have S13 : SameX [] H1 H3 := (SameX.refl.trans S2).thru S3 (by simp; omega)
  have ta3 := talAt_same ta1 S13 (by simp)
  have SH3 : SameX [] H0 H3 := (S.trans S1).trans S13
  refine idc SH3 (good40' hJ (ext0 (ext1 ?_)))
  refine qAl fun H4 p14 e4 S4 c4 l4 => qStA (c := (readsO c).cells) c4 rfl rfl rfl fun H5 S5 c5 l5 => ?_
  have S35 : SameX [] H3 H5 := S4.thru S5 (by simp; omega)
  refine idc (SH3.trans S35) (good49 hJ fun H6 S6 => ext0 (ext1 ?_))
  refine qAl fun H7 p16 e7 S7 c7 l7 => qStA (c := (readsO c).cells) c7 rfl rfl rfl fun H8 S8 c8 l8 => ?_
  have S68 : SameX [] H6 H8 := S7.thru S8 (by simp; omega)
  have S38 : SameX [] H3 H8 := (S35.trans S6).trans S68
  have S58 : SameX [] H5 H8 := S6.trans S68
  have S08 : SameX [] H0 H8 := SH3.trans S38
  have c13 := S38.get c3 (by simp)
  have c14 := S58.get c5 (by simp)
  have ta8 := talAt_same ta3 S38 (by simp)
  have lt13 := lt_of_get c13
  have lt10 := lt_of_get (S08.get h10 (by simp))
  have lt11 := lt_of_get (S08.get h11 (by simp))
  have sb8 : ∀ {H'}, SameX [] H8 H' → SameB (some [p13, p11]) H8 H' := fun S' b hb => S'.2 b (by simp at hb; rcases hb with rfl | rfl <;> omega) (by simp)
  have sb10 : ∀ {Ha H'}, SameX [] H8 Ha → SameX [] Ha H' → SameB (some [p10, p11]) Ha H' := fun Sa S' b hb => S'.2 b (by have := Sa.1; simp at hb; rcases hb with rfl | rfl <;> omega) (by simp)
  -- what is asked at last
  have last : ∀ {F' : RG} {Hn : List AObj} {p18 p20 : Nat} {cv1 nv1 cv2 nv2 : Value}, SameX [] H8 Hn → F'.ds = [] → F'.r 10 = .slice (some ⟨p10, 0, none⟩) 3 3 → F'.r 11 = .slice (some ⟨p11, 0, none⟩) 3 3 → F'.r 12 = vint (i : Nat) → F'.r 13 = ptr p13 0 → F'.r 14 = ptr p14 0 → F'.r 15 = vint (cntErr c 5) → F'.r 16 = ptr p16 0 → F'.r 17 = vint (cntErr c 5) → F'.r 18 = ptr p18 0 → F'.r 19 = vint (addE x.1 c) → F'.r 20 = ptr p20 0 → F'.r 21 = vint (addE x.1 c) →
      Hn[p18]? = some (.cells (talCells (addO x.1 c) cv1 nv1) true 0) → TalAt Hn (.agg ⟨talCells (addO x.1 c) cv1 nv1⟩) (addO x.1 c) cv1 nv1 → Hn[p20]? = some (.cells (talCells (addO x.1 c) cv2 nv2) true 0) → TalAt Hn (.agg ⟨talCells (addO x.1 c) cv2 nv2⟩) (addO x.1 c) cv2 nv2 →
      W prog J 136 n0 13 (subC [1, 1, 1, 1, 1, 1, 0, 1, 0, 0, 1, 0, 0, 1, 1, 1, 1, 1] (codeOf f13)) F' Hn (contX pl13 prog J 136 n0 13 ct13 [1, 1, 1, 1, 1, 1, 0, 1, 0, 0, 1, 0, 0, 1, 1, 1, 1, 1] (codeOf f13) [Nx n0 (fun i : Nat => 3 - i) (fun i f H => SameX [] H0 H ∧ i ≤ 3 ∧ f.ds = [] ∧ f.r 10 = .slice (some ⟨p10, 0, none⟩) 3 3 ∧ f.r 11 = .slice (some ⟨p11, 0, none⟩) 3 3 ∧ f.r 12 = vint (i : Nat)) i] (RetQ prog [.tmp 6] n0 K)) := by
    intro F' Hn p18 p20 cv1 nv1 cv2 nv2 Sn ds q10 q11 q12 q13 q14 q15 q16 q17 q18 q19 q20 q21 d18 t18 d20 t20
    have S0n := S08.trans Sn
    have dn := Sn.get c13 (by simp)
    have tan := talAt_same ta8 Sn (by simp)
    have txn := talAt_same tx S0n (by simp)
    have hla : (addO x.1 c).changes.length < 1000000 ∧ (addO x.1 c).counts.length < 1000000 := by
      unfold addO
      split
      · have e1 : (addT x.1 c).changes.length = x.1.changes.length := rfl
        have e2 : (addT x.1 c).counts.length = x.1.counts.length + 1 := by simp [addT]
        omega
      · exact ⟨by decide, by decide⟩
    rw [s13_4, q10, q12, q13, q14, q15, q16, q17, q18, q19, q20, q21]
    refine ⟨[p13, p10, p14, p16, p18, p20], ?_⟩
    refine load_part (c := talCells x.1 cv' nv') dn (by rw [cs_val]; omega) rfl (talAt_kc tan) ⟨by simp [RdOk, ptr, ptrBlk], ?_⟩
    refine idx S0n ⟨by simp [RdOk, ptr, ptrBlk], ?_⟩
    refine good51 hJ tan ⟨fun _ _ => rfl, ?_⟩
    refine good52 hJ txn ⟨fun _ _ => rfl, ?_⟩
    refine neqI (cndI (fun hx => absurd rfl hx) fun _ => ?_)
    refine load_part (c := (readsO c).cells) (Sn.get c14 (by simp)) (by simp [Rng.cells]) rfl rfl ⟨by simp [RdOk, ptr, ptrBlk], ?_⟩
    refine load_part (c := (readsO c).cells) (Sn.get c8 (by simp)) (by simp [Rng.cells]) rfl rfl ⟨by simp [RdOk, ptr, ptrBlk], ?_⟩
    refine neqR (cndI (fun hx => absurd rfl hx) fun _ => neqI (cndI (fun hx => absurd rfl hx) fun _ => neqI (cndI (fun hx => absurd rfl hx) fun _ => ?_)))
    refine load_part (c := talCells (addO x.1 c) cv1 nv1) d18 (by rw [cs_val]; omega) rfl (talAt_kc t18) ⟨by simp [RdOk, ptr, ptrBlk], ?_⟩
    refine load_part (c := talCells (addO x.1 c) cv2 nv2) d20 (by rw [cs_val]; omega) rfl (talAt_kc t20) ⟨by simp [RdOk, ptr, ptrBlk], ?_⟩
    refine good48 hJ t18 t20 hla ⟨fun _ _ => rfl, notI (cnd_false.2 ?_)⟩
    refine load_part (c := talCells x.1 cv' nv') dn (by rw [cs_val]; omega) rfl (talAt_kc tan) ⟨by simp [RdOk, ptr, ptrBlk], ?_⟩
    refine idx S0n ⟨by simp [RdOk, ptr, ptrBlk], ?_⟩
    refine good48 hJ tan txn ⟨by omega, by omega⟩ ⟨fun _ _ => rfl, notI (hold.2 ?_)⟩
    rw [s13_5]
    show cnd (.bool false) _ _
    refine cnd_false.2 ?_
    show aBin prog .add 3 (F'.r 12) (vint 1) _
    refine addR (a := (i : Int)) q12 (by omega) ?_
    exact ⟨i + 1, by dsimp only; omega, .inl ⟨S0n, by omega, ds, q10, q11, by show vint _ = vint _; congr 1⟩⟩
  -- with the count, by the reference
  have mid : ∀ {F' : RG} {Hn : List AObj} {p18 : Nat} {cv1 nv1 : Value}, SameX [] H8 Hn → F'.ds = [] → F'.r 10 = .slice (some ⟨p10, 0, none⟩) 3 3 → F'.r 11 = .slice (some ⟨p11, 0, none⟩) 3 3 → F'.r 12 = vint (i : Nat) → F'.r 13 = ptr p13 0 → F'.r 14 = ptr p14 0 → F'.r 15 = vint (cntErr c 5) → F'.r 16 = ptr p16 0 → F'.r 17 = vint (cntErr c 5) → F'.r 18 = ptr p18 0 → F'.r 19 = vint (addE x.1 c) →
      Hn[p18]? = some (.cells (talCells (addO x.1 c) cv1 nv1) true 0) → TalAt Hn (.agg ⟨talCells (addO x.1 c) cv1 nv1⟩) (addO x.1 c) cv1 nv1 →
      W prog J 136 n0 13 (subC [1, 1, 1, 1, 1, 1, 0, 1, 0, 0, 1, 0, 0, 1, 1, 1, 1] (codeOf f13)) F' Hn (contX pl13 prog J 136 n0 13 ct13 [1, 1, 1, 1, 1, 1, 0, 1, 0, 0, 1, 0, 0, 1, 1, 1, 1] (codeOf f13) [Nx n0 (fun i : Nat => 3 - i) (fun i f H => SameX [] H0 H ∧ i ≤ 3 ∧ f.ds = [] ∧ f.r 10 = .slice (some ⟨p10, 0, none⟩) 3 3 ∧ f.r 11 = .slice (some ⟨p11, 0, none⟩) 3 3 ∧ f.r 12 = vint (i : Nat)) i] (RetQ prog [.tmp 6] n0 K)) := by
    intro F' Hn p18 cv1 nv1 Sn ds q10 q11 q12 q13 q14 q15 q16 q17 q18 q19 d18 t18
    have S0n := S08.trans Sn
    rw [s13_3, q10, q11, q12]
    refine ⟨[p10, p11], idx S0n ⟨by simp [RdOk, ptr, ptrBlk], idc S0n ⟨by simp [RdOk, ptr, ptrBlk], ?_, ?_⟩⟩⟩
    · refine good50 hJ (talAt_same tx S0n (by simp)) (by omega) fun Ha w cv2 nv2 Sa Ta => ext0 (ext1 ?_)
      refine qAl fun Hb p20 eb Sb cb lb => ⟨sb10 Sn (Sa.trans Sb), ?_⟩
      have Tz := Ta (X := []) SameX.refl (by simp)
      have ev := Tz.val
      rw [ev] at Tz ⊢
      refine qStA (c := talCells (addO x.1 c) cv2 nv2) cb rfl rfl (tal_one Tz) fun Hc Sc cc lc => hold.2 ?_
      have Sac : SameX [] Ha Hc := Sb.thru Sc (by simp; omega)
      have Snc : SameX [] Hn Hc := Sa.trans Sac
      have t20 := Ta Sac (by simp)
      rw [ev] at t20
      exact last (p18 := p18) (p20 := p20) (Sn.trans Snc) ds q10 q11 q12 q13 q14 q15 q16 q17 q18 q19 rfl rfl (Snc.get d18 (by simp)) (talAt_same t18 Snc (by simp)) cc t20
    · refine qAl fun Ha p20 ea Sa ca la => ⟨sb10 Sn Sa, ?_⟩
      refine good50 hJ (talAt_same tx (S0n.trans Sa) (by simp)) (by omega) fun Hb w cv2 nv2 Sb Tb => ext0 (ext1 ?_)
      have Tz := Tb (X := []) SameX.refl (by simp)
      have ev := Tz.val
      rw [ev] at Tz ⊢
      refine qStA (c := talCells (addO x.1 c) cv2 nv2) (Sb.get ca (by simp)) rfl rfl (tal_one Tz) fun Hc Sc cc lc => hold.2 ?_
      have := Sb.1
      have Snc : SameX [] Hn Hc := (Sa.trans Sb).thru Sc (by simp; omega)
      have t20 := Tb Sc (by simp; omega)
      rw [ev] at t20
      exact last (p18 := p18) (p20 := p20) (Sn.trans Snc) ds q10 q11 q12 q13 q14 q15 q16 q17 q18 q19 rfl rfl (Snc.get d18 (by simp)) (talAt_same t18 Snc (by simp)) cc t20
  refine ⟨[p13, p11], load_part (c := talCells x.1 cv' nv') c13 (by rw [cs_val]; omega) rfl (talAt_kc ta8) ⟨by simp [RdOk, ptr, ptrBlk], idc S08 ⟨by simp [RdOk, ptr, ptrBlk], ?_, ?_⟩⟩⟩
  · refine good42' hJ ta8 (by omega) fun Ha w cv1 nv1 Sa Ta => ext0 (ext1 ?_)
    refine qAl fun Hb p18 eb Sb cb lb => ⟨sb8 (Sa.trans Sb), ?_⟩
    have Tz := Ta (X := []) SameX.refl (by simp)
    have ev := Tz.val
    rw [ev] at Tz ⊢
    refine qStA (c := talCells (addO x.1 c) cv1 nv1) cb rfl rfl (tal_one Tz) fun Hc Sc cc lc => hold.2 ?_
    have Sac : SameX [] Ha Hc := Sb.thru Sc (by simp; omega)
    have t18 := Ta Sac (by simp)
    rw [ev] at t18
    exact mid (p18 := p18) (Sa.trans Sac) hds r10 r11 r12 rfl rfl rfl rfl rfl rfl rfl cc t18
  · refine qAl fun Ha p18 ea Sa ca la => ⟨sb8 Sa, ?_⟩
    refine good42' hJ (talAt_same ta8 Sa (by simp)) (by omega) fun Hb w cv1 nv1 Sb Tb => ext0 (ext1 ?_)
    have Tz := Tb (X := []) SameX.refl (by simp)
    have ev := Tz.val
    rw [ev] at Tz ⊢
    refine qStA (c := talCells (addO x.1 c) cv1 nv1) (Sb.get ca (by simp)) rfl rfl (tal_one Tz) fun Hc Sc cc lc => hold.2 ?_
    have := Sb.1
    have S8c : SameX [] H8 Hc := (Sa.trans Sb).thru Sc (by simp; omega)
    have t18 := Tb Sc (by simp; omega)
    rw [ev] at t18
    exact mid (p18 := p18) S8c hds r10 r11 r12 rfl rfl rfl rfl rfl rfl rfl cc t18

theorem walk13 (hJ : Closed prog main J) {tv ct nt nv : Value} {t : Tal} {c : Cnt} {ns : List Int} (ht : TalAt h tv t ct nt) (sn : Sli h nv 1 ns.length (ns.map vint)) (hln : ns.length < 4611686018427387904) (hK : ∀ h', K (.bool true) h') :
    W prog J 136 h.length 13 (codeOf f13) (RG.mk (regs [tv, c.val, nv]) []) h (RetQ prog [.tmp 6] h.length K) := by
  rw [e13, ht.val]
  have fin : ∀ {n0 : Nat} (H : List AObj), Good prog J 18 [] H fun v h' => retL n0 K [] [v] h' := fun H => good18 hJ (retL_same (by simp [unk]) (hK _))
  refine qBox (tal_one ht) fun Ha p5 ea Sa ca la => ?_
  show aBox (.agg ⟨c.cells⟩) Ha _
  refine qBox rfl fun Hb p6 eb Sb cb lb => ?_
  have Sab := Sa.trans Sb
  have cab := Sb.get ca (by simp)
  have tb : TalAt Hb (.agg ⟨talCells t ct nt⟩) t ct nt := ⟨rfl, Sab.sli ht.ch (by simp), Sab.sli ht.co (by simp)⟩
  refine load_part (c := talCells t ct nt) cab (by rw [cs_val]; omega) rfl (talAt_kc tb) ?_
  refine good43 hJ tb (cndI (fun _ => fin _) fun hsm => ?_)
  refine newX hJ (Sab.sli sn (by simp)) hln fun H0 a0 => talY hJ a0 (by omega) (by omega) (by omega) fun t2 cv co q1 q2 H1 T S1 a1 OT => ?_
  have ta := OT.at
  have fine := T.fine (by omega) (by omega)
  have hg := fine.gates
  have hchl := fine.chl
  have hcol := fine.few
  have hla0 := a0.lt
  have hS1 := S1.1
  refine qAl fun H2 p12 e2 S2 c2 l2 => qStA (c := talCells t2 cv co) c2 rfl rfl (tal_one ta) fun H3 S3 c3 l3 => ?_
  have S13 : SameX [] H1 H3 := (SameX.refl.trans S2).thru S3 (by simp; omega)
  have a3 := a1.same S13 (by simp)
  refine offI (ldI (v := vint t2.gates) c3 rfl rfl (subI (by omega) ?_))
  refine upX hJ a3 (by omega) (by omega) fun y1 H4 _ _ S4 l4 a4 => amX hJ a4 (by omega) (by omega) (by omega) fun y2 H5 _ _ S5 l5 a5 => upX hJ a5 (by omega) (by omega) fun y3 H6 _ _ S6 l6 a6 => upX hJ a6 (by omega) (by omega) fun y4 H7 _ _ S7 l7 a7 => ?_
  have S37 : SameX [Hb.length] H3 H7 := ((S4.trans S5).trans S6).trans S7
  refine fill_four (l := [vint y1]) rfl rfl rfl (by decide) (fill_four (l := [vint y2]) rfl rfl rfl (Nat.le_of_ble_eq_true rfl) (fill_four (l := [vint y3]) rfl rfl rfl (Nat.le_of_ble_eq_true rfl) (fill_four (l := [vint y4]) rfl rfl rfl (Nat.le_of_ble_eq_true rfl) (fillI ?_))))
  refine qAl fun H8 p29 e8 S8 c8 l8 => ?_
  show aStore 4 (ptr p29 0) (.agg ⟨(⟨y1, y2, y3, y4⟩ : Cnt).cells⟩) H8 _
  refine qStA (c := (⟨y1, y2, y3, y4⟩ : Cnt).cells) c8 rfl rfl rfl fun H9 S9 c9 l9 => ?_
  generalize (⟨y1, y2, y3, y4⟩ : Cnt) = x at *
  have S79 : SameX [] H7 H9 := S8.thru S9 (by simp; omega)
  have a9 := a7.same S79 (by simp)
  have SB9 : SameX [] Hb H9 := a9.pre
  have S39 : SameX [Hb.length] H3 H9 := S37.trans S79.weak0
  have hlt1 := hS1
  have d5 := SB9.get cab (by simp)
  have d6 := SB9.get cb (by simp)
  have d12 := S39.get c3 (by simp; omega)
  have tB9 := talAt_same tb SB9 (by simp)
  have hq1 := OT.b1
  have hq2 := OT.b2
  have OT3 := OT.same S13 (by simp) (by simp)
  have OT9 := OT3.same S39 (fun i hi => by have := OT3.b1 i hi; simp; omega) (fun i hi => by have := OT3.b2 i hi; simp; omega)
  have t29 := OT9.at
  have hsb : ∀ {H'}, SameX [] H9 H' → SameB (some [p5, p12, p6, p29]) H9 H' := fun S b hb => by
    have := lt_of_get d5
    have := lt_of_get d6
    have := lt_of_get d12
    have := lt_of_get c9
    exact S.2 b (by simp at hb; rcases hb with rfl | rfl | rfl | rfl <;> omega) (by simp)
  refine ⟨[p5, p12, p6, p29], ?_⟩
  refine load_part (c := talCells t ct nt) d5 (by rw [cs_val]; omega) rfl (talAt_kc tB9) ⟨by simp [RdOk, ptrBlk, ptr], ?_⟩
  refine load_part (c := talCells t2 cv co) d12 (by rw [cs_val]; omega) rfl (talAt_kc t29) ⟨by simp [RdOk, ptrBlk, ptr], ?_⟩
  refine load_part (c := talCells t2 cv co) d12 (by rw [cs_val]; omega) rfl (talAt_kc t29) ⟨by simp [RdOk, ptrBlk, ptr], ?_⟩
  refine load_part (c := c.cells) d6 (by simp [Cnt.cells]) rfl rfl ⟨by simp [RdOk, ptrBlk, ptr], ?_⟩
  refine load_part (c := x.cells) c9 (by simp [Cnt.cells]) rfl rfl ⟨by simp [RdOk, ptrBlk, ptr], ?_⟩
  refine load_part (c := c.cells) d6 (by simp [Cnt.cells]) rfl rfl ⟨by simp [RdOk, ptrBlk, ptr], ?_⟩
  have n1 : (tvC (t, ct, nt)).all one = true := tal_one tB9
  have n2 : (tvC (t2, cv, co)).all one = true := tal_one t29
  have hall : ∀ H, SameX [] H9 H → ∀ x ∈ [(t, ct, nt), (t2, cv, co), (t2, cv, co)], TalAt H (.agg ⟨tvC x⟩) x.1 x.2.1 x.2.2 ∧ x.1.changes.length < 900 ∧ x.1.counts.length < 900 := by
    intro H S x hx
    have tB : TalAt H (.agg ⟨tvC (t, ct, nt)⟩) t ct nt := talAt_same tB9 S (by simp)
    have t2B : TalAt H (.agg ⟨tvC (t2, cv, co)⟩) t2 cv co := talAt_same t29 S (by simp)
    have hd : t.changes.length < 900 ∧ t.counts.length < 900 := by omega
    simp only [List.mem_cons, List.not_mem_nil, or_false] at hx
    rcases hx with rfl | rfl | rfl
    · exact ⟨tB, hd.1, hd.2⟩
    · exact ⟨t2B, by show t2.changes.length < 900; omega, by show t2.counts.length < 900; omega⟩
    · exact ⟨t2B, by show t2.changes.length < 900; omega, by show t2.counts.length < 900; omega⟩
  refine ⟨⟨by decide, fill18 (x := (t, ct, nt)) (y := (t2, cv, co)) (z := (t2, cv, co)) n1 n2 n2 (qNew fun Hc pc ec Sc cc lc => ⟨hsb Sc, by decide, fill12 (x := c) (y := x) (z := c) (qNew fun Hd pd ed Sd cd ld => ⟨hsb (Sc.trans Sd), hold.2 ?_⟩)⟩)⟩,
    ⟨by decide, fill12 (x := c) (y := x) (z := c) (qNew fun Hc pc ec Sc cc lc => ⟨hsb Sc, by decide, fill18 (x := (t, ct, nt)) (y := (t2, cv, co)) (z := (t2, cv, co)) n1 n2 n2 (qNew fun Hd pd ed Sd cd ld => ⟨hsb (Sc.trans Sd), hold.2 ?_⟩)⟩)⟩⟩
  · rw [s13_1]
    exact loop13 hJ rfl rfl rfl rfl (xs := [(t, ct, nt), (t2, cv, co), (t2, cv, co)]) (cs := [c, x, c]) (Sd.get cc (by simp)) cd rfl rfl (hall _ (Sc.trans Sd)) fin
  · rw [s13_1]
    exact loop13 hJ rfl rfl rfl rfl (xs := [(t, ct, nt), (t2, cv, co), (t2, cv, co)]) (cs := [c, x, c]) cd (Sd.get cc (by simp)) rfl rfl (hall _ (Sc.trans Sd)) fin
end
end Go.Proofs.Ytdgpacdknpahnaa

namespace Go.Proofs.Ytdgpacdknpahnaa
open Go.Conc
open Go.ConcN (sumTo upd sumTo_upd upd_ne upd_same)
def Ends (P : Program) (Post : Value → World → Prop) (m : Machine) (t : Trace) : Prop :=
  ∃ N last o w' t', runNT P (N + 1) m t = (.ended o w', t') ∧ runN P N m = .next last ∧ step P last = .ended o w' ∧ Go.Conc.Good P Post last o w' t'

structure Base (W0 w : World) : Prop where
  tape : w.tape = W0.tape
  os : w.os = W0.os
  output : w.output = W0.output
  size : W0.heap.size ≤ w.heap.size

def J1 (P : Program) (W0 : World) (Post : Value → World → Prop) (g : Goroutine) (w : World) (ft : Foot) : Prop :=
  ∀ (gs : Array Goroutine) (w₁ : World) (sl : Option (Nat × Nat)) (t : Trace) (q : Nat → Nat), (∀ b, ft.rd b → b < w₁.heap.size) → (∀ b, ft.wr b → ft.rd b) → RelyW ft w w₁ → Base W0 w₁ → gs[0]? = some g → Leavers P t gs q → Past (fun _ => False) w₁.heap.size t →
    Ends P Post (crowd gs w₁ sl) t

section
variable {P : Program} {W0 : World} {Post : Value → World → Prop} {g : Goroutine} {w w₁ : World} {ft : Foot}
theorem Ends.next {m m' : Machine} {t : Trace} {ops : Array MemOp} (hs : stepT P m = (.next m', ops)) (h : Ends P Post m' (t ++ ops)) : Ends P Post m t := by
  obtain ⟨n, last, o, w, t', h1, h2, h3, h4⟩ := h
  exact ⟨n + 1, last, o, w, t', by rw [runNT_succ_next hs]; exact h1, by rw [runN_succ_next hs]; exact h2, h3, h4⟩

theorem evL_of {e : Event} {B : Nat} (he : EvOk ft e) (hb : ∀ b, ft.rd b → b < B) : EvL (fun _ => False) B e := by
  obtain ⟨loc, wr, sync⟩ := e
  unfold EvOk at he
  refine ⟨fun x _ hs => hs.elim, ?_, ?_, ?_⟩
  · intro hl
    simp only at hl
    subst hl
    exact he
  · intro hl
    simp only at hl
    subst hl
    exact he
  · cases loc with
    | cell a => exact hb _ he.2.1
    | obj r =>
      have hs : sync = false := he.1
      subst hs
      have := hb _ he.2.1
      cases wr <;> exact this
    | mark m =>
      cases m <;> first | exact he.elim | trivial
    | output => trivial
    | goroutines => trivial

theorem mem_g {i : Nat} {fn : FuncId} {pos : String} {es : Array Event} {op : MemOp} (h : op ∈ MemOp.ofEvents i fn pos es) : op.g = i := by
  rw [ofEvents_eq] at h
  obtain ⟨e, he, rfl⟩ := Array.mem_map.1 h
  rfl

theorem relyW_at (ft : Foot) (w : World) (d : Nat) : RelyW ft w (w.at d) := ⟨fun _ _ => rfl, Nat.le_refl _, rfl, rfl, rfl⟩

theorem J1.both (hrun : g.status = .running)
    (h : ∀ w₁, RelyW ft w w₁ → Base W0 w₁ → (∃ g' w' es, stepG P true g w₁ = .go g' w' es ∧ g'.status = .running ∧ GuarW ft w₁ w' es ∧ J1 P W0 Post g' w' (ft.ext w₁.heap.size w'.heap.size)) ∨
      ∃ v es, stepG P true g w₁ = .ended (.done v) w₁ es ∧ (∀ e ∈ es, EvOk ft e) ∧ Post v w₁) : J1 P W0 Post g w ft := by
  intro gs w₁ sl t q hbd hsub hrel hbase h0 hL hP
  generalize hM : sumTo gs.size q = M
  induction M using Nat.strongRecOn generalizing gs w₁ sl t q with
  | ind M ih =>
    have haw : ∀ g ∈ gs, awake g := by
      intro x hx
      obtain ⟨i, hi, rfl⟩ := Array.mem_iff_getElem.1 hx
      rcases Nat.eq_zero_or_pos i with rfl | hpos
      · have : gs[0] = g := by simpa [Array.getElem?_eq_getElem hi] using h0
        rw [this]; exact awake_of (.inl hrun)
      · exact awake_of ((hL.old i _ hpos (Array.getElem?_eq_getElem hi)).status.elim .inl fun x => .inr (.inr x))
    obtain ⟨i, x, d, sl', hi, hg, hst⟩ := crowd_pick (P := P) (w := w₁) (sl := sl) haw ⟨0, g, h0, hrun⟩
    rcases Nat.eq_zero_or_pos i with rfl | hpos
    · obtain rfl : x = g := by rw [h0] at hi; exact (Option.some.inj hi).symm
      rcases h (w₁.at d) (hrel.trans (relyW_at ft w₁ d)) ⟨hbase.tape, hbase.os, hbase.output, hbase.size⟩ with ⟨g', w', es, hgo, hrun', hgu, hJ⟩ | ⟨v, es, hend, hes, hpost⟩
      · have hrunT := runT_crowd_go (P := P) (sl := sl') (i := 0) hi (show stepG P (0 == 0) x (w₁.at d) = _ from hgo)
        have hsz : ((gs.map (woken P x g' w')).setIfInBounds 0 g').size = gs.size := by simp
        have hlt : 0 < gs.size := (Array.getElem?_eq_some_iff.1 h0).1
        have hw' : w₁.heap.size ≤ w'.heap.size := hgu.size
        refine Ends.next (hst.trans hrunT) ?_
        refine hJ _ w' sl' _ q (fun b hb => ?_) (fun b hb => ?_) (RelyW.refl _ _) ⟨hgu.tape.trans hbase.tape, hgu.os.trans hbase.os, hgu.output.trans hbase.output, Nat.le_trans hbase.size hgu.size⟩ (by simp [hlt]) ⟨fun j y hj hy => ?_, fun j hj => ?_⟩ ?_
        · rcases hb with hb | hb
          · exact Nat.lt_of_lt_of_le (hbd b hb) hw'
          · exact hb.2
        · rcases hb with hb | hb
          · exact .inl (hsub b hb)
          · exact .inr hb
        · have hne : 0 ≠ j := by omega
          rw [Array.getElem?_setIfInBounds_ne hne, Array.getElem?_map] at hy
          obtain ⟨z, hz, rfl⟩ := Option.map_eq_some_iff.1 hy
          have hq := hL.old j z hj hz
          rw [woken_quitsD hq, Deaf_other t (by omega) _ (fun op hop => mem_g hop)]
          exact hq
        · rw [Deaf_other t (g' := 0) (by simp at hj; omega) _ (fun op hop => mem_g hop)]
          exact hL.above j (by simpa using hj)
        · exact (hP.mono hw').own fun e he => evL_of (hgu.evs e he) fun b hb => Nat.lt_of_lt_of_le (hbd b hb) hw'
      · have hrunT := runT_many_ended (P := P) (sl := sl') (i := 0) hi (show stepG P (0 == 0) x (w₁.at d) = _ from hend)
        have hP' := hP.own (fn := x.frame.fn) (pos := x.frame.place) fun e he => evL_of (hes e he) hbd
        refine ⟨0, crowd gs w₁ sl, .done v, w₁.at d, _, by simp only [runNT, hst.trans hrunT], rfl, by simp [step, hst.trans hrunT], v, rfl, hpost, hP'.clean, hP'.over, ⟨fun y hy => ?_, rfl⟩, fun j y hy hj => ?_⟩
        · obtain ⟨j, hj⟩ := List.mem_iff_getElem?.1 hy
          rw [List.getElem?_drop] at hj
          exact ⟨_, (hL.old (1 + j) y (by omega) (by simpa [crowd] using hj)).leaves⟩
        · have hq := hL.old j y (by omega) hy
          refine ⟨q j, ?_⟩
          have e : (t ++ MemOp.ofEvents 0 x.frame.fn x.frame.place es).deaf j (t ++ MemOp.ofEvents 0 x.frame.fn x.frame.place es).size = Deaf t j :=
            Deaf_other t (g := j) (g' := 0) (by omega) _ (fun op hop => mem_g hop)
          rw [e]
          exact hq.hears _
    · have hq := hL.old i x hpos hi
      have hi0 : (i == 0) = false := by simp; omega
      have hlt : i < gs.size := (Array.getElem?_eq_some_iff.1 hi).1
      cases hqi : q i with
      | zero => rw [hqi] at hq; rw [hq.1] at hg; cases hg
      | succ k =>
        rw [hqi] at hq
        rcases hq with ⟨hf, _⟩ | ⟨_, g', es, hm, hstp, hq'⟩
        · rw [hf] at hg; cases hg
        have hrunT := runT_crowd_go (P := P) (sl := sl') (i := i) hi (by rw [hi0]; exact hstp (w₁.at d))
        have hsz : ((gs.map (woken P x g' (w₁.at d))).setIfInBounds i g').size = gs.size := by simp
        have hsum : sumTo gs.size (upd q i k) + (k + 1) = sumTo gs.size q + k := by
          have := sumTo_upd q k id hlt
          simpa [hqi] using this
        refine Ends.next (hst.trans hrunT) (ih (sumTo gs.size (upd q i k)) (by omega) _ (w₁.at d) sl' _ (upd q i k) hbd (hrel.trans (relyW_at ft w₁ d)) ⟨hbase.tape, hbase.os, hbase.output, hbase.size⟩ ?_ ⟨fun j y hj hy => ?_, fun j hj => ?_⟩ (hP.mute (by omega) hm) (by rw [hsz]))
        · have hne : i ≠ 0 := by omega
          rw [Array.getElem?_setIfInBounds_ne hne, Array.getElem?_map, h0]
          simp [woken_run hrun]
        · by_cases hji : i = j
          · subst hji
            rw [Array.getElem?_setIfInBounds_self_of_lt (by simpa using hlt)] at hy
            obtain rfl := Option.some.inj hy
            rw [upd_same, Deaf_own]
            exact hq'
          · rw [Array.getElem?_setIfInBounds_ne hji, Array.getElem?_map] at hy
            obtain ⟨z, hz, rfl⟩ := Option.map_eq_some_iff.1 hy
            have hqj := hL.old j z hj hz
            rw [woken_quitsD hqj, upd_ne q k (Ne.symm hji), Deaf_other t hji _ (fun op hop => mem_g hop)]
            exact hqj
        · rw [Deaf_other t (g' := i) (by simp at hj; omega) _ (fun op hop => mem_g hop)]
          exact hL.above j (by simpa using hj)

theorem J1.closed (P : Program) (W0 : World) (Post : Value → World → Prop) : Closed P true (J1 P W0 Post) where
  rely := fun h hr gs w₂ sl t q hbd hsub hrel hbase h0 hL hP => h gs w₂ sl t q hbd hsub (hr.trans hrel) hbase h0 hL hP
  step := fun hrun h => J1.both hrun fun w₁ h₁ _ => by
    obtain ⟨g', w', es, a, b, c, d⟩ := h w₁ h₁
    exact .inl ⟨g', w', es, a, b, c, d⟩
end
end Go.Proofs.Ytdgpacdknpahnaa

namespace Go.Proofs.Ytdgpacdknpahnaa
open Go.Conc
section
variable {P : Program} {W0 : World} {Post : Value → World → Prop} {ρ : Env} {h : List AObj} {FC : Frm} {w : World} {ft : Foot} {f : RG} {a : Act} {b : FB} {K : Value → List AObj → Prop} {n0 : Nat}
theorem leave_top {fn : Func} (hk : b.kind = .normal) (hf : P.funcs[b.fn]? = some fn) (hin : P.inits.idxOf? b.fn = none)
    (hc : ∀ v h' ρ' w' ft' cv, K v h' → HRel ρ' h' FC w' ft' → Env.upto n0 ρ ρ' → n0 ≤ h'.length → VRel h'.length ρ' v cv → Base W0 w' → Post cv w') :
    ∀ (ds : List Nat) (h : List AObj) (w : World) (ft : Foot) (a : Act) (fr : Frame), fr.fn = b.fn → fr.kind = .normal → fr.mode = .returning → fr.tmps = a.tmps → fr.defers = ds.map (fun d => { target := .collected (ρ.blk d), args := #[] }) → RegRel h.length ρ f.r a.tmps → HRel ρ h FC w ft → n0 ≤ h.length →
      takeW ds h (fun h => resW P fn.results.toList f.r h fun vs => K (pack vs) h ∨ ∃ σ h' v, GC n0 σ h h' ∧ pack vs = sub σ v ∧ VOk h'.length v ∧ K v h') → J1 P W0 Post (G fr []) w ft
  | [], h, w, ft, a, fr, e1, e2, e3, e4, e5, hr, H, hn, hq => by
    obtain ⟨fn', tmps, todo, defers, mode, kind, ro⟩ := fr
    simp only at e1 e2 e3 e4 e5
    subst e1 e2 e3 e4 e5
    refine J1.both rfl fun w₁ h₁ hbase => .inr ?_
    have H₁ := H.rely h₁
    have hrun : RunsTo P (EvOk ft) (results fn a.tmps) w₁ fun cv w' => w' = w₁ ∧ ∃ vs, cv = ren ρ (pack vs) ∧ (∀ v ∈ vs, VOk h.length v) ∧ (K (pack vs) h ∨ ∃ σ h' v, GC n0 σ h h' ∧ pack vs = sub σ v ∧ VOk h'.length v ∧ K v h') := by
      unfold results
      have : (fn.results.mapM (resF a.tmps)) = List.toArray <$> fn.results.toList.mapM (resF a.tmps) := by
        rw [Array.mapM_eq_mapM_toList]
      show RunsTo P (EvOk ft) (do
        let vs ← fn.results.mapM (resF a.tmps)
        pure (if h : vs.size = 1 then vs[0] else .tuple vs)) w₁ _
      rw [this]
      refine RunsTo.bind (RunsTo.map (res_run (n := 0) H₁ hr fn.results.toList hq fun vs hvs hok => RunsTo.pure ⟨rfl, vs, ?_, hok, hvs⟩))
      exact pack_ren vs
    obtain ⟨cv, w', es, hr', he, rfl, vs, rfl, hvok, hvs⟩ := hrun #[] (by simp)
    have hes : ∀ e ∈ seen P b.fn es, EvOk ft e := fun e hm => he e (mem_seen hm)
    refine ⟨ren ρ (pack vs), seen P b.fn es, ?_, hes, ?_⟩
    · simp only [G, stepG, unwind, List.map_nil, hf, hr']
      simp [doReturn, GStep.after, hin]
    · rcases hvs with hK | ⟨σ, h', v, g, hp, hok, hK⟩
      · exact hc _ h _ w' ft _ hK H₁ (Env.upto_refl _ _) hn (.inr ⟨pack_ok hvok, rfl⟩) hbase
      · rw [hp, ren_sub]
        exact hc v h' _ w' ft _ hK (g.rel H₁) g.upto g.le (.inr ⟨hok, rfl⟩) hbase
  | d :: ds, h, w, ft, a, fr, e1, e2, e3, e4, e5, hr, H, hn, hq => by
    obtain ⟨fn', tmps, todo, defers, mode, kind, ro⟩ := fr
    simp only at e1 e2 e3 e4 e5
    subst e1 e2 e3 e4 e5
    obtain ⟨hd, hq⟩ := hq
    refine (J1.closed P W0 Post).step rfl fun w₁ h₁ => ?_
    have H₁ := H.rely h₁
    obtain ⟨cv, w', es, hr', he, rfl, H', hst, hsz⟩ := take_run (P := P) H₁ hd (Q := fun l w' => l = [] ∧ HRel ρ (h.set d .dead) FC w' ft ∧ Stays ft w₁ w' ∧ w'.heap.size = w₁.heap.size) (fun w' a1 a2 a3 => ⟨rfl, a1, a2, a3⟩) #[] (by simp)
    have hes : ∀ e ∈ seen P b.fn es, EvOk ft e := fun e hm => he e (mem_seen hm)
    refine ⟨G { fn := b.fn, tmps := a.tmps, todo := todo, defers := ds.map (fun d => { target := .collected (ρ.blk d), args := #[] }), mode := .returning, kind := .normal, roundOf := ro } [], w', seen P b.fn es, ?_, rfl, hst.guar hes, ?_⟩
    · simp only [G, stepG, unwind, List.map_cons, hr']
      simp [GStep.after]
    · rw [hsz, Foot.ext_self]
      exact leave_top hk hf hin hc ds _ w' ft a _ rfl rfl rfl rfl rfl (by rw [List.length_set]; exact hr) H' (by rw [List.length_set]; exact hn) hq

theorem top_of_W (hm : P.follows .mixedOrders = true) {g : FuncId} {fn : Func} (hf : P.funcs[g]? = some fn) {c : Code} (hb : fn.body = some c) (hin : P.inits.idxOf? g = none) {args : List Value} {cargs : Array Value} (ha : args.length ≤ fn.ntmps) (hl : cargs.size = args.length)
    (hr : ∀ i : Nat, VRel h.length ρ (args.getD i unk) (cargs.toList.getD i undef)) (H : HRel ρ h FC w ft)
    (hs : W P (J1 P W0 Post) fn.ntmps h.length g c ⟨regs args, []⟩ h (RetQ P fn.results.toList h.length K))
    (hc : ∀ v h' ρ' w' ft' cv, K v h' → HRel ρ' h' FC w' ft' → Env.upto h.length ρ ρ' → h.length ≤ h'.length → VRel h'.length ρ' v cv → Base W0 w' → Post cv w') : J1 P W0 Post (G (Frame.enter P g cargs .normal) []) w ft := by
  have hJ := J1.closed P W0 Post
  obtain ⟨cargs⟩ := cargs
  simp only at hl hr
  have he : Frame.enter P g ⟨cargs⟩ .normal = FB.at ⟨g, .normal, none⟩ ⟨⟨cargs⟩ ++ Array.replicate (fn.ntmps - cargs.length) undef, []⟩ [.code c] := by
    simp [Frame.enter, FB.at, hf, hb]
  rw [he]
  have A : ActRel h.length ρ fn.ntmps ⟨regs args, []⟩ ⟨⟨cargs⟩ ++ Array.replicate (fn.ntmps - cargs.length) undef, []⟩ := by
    refine ⟨fun t => ?_, by simp at hl ⊢; omega, rfl, by simp⟩
    have := hr t
    have ht : ((⟨cargs⟩ : Array Value) ++ Array.replicate (fn.ntmps - cargs.length) undef).getD t undef = cargs.getD t undef := by
      rw [Array.getD_eq_getD_getElem?, List.getD_eq_getElem?_getD]
      by_cases hx : t < cargs.length
      · rw [Array.getElem?_append_left (by simpa using hx)]
        simp
      · rw [Array.getElem?_append_right (by simp; omega), List.getElem?_eq_none (by omega)]
        simp only [Array.getElem?_replicate]
        split <;> rfl
    rw [ht]
    exact this
  have last : ∀ f' h' ρ' w' ft' a' todo, RetQ P fn.results.toList h.length K .ret f' h' → ActRel h'.length ρ' fn.ntmps f' a' → HRel ρ' h' FC w' ft' → Env.upto h.length ρ ρ' → h.length ≤ h'.length →
      J1 P W0 Post (G { (FB.at ⟨g, .normal, none⟩ a' todo) with mode := .returning } []) w' ft' := by
    intro f' h' ρ' w' ft' a' todo q A' H' hu hl
    exact leave_top (b := ⟨g, .normal, none⟩) (f := f') (n0 := h.length) (ρ := ρ') rfl hf hin (fun v h2 ρ2 w2 ft2 cv k H2 u2 l2 v2 => hc v h2 ρ2 w2 ft2 cv k H2 (Env.upto_trans hu u2) l2 v2) f'.ds h' w' ft' a' _ rfl rfl rfl rfl A'.defers A'.regs H' hl q
  refine W_sound hJ hm c hs ⟨g, .normal, none⟩ _ [] [] (fun jump a w ft => jump = some .ret ∧ ∀ todo, J1 P W0 Post (G { (FB.at ⟨g, .normal, none⟩ a todo) with mode := .returning } []) w ft) ρ FC w ft rfl (by simp) ?_ A H (Nat.le_refl _) ?_
  · rintro jump a w ft todo ⟨rfl, hj⟩ hh
    rcases hh with ⟨_, k, rfl⟩ | ⟨id, k, e, _⟩ | ⟨e, _⟩
    · exact hJ.ctrl rfl rfl (fun w => by simp [G, stepG, stepG.exec, FB.at]) (hj (.code .ret :: k))
    · cases e
    · cases e
  · intro e f' h' ρ' w' ft' a' q A' H' hu hl
    cases e with
    | normal => exact hJ.ctrl rfl rfl (fun w => by simp [G, stepG, stepG.exec, FB.at]) (last f' h' ρ' w' ft' a' [] q A' H' hu hl)
    | ret => exact ⟨rfl, fun todo => last f' h' ρ' w' ft' a' todo q A' H' hu hl⟩
    | exit id => exact q.elim
    | goto l => exact q.elim
    | panic l => exact q.elim
    | outgrown => exact q.elim

theorem run_of_J1 {g : Goroutine} {w : World} {ft : Foot} (h : J1 P W0 Post g w ft) (hb : ∀ b, ft.rd b → b < w.heap.size) (hs : ∀ b, ft.wr b → ft.rd b) (hw : W0 = w) : Ends P Post (solo g w) #[] := by
  rw [solo_eq_crowd]
  exact h #[g] w none #[] (fun _ => 0) hb hs (RelyW.refl _ _) (by subst hw; exact ⟨rfl, rfl, rfl, Nat.le_refl _⟩) rfl (leavers_one P g) (past_nil.mono (Nat.zero_le _))
end
end Go.Proofs.Ytdgpacdknpahnaa

namespace Go.Proofs.Ytdgpacdknpahnaa
open Go.Conc Go.RowKit
def idEnv : Env := ⟨fun b => b, fun _ => 0⟩
def startFt (w : World) : Foot := ⟨fun b => b < w.heap.size, fun _ => False⟩
def startFC (w : World) : Frm := ⟨fun b => w.heap[b]?, fun _ => False⟩

def Fine (n : Nat) (v : Value) : Prop := VOk n v ∧ one v = true ∧ ren idEnv v = v

open Classical in
noncomputable def clean (n : Nat) (v : Value) : Value := if Fine n v then v else unk

noncomputable def absO (n : Nat) : Obj → AObj
  | .cells c _ _ => .cells (c.toList.map (clean n)) false 0
  | _ => .dead

noncomputable def absH (w : World) : List AObj := w.heap.toList.map (absO w.heap.size)

section
variable {w w' : World} {n : Nat}
theorem clean_fine {v : Value} (h : Fine n v) : clean n v = v := by simp [clean, h]
theorem absH_len : (absH w).length = w.heap.size := by simp [absH]
theorem absH_get {b : Nat} : (absH w)[b]? = (w.heap[b]?).map (absO w.heap.size) := by simp [absH]

theorem absO_wrt (x : Obj) : (absO n x).wrt = false := by cases x <;> rfl

theorem start_rel (w : World) : HRel idEnv (absH w) (startFC w) w (startFt w) where
  obj := fun b o hb => by
    rw [absH_get] at hb
    obtain ⟨x, hx, rfl⟩ := Option.map_eq_some_iff.1 hb
    show ORel (absH w).length idEnv b (absO w.heap.size x) w.heap[b]?
    rw [absH_len, hx]
    cases x with
    | cells c ty fr =>
      refine ⟨fun i v hv => ?_, fun _ => by simp, fun hz => absurd rfl hz, fun e => by cases e⟩
      rw [List.getElem?_map] at hv
      obtain ⟨u, hu, rfl⟩ := Option.map_eq_some_iff.1 hv
      by_cases hf : Fine w.heap.size u
      · rw [clean_fine hf]
        exact .inr ⟨hf.1, hf.2.1, by rw [hf.2.2]; simpa using hu⟩
      · exact .inl ⟨by simp [clean, hf], rfl⟩
    | _ => trivial
  inj := fun b b' o o' _ _ _ _ e => e
  rd := fun b o hb _ => by
    have : b < (absH w).length := (List.getElem?_eq_some_iff.1 hb).1
    rw [absH_len] at this
    exact this
  wr := fun b o hb hw => by
    rw [absH_get] at hb
    obtain ⟨x, hx, rfl⟩ := Option.map_eq_some_iff.1 hb
    rw [absO_wrt] at hw
    cases hw
  lt := fun b hb => hb
  sub := fun b hb => hb.elim
  kept := fun b o hb => by
    refine ⟨hb, ?_, fun a oa ha hw => ?_⟩
    · exact (Array.getElem?_eq_some_iff.1 hb).1
    · rw [absH_get] at ha
      obtain ⟨x, hx, rfl⟩ := Option.map_eq_some_iff.1 ha
      rw [absO_wrt] at hw
      cases hw
  keptW := fun b hb => hb.elim

theorem absH_cell {b o : Nat} {v : Value} (hc : w.cell? ⟨b, o, none⟩ = some v) (hf : Fine w.heap.size v) : ∃ c, (absH w)[b]? = some (.cells c false 0) ∧ c[o]? = some v := by
  unfold World.cell? at hc
  simp only at hc
  split at hc
  · rename_i c ty fr hx
    refine ⟨c.toList.map (clean w.heap.size), by rw [absH_get, hx]; rfl, ?_⟩
    have hc' : c[o]? = some v := by simpa using hc
    rw [List.getElem?_map, Array.getElem?_toList, hc']
    simp [clean_fine hf]
  · cases hc

theorem below_of {ρ' : Env} {h' : List AObj} {ft' : Foot} (H : HRel ρ' h' (startFC w) w' ft') (B : Base w w') : Below w.heap.size w w' :=
  ⟨B.os, B.tape, B.output, B.size, fun k hk => by
    have : (startFC w).ob k = some w.heap[k] := by simp [startFC, hk]
    rw [(H.kept k _ this).1, Array.getElem?_eq_getElem hk]⟩
end
end Go.Proofs.Ytdgpacdknpahnaa

namespace Go.Proofs.Ytdgpacdknpahnaa
open Go.Conc Go.ChangeShapes Go.WideShapes Go.ChangeAt Go.RowKit Go.Proofs.Try
set_option maxRecDepth 100000
theorem own : ownKnob prog.godebug = none := by kernel_rfl
theorem laidOut : laidOutB prog = true := by kernel_rfl

def ArgOk (W : World) (v : Value) : Prop := VOk W.heap.size v ∧ ren idEnv v = v

theorem law_run1 {g : FuncId} {fn : Func} {c : Code} (hf : prog.funcs[g]? = some fn) (hb : fn.body = some c) (hin : prog.inits.idxOf? g = none) (W₀ : World) (args : List Value) (ha : args.length ≤ fn.ntmps) (hok : ∀ v ∈ args, ArgOk W₀ v)
    (walk : ∀ Post, W prog (J1 prog W₀ Post) fn.ntmps (absH W₀).length g c ⟨regs args, []⟩ (absH W₀) (RetQ prog fn.results.toList (absH W₀).length fun v _ => v = .bool true)) :
    Ends prog (fun v w' => v = .bool true ∧ Below W₀.heap.size W₀ w') (solo (G (Frame.enter prog g ⟨args⟩ .normal) []) W₀) #[] := by
  refine run_of_J1 (W0 := W₀) (ft := startFt W₀) (top_of_W mixed hf hb hin ha rfl (fun i => ?_) (start_rel W₀) (walk _) ?_) (fun b hb => hb) (fun b hb => hb.elim) rfl
  · show VRel (absH W₀).length idEnv (args.getD i unk) (args.getD i undef)
    simp only [List.getD_eq_getElem?_getD]
    cases hi : args[i]? with
    | none => exact .inl rfl
    | some v =>
      obtain ⟨h1, h2⟩ := hok v (List.mem_of_getElem? hi)
      exact .inr ⟨by rw [absH_len]; exact h1, h2.symm⟩
  · intro v h' ρ' w' ft' cv hv H' _ _ hcv hB
    subst hv
    refine ⟨?_, below_of H' hB⟩
    rcases hcv with e | ⟨_, e⟩
    · cases e
    · rw [e]
      rfl

theorem law_run {g : FuncId} {fn : Func} {c : Code} (hf : prog.funcs[g]? = some fn) (hb : fn.body = some c) (hin : prog.inits.idxOf? g = none) (W₀ : World) (args : List Value) (ha : args.length ≤ fn.ntmps) (hok : ∀ v ∈ args, ArgOk W₀ v)
    (walk : ∀ J : JT, Closed prog true J → W prog J fn.ntmps (absH W₀).length g c ⟨regs args, []⟩ (absH W₀) (RetQ prog fn.results.toList (absH W₀).length fun v _ => v = .bool true)) :
    Ends prog (fun v w' => v = .bool true ∧ Below W₀.heap.size W₀ w') (solo (G (Frame.enter prog g ⟨args⟩ .normal) []) W₀) #[] :=
  law_run1 hf hb hin W₀ args ha hok fun _ => walk _ (J1.closed prog W₀ _)

theorem argOk_int {W : World} {k : IntKind} {n : Int} : ArgOk W (.int k n) := ⟨by simp [VOk], by simp [ren]⟩

section
variable {H : Type} {enc : TypeId × Value → H}
theorem arg_ints {t e : TypeId} (ht : prog.underlying t = some (.slice e)) (he : prog.underlying e = some (.int .i64)) (hc : prog.cellsOf e = 1) {W : World} {base : Nat} {v : Value} {d : DataW H} {ps : List MemPlace}
    (hval : Value.okWide prog W .any base t v) (hd : DataW.Trod enc prog W 0 (fun _ => true) true t v d ps) :
    ∃ zs : List Int, Sli (absH W) v 1 zs.length (zs.map vint) ∧ ArgOk W v ∧ (zs = [] ∨ ∃ es sp, d = .slice es sp ∧ zs.length ≤ es.length + sp.length) := by
  obtain ⟨a0, len, cap, rfl⟩ := okWide_slice ht hval
  obtain ⟨fuel, hf⟩ := hd
  rcases open_ints ht he hc hf with ⟨hcs, hx⟩ | ⟨a, len', cap', zs, hcs, _, hl, hm, hz, hx, hcell, hwz⟩
  · simp [Value.cells] at hcs
    obtain ⟨rfl, rfl, rfl⟩ := hcs
    exact ⟨[], sli_nil, ⟨by simp [VOk], by simp [ren]⟩, .inl rfl⟩
  · simp [Value.cells] at hcs
    obtain ⟨rfl, rfl, rfl⟩ := hcs
    simp only [Prod.mk.injEq] at hx
    obtain ⟨rfl, rfl⟩ := hx
    simp only [if_true] at hz
    simp only [Value.okWide, ht, Cell.okWide, Cell.ok, World.has] at hval
    obtain ⟨_, _, _, hspot, row, cells, hshape, _⟩ := hval
    obtain ⟨b, o, spot⟩ := a
    simp only at hspot hshape
    subst hspot
    have hb : b < W.heap.size := by
      unfold World.shape? at hshape
      split at hshape
      · rename_i h
        exact (Array.getElem?_eq_some_iff.1 h).1
      · cases hshape
    have hlen : (zs.take len).length = len := by simp; omega
    have hcell' : ∀ i, i < zs.length → W.cell? ⟨b, o + i, none⟩ = some (vint (zs.getD i 0)) := by
      intro i hi
      have := hcell i hi
      unfold Addr.add at this
      by_cases h0 : i = 0
      · subst h0; simpa using this
      · simpa [h0] using this
    have hmax : cap < fz := by
      simp only [maxLen] at hm
      unfold fz
      omega
    refine ⟨zs.take len, ?_, ⟨by simp only [VOk, AddrOk]; exact ⟨hb, trivial⟩, ?_⟩, .inr ⟨_, _, rfl, ?_⟩⟩
    · refine ⟨some ⟨b, o, none⟩, cap, by rw [hlen], ⟨by simp, kn_ints _⟩, .inr ⟨b, o, rfl, ?_⟩⟩
      rw [hlen]
      by_cases h0 : len = 0
      · exact .inl h0
      · right
        have fine : ∀ n : Int, Fine W.heap.size (vint n) := fun n => ⟨by simp [VOk], rfl, by simp [ren]⟩
        obtain ⟨c, hc1, hc2⟩ := absH_cell (hcell' 0 (by omega)) (fine _)
        refine ⟨c, false, 0, hc1, ?_⟩
        apply List.ext_getElem?
        intro i
        rw [Nat.mul_one]
        by_cases hi : i < len
        · obtain ⟨c', hc1', hc2'⟩ := absH_cell (hcell' i (by omega)) (fine _)
          rw [hc1] at hc1'
          cases hc1'
          rw [List.getElem?_take, if_pos hi, List.getElem?_drop, hc2']
          have hzi : i < zs.length := by omega
          simp [hi, hzi]
        · rw [List.getElem?_take, if_neg hi, List.getElem?_eq_none (by simp; omega)]
    · have hnf : ¬ fz ≤ cap := by omega
      simp [ren, renAddr, renCap, idEnv, hnf]
    · simp only [lits, List.length_map, List.length_take, List.length_drop]
      omega
end
end Go.Proofs.Ytdgpacdknpahnaa

namespace Go.Proofs.Ytdgpacdknpahnaa
open Go.Conc Go.ChangeShapes Go.WideShapes Go.ChangeAt Go.RowKit Go.Proofs.Try
set_option maxRecDepth 100000
theorem flat_get {α : Type} {enc : α → List Value} {s : Nat} (hen : ∀ x, (enc x).length = s) (xs : List α) {i j : Nat} (hi : i < xs.length) (hj : j < s) : (xs.flatMap enc)[i * s + j]? = (enc xs[i])[j]? := by
  have := flat_take hen xs i hi
  rw [← this, List.getElem?_take, if_pos hj, List.getElem?_drop]
theorem flat_len {α : Type} {enc : α → List Value} {s : Nat} (hen : ∀ x, (enc x).length = s) : ∀ xs : List α, (xs.flatMap enc).length = xs.length * s
  | [] => by simp
  | x :: xs => by rw [List.flatMap_cons, List.length_append, flat_len hen xs, hen, List.length_cons, Nat.succ_mul]; omega
theorem flat_kn {α : Type} {enc : α → List Value} (hk : ∀ x, kn (enc x) = true) : ∀ xs : List α, kn (xs.flatMap enc) = true
  | [] => rfl
  | x :: xs => by
    have h1 := hk x
    have h2 := flat_kn hk xs
    unfold kn at *
    rw [List.flatMap_cons, List.all_append, h1, h2]
    rfl

theorem trodAll_cons {H : Type} {enc : TypeId × Value → H} {P : Program} {w : World} {base : Nat} {spare : Nat → Bool} {held : Bool} {t : TypeId} {ts : List TypeId} {vs : List Value} {ds : List (DataW H)} {ps : List MemPlace}
    (h : DataW.TrodAll enc P w base spare held (t :: ts) vs ds ps) : ∃ v vs' d ds' p q, vs = v :: vs' ∧ ds = d :: ds' ∧ ps = p ++ q ∧ DataW.Trod enc P w base spare held t v d p ∧ DataW.TrodAll enc P w base spare held ts vs' ds' q := by
  match vs, ds, h with
  | v :: vs, d :: ds, ⟨p, q, h1, h2, h3⟩ => exact ⟨v, vs, d, ds, p, q, rfl, rfl, h3, h1, h2⟩
theorem trodAll_nil {H : Type} {enc : TypeId × Value → H} {P : Program} {w : World} {base : Nat} {spare : Nat → Bool} {held : Bool} {vs : List Value} {ds : List (DataW H)} {ps : List MemPlace}
    (h : DataW.TrodAll enc P w base spare held [] vs ds ps) : vs = [] ∧ ds = [] ∧ ps = [] := by
  match vs, ds, h with
  | [], [], h => exact ⟨rfl, rfl, h⟩
theorem trodAll_mkc {H : Type} {enc : TypeId × Value → H} {P : Program} {w : World} {base : Nat} {spare : Nat → Bool} {held : Bool} {t : TypeId} {ts : List TypeId} {v : Value} {vs : List Value} {d : DataW H} {ds : List (DataW H)} {p q : List MemPlace}
    (h1 : DataW.Trod enc P w base spare held t v d p) (h2 : DataW.TrodAll enc P w base spare held ts vs ds q) : DataW.TrodAll enc P w base spare held (t :: ts) (v :: vs) (d :: ds) (p ++ q) := ⟨p, q, h1, h2, rfl⟩

section
variable {H : Type} {enc : TypeId × Value → H}
theorem arg_sliE {α : Type} [Inhabited α] {encE : α → List Value} {t e : TypeId} {s : Nat} (ht : prog.underlying t = some (.slice e)) (hc : prog.cellsOf e = s) (hs : 0 < s) {W : World} {base n : Nat} {v : Value} {x : DataW H × List MemPlace}
    (hlen : ∀ x, (encE x).length = s) (hkn : ∀ x, kn (encE x) = true) (hfine : ∀ x, ∀ y ∈ encE x, ∀ m, Fine m y)
    (dec : ∀ n cs r, DataW.trod enc prog W 0 (fun _ => true) true n e cs = some r → ∃ x, cs = encE x)
    (hval : Cell.okWide prog W .any base t v) (hf : DataW.trod enc prog W 0 (fun _ => true) true n t v.cells.toList = some x) :
    ∃ xs : List α, SliE (absH W) v s encE xs ∧ ArgOk W v := by
  have hval' : Value.okWide prog W .any base t v := by
    unfold Value.okWide
    rw [ht]
    exact hval
  obtain ⟨a0, len0, cap0, rfl⟩ := okWide_slice ht hval'
  clear hval'
  rcases Deep.open_slice ht hf with ⟨hcs, hx⟩ | ⟨a, len, cap, m, n', D, Pl, hcs, _, hl, hm, hmm, hx, hel⟩
  · simp [Value.cells] at hcs
    obtain ⟨rfl, rfl, rfl⟩ := hcs
    exact ⟨[], ⟨none, 0, rfl, ⟨by simp, rfl⟩, .inl ⟨rfl, rfl⟩⟩, ⟨by simp [VOk], by simp [ren]⟩⟩
  · simp [Value.cells] at hcs
    obtain ⟨rfl, rfl, rfl⟩ := hcs
    simp only [if_true] at hmm
    subst hmm
    simp only [ht, Cell.okWide, Cell.ok, World.has] at hval
    obtain ⟨_, _, _, hspot, row, cells, hshape, _⟩ := hval
    obtain ⟨b, o, spot⟩ := a
    simp only at hspot hshape
    subst hspot
    have hb : b < W.heap.size := by
      unfold World.shape? at hshape
      split at hshape
      · rename_i h
        exact (Array.getElem?_eq_some_iff.1 h).1
      · cases hshape
    have hmax : m < fz := by
      simp only [maxLen] at hm
      unfold fz
      omega
    obtain ⟨f, hfx⟩ := Deep.choose_lt (α := α) (p := fun i x => W.cells? 0 ((⟨b, o, none⟩ : Addr).add (i * prog.cellsOf e)) (prog.cellsOf e) = some (encE x)) (fun i (hi : i < m) => by
      obtain ⟨cs', h1, h2⟩ := hel i hi
      obtain ⟨x, rfl⟩ := dec _ _ _ h2
      exact ⟨x, h1⟩)
    rw [hc] at hfx
    have hcell : ∀ i j, i < m → j < s → W.cell? ⟨b, o + (i * s + j), none⟩ = (encE (f i))[j]? := fun i j hi hj => by
      have := (World.cells?_some (hfx i hi)).2.2 j hj
      rw [Deep.add_add] at this
      revert this
      generalize i * s + j = k
      intro this
      unfold Addr.add at this
      by_cases h0 : k = 0
      · subst h0
        simpa using this
      · simpa [h0] using this
    have hxl : ((List.range len0).map f).length = len0 := by simp
    refine ⟨(List.range len0).map f, ?_, ⟨by simp only [VOk, AddrOk]; exact ⟨hb, trivial⟩, ?_⟩⟩
    · refine ⟨some ⟨b, o, none⟩, m, by rw [hxl], ⟨flat_len hlen _, flat_kn hkn _⟩, .inr ⟨b, o, rfl, ?_⟩⟩
      rw [hxl]
      by_cases h0 : len0 = 0
      · exact .inl h0
      · right
        have key : ∀ i j, i < len0 → j < s → ∃ c, (absH W)[b]? = some (.cells c false 0) ∧ c[o + (i * s + j)]? = (encE (f i))[j]? := fun i j hi hj => by
          have h1 := hcell i j (by omega) hj
          have h2 : j < (encE (f i)).length := by rw [hlen]; exact hj
          rw [List.getElem?_eq_getElem h2] at h1 ⊢
          exact absH_cell h1 (hfine _ _ (List.getElem_mem h2) _)
        obtain ⟨c, hc1, _⟩ := key 0 0 (by omega) hs
        refine ⟨c, false, 0, hc1, ?_⟩
        apply List.ext_getElem?
        intro k
        by_cases hk : k < len0 * s
        · have hq : k / s < len0 := Nat.div_lt_of_lt_mul (by rw [Nat.mul_comm]; exact hk)
          have hr : k % s < s := Nat.mod_lt _ hs
          have hkk : k / s * s + k % s = k := by rw [Nat.mul_comm]; exact Nat.div_add_mod k s
          obtain ⟨c', hc1', hc2'⟩ := key _ _ hq hr
          rw [hc1] at hc1'
          cases hc1'
          rw [List.getElem?_take, if_pos hk, List.getElem?_drop]
          rw [hkk] at hc2'
          rw [hc2']
          have := flat_get hlen ((List.range len0).map f) (i := k / s) (j := k % s) (by rw [hxl]; exact hq) hr
          rw [hkk] at this
          rw [this]
          simp
        · rw [List.getElem?_take, if_neg hk, List.getElem?_eq_none (by rw [flat_len hlen, hxl]; omega)]
    · have hnf : ¬ fz ≤ m := by omega
      simp [ren, renAddr, renCap, idEnv, hnf]

theorem fine_int {m : Nat} {n : Int} : Fine m (vint n) := ⟨by simp [VOk], rfl, by simp [ren]⟩

theorem trod_vint {W : World} {n : Nat} {cs : List Value} {r : DataW H × List MemPlace} {t : TypeId} (u : prog.underlying t = some (.int .i64)) (h : DataW.trod enc prog W 0 (fun _ => true) true n t cs = some r) : ∃ z, cs = [vint z] := by
  obtain ⟨z, h1, _⟩ := DataW.trod_int u h
  exact ⟨z, h1⟩
end
instance : Inhabited Rng := ⟨⟨0, 0⟩⟩
instance : Inhabited Cnt := ⟨⟨0, 0, 0, 0⟩⟩

section
variable {H : Type} {enc : TypeId × Value → H} {W : World} {n base : Nat} {cs : List Value} {r : DataW H × List MemPlace}
def structOf : Option TypeDesc → Option (List (TypeId × Nat))
  | some (.struct fs) => some (fs.toList.map fun f => (f.type, f.offset))
  | _ => none

theorem trod_fields {t : TypeId} {l : List (TypeId × Nat)} (hs : structOf (prog.underlying t) = some l) (h : DataW.trod enc prog W 0 (fun _ => true) true n t cs = some r) :
    cs.length = prog.cellsOf t ∧ ∃ n' : Nat, ∀ (i : Nat) (ty : TypeId) (off : Nat), l[i]? = some (ty, off) → ∃ r', DataW.trod enc prog W 0 (fun _ => true) true n' ty ((cs.drop off).take (prog.cellsOf ty)) = some r' := by
  unfold structOf at hs
  split at hs
  · rename_i fs hu
    cases hs
    obtain ⟨xs, n', _, rfl, hl, hxl, hf⟩ := DataW.trod_struct hu h
    refine ⟨hl, n', fun i ty off hi => ?_⟩
    rw [List.getElem?_map, Option.map_eq_some_iff] at hi
    obtain ⟨f, hfi, he⟩ := hi
    cases he
    have hfi' : fs[i]? = some f := by simpa using hfi
    have hil : i < xs.length := by rw [hxl]; exact (Array.getElem?_eq_some_iff.1 hfi').1
    exact ⟨xs[i], by rw [hf i f hfi', List.getElem?_eq_getElem hil]⟩
  · cases hs

theorem dec_rng (h : DataW.trod enc prog W 0 (fun _ => true) true n 38 cs = some r) : ∃ x : Rng, cs = x.cells := by
  have u3 : prog.underlying 3 = some (.int .i64) := by kernel_rfl
  have c3 : prog.cellsOf 3 = 1 := by kernel_rfl
  have c38 : prog.cellsOf 38 = 2 := by kernel_rfl
  obtain ⟨hl, n', hf⟩ := trod_fields (l := [(3, 0), (3, 1)]) (by kernel_rfl) h
  rw [c38] at hl
  obtain ⟨a, b, rfl⟩ : ∃ a b, cs = [a, b] := by
    match cs, hl with
    | [a, b], _ => exact ⟨a, b, rfl⟩
  obtain ⟨_, g0⟩ := hf 0 3 0 rfl
  obtain ⟨_, g1⟩ := hf 1 3 1 rfl
  rw [c3] at g0 g1
  obtain ⟨z0, w0⟩ := trod_vint u3 g0
  obtain ⟨z1, w1⟩ := trod_vint u3 g1
  simp at w0 w1
  exact ⟨⟨z0, z1⟩, by rw [w0, w1]; rfl⟩
theorem dec_cnt (h : DataW.trod enc prog W 0 (fun _ => true) true n 61 cs = some r) : ∃ x : Cnt, cs = x.cells := by
  have u3 : prog.underlying 3 = some (.int .i64) := by kernel_rfl
  have c3 : prog.cellsOf 3 = 1 := by kernel_rfl
  have c61 : prog.cellsOf 61 = 4 := by kernel_rfl
  obtain ⟨hl, n', hf⟩ := trod_fields (l := [(3, 0), (3, 1), (3, 2), (3, 3)]) (by kernel_rfl) h
  rw [c61] at hl
  obtain ⟨a, b, c, d, rfl⟩ : ∃ a b c d, cs = [a, b, c, d] := by
    match cs, hl with
    | [a, b, c, d], _ => exact ⟨a, b, c, d, rfl⟩
  obtain ⟨_, g0⟩ := hf 0 3 0 rfl
  obtain ⟨_, g1⟩ := hf 1 3 1 rfl
  obtain ⟨_, g2⟩ := hf 2 3 2 rfl
  obtain ⟨_, g3⟩ := hf 3 3 3 rfl
  rw [c3] at g0 g1 g2 g3
  obtain ⟨z0, w0⟩ := trod_vint u3 g0
  obtain ⟨z1, w1⟩ := trod_vint u3 g1
  obtain ⟨z2, w2⟩ := trod_vint u3 g2
  obtain ⟨z3, w3⟩ := trod_vint u3 g3
  simp at w0 w1 w2 w3
  exact ⟨⟨z0, z1, z2, z3⟩, by rw [w0, w1, w2, w3]; rfl⟩

theorem fine_rng (x : Rng) : ∀ y ∈ x.cells, ∀ m, Fine m y := fun y hy m => by
  simp only [Rng.cells, List.mem_cons, List.not_mem_nil, or_false] at hy
  rcases hy with rfl | rfl <;> exact fine_int
theorem fine_cnt (x : Cnt) : ∀ y ∈ x.cells, ∀ m, Fine m y := fun y hy m => by
  simp only [Cnt.cells, List.mem_cons, List.not_mem_nil, or_false] at hy
  rcases hy with rfl | rfl | rfl | rfl <;> exact fine_int

theorem lok_of : ∀ {l : List Value} {m : Nat}, (∀ v ∈ l, VOk m v) → LOk m l
  | [], _, _ => by simp [LOk]
  | v :: l, m, h => by
    simp only [LOk]
    exact ⟨h v (by simp), lok_of fun u hu => h u (by simp [hu])⟩
theorem argOk_agg {l : List Value} (h : ∀ v ∈ l, ArgOk W v) : ArgOk W (.agg ⟨l⟩) := by
  refine ⟨?_, ?_⟩
  · simp only [VOk, AOk]
    exact lok_of fun v hv => (h v hv).1
  · simp only [ren, renA, renL_eq]
    congr 2
    rw [List.map_congr_left (g := id) fun v hv => (h v hv).2, List.map_id]
theorem argOk_fine {v : Value} (h : ∀ m, Fine m v) : ArgOk W v := ⟨(h _).1, (h 0).2.2⟩

theorem agg_of {t : TypeId} {l : List (TypeId × Nat)} {v : Value} (hs : structOf (prog.underlying t) = some l) (hval : Value.okWide prog W .any base t v) : ∃ cs, v = .agg cs ∧ Row.okWide prog W .any base t cs := by
  unfold structOf at hs
  split at hs
  · rename_i fs hu
    simp only [Value.okWide, hu] at hval
    obtain ⟨cs, h1, _, h3⟩ := hval
    exact ⟨cs, h1, h3⟩
  · cases hs

theorem arg_cnt {v : Value} {d : DataW H} {ps : List MemPlace} (hval : Value.okWide prog W .any base 61 v) (hd : DataW.Trod enc prog W 0 (fun _ => true) true 61 v d ps) : ∃ c : Cnt, v = c.val ∧ ArgOk W v := by
  obtain ⟨fuel, hf⟩ := hd
  obtain ⟨⟨cs⟩, rfl, _⟩ := agg_of (l := [(3, 0), (3, 1), (3, 2), (3, 3)]) (by kernel_rfl) hval
  obtain ⟨c, hc⟩ := dec_cnt hf
  have : cs = c.cells := by simpa [Value.cells] using hc
  subst this
  exact ⟨c, rfl, argOk_agg fun v hv => argOk_fine fun m => fine_cnt c v hv m⟩

theorem arg_tal {v : Value} {d : DataW H} {ps : List MemPlace} (hval : Value.okWide prog W .any base 42 v) (hd : DataW.Trod enc prog W 0 (fun _ => true) true 42 v d ps) : ∃ (t : Tal) (cv nv : Value), TalAt (absH W) v t cv nv ∧ ArgOk W v := by
  have u3 : prog.underlying 3 = some (.int .i64) := by kernel_rfl
  have u39 : prog.underlying 39 = some (.slice 38) := by kernel_rfl
  have u40 : prog.underlying 40 = some (.slice 61) := by kernel_rfl
  have c3 : prog.cellsOf 3 = 1 := by kernel_rfl
  have c38 : prog.cellsOf 38 = 2 := by kernel_rfl
  have c39 : prog.cellsOf 39 = 1 := by kernel_rfl
  have c40 : prog.cellsOf 40 = 1 := by kernel_rfl
  have c61 : prog.cellsOf 61 = 4 := by kernel_rfl
  have c42 : prog.cellsOf 42 = 6 := by kernel_rfl
  have hst : structOf (prog.underlying 42) = some [(3, 0), (38, 1), (39, 3), (3, 4), (40, 5)] := by kernel_rfl
  have hct : prog.cellTypes prog.depth 42 = some [3, 3, 3, 39, 3, 40] := by kernel_rfl
  obtain ⟨fuel, hf⟩ := hd
  obtain ⟨⟨cs⟩, rfl, ts, hts, _, hrow⟩ := agg_of hst hval
  rw [hct] at hts
  cases hts
  have hf' : DataW.trod enc prog W 0 (fun _ => true) true fuel 42 cs = some (d, ps) := by simpa [Value.cells] using hf
  obtain ⟨hl, n', hfl⟩ := trod_fields hst hf'
  rw [c42] at hl
  obtain ⟨x0, x1, x2, x3, x4, x5, rfl⟩ : ∃ a b c d e f, cs = [a, b, c, d, e, f] := by
    match cs, hl with
    | [a, b, c, d, e, f], _ => exact ⟨a, b, c, d, e, f, rfl⟩
  obtain ⟨_, g0⟩ := hfl 0 3 0 rfl
  obtain ⟨_, g1⟩ := hfl 1 38 1 rfl
  obtain ⟨y3, g3⟩ := hfl 2 39 3 rfl
  obtain ⟨_, g4⟩ := hfl 3 3 4 rfl
  obtain ⟨y5, g5⟩ := hfl 4 40 5 rfl
  rw [c3] at g0 g4
  rw [c38] at g1
  rw [c39] at g3
  rw [c40] at g5
  obtain ⟨z0, w0⟩ := trod_vint u3 g0
  obtain ⟨z4, w4⟩ := trod_vint u3 g4
  obtain ⟨fr, w1⟩ := dec_rng g1
  simp at w0 w4
  simp [Rng.cells] at w1
  obtain ⟨w1, w2⟩ := w1
  subst w0 w4 w1 w2
  obtain ⟨u, hu, k3⟩ := hrow 3 x3 rfl
  cases hu
  obtain ⟨u, hu, k5⟩ := hrow 5 x5 rfl
  cases hu
  have v3 : x3.cells.toList = [x3] := by
    obtain ⟨a0, a1, a2, rfl⟩ := okWide_slice u39 (show Value.okWide prog W .any base 39 x3 by unfold Value.okWide; rw [u39]; exact k3)
    rfl
  have v5 : x5.cells.toList = [x5] := by
    obtain ⟨a0, a1, a2, rfl⟩ := okWide_slice u40 (show Value.okWide prog W .any base 40 x5 by unfold Value.okWide; rw [u40]; exact k5)
    rfl
  obtain ⟨chs, s3, ok3⟩ := arg_sliE (encE := Rng.cells) (n := n') (x := y3) u39 c38 (by omega) (fun _ => rfl) (fun _ => rfl) fine_rng (fun _ _ _ h => dec_rng h) k3 (by rw [v3]; exact g3)
  obtain ⟨cos, s5, ok5⟩ := arg_sliE (encE := Cnt.cells) (n := n') (x := y5) u40 c61 (by omega) (fun _ => rfl) (fun _ => rfl) fine_cnt (fun _ _ _ h => dec_cnt h) k5 (by rw [v5]; exact g5)
  refine ⟨⟨z0, fr, chs, z4, cos⟩, x3, x5, ⟨rfl, s3, s5⟩, argOk_agg fun v hv => ?_⟩
  simp only [List.mem_cons, List.not_mem_nil, or_false] at hv
  rcases hv with rfl | rfl | rfl | rfl | rfl | rfl
  · exact argOk_int
  · exact argOk_int
  · exact argOk_int
  · exact ok3
  · exact argOk_int
  · exact ok5
end
end Go.Proofs.Ytdgpacdknpahnaa

namespace Go.Proofs.Ytdgpacdknpahnaa
open Go.Conc Go.ChangeShapes Go.WideShapes Go.ChangeAt Go.RowKit Go.Proofs.Try
set_option maxRecDepth 100000
theorem lifted13 (os : Os) (started : os.Started) (H : Type) (enc : TypeId × Value → H) :
    ReturnsInLeavingWide {} checked os 13 .any (Rows.tallyReadsSpec.pre6 enc prog f13 Rows.tallyReadsRow.domain false) (Rows.tallyReadsSpec.post enc prog f13 false true false false) := by
  refine returnsInLeavingWide_of_change_sized (C := checked) own started at13
    (ChangeSpec.witness6 (enc := enc) (C := checked) false ⟨#[], #[.agg #[.int .i64 0, .int .i64 0, .int .i64 0, .slice none 0 0, .int .i64 0, .slice none 0 0], .agg #[.int .i64 0, .int .i64 0, .int .i64 0, .int .i64 0], .slice none 0 0], []⟩ 8 (by kernel_rfl) (by kernel_rfl) (by kernel_rfl) (by kernel_rfl)) ?_
  intro W base args ds gs before hval0 hW _ hsz0 _
  have hsz : (DataW.weightsEach prog (f13.params.toList ++ Rows.tallyReadsSpec.plain.varTypes prog) (ds ++ gs)).all (· ≤ reachBytes) = true := hsz0
  clear hsz0
  have hval : ∀ (j : Nat) t v, f13.params[j]? = some t → args[j]? = some v → Value.okWide prog W .any base t v := hval0
  have hW' := hW
  obtain ⟨p, q, hA0, hV, rfl, _, _⟩ := hW
  have hA : DataW.TrodAll enc prog W 0 (fun _ => true) true f13.params.toList args.toList ds p := hA0
  have hps : f13.params = #[42, 61, 22] := by kernel_rfl
  rw [hps] at hA hval hsz
  obtain ⟨args⟩ := args
  have r0 : DataW.TrodAll enc prog W 0 (fun _ => true) true [42, 61, 22] args ds p := hA
  obtain ⟨v0, vs0, d0, ds0, p0, q0, hv0, hd0, hp0, h0, r1⟩ := trodAll_cons r0
  obtain ⟨v1, vs1, d1, ds1, p1, q1, hv1, hd1, hp1, h1, r2⟩ := trodAll_cons r1
  obtain ⟨v2, vs2, d2, ds2, p2, q2, hv2, hd2, hp2, h2, r3⟩ := trodAll_cons r2
  obtain ⟨hvn, hdn, hpn⟩ := trodAll_nil r3
  subst hvn hdn hpn
  subst hv2 hd2 hp2
  subst hv1 hd1 hp1
  subst hv0 hd0 hp0
  obtain ⟨rfl, rfl⟩ := trodVars_none hV
  have u3 : prog.underlying 3 = some (.int .i64) := by kernel_rfl
  have u22 : prog.underlying 22 = some (.slice 3) := by kernel_rfl
  have u4 : prog.underlying 4 = some .bool := by kernel_rfl
  have c3 : prog.cellsOf 3 = 1 := by kernel_rfl
  have b3 : prog.bytesOf 3 = 8 := by kernel_rfl
  have hlt : ∀ x ∈ p0 ++ (p1 ++ (p2 ++ [])), x.block < W.heap.size := fun x hx => by simpa using hW'.lt x (by simpa using hx)
  have hargs : ∀ (W' : World), Below W.heap.size W W' → DataW.TrodAll enc prog W' 0 (fun b => decide (b < W.heap.size)) true [42, 61, 22] [v0, v1, v2] [d0, d1, d2] (p0 ++ (p1 ++ (p2 ++ []))) := fun W' hn =>
    trodAll_mkc (Below.trod laidOut (by kernel_rfl) (of_decide_eq_true (by kernel_rfl)) h0 hn fun x hx => hlt x (by simp [hx])) (trodAll_mkc (Below.trod laidOut (by kernel_rfl) (of_decide_eq_true (by kernel_rfl)) h1 hn fun x hx => hlt x (by simp [hx])) (trodAll_mkc (Below.trod laidOut (by kernel_rfl) (of_decide_eq_true (by kernel_rfl)) h2 hn fun x hx => hlt x (by simp [hx])) (rfl)))
  obtain ⟨t0, cv0, nv0, ht0, ok0⟩ := arg_tal (hval 0 42 v0 rfl rfl) h0
  obtain ⟨c1, hc1, ok1⟩ := arg_cnt (hval 1 61 v1 rfl rfl) h1
  subst hc1
  obtain ⟨ns2, sn2, ok2, hbig2⟩ := arg_ints u22 u3 c3 (hval 2 22 v2 rfl rfl) h2
  have hln2 : ns2.length < 4611686018427387904 := by
    rcases hbig2 with rfl | ⟨es, sp, rfl, hle⟩
    · simp
    · have := sized_slice hsz (j := 2) (t := 22) (e := 3) rfl rfl u22
      rw [b3] at this
      simp only [reachBytes] at this
      omega
  obtain ⟨M, last, o, w', t', r1, r2, r3, r4⟩ := law_run (g := 13) (fn := f13) at13 body13 (by kernel_rfl) W [v0, c1.val, v2] (Nat.le_of_ble_eq_true (by kernel_rfl : Nat.ble 3 f13.ntmps = true))
    (by
      intro v hv
      simp only [List.mem_cons, List.not_mem_nil, or_false] at hv
      rcases hv with rfl | rfl | rfl
      · exact ok0
      · exact ok1
      · exact ok2)
    (fun J hJ => walk13 (K := fun v _ => v = .bool true) hJ ht0 sn2 hln2 fun _ => rfl)
  refine ⟨M, last, o, w', t', r1, r2, r3, r4.mono fun v hF => ?_⟩
  obtain ⟨rfl, hbelow⟩ := hF
  refine ⟨_, _, _, [], _, [], hW', ?_, hargs _ hbelow, by rfl, hbelow.frame _, fun h => by cases h⟩
  exact trodAll_mk1 (shut_bool u4 true)

theorem tallyReads_holds : Rows.TallyReadsSaid :=
  OpenClaim.holds_of_wide_leaving 13 f13 rfl rfl rfl rfl rfl rfl rfl ⟨rfl, rfl, rfl, rfl, rfl⟩ rfl rfl rfl rfl rfl (by kernel_rfl) at13 (by kernel_rfl)
    (of_decide_eq_true (by kernel_rfl)) (by unfold Func.isWrapper; first | (rw [if_pos (by decide +kernel)]; kernel_rfl) | (rw [if_neg (by decide +kernel)]; exact ⟨rfl, rfl⟩))
    (fun os started H enc _ => lifted13 os started H enc)

#print axioms tallyReads_holds
end Go.Proofs.Ytdgpacdknpahnaa
