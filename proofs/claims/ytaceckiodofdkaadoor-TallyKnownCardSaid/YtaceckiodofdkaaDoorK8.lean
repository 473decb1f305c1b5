/- The card of TallyKnown: it answers true, and what its row lists is tied to the program's text. -/
import Derived.Test.YtaceckiodofdkaaDoorK7
import Derived.Test.YtaceckiodofdkaaDoorK4
import Derived.Below
import Derived.Test.YtaceckiodofdkaaDoorK2
import Derived.Test.YtaceckiodofdkaaDoorRows
import Derived.Conc.LeavingOf
import Derived.ChangeSlices
import Derived.OpenShut
import Derived.Carry
import Derived.LaidLaws
import Derived.LaidHandle
import Derived.Deep.DeepLaidRun
import Derived.Test.YtaceckiodofdkaaDoorTie
import Derived.Test.YtaceckiodofdkaaDoorCards
import Derived.SevenTiedAt
namespace Go.Proofs.YtaceckiodofdkaaDoor
open Go.Conc Go.Proofs.Tryd
set_option maxRecDepth 100000
section
variable {main : Bool} {J : JT} {W0 : World} {Post : Value → World → Prop} {h H : List AObj} {K : Value → List AObj → Prop} {n0 : Nat} {F : RG} {KV : Value → Prop}
theorem sliI {p : Nat} {l : List Int} {n : Nat} (hc : H[p]? = some (.cells (l.map vint) true 0)) (hn : l.length = n) : Sli H (.slice (some ⟨p,0,none⟩) n n) 1 l.length (l.map vint) := by
 subst hn
 exact ownX_sli (ownX_new (s := 1) (n := l.length) hc (by simp) (kn_ints _))
theorem smiT (hJ : Closed prog main J) {av bv : Value} {xs ys : List Int} (sa : Sli H av 1 xs.length (xs.map vint)) (sb : Sli H bv 1 ys.length (ys.map vint)) (he : xs = ys) (hl : xs.length < 1000000) (hK : K (.bool true) H) : Good prog J 15 [av,bv] H K := by
 subst he
 refine good15 hJ sa sb (by omega) ?_
 rw [decide_eq_true rfl]
 exact hK
theorem nF {H : List AObj} (ds : F.ds = []) (hk : K (.bool true) H) : retL n0 K F.ds [.bool true] H := by
 rw [ds]
 exact retL_same (by simp [unk]) hk
def TB (H : List AObj) (p : Nat) (t : Tal) : Prop := ∃ cv nv,H[p]? = some (.cells (talCells t cv nv) true 0) ∧ TalAt H (.agg ⟨talCells t cv nv⟩) t cv nv
theorem TB.keep {p : Nat} {t : Tal} (a : TB h p t) (S : Sm h H) : TB H p t := by
 obtain ⟨cv,nv,h1,h2⟩ := a
 exact ⟨cv,nv,S.at h1,S.tal h2⟩
theorem TB.ld {p : Nat} {t : Tal} (a : TB H p t) (hk : ∀ cv nv,TalAt H (.agg ⟨talCells t cv nv⟩) t cv nv → KV (.agg ⟨talCells t cv nv⟩)) : aLoad true 6 (ptr p 0) H KV := by
 obtain ⟨cv,nv,h1,h2⟩ := a
 exact load_part (c := talCells t cv nv) h1 (by rw [cs_val]; omega) rfl (talAt_kc h2) (hk cv nv h2)
theorem tb_mk {p a b n c : Nat} {t : Tal} {cs : List Value} (hp : H[p]? = some (.cells (talCells t (.slice (some ⟨a,0,none⟩) 2 2) (.slice (some ⟨b,0,none⟩) n c)) true 0)) (ha : H[a]? = some (.cells (t.changes.flatMap Rng.cells) true 0)) (hb : H[b]? = some (.cells cs true 0))
  (h2 : t.changes.length = 2) (hn : t.counts.length = n) (hcs : cs.take (n * 4) = t.counts.flatMap Cnt.cells) (hc1 : (t.changes.flatMap Rng.cells).length = 2 * 2) (hc2 : (t.counts.flatMap Cnt.cells).length = n * 4) (k1 : kn (t.changes.flatMap Rng.cells) = true) (k2 : kn (t.counts.flatMap Cnt.cells) = true) : TB H p t := by
 subst hn
 refine ⟨_,_,hp,rfl,?_,?_⟩
 ·show Sli H _ 2 t.changes.length _
  rw [h2]
  exact ⟨_,_,rfl,⟨hc1,k1⟩,.inr ⟨a,0,rfl,.inr ⟨_,true,0,ha,by rw [List.drop_zero,← hc1]; exact List.take_length⟩⟩⟩
 ·exact ⟨_,_,rfl,⟨hc2,k2⟩,.inr ⟨b,0,rfl,.inr ⟨_,true,0,hb,by rw [List.drop_zero]; exact hcs⟩⟩⟩
structure Kp (p1 p2 p3 p7 : Nat) (H : List AObj) : Prop where
 t1 : TB H p1 exT
 t2 : TB H p2 (exN 97 0)
 t3 : TB H p3 (exN 90 0)
 t7 : TB H p7 exL
 pow : PowAt H
theorem PowAt.keep (a : PowAt h) (S : Sm h H) : PowAt H := by
 rcases S.get 1 _ a with e | ⟨⟨_,e⟩ | ⟨_,e⟩,_⟩
 ·exact e
 ·cases e
 ·cases e
theorem Kp.keep {p1 p2 p3 p7 : Nat} (a : Kp p1 p2 p3 p7 h) (S : Sm h H) : Kp p1 p2 p3 p7 H := ⟨a.t1.keep S,a.t2.keep S,a.t3.keep S,a.t7.keep S,a.pow.keep S⟩
theorem eqlTx (hk : KV (.bool true)) : aBin prog .eql 9 (strV (writeB exL)) (Value.string { data := #[103,97,116,101,115,61,51,32,102,105,114,115,116,61,49,48,48,46,46,49,48,52,32,108,111,115,116,61,52,10,99,104,97,110,103,101,61,48,46,46,50,10,99,104,97,110,103,101,61,45,51,46,46,45,49,10,99,111,117,110,116,32,103,97,116,101,61,48,32,109,97,110,61,49,32,110,117,109,98,101,114,61,49,48,50,32,101,114,114,61,48,10,116,97,108,108,105,101,100,10] }) KV := by
 have e : aBin prog .eql 9 (strV (writeB exL)) (Value.string { data := #[103,97,116,101,115,61,51,32,102,105,114,115,116,61,49,48,48,46,46,49,48,52,32,108,111,115,116,61,52,10,99,104,97,110,103,101,61,48,46,46,50,10,99,104,97,110,103,101,61,45,51,46,46,45,49,10,99,111,117,110,116,32,103,97,116,101,61,48,32,109,97,110,61,49,32,110,117,109,98,101,114,61,49,48,50,32,101,114,114,61,48,10,116,97,108,108,105,101,100,10] }) KV = KV (.bool true) := by kernel_rfl
 rw [e]
 exact hk
variable {p1 p2 p3 p7 : Nat}
abbrev GK (W0 : World) (Post : Value → World → Prop) (n0 : Nat) (K : Value → List AObj → Prop) (P : List Nat) (F : RG) (H : List AObj) (nx : List (RG → List AObj → Prop)) : Prop := W prog (J1 prog W0 Post) 331 n0 3 (subC P (codeOf f3)) F H (contX pl3 prog (J1 prog W0 Post) 331 n0 3 ct3 P (codeOf f3) nx (RetQ prog [.tmp 0] n0 K))
theorem wk29 (ds : F.ds = []) (r18 : F.r 18 = vint 0) (r20 : F.r 20 = vint 0) (r22 : F.r 22 = vint 0) (r32 : F.r 32 = vint 1) (r34 : F.r 34 = vint 0) {w30 : Value} (r30 : F.r 30 = w30) (s30 : Sli H w30 1 1 (List.map vint [1])) {w31 : Value} (r31 : F.r 31 = w31) (s31 : Sli H w31 1 1 (List.map vint [2])) {w35 : Value} (r35 : F.r 35 = w35) (s35 : Sli H w35 1 3 (List.map vint [0,1,2])) (r37 : F.r 37 = strV (writeB exL)) (hK : ∀ H,K (.bool true) H) :
  GK W0 Post n0 K [1,1,1,1,1,1,1,1,1,1,1,1,1,1,1,1,1,1,1,1,1,1,1,1,1,1,1] F H [] := by
 have hJ := J1.closed prog W0 Post
 unfold GK; rw [s3_29]
 simp only [r18,r20,r22,r32,r34,r30,r31,r35,r37]
 refine eqlI (cndI (fun _ => eqlI (cndI (fun _ => eqlI (cndI (fun _ => eqlI (cndI (fun _ => eqlI (cndI (fun _ => ⟨⟨by decide,by decide,rfl⟩,fillO (l := [vint 1]) rfl rfl rfl (Nat.le_of_ble_eq_true (by kernel_rfl)) (fillI (qNew fun H1 p1 e1 S1 c1 l1 => ?_))⟩) fun h => absurd rfl h)) fun h => absurd rfl h)) fun h => absurd rfl h)) fun h => absurd rfl h)) fun h => absurd rfl h)
 refine smiT hJ (xs := [1]) (ys := [1]) (SameX.sli S1 s30 (by simp)) (sliI (l := [1]) c1 rfl) rfl (by decide) (cnd_true.2 ?_)
 refine ⟨⟨by decide,by decide,rfl⟩,fillO (l := [vint 2]) rfl rfl rfl (Nat.le_of_ble_eq_true (by kernel_rfl)) (fillI (qNew fun H2 p2 e2 S2 c2 l2 => ?_))⟩
 refine smiT hJ (xs := [2]) (ys := [2]) (SameX.sli (S1.trans S2) s31 (by simp)) (sliI (l := [2]) c2 rfl) rfl (by decide) (cnd_true.2 ?_)
 refine ⟨⟨by decide,by decide,rfl⟩,fillO (l := [vint 0]) rfl rfl rfl (Nat.le_of_ble_eq_true (by kernel_rfl)) (fillO (l := [vint 1]) rfl rfl rfl (Nat.le_of_ble_eq_true (by kernel_rfl)) (fillO (l := [vint 2]) rfl rfl rfl (Nat.le_of_ble_eq_true (by kernel_rfl)) (fillI (qNew fun H3 p3 e3 S3 c3 l3 => ?_))))⟩
 refine smiT hJ (xs := [0,1,2]) (ys := [0,1,2]) (SameX.sli ((S1.trans S2).trans S3) s35 (by simp)) (sliI (l := [0,1,2]) c3 rfl) rfl (by decide) (cnd_true.2 ?_)
 exact eqlTx (nF ds (hK _))
theorem wk28 (ds : F.ds = []) (r18 : F.r 18 = vint 0) (r20 : F.r 20 = vint 0) (r22 : F.r 22 = vint 0) (r32 : F.r 32 = vint 1) (r7 : F.r 7 = ptr p7 0) (kp : Kp p1 p2 p3 p7 H) {w30 : Value} (r30 : F.r 30 = w30) (s30 : Sli H w30 1 1 (List.map vint [1])) {w31 : Value} (r31 : F.r 31 = w31) (s31 : Sli H w31 1 1 (List.map vint [2])) {w35 : Value} (r35 : F.r 35 = w35) (s35 : Sli H w35 1 3 (List.map vint [0,1,2])) (hK : ∀ H,K (.bool true) H) :
  GK W0 Post n0 K [1,1,1,1,1,1,1,1,1,1,1,1,1,1,1,1,1,1,1,1,1,1,1,1,1,1] F H [] := by
 have hJ := J1.closed prog W0 Post
 unfold GK; rw [s3_28]
 simp only [r7]
 refine kp.t7.ld fun cv nv ta => good18 hJ kp.pow ta (fun h => absurd k_err.2.2.2.2.1 h) fun _ => ext0 (ext1 (hold.2 ?_))
 exact wk29 ds r18 r20 r22 r32 rfl r30 s30 r31 s31 r35 s35 rfl hK
theorem wk27 (ds : F.ds = []) (r18 : F.r 18 = vint 0) (r20 : F.r 20 = vint 0) (r22 : F.r 22 = vint 0) (r7 : F.r 7 = ptr p7 0) (kp : Kp p1 p2 p3 p7 H) {w30 : Value} (r30 : F.r 30 = w30) (s30 : Sli H w30 1 1 (List.map vint [1])) {w31 : Value} (r31 : F.r 31 = w31) (s31 : Sli H w31 1 1 (List.map vint [2])) {w35 : Value} (r35 : F.r 35 = w35) (s35 : Sli H w35 1 3 (List.map vint [0,1,2])) (hK : ∀ H,K (.bool true) H) :
  GK W0 Post n0 K [1,1,1,1,1,1,1,1,1,1,1,1,1,1,1,1,1,1,1,1,1,1,1,1,1] F H [] := by
 have hJ := J1.closed prog W0 Post
 unfold GK; rw [s3_27]
 refine ⟨⟨by decide,by decide,rfl⟩,fillO (l := [vint 0]) rfl rfl rfl (Nat.le_of_ble_eq_true (by kernel_rfl)) (fillO (l := [vint 1]) rfl rfl rfl (Nat.le_of_ble_eq_true (by kernel_rfl)) (fillO (l := [vint 2]) rfl rfl rfl (Nat.le_of_ble_eq_true (by kernel_rfl)) (fillI (qNew fun H1 p1 e1 S1 c1 l1 => ?_))))⟩
 refine good17' hJ (hs := [0,1,2]) (sliI (l := [0,1,2]) c1 rfl) fun w g sw => ?_
 rw [k_shares.2]
 have S2 : SameX [] H (H1 ++ g) := S1.trans SameX.refl.app
 refine ext0 (ext1 (hold.2 ?_))
 exact wk28 ds r18 r20 r22 rfl r7 (kp.keep (Sm.of S2)) r30 (SameX.sli S2 s30 (by simp)) r31 (SameX.sli S2 s31 (by simp)) r35 (SameX.sli S2 s35 (by simp)) hK
theorem wk26 (ds : F.ds = []) (r18 : F.r 18 = vint 0) (r20 : F.r 20 = vint 0) (r7 : F.r 7 = ptr p7 0) (kp : Kp p1 p2 p3 p7 H) {w30 : Value} (r30 : F.r 30 = w30) (s30 : Sli H w30 1 1 (List.map vint [1])) {w31 : Value} (r31 : F.r 31 = w31) (s31 : Sli H w31 1 1 (List.map vint [2])) (hK : ∀ H,K (.bool true) H) :
  GK W0 Post n0 K [1,1,1,1,1,1,1,1,1,1,1,1,1,1,1,1,1,1,1,1,1,1,1,1] F H [] := by
 have hJ := J1.closed prog W0 Post
 unfold GK; rw [s3_26]
 refine ⟨⟨by decide,by decide,rfl⟩,fillO (l := [vint 0]) rfl rfl rfl (Nat.le_of_ble_eq_true (by kernel_rfl)) (fillO (l := [vint 1]) rfl rfl rfl (Nat.le_of_ble_eq_true (by kernel_rfl)) (fillO (l := [vint 2]) rfl rfl rfl (Nat.le_of_ble_eq_true (by kernel_rfl)) (fillI (qNew fun H1 p1 e1 S1 c1 l1 => ?_))))⟩
 refine good17' hJ (hs := [0,1,2]) (sliI (l := [0,1,2]) c1 rfl) fun w g sw => ?_
 rw [k_shares.1] at sw ⊢
 have S2 : SameX [] H (H1 ++ g) := S1.trans SameX.refl.app
 refine ext0 (ext1 (hold.2 ?_))
 exact wk27 ds r18 r20 rfl r7 (kp.keep (Sm.of S2)) r30 (SameX.sli S2 s30 (by simp)) r31 (SameX.sli S2 s31 (by simp)) rfl sw hK
theorem wk25 (ds : F.ds = []) (r18 : F.r 18 = vint 0) (r3 : F.r 3 = ptr p3 0) (r7 : F.r 7 = ptr p7 0) (kp : Kp p1 p2 p3 p7 H) {w30 : Value} (r30 : F.r 30 = w30) (s30 : Sli H w30 1 1 (List.map vint [1])) (hK : ∀ H,K (.bool true) H) :
  GK W0 Post n0 K [1,1,1,1,1,1,1,1,1,1,1,1,1,1,1,1,1,1,1,1,1,1,1] F H [] := by
 unfold GK; rw [s3_25]
 simp only [r3]
 refine kp.t3.ld fun cv nv ta => good16 ta fun H' w S sw => ?_
 rw [k_men.2] at sw
 rw [k_wrongE.2.1]
 exact ext0 (ext1 (hold.2 (wk26 ds r18 rfl r7 (kp.keep S) r30 (S.sli s30) rfl sw hK)))
theorem wk24 (ds : F.ds = []) (r1 : F.r 1 = ptr p1 0) (r2 : F.r 2 = ptr p2 0) (r3 : F.r 3 = ptr p3 0) (r7 : F.r 7 = ptr p7 0) (kp : Kp p1 p2 p3 p7 H) (hK : ∀ H,K (.bool true) H) :
  GK W0 Post n0 K [1,1,1,1,1,1,1,1,1,1,1,1,1,1,1,1,1,1,1,1,1,1] F H [] := by
 unfold GK; rw [s3_24]
 simp only [r2]
 refine kp.t2.ld fun cv nv ta => good16 ta fun H' w S sw => ?_
 rw [k_men.1] at sw
 rw [k_wrongE.2.2]
 exact ext0 (ext1 (hold.2 (wk25 ds rfl r3 r7 (kp.keep S) rfl sw hK)))
theorem wk23 (ds : F.ds = []) (r1 : F.r 1 = ptr p1 0) (r2 : F.r 2 = ptr p2 0) (r3 : F.r 3 = ptr p3 0) (r7 : F.r 7 = ptr p7 0) (r268 : F.r 268 = .bool false) (kp : Kp p1 p2 p3 p7 H) (hK : ∀ H,K (.bool true) H) :
  GK W0 Post n0 K [1,1,1,1,1,1,1,1,1,1,1,1,1,1,1,1,1,1,1,1,1,0,1] F H [] := by
 unfold GK; rw [s3_23]
 simp only [r268]
 exact cnd_false.2 (hold.2 (wk24 ds r1 r2 r3 r7 kp hK))
theorem wk22 (ds : F.ds = []) (r1 : F.r 1 = ptr p1 0) (r2 : F.r 2 = ptr p2 0) (r3 : F.r 3 = ptr p3 0) (r7 : F.r 7 = ptr p7 0) (r18 : F.r 18 = vint 11) (r20 : F.r 20 = vint 0) (r22 : F.r 22 = vint 0) (r32 : F.r 32 = vint 0) (r34 : F.r 34 = vint 11) (r36 : F.r 36 = vint 0) (r28 : F.r 28 = vint 2) (r29 : F.r 29 = vint 2) {w30 : Value} (r30 : F.r 30 = w30) (s30 : Sli H w30 1 0 []) {w31 : Value} (r31 : F.r 31 = w31) (s31 : Sli H w31 1 1 (List.map vint [1])) {w35 : Value} (r35 : F.r 35 = w35) (s35 : Sli H w35 1 1 (List.map vint [1])) (kp : Kp p1 p2 p3 p7 H) (hK : ∀ H,K (.bool true) H) :
  GK W0 Post n0 K [1,1,1,1,1,1,1,1,1,1,1,1,1,1,1,1,1,1,1,1,1] F H [] := by
 have hJ := J1.closed prog W0 Post
 unfold GK; rw [s3_22]
 simp only [r18,r20,r22,r32,r34,r36,r28,r29,r30,r31,r35]
 refine neqI (cndI (fun h => absurd rfl h) fun _ => neqI (cndI (fun h => absurd rfl h) fun _ => neqI (cndI (fun h => absurd rfl h) fun _ => neqI (cndI (fun h => absurd rfl h) fun _ => neqI (cndI (fun h => absurd rfl h) fun _ => neqI (cndI (fun h => absurd rfl h) fun _ => neqI (cndI (fun h => absurd rfl h) fun _ => neqI (cndI (fun h => absurd rfl h) fun _ => ?_))))))))
 refine lenI s30 (gtrI (cndI (fun h => absurd h (by decide)) fun _ => ?_))
 refine ⟨⟨by decide,by decide,rfl⟩,fillO (l := [vint 1]) rfl rfl rfl (Nat.le_of_ble_eq_true (by kernel_rfl)) (fillI (qNew fun H1 p1 e1 S1 c1 l1 => ?_))⟩
 refine smiT hJ (xs := [1]) (ys := [1]) (SameX.sli S1 s31 (by simp)) (sliI (l := [1]) c1 rfl) rfl (by decide) (notI (cnd_false.2 ?_))
 refine ⟨⟨by decide,by decide,rfl⟩,fillO (l := [vint 1]) rfl rfl rfl (Nat.le_of_ble_eq_true (by kernel_rfl)) (fillI (qNew fun H2 p2 e2 S2 c2 l2 => ?_))⟩
 refine smiT hJ (xs := [1]) (ys := [1]) (SameX.sli (S1.trans S2) s35 (by simp)) (sliI (l := [1]) c2 rfl) rfl (by decide) (notI (hold.2 ?_))
 exact wk23 ds r1 r2 r3 r7 rfl (kp.keep (Sm.of (S1.trans S2))) hK
theorem wk21 (ds : F.ds = []) (r1 : F.r 1 = ptr p1 0) (r2 : F.r 2 = ptr p2 0) (r3 : F.r 3 = ptr p3 0) (r7 : F.r 7 = ptr p7 0) (r18 : F.r 18 = vint 11) (r20 : F.r 20 = vint 0) (r22 : F.r 22 = vint 0) (r32 : F.r 32 = vint 0) (r28 : F.r 28 = vint 2) (r29 : F.r 29 = vint 2) {w30 : Value} (r30 : F.r 30 = w30) (s30 : Sli H w30 1 0 []) {w31 : Value} (r31 : F.r 31 = w31) (s31 : Sli H w31 1 1 (List.map vint [1])) (kp : Kp p1 p2 p3 p7 H) (hK : ∀ H,K (.bool true) H) :
  GK W0 Post n0 K [1,1,1,1,1,1,1,1,1,1,1,1,1,1,1,1,1,1,1] F H [] := by
 have hJ := J1.closed prog W0 Post
 unfold GK; rw [s3_21]
 simp only [r1,r3]
 refine kp.t1.ld fun cv nv ta => good14 hJ ta fun H1 w S1 sw => ?_
 rw [k_clashT]
 have kp1 := kp.keep (Sm.of S1)
 refine ext0 (ext1 (kp1.t3.ld fun cv nv ta => good14 hJ ta fun H2 w2 S2 sw2 => ?_))
 rw [k_clashE]
 rw [k_clash] at sw2
 refine ext0 (ext1 (hold.2 ?_))
 exact wk22 ds r1 r2 r3 r7 r18 r20 r22 r32 rfl rfl r28 r29 r30 (SameX.sli (S1.trans S2) s30 (by simp)) r31 (SameX.sli (S1.trans S2) s31 (by simp)) rfl sw2 (kp1.keep (Sm.of S2)) hK
theorem wk20 (ds : F.ds = []) (r1 : F.r 1 = ptr p1 0) (r2 : F.r 2 = ptr p2 0) (r3 : F.r 3 = ptr p3 0) (r7 : F.r 7 = ptr p7 0) (r18 : F.r 18 = vint 11) (r20 : F.r 20 = vint 0) (r28 : F.r 28 = vint 2) (r29 : F.r 29 = vint 2) (kp : Kp p1 p2 p3 p7 H) (hK : ∀ H,K (.bool true) H) :
  GK W0 Post n0 K [1,1,1,1,1,1,1,1,1,1,1,1,1,1,1,1,1] F H [] := by
 have hJ := J1.closed prog W0 Post
 unfold GK; rw [s3_20]
 simp only [r1,r3]
 refine kp.t1.ld fun cv nv ta => good13 hJ ta fun H1 w S1 sw => ?_
 rw [k_wrongE.1]
 rw [k_wrong.1] at sw
 have kp1 := kp.keep (Sm.of S1)
 refine ext0 (ext1 (kp1.t3.ld fun cv nv ta => good13 hJ ta fun H2 w2 S2 sw2 => ?_))
 rw [k_wrongE.2.1]
 rw [k_wrong.2] at sw2
 refine ext0 (ext1 (hold.2 ?_))
 exact wk21 ds r1 r2 r3 r7 r18 r20 rfl rfl r28 r29 rfl (SameX.sli S2 sw (by simp)) rfl sw2 (kp1.keep (Sm.of S2)) hK
theorem wk19 (ds : F.ds = []) (r1 : F.r 1 = ptr p1 0) (r2 : F.r 2 = ptr p2 0) (r3 : F.r 3 = ptr p3 0) (r7 : F.r 7 = ptr p7 0) (r18 : F.r 18 = vint 11) (kp : Kp p1 p2 p3 p7 H) (hK : ∀ H,K (.bool true) H) :
  GK W0 Post n0 K [1,1,1,1,1,1,1,1,1,1,1,1,1,1,1,1] F H [] := by
 have hJ := J1.closed prog W0 Post
 unfold GK; rw [s3_19]
 simp only [r1]
 refine kp.t1.ld fun cv nv ta => good12' hJ ta ?_
 rw [k_doubt]
 exact ext30 (ext31 (ext32 (hold.2 (wk20 ds r1 r2 r3 r7 r18 rfl rfl rfl kp hK))))
theorem wk18 (ds : F.ds = []) (r1 : F.r 1 = ptr p1 0) (r2 : F.r 2 = ptr p2 0) (r3 : F.r 3 = ptr p3 0) (r7 : F.r 7 = ptr p7 0) (kp : Kp p1 p2 p3 p7 H) (hK : ∀ H,K (.bool true) H) :
  GK W0 Post n0 K [1,1,1,1,1,1,1,1,1,1,1,1,1,1,1] F H [] := by
 have hJ := J1.closed prog W0 Post
 unfold GK; rw [s3_18]
 simp only [r1]
 refine kp.t1.ld fun cv nv ta => good11' hJ ta ?_
 rw [k_since4]
 exact ext0 (ext1 (hold.2 (wk19 ds r1 r2 r3 r7 rfl kp hK)))
theorem rput_ne {F : RG} {d j : Nat} {v : Value} (h : j ≠ d) : (RG.p F d v).r j = F.r j := by
 show (bif j == d then v else F.r j) = F.r j
 rw [show (j == d) = false from by simpa using h,cond_false]
theorem wk17 {nx0 : RG → List AObj → Prop} {i : Nat} (hi : i < 3) (ri : F.r 25 = vint (i : Nat)) (rb : F.r 190 = .bool false) (hn : ∀ F',F'.ds = F.ds → (∀ j,j < 26 → j ≠ 25 → F'.r j = F.r j) → F'.r 25 = vint ((i + 1 : Nat) : Int) → nx0 F' H) :
  GK W0 Post n0 K [1,1,1,1,1,1,1,1,1,1,1,1,1,1,0,1,0,0,1,0,0,1,1] F H [nx0] := by
 unfold GK; rw [s3_17]
 simp only [ri,rb]
 refine cnd_false.2 (addI (by omega) (hn _ rfl (fun j hj hne => ?_) rfl))
 show RG.r (RG.p (RG.p (RG.p F _ _) _ _) 25 _) j = F.r j
 rw [rput_ne (by omega),rput_ne (by omega),rput_ne (by omega)]
def many : List Int := [0,1,3]
theorem three : ∀ i,i < 3 → ∀ l : List Int,l.length = 3 → (l.map vint)[i]? = some (vint (l.getD i 0)) := by
 intro i hi l hl
 rw [List.getElem?_map,List.getD_eq_getElem?_getD,List.getElem?_eq_getElem (by omega)]
 rfl
theorem idL : ∀ i,i < 3 → (([0,1,2] : List Int).getD i 0) = (i : Int) := by
 intro i hi
 match i with
 | 0 => rfl
 | 1 => rfl
 | 2 => rfl
theorem many_nn : ∀ i,i < 3 → 0 ≤ (many.getD i 0) := by
 intro i hi
 match i with
 | 0 => decide
 | 1 => decide
 | 2 => decide
theorem many_at : ∀ i ∈ List.range 3,sinceB (many.getD i 0) i = true := of_decide_eq_true (by kernel_rfl)
theorem wk15 (ds : F.ds = []) (r1 : F.r 1 = ptr p1 0) (r2 : F.r 2 = ptr p2 0) (r3 : F.r 3 = ptr p3 0) (r7 : F.r 7 = ptr p7 0) (kp : Kp p1 p2 p3 p7 H) (hK : ∀ H,K (.bool true) H) :
  GK W0 Post n0 K [1,1,1,1,1,1,1,1,1,1,1,1,1] F H [] := by
 have hJ := J1.closed prog W0 Post
 unfold GK; rw [s3_15]
 refine ⟨⟨by decide,by decide,rfl⟩,fillO (l := [vint 0]) rfl rfl rfl (Nat.le_of_ble_eq_true (by kernel_rfl)) (fillO (l := [vint 1]) rfl rfl rfl (Nat.le_of_ble_eq_true (by kernel_rfl)) (fillO (l := [vint 3]) rfl rfl rfl (Nat.le_of_ble_eq_true (by kernel_rfl)) (fillI (qNew fun H1 p1' e1 S1 c1 l1 => ?_))))⟩
 refine ⟨⟨by decide,by decide,rfl⟩,fillO (l := [vint 0]) rfl rfl rfl (Nat.le_of_ble_eq_true (by kernel_rfl)) (fillO (l := [vint 1]) rfl rfl rfl (Nat.le_of_ble_eq_true (by kernel_rfl)) (fillO (l := [vint 2]) rfl rfl rfl (Nat.le_of_ble_eq_true (by kernel_rfl)) (fillI (qNew fun H2 p2' e2 S2 c2 l2 => ?_))))⟩
 refine l3_16 hJ (fun i : Nat => 3 - i) (fun i F' H' => i ≤ 3 ∧ F'.ds = [] ∧ Kp p1 p2 p3 p7 H' ∧ H'[p1']? = some (.cells (many.map vint) true 0) ∧ H'[p2']? = some (.cells ([0,1,2].map vint) true 0) ∧ F'.r 1 = ptr p1 0 ∧ F'.r 2 = ptr p2 0 ∧ F'.r 3 = ptr p3 0 ∧ F'.r 7 = ptr p7 0 ∧ F'.r 23 = .slice (some ⟨p1',0,none⟩) 3 3 ∧ F'.r 24 = .slice (some ⟨p2',0,none⟩) 3 3 ∧ F'.r 25 = vint (i : Nat)) ?_ (s := 0)
  (.inl ⟨by omega,ds,(kp.keep (Sm.of S1)).keep (Sm.of S2),S2.get c1 (by simp),c2,r1,r2,r3,r7,rfl,rfl,rfl⟩)
 rintro i F' H' ⟨hi,ds',kp',ca,cb,q1,q2,q3,q7,q23,q24,q25⟩ ok' hn'
 rw [s3_16]
 simp only [q1,q23,q24,q25]
 refine lssI (cndI (fun hlt => ?_) fun hge => ?_)
 ·have hi3 : i < 3 := by omega
  have hs := many_at i (List.mem_range.2 hi3)
  refine kp'.t1.ld fun cv nv ta => ?_
  refine idx_load (x := vint (many.getD i 0)) (sliI (l := many) ca rfl) ⟨by omega,by show (i : Int) < 3; omega⟩ (by rw [Int.toNat_natCast]; exact three i hi3 many rfl) fun pv => ?_
  refine good11' hJ ta ?_
  rw [since_ex (g := i) (many_nn i hi3) hs]
  refine ext0 (ext1 (neqI (cndI (fun h => absurd rfl h) fun _ => ?_)))
  refine idx_load (x := vint (([0,1,2] : List Int).getD i 0)) (sliI (l := [0,1,2]) cb rfl) ⟨by omega,by show (i : Int) < 3; omega⟩ (by rw [Int.toNat_natCast]; exact three i hi3 [0,1,2] rfl) fun pv => ?_
  have e3 : (([0,1,2] : List Int).getD i 0) = (i : Int) := idL i hi3
  rw [e3]
  refine neqI (hold.2 ?_)
  refine wk17 hi3 (by exact q25) (by show Value.bool (decide _) = _; rw [decide_eq_false (by simp)]) fun G gd gr gi => ⟨i + 1,by dsimp only; omega,.inl ⟨by omega,gd.trans ds',kp',ca,cb,(gr 1 (by decide) (by decide)).trans q1,(gr 2 (by decide) (by decide)).trans q2,(gr 3 (by decide) (by decide)).trans q3,(gr 7 (by decide) (by decide)).trans q7,(gr 23 (by decide) (by decide)).trans q23,(gr 24 (by decide) (by decide)).trans q24,gi⟩⟩
 ·exact hold.2 (wk18 ds' q1 q2 q3 q7 kp' hK)
theorem wk14 (ds : F.ds = []) (r1 : F.r 1 = ptr p1 0) (r2 : F.r 2 = ptr p2 0) (r3 : F.r 3 = ptr p3 0) (r7 : F.r 7 = ptr p7 0) (r165 : F.r 165 = .bool false) (kp : Kp p1 p2 p3 p7 H) (hK : ∀ H,K (.bool true) H) :
  GK W0 Post n0 K [1,1,1,1,1,1,1,1,1,1,1,1,0,1] F H [] := by
 unfold GK; rw [s3_14]
 simp only [r165]
 exact cnd_false.2 (hold.2 (wk15 ds r1 r2 r3 r7 kp hK))
theorem rngEq {a b : Int} (hk : KV (.bool false)) : aBin prog .neq 23 (.agg ⟨[vint a,vint b]⟩) (.agg ⟨[vint a,vint b]⟩) KV := by
 have ht := teqR2 ⟨a,b⟩ ⟨a,b⟩
 show aEq prog true 23 _ _ KV
 unfold aEq
 rw [show teq prog 10000 23 (.agg ⟨[vint a,vint b]⟩) (.agg ⟨[vint a,vint b]⟩) = some true from ht.trans (by simp)]
 exact ⟨by kernel_rfl,hk⟩
theorem wk13 (ds : F.ds = []) (r1 : F.r 1 = ptr p1 0) (r2 : F.r 2 = ptr p2 0) (r3 : F.r 3 = ptr p3 0) (r7 : F.r 7 = ptr p7 0) (r18 : F.r 18 = vint 11) (r20 : F.r 20 = vint 0) (r22 : F.r 22 = vint 0) {p19 p21 : Nat} (r19 : F.r 19 = ptr p19 0) (r21 : F.r 21 = ptr p21 0) (c19 : H[p19]? = some (.cells [vint 1,vint 4] true 0)) (c21 : H[p21]? = some (.cells [vint 1,vint 4] true 0)) (kp : Kp p1 p2 p3 p7 H) (hK : ∀ H,K (.bool true) H) :
  GK W0 Post n0 K [1,1,1,1,1,1,1,1,1,1,1,1] F H [] := by
 unfold GK; rw [s3_13]
 simp only [r18,r20,r22,r19,r21]
 refine neqI (cndI (fun h => absurd rfl h) fun _ => neqI (cndI (fun h => absurd rfl h) fun _ => neqI (cndI (fun h => absurd rfl h) fun _ => ?_)))
 refine load_part (c := [vint 1,vint 4]) c19 (by decide) rfl rfl ?_
 refine fillO (l := [vint 1]) rfl rfl rfl (by decide) (fillO (l := [vint 4]) rfl rfl rfl (by decide) (fillI (rngEq (cnd_false.2 ?_))))
 refine load_part (c := [vint 1,vint 4]) c21 (by decide) rfl rfl ?_
 refine load_part (c := [vint 1,vint 4]) c19 (by decide) rfl rfl ?_
 exact rngEq (hold.2 (wk14 ds r1 r2 r3 r7 rfl kp hK))
theorem wk12 (ds : F.ds = []) (r1 : F.r 1 = ptr p1 0) (r2 : F.r 2 = ptr p2 0) (r3 : F.r 3 = ptr p3 0) (r7 : F.r 7 = ptr p7 0) (r18 : F.r 18 = vint 11) (r20 : F.r 20 = vint 0) {p19 : Nat} (r19 : F.r 19 = ptr p19 0) (c19 : H[p19]? = some (.cells [vint 1,vint 4] true 0)) (kp : Kp p1 p2 p3 p7 H) (hK : ∀ H,K (.bool true) H) :
  GK W0 Post n0 K [1,1,1,1,1,1,1,1,1,1,1] F H [] := by
 have hJ := J1.closed prog W0 Post
 unfold GK; rw [s3_12]
 simp only [r1]
 refine kp.t1.ld fun cv nv ta => good10' hJ ta ?_
 rw [k_lost.2]
 refine ext0 (ext1 (qAl fun H1 p e1 S1 c1 l1 => qStA (c := [vint 1,vint 4]) c1 rfl rfl rfl fun H2 S2 c2 l2 => hold.2 ?_))
 have hp19 := lt_of_get c19
 have T : SameX [] H H2 := S1.newB S2 (by simp; omega)
 exact wk13 ds r1 r2 r3 r7 r18 r20 rfl r19 rfl (T.get c19 (by simp)) c2 (kp.keep (Sm.of T)) hK
theorem wk11 (ds : F.ds = []) (r1 : F.r 1 = ptr p1 0) (r2 : F.r 2 = ptr p2 0) (r3 : F.r 3 = ptr p3 0) (r7 : F.r 7 = ptr p7 0) (r18 : F.r 18 = vint 11) (kp : Kp p1 p2 p3 p7 H) (hK : ∀ H,K (.bool true) H) :
  GK W0 Post n0 K [1,1,1,1,1,1,1,1,1,1] F H [] := by
 have hJ := J1.closed prog W0 Post
 unfold GK; rw [s3_11]
 simp only [r1]
 refine kp.t1.ld fun cv nv ta => good10' hJ ta ?_
 rw [k_lost.1]
 refine ext0 (ext1 (qAl fun H1 p e1 S1 c1 l1 => qStA (c := [vint 1,vint 4]) c1 rfl rfl rfl fun H2 S2 c2 l2 => hold.2 ?_))
 have T : SameX [] H H2 := S1.newB S2 (by simp; omega)
 exact wk12 ds r1 r2 r3 r7 r18 rfl rfl c2 (kp.keep (Sm.of T)) hK
theorem wk10 (ds : F.ds = []) (r1 : F.r 1 = ptr p1 0) (r2 : F.r 2 = ptr p2 0) (r3 : F.r 3 = ptr p3 0) (r7 : F.r 7 = ptr p7 0) (kp : Kp p1 p2 p3 p7 H) (hK : ∀ H,K (.bool true) H) :
  GK W0 Post n0 K [1,1,1,1,1,1,1,1,1] F H [] := by
 have hJ := J1.closed prog W0 Post
 unfold GK; rw [s3_10]
 simp only [r2]
 refine kp.t2.ld fun cv nv ta => good9' hJ ta fun w H1 S1 sw => ?_
 rw [k_truly]
 exact ext0 (ext1 (hold.2 (wk11 ds r1 r2 r3 r7 rfl (kp.keep (Sm.of S1)) hK)))
theorem wk9 {nx0 : RG → List AObj → Prop} {i : Nat} (hi : i < 3) (ri : F.r 14 = vint (i : Nat)) (rb : F.r 130 = .bool false) (hn : ∀ F',F'.ds = F.ds → (∀ j,j < 26 → j ≠ 14 → F'.r j = F.r j) → F'.r 14 = vint ((i + 1 : Nat) : Int) → nx0 F' H) :
  GK W0 Post n0 K [1,1,1,1,1,1,1,1,0,1,0,0,1,0,0,1,1] F H [nx0] := by
 unfold GK; rw [s3_9]
 simp only [ri,rb]
 refine cnd_false.2 (addI (by omega) (hn _ rfl (fun j hj hne => ?_) rfl))
 show RG.r (RG.p (RG.p (RG.p F _ _) _ _) 14 _) j = F.r j
 rw [rput_ne (by omega),rput_ne (by omega),rput_ne (by omega)]
def numbs : List Int := [102,100,97]
def verds : List Int := [1,3,2]
theorem told_at : ∀ i,i < 3 → toldP exT (i : Nat) (numbs.getD i 0) = (verds.getD i 0,0) := by
 intro i hi
 match i with
 | 0 => rw [told_ex (by decide) (by decide)]; show (verdict (bkR exT (limA exT 0) 0) 102,(0 : Int)) = _; rw [k_ver.1]; rfl
 | 1 => rw [told_ex (by decide) (by decide)]; show (verdict (bkR exT (limA exT 0) 1) 100,(0 : Int)) = _; rw [k_ver.2.1]; rfl
 | 2 => rw [told_ex (by decide) (by decide)]; show (verdict (bkR exT (limA exT 0) 2) 97,(0 : Int)) = _; rw [k_ver.2.2]; rfl
theorem wk7 (ds : F.ds = []) (r1 : F.r 1 = ptr p1 0) (r2 : F.r 2 = ptr p2 0) (r3 : F.r 3 = ptr p3 0) (r7 : F.r 7 = ptr p7 0) (kp : Kp p1 p2 p3 p7 H) (hK : ∀ H,K (.bool true) H) :
  GK W0 Post n0 K [1,1,1,1,1,1,1] F H [] := by
 have hJ := J1.closed prog W0 Post
 unfold GK; rw [s3_7]
 refine ⟨⟨by decide,by decide,rfl⟩,fillO (l := [vint 102]) rfl rfl rfl (Nat.le_of_ble_eq_true (by kernel_rfl)) (fillO (l := [vint 100]) rfl rfl rfl (Nat.le_of_ble_eq_true (by kernel_rfl)) (fillO (l := [vint 97]) rfl rfl rfl (Nat.le_of_ble_eq_true (by kernel_rfl)) (fillI (qNew fun H1 p1' e1 S1 c1 l1 => ?_))))⟩
 refine ⟨⟨by decide,by decide,rfl⟩,fillO (l := [vint 1]) rfl rfl rfl (Nat.le_of_ble_eq_true (by kernel_rfl)) (fillO (l := [vint 3]) rfl rfl rfl (Nat.le_of_ble_eq_true (by kernel_rfl)) (fillO (l := [vint 2]) rfl rfl rfl (Nat.le_of_ble_eq_true (by kernel_rfl)) (fillI (qNew fun H2 p2' e2 S2 c2 l2 => ?_))))⟩
 refine l3_8 hJ (fun i : Nat => 3 - i) (fun i F' H' => i ≤ 3 ∧ F'.ds = [] ∧ Kp p1 p2 p3 p7 H' ∧ H'[p1']? = some (.cells (numbs.map vint) true 0) ∧ H'[p2']? = some (.cells (verds.map vint) true 0) ∧ F'.r 1 = ptr p1 0 ∧ F'.r 2 = ptr p2 0 ∧ F'.r 3 = ptr p3 0 ∧ F'.r 7 = ptr p7 0 ∧ F'.r 12 = .slice (some ⟨p1',0,none⟩) 3 3 ∧ F'.r 13 = .slice (some ⟨p2',0,none⟩) 3 3 ∧ F'.r 14 = vint (i : Nat)) ?_ (s := 0)
  (.inl ⟨by omega,ds,(kp.keep (Sm.of S1)).keep (Sm.of S2),S2.get c1 (by simp),c2,r1,r2,r3,r7,rfl,rfl,rfl⟩)
 rintro i F' H' ⟨hi,ds',kp',ca,cb,q1,q2,q3,q7,q12,q13,q14⟩ ok' hn'
 rw [s3_8]
 simp only [q1,q12,q13,q14]
 refine lssI (cndI (fun hlt => ?_) fun hge => ?_)
 ·have hi3 : i < 3 := by omega
  refine kp'.t1.ld fun cv nv ta => ?_
  refine idx_load (x := vint (numbs.getD i 0)) (sliI (l := numbs) ca rfl) ⟨by omega,by show (i : Int) < 3; omega⟩ (by rw [Int.toNat_natCast]; exact three i hi3 numbs rfl) fun pv => ?_
  refine good8' hJ ta ?_
  rw [told_at i hi3]
  refine ext0 (ext1 (neqI (cndI (fun h => absurd rfl h) fun _ => ?_)))
  refine idx_load (x := vint (verds.getD i 0)) (sliI (l := verds) cb rfl) ⟨by omega,by show (i : Int) < 3; omega⟩ (by rw [Int.toNat_natCast]; exact three i hi3 verds rfl) fun pv => ?_
  refine neqI (hold.2 ?_)
  refine wk9 hi3 (by exact q14) (by show Value.bool (decide _) = _; rw [decide_eq_false (by simp)]) fun G gd gr gi => ⟨i + 1,by dsimp only; omega,.inl ⟨by omega,gd.trans ds',kp',ca,cb,(gr 1 (by decide) (by decide)).trans q1,(gr 2 (by decide) (by decide)).trans q2,(gr 3 (by decide) (by decide)).trans q3,(gr 7 (by decide) (by decide)).trans q7,(gr 12 (by decide) (by decide)).trans q12,(gr 13 (by decide) (by decide)).trans q13,gi⟩⟩
 ·exact hold.2 (wk10 ds' q1 q2 q3 q7 kp' hK)
theorem wk6 {nx0 : RG → List AObj → Prop} {i : Nat} (hi : i < 3) (ri : F.r 9 = vint (i : Nat)) (rb : F.r 104 = .bool false) (hn : ∀ F',F'.ds = F.ds → (∀ j,j < 26 → j ≠ 9 → F'.r j = F.r j) → F'.r 9 = vint ((i + 1 : Nat) : Int) → nx0 F' H) :
  GK W0 Post n0 K [1,1,1,1,1,1,0,1,0,0,1,0,0,1,1] F H [nx0] := by
 unfold GK; rw [s3_6]
 simp only [ri,rb]
 refine cnd_false.2 (addI (by omega) (hn _ rfl (fun j hj hne => ?_) rfl))
 show RG.r (RG.p (RG.p (RG.p F _ _) _ _) 9 _) j = F.r j
 rw [rput_ne (by omega),rput_ne (by omega),rput_ne (by omega)]
def readR : List Rng := [⟨102,102⟩,⟨100,101⟩,⟨94,96⟩]
theorem reads_at : ∀ i,(hi : i < 3) → (readsO (exT.counts[i]'hi)).cells = (readR[i]'hi).cells ∧ cntErr (exT.counts[i]'hi) 5 = 0 := by
 intro i hi
 match i with
 | 0 => exact ⟨congrArg Rng.cells (show readsO (exT.counts[0]'(by decide)) = readR[0]'(by decide) from by decide +kernel),show cntErr (exT.counts[0]'(by decide)) 5 = 0 from by decide +kernel⟩
 | 1 => exact ⟨congrArg Rng.cells (show readsO (exT.counts[1]'(by decide)) = readR[1]'(by decide) from by decide +kernel),show cntErr (exT.counts[1]'(by decide)) 5 = 0 from by decide +kernel⟩
 | 2 => exact ⟨congrArg Rng.cells (show readsO (exT.counts[2]'(by decide)) = readR[2]'(by decide) from by decide +kernel),show cntErr (exT.counts[2]'(by decide)) 5 = 0 from by decide +kernel⟩
theorem wk4 (ds : F.ds = []) (r1 : F.r 1 = ptr p1 0) (r2 : F.r 2 = ptr p2 0) (r3 : F.r 3 = ptr p3 0) (r7 : F.r 7 = ptr p7 0) (kp : Kp p1 p2 p3 p7 H) (hK : ∀ H,K (.bool true) H) :
  GK W0 Post n0 K [1,1,1,1,1] F H [] := by
 have hJ := J1.closed prog W0 Post
 unfold GK; rw [s3_4]
 refine fillO (l := [vint 102]) rfl rfl rfl (by decide) (fillO (l := [vint 102]) rfl rfl rfl (by decide) (fillI (fillO (l := [vint 100]) rfl rfl rfl (by decide) (fillO (l := [vint 101]) rfl rfl rfl (by decide) (fillI (fillO (l := [vint 94]) rfl rfl rfl (by decide) (fillO (l := [vint 96]) rfl rfl rfl (by decide) (fillI ?_))))))))
 refine ⟨⟨by decide,by decide,rfl⟩,fillO (l := [vint 102,vint 102]) rfl rfl rfl (Nat.le_of_ble_eq_true (by kernel_rfl)) (fillO (l := [vint 100,vint 101]) rfl rfl rfl (Nat.le_of_ble_eq_true (by kernel_rfl)) (fillO (l := [vint 94,vint 96]) rfl rfl rfl (Nat.le_of_ble_eq_true (by kernel_rfl)) (fillI (qNew fun H1 p1' e1 S1 c1 l1 => ?_))))⟩
 have c1 : H1[p1']? = some (.cells (readR.flatMap Rng.cells) true 0) := c1
 refine l3_5 hJ (fun i : Nat => 3 - i) (fun i F' H' => i ≤ 3 ∧ F'.ds = [] ∧ Kp p1 p2 p3 p7 H' ∧ H'[p1']? = some (.cells (readR.flatMap Rng.cells) true 0) ∧ F'.r 1 = ptr p1 0 ∧ F'.r 2 = ptr p2 0 ∧ F'.r 3 = ptr p3 0 ∧ F'.r 7 = ptr p7 0 ∧ F'.r 8 = .slice (some ⟨p1',0,none⟩) 3 3 ∧ F'.r 9 = vint (i : Nat)) ?_ (s := 0)
  (.inl ⟨by omega,ds,kp.keep (Sm.of S1),c1,r1,r2,r3,r7,rfl,rfl⟩)
 rintro i F' H' ⟨hi,ds',kp',ca,q1,q2,q3,q7,q8,q9⟩ ok' hn'
 rw [s3_5]
 simp only [q1,q8,q9]
 refine lssI (cndI (fun hlt => ?_) fun hge => ?_)
 ·have hi3 : i < 3 := by omega
  obtain ⟨e1',e2'⟩ := reads_at i hi3
  obtain ⟨cv,nv,b1,ta⟩ := kp'.t1
  refine offI (ldI b1 rfl (sli_one ta.co).2.2 ?_)
  refine idx_loadA (enc := Cnt.cells) (xs := exT.counts) (s := 4) ta.co (fun r => cnt_len r) (by decide) hi3 fun pv => ?_
  refine good7' hJ (c := exT.counts[i]'hi3) ?_
  rw [e1',e2']
  refine ext0 (ext1 (qAl fun H2 p e2 S2 c2 l2 => qStA (c := (readR[i]'hi3).cells) c2 rfl rfl rfl fun H3 S3 c3 l3 => ?_))
  have T : SameX [] H' H3 := S2.newB S3 (by simp; omega)
  refine neqI (cndI (fun h => absurd rfl h) fun _ => ?_)
  refine load_part (c := (readR[i]'hi3).cells) c3 (by rw [rng_len]; omega) rfl rfl ?_
  have sr : SliE H3 (.slice (some ⟨p1',0,none⟩) 3 3) 2 Rng.cells readR := ⟨_,_,rfl,⟨rfl,rfl⟩,.inr ⟨p1',0,rfl,.inr ⟨_,true,0,T.get ca (by simp),rfl⟩⟩⟩
  refine idx_loadA (enc := Rng.cells) (xs := readR) (s := 2) sr (fun r => rng_len r) (by decide) hi3 fun pv => ?_
  refine rngEq (hold.2 ?_)
  refine wk6 hi3 (by exact q9) rfl fun G gd gr gi => ⟨i + 1,by dsimp only; omega,.inl ⟨by omega,gd.trans ds',kp'.keep (Sm.of T),T.get ca (by simp),(gr 1 (by decide) (by decide)).trans q1,(gr 2 (by decide) (by decide)).trans q2,(gr 3 (by decide) (by decide)).trans q3,(gr 7 (by decide) (by decide)).trans q7,(gr 8 (by decide) (by decide)).trans q8,gi⟩⟩
 ·exact hold.2 (wk7 ds' q1 q2 q3 q7 kp' hK)
theorem wk3 (ds : F.ds = []) (r1 : F.r 1 = ptr p1 0) (r2 : F.r 2 = ptr p2 0) (r3 : F.r 3 = ptr p3 0) (r7 : F.r 7 = ptr p7 0) (r77 : F.r 77 = .bool false) (kp : Kp p1 p2 p3 p7 H) (hK : ∀ H,K (.bool true) H) :
  GK W0 Post n0 K [1,1,1,1,0,1] F H [] := by
 unfold GK; rw [s3_3]
 simp only [r77]
 exact cnd_false.2 (hold.2 (wk4 ds r1 r2 r3 r7 kp hK))
theorem wk2 {p4 p5 p6 : Nat} (ds : F.ds = []) (r1 : F.r 1 = ptr p1 0) (r2 : F.r 2 = ptr p2 0) (r3 : F.r 3 = ptr p3 0) (r7 : F.r 7 = ptr p7 0) (r4 : F.r 4 = ptr p4 0) (r5 : F.r 5 = ptr p5 0) (r6 : F.r 6 = ptr p6 0) (t4 : TB H p4 exG) (t5 : TB H p5 exM) (t6 : TB H p6 exO) (kp : Kp p1 p2 p3 p7 H) (hK : ∀ H,K (.bool true) H) :
  GK W0 Post n0 K [1,1,1,1] F H [] := by
 have hJ := J1.closed prog W0 Post
 unfold GK; rw [s3_2]
 simp only [r1,r4,r5,r6]
 refine good5 hJ (notI (cnd_false.2 ?_))
 refine kp.t1.ld fun cv nv ta => good6 hJ ta ?_
 rw [k_err.1]
 refine neqI (cndI (fun h => absurd rfl h) fun _ => ?_)
 refine t4.ld fun cv nv ta => good6 hJ ta ?_
 rw [k_err.2.1]
 refine neqI (cndI (fun h => absurd rfl h) fun _ => ?_)
 refine t5.ld fun cv nv ta => good6 hJ ta ?_
 rw [k_err.2.2.1]
 refine neqI (cndI (fun h => absurd rfl h) fun _ => ?_)
 refine t6.ld fun cv nv ta => good6 hJ ta ?_
 rw [k_err.2.2.2.1]
 exact neqI (hold.2 (wk3 ds r1 r2 r3 r7 rfl kp hK))
end
section
variable {main : Bool} {J : JT} {W0 : World} {Post : Value → World → Prop} {h H A g : List AObj} {K : Value → List AObj → Prop} {n0 : Nat} {F : RG} {KV : Value → Prop}
theorem bNew {n : Nat} {l : List Value} (hk : K (.slice (some ⟨A.length + g.length,0,none⟩) n n) (A ++ (g ++ [.cells l true 0]))) : aNewS n l (A ++ g) K := by
 unfold aNewS
 rw [List.length_append,List.append_assoc]
 exact hk
def agC (a : Nat) (t : Tal) (i j : Nat) : List Value := talCells t (.slice (some ⟨a + i,0,none⟩) 2 2) (.slice (some ⟨a + j,0,none⟩) 3 3)
def chO (t : Tal) : AObj := .cells (t.changes.flatMap Rng.cells) true 0
def coO (t : Tal) : AObj := .cells (t.counts.flatMap Cnt.cells) true 0
theorem good4 (hJ : Closed prog main J) {n e : Int} (hK : K (.agg ⟨agC H.length (exN n e) 1 2⟩) (H ++ [.cells (agC H.length (exN n e) 1 2) true 0,chO (exN n e),coO (exN n e)])) : Good prog J 4 [vint n,vint e] H K := by
 refine g4 hJ fun ok => ?_
 rw [e4]
 have A0 : ∀ {l : List Value} {KK : Value → List AObj → Prop},KK (ptr (H.length + 0) 0) (H ++ [.cells l true 0]) → aAlloc l H KK := fun hk => hk
 refine A0 ?_
 refine fillO (l := [vint (100)]) rfl rfl rfl (Nat.le_of_ble_eq_true (by kernel_rfl)) (fillO (l := [vint (104)]) rfl rfl rfl (Nat.le_of_ble_eq_true (by kernel_rfl)) (fillI (?_)))
 refine fillO (l := [vint (2)]) rfl rfl rfl (Nat.le_of_ble_eq_true (by kernel_rfl)) (fillI (?_))
 refine fillO (l := [vint (-3)]) rfl rfl rfl (Nat.le_of_ble_eq_true (by kernel_rfl)) (fillO (l := [vint (-1)]) rfl rfl rfl (Nat.le_of_ble_eq_true (by kernel_rfl)) (fillI (?_)))
 refine ⟨⟨by decide,by decide,rfl⟩,fillO (l := [vint (0),vint (2)]) rfl rfl rfl (Nat.le_of_ble_eq_true (by kernel_rfl)) (fillO (l := [vint (-3),vint (-1)]) rfl rfl rfl (Nat.le_of_ble_eq_true (by kernel_rfl)) (fillI (bNew ?_)))⟩
 refine fillO (l := [vint (1)]) rfl rfl rfl (Nat.le_of_ble_eq_true (by kernel_rfl)) (fillO (l := [vint (102)]) rfl rfl rfl (Nat.le_of_ble_eq_true (by kernel_rfl)) (fillI (?_)))
 refine fillO (l := [vint (1)]) rfl rfl rfl (Nat.le_of_ble_eq_true (by kernel_rfl)) (fillO (l := [vint (2)]) rfl rfl rfl (Nat.le_of_ble_eq_true (by kernel_rfl)) (fillO (l := [vint n]) rfl rfl rfl (Nat.le_of_ble_eq_true (by kernel_rfl)) (fillO (l := [vint e]) rfl rfl rfl (Nat.le_of_ble_eq_true (by kernel_rfl)) (fillI (?_)))))
 refine fillO (l := [vint (2)]) rfl rfl rfl (Nat.le_of_ble_eq_true (by kernel_rfl)) (fillO (l := [vint (1)]) rfl rfl rfl (Nat.le_of_ble_eq_true (by kernel_rfl)) (fillO (l := [vint (95)]) rfl rfl rfl (Nat.le_of_ble_eq_true (by kernel_rfl)) (fillO (l := [vint (2)]) rfl rfl rfl (Nat.le_of_ble_eq_true (by kernel_rfl)) (fillI (?_)))))
 refine ⟨⟨by decide,by decide,rfl⟩,fillO (l := [vint (0),vint (1),vint (102),vint (0)]) rfl rfl rfl (Nat.le_of_ble_eq_true (by kernel_rfl)) (fillO (l := [vint 1,vint 2,vint n,vint e]) rfl rfl rfl (Nat.le_of_ble_eq_true (by kernel_rfl)) (fillO (l := [vint (2),vint (1),vint (95),vint (2)]) rfl rfl rfl (Nat.le_of_ble_eq_true (by kernel_rfl)) (fillI (bNew ?_))))⟩
 refine fillO (l := [vint (3)]) rfl rfl rfl (Nat.le_of_ble_eq_true (by kernel_rfl)) (fillO (l := [vint (100),vint (104)]) rfl rfl rfl (Nat.le_of_ble_eq_true (by kernel_rfl)) (fillO (l := [.slice (some ⟨H.length + 1,0,none⟩) 2 2]) rfl rfl rfl (Nat.le_of_ble_eq_true (by kernel_rfl)) (fillO (l := [vint (4)]) rfl rfl rfl (Nat.le_of_ble_eq_true (by kernel_rfl)) (fillO (l := [.slice (some ⟨H.length + 2,0,none⟩) 3 3]) rfl rfl rfl (Nat.le_of_ble_eq_true (by kernel_rfl)) (fillI (?_))))))
 refine bStA (i := 0) (c := agC H.length (exN n e) 1 2) rfl rfl rfl rfl ?_
 refine retQ_same rfl (resW_cell (gg := true) (s := 6) (by kernel_rfl) ?_)
 show aLoad true 6 (ptr (H.length + 0) 0) _ _
 exact bLdA (i := 0) (c := agC H.length (exN n e) 1 2) rfl (by show 0 + 6 ≤ 6; omega) rfl rfl (resW_nil hK)
theorem tlX (hJ : Closed prog main J) {n e : Int} {i : Nat} (hi : g.length = i) (hK : K (.agg ⟨agC A.length (exN n e) (i + 1) (i + 2)⟩) (A ++ (g ++ [.cells (agC A.length (exN n e) (i + 1) (i + 2)) true 0,chO (exN n e),coO (exN n e)]))) : Good prog J 4 [vint n,vint e] (A ++ g) K := by
 subst hi
 refine good4 hJ ?_
 have e1 : agC (A ++ g).length (exN n e) 1 2 = agC A.length (exN n e) (g.length + 1) (g.length + 2) := by
  unfold agC
  rw [List.length_append,Nat.add_assoc,Nat.add_assoc]
 rw [e1,List.append_assoc]
 exact hK
def gA (a : Nat) : List AObj := [
 .cells (agC a exT 1 2) true 0,chO exT,coO exT,.cells (agC a (exN 97 0) 4 5) true 0,chO (exN 97 0),coO (exN 97 0),.cells (agC a (exN 90 0) 7 8) true 0,chO (exN 90 0),coO (exN 90 0),
 .cells (agC a exT 1 2) true 0,.cells (agC a (exN 97 0) 4 5) true 0,.cells (agC a (exN 90 0) 7 8) true 0,
 .cells (agC a exT 13 14) true 0,chO exT,coO exT,.cells (agC a exT 16 17) true 0,chO exT,coO exT,.cells (agC a exT 19 20) true 0,chO exT,coO exT,.cells (agC a exT 22 23) true 0,chO exT,coO exT,
 .cells (agC a exT 13 14) true 0,.cells (agC a exT 16 17) true 0,.cells (agC a exT 19 20) true 0,.cells (agC a exT 22 23) true 0]
def gB (a : Nat) : List AObj := ((((gA a).set 24 (.cells (agC a exG 13 14) true 0)).set 17 (coO exM)).set 26 (.cells (agC a exO 19 20) true 0)).set 27 (.cells (talCells exL (.slice (some ⟨a + 22,0,none⟩) 2 2) (.slice (some ⟨a + 23,0,none⟩) 1 3)) true 0)
theorem tb3 {i j k : Nat} {t : Tal} (hi : g[i]? = some (.cells (agC A.length t j k) true 0)) (hj : g[j]? = some (chO t)) (hk : g[k]? = some (coO t)) (h2 : t.changes.length = 2) (h3 : t.counts.length = 3) : TB (A ++ g) (A.length + i) t := by
 have hl : ∀ l : List Rng,(l.flatMap Rng.cells).length = l.length * 2 := fun l => by
  induction l with
  | nil => rfl
  | cons d l ih => rw [List.flatMap_cons,List.length_append,ih,List.length_cons]; simp [Rng.cells]; omega
 have hl2 : ∀ l : List Cnt,(l.flatMap Cnt.cells).length = l.length * 4 := fun l => by
  induction l with
  | nil => rfl
  | cons d l ih => rw [List.flatMap_cons,List.length_append,ih,List.length_cons]; simp [Cnt.cells]; omega
 have kn1' : ∀ l : List Rng,kn (l.flatMap Rng.cells) = true := fun l => by
  unfold kn
  rw [List.all_eq_true]
  intro v hv
  obtain ⟨r,_,hv⟩ := List.mem_flatMap.1 hv
  simp [Rng.cells] at hv
  rcases hv with rfl | rfl <;> rfl
 have kn2' : ∀ l : List Cnt,kn (l.flatMap Cnt.cells) = true := fun l => by
  unfold kn
  rw [List.all_eq_true]
  intro v hv
  obtain ⟨r,_,hv⟩ := List.mem_flatMap.1 hv
  simp [Cnt.cells] at hv
  rcases hv with rfl | rfl | rfl | rfl <;> rfl
 exact tb_mk (a := A.length + j) (b := A.length + k) (cs := t.counts.flatMap Cnt.cells) (by rw [back_get]; exact hi) (by rw [back_get]; exact hj) (by rw [back_get]; exact hk) h2 h3 (List.take_of_length_le (by rw [hl2,h3]; omega)) (by rw [hl,h2]) (by rw [hl2,h3]) (kn1' _) (kn2' _)
theorem slL {b : Nat} (hk : KV (.slice (some ⟨b,0,none⟩) 1 3)) : aSl2 4 (.slice (some ⟨b,0,none⟩) 3 3) none (some (vint 1)) H KV := by
 show (0 ≤ 1) ∧ ((3 < fz → 1 ≤ 3 ∧ KV (.slice (some ⟨b,bif Nat.beq 3 0 then 0 else 0 + 0 * 4,none⟩) (1 - 0) (3 - 0))) ∧ _)
 exact ⟨by omega,fun _ => ⟨by omega,hk⟩,fun h => absurd h (by decide)⟩
theorem wk1 (hG : PowAt h) (ds : F.ds = []) (r1 : F.r 1 = ptr (h.length + 9) 0) (r2 : F.r 2 = ptr (h.length + 10) 0) (r3 : F.r 3 = ptr (h.length + 11) 0) (r4 : F.r 4 = ptr (h.length + 24) 0) (r5 : F.r 5 = ptr (h.length + 25) 0) (r6 : F.r 6 = ptr (h.length + 26) 0) (r7 : F.r 7 = ptr (h.length + 27) 0) (hK : ∀ H,K (.bool true) H) :
  W prog (J1 prog W0 Post) 331 n0 3 (subC [1,1,1] (codeOf f3)) F (h ++ gA h.length) (contX pl3 prog (J1 prog W0 Post) 331 n0 3 ct3 [1,1,1] (codeOf f3) [] (RetQ prog [.tmp 0] n0 K)) := by
 rw [s3_1]
 simp only [r4,r5,r6,r7]
 have fin : ∀ F' : RG,F'.ds = [] → F'.r 1 = F.r 1 → F'.r 2 = F.r 2 → F'.r 3 = F.r 3 → F'.r 4 = F.r 4 → F'.r 5 = F.r 5 → F'.r 6 = F.r 6 → F'.r 7 = F.r 7 → W prog (J1 prog W0 Post) 331 n0 3 (subC [1,1,1,1] (codeOf f3)) F' (h ++ gB h.length) (contX pl3 prog (J1 prog W0 Post) 331 n0 3 ct3 [1,1,1,1] (codeOf f3) [] (RetQ prog [.tmp 0] n0 K)) := by
  intro F' ds' q1 q2 q3 q4 q5 q6 q7
  refine wk2 (p1 := h.length + 9) (p2 := h.length + 10) (p3 := h.length + 11) (p7 := h.length + 27) (p4 := h.length + 24) (p5 := h.length + 25) (p6 := h.length + 26) ds' (q1.trans r1) (q2.trans r2) (q3.trans r3) (q7.trans r7) (q4.trans r4) (q5.trans r5) (q6.trans r6)
   (tb3 (j := 13) (k := 14) rfl rfl rfl rfl rfl) (tb3 (j := 16) (k := 17) rfl rfl rfl rfl rfl) (tb3 (j := 19) (k := 20) rfl rfl rfl rfl rfl)
   ⟨tb3 (j := 1) (k := 2) rfl rfl rfl rfl rfl,tb3 (j := 4) (k := 5) rfl rfl rfl rfl rfl,tb3 (j := 7) (k := 8) rfl rfl rfl rfl rfl,?_,(List.getElem?_append_left (lt_of_get hG)).trans hG⟩ hK
  exact tb_mk (a := h.length + 22) (b := h.length + 23) (cs := exT.counts.flatMap Cnt.cells) (by rw [back_get]; rfl) (by rw [back_get]; rfl) (by rw [back_get]; rfl) rfl rfl rfl rfl rfl rfl rfl
 have sb : ∀ {g' : List AObj},g'[25]? = (gA h.length)[25]? → g'[27]? = (gA h.length)[27]? → SameB (some ([25,27].map fun i => h.length + i)) (h ++ gA h.length) (h ++ g') := fun {g'} e1 e2 => bSame fun i hi => by
  simp at hi
  rcases hi with rfl | rfl
  ·exact e1
  ·exact e2
 refine ⟨[25,27].map fun i => h.length + i,offI (bLd (i := 25) (o := 5) (v := .slice (some ⟨h.length + 17,0,none⟩) 3 3) rfl rfl rfl ⟨bRd (by decide),?_⟩)⟩
 refine fillO (l := [vint (104)]) rfl rfl rfl (Nat.le_of_ble_eq_true (by kernel_rfl)) (fillO (l := [vint (100)]) rfl rfl rfl (Nat.le_of_ble_eq_true (by kernel_rfl)) (fillI (offI (bLd (i := 27) (o := 5) (v := .slice (some ⟨h.length + 23,0,none⟩) 3 3) rfl rfl rfl ⟨bRd (by decide),offI ?_⟩))))
 have S1 : ∀ {HL : List AObj → Prop},HL (h ++ (gA h.length).set 24 (.cells (agC h.length exG 13 14) true 0)) → aStore 1 (ptr (h.length + 24) 0) (vint 4) (h ++ gA h.length) HL := fun hk => bSt (i := 24) (o := 0) rfl (by show 0 < 6; omega) rfl rfl hk
 have S2 : ∀ {HL : List AObj → Prop},HL (h ++ ((gA h.length).set 24 (.cells (agC h.length exG 13 14) true 0)).set 17 (coO exM)) → aStore 1 (ptr (h.length + 17) 1) (vint 0) (h ++ (gA h.length).set 24 (.cells (agC h.length exG 13 14) true 0)) HL := fun hk => bSt (i := 17) (o := 1) (c := exT.counts.flatMap Cnt.cells) rfl (by show 1 < 12; omega) rfl rfl hk
 have S3 : ∀ {HL : List AObj → Prop},HL (h ++ (((gA h.length).set 24 (.cells (agC h.length exG 13 14) true 0)).set 17 (coO exM)).set 26 (.cells (agC h.length exO 19 20) true 0)) → aStore 2 (ptr (h.length + 26) 1) (.agg ⟨[vint 104,vint 100]⟩) (h ++ ((gA h.length).set 24 (.cells (agC h.length exG 13 14) true 0)).set 17 (coO exM)) HL := fun hk => bSt2 (i := 26) (o := 1) (c := agC h.length exT 19 20) rfl (by show 1 + 2 ≤ 6; omega) rfl rfl hk
 have S4 : ∀ {HL : List AObj → Prop},HL (h ++ gB h.length) → aStore 1 (ptr (h.length + 27) 5) (.slice (some ⟨h.length + 23,0,none⟩) 1 3) (h ++ (((gA h.length).set 24 (.cells (agC h.length exG 13 14) true 0)).set 17 (coO exM)).set 26 (.cells (agC h.length exO 19 20) true 0)) HL := fun hk => bSt (i := 27) (o := 5) (c := agC h.length exT 22 23) rfl (by show 5 < 6; omega) rfl rfl hk
 have IX : ∀ {KV : Value → Prop},KV (ptr (h.length + 17) 0) → aIdx 4 (.slice (some ⟨h.length + 17,0,none⟩) 3 3) (vint 0) KV := fun hk => idxI ⟨by decide,by decide⟩ hk
 refine ⟨slL ⟨fun _ _ => rfl,S1 ⟨sb rfl rfl,IX (offI (S2 ⟨sb rfl rfl,offI (S3 ⟨sb rfl rfl,offI (S4 (hold.2 (fin _ ds rfl rfl rfl rfl rfl rfl rfl)))⟩)⟩))⟩⟩,S1 ⟨sb rfl rfl,IX (offI ⟨slL ⟨sb rfl rfl,S2 ⟨sb rfl rfl,offI (S3 ⟨sb rfl rfl,offI (S4 (hold.2 (fin _ ds rfl rfl rfl rfl rfl rfl rfl)))⟩)⟩⟩,S2 ⟨sb rfl rfl,offI ⟨slL ⟨sb rfl rfl,S3 ⟨sb rfl rfl,offI (S4 (hold.2 (fin _ ds rfl rfl rfl rfl rfl rfl rfl)))⟩⟩,S3 ⟨sb rfl rfl,slL ⟨sb rfl rfl,offI (S4 (hold.2 (fin _ ds rfl rfl rfl rfl rfl rfl rfl)))⟩⟩⟩⟩⟩)⟩⟩
theorem bAlE {l : List Value} {g' : List AObj} {i : Nat} (hi : g.length = i) (hg : g ++ [.cells l true 0] = g') (hk : K (ptr (A.length + i) 0) (A ++ g')) : aAlloc l (A ++ g) K := by
 subst hi hg
 exact bAl hk
theorem bStE {i : Nat} {c : List Value} {g' : List AObj} {HL : List AObj → Prop} (hb : g[i]? = some (.cells [vint 0,vint 0,vint 0,.slice none 0 0,vint 0,.slice none 0 0] true 0)) (hc : c.length = 6 ∧ c.all one = true) (hg : g.set i (.cells c true 0) = g') (hk : HL (A ++ g')) : aStore 6 (ptr (A.length + i) 0) (.agg ⟨c⟩) (A ++ g) HL := by
 subst hg
 exact bStA hb hc.1 rfl hc.2 hk
theorem tl0 (hJ : Closed prog main J) {n e : Int} {g' : List AObj} (hg : [.cells (agC A.length (exN n e) 1 2) true 0,chO (exN n e),coO (exN n e)] = g') (hK : K (.agg ⟨agC A.length (exN n e) 1 2⟩) (A ++ g')) : Good prog J 4 [vint n,vint e] A K := by
 subst hg
 exact good4 hJ hK
theorem tlE (hJ : Closed prog main J) {n e : Int} {i : Nat} {g' : List AObj} (hi : g.length = i) (hg : g ++ [.cells (agC A.length (exN n e) (i + 1) (i + 2)) true 0,chO (exN n e),coO (exN n e)] = g') (hK : K (.agg ⟨agC A.length (exN n e) (i + 1) (i + 2)⟩) (A ++ g')) : Good prog J 4 [vint n,vint e] (A ++ g) K := by
 subst hg
 exact tlX hJ hi hK
def gg0 (a : Nat) : List AObj := [.cells (agC a exT 1 2) true 0,chO exT,coO exT]
def gg1 (a : Nat) : List AObj := [.cells (agC a exT 1 2) true 0,chO exT,coO exT,.cells (agC a (exN 97 0) 4 5) true 0,chO (exN 97 0),coO (exN 97 0)]
def gg2 (a : Nat) : List AObj := [.cells (agC a exT 1 2) true 0,chO exT,coO exT,.cells (agC a (exN 97 0) 4 5) true 0,chO (exN 97 0),coO (exN 97 0),.cells (agC a (exN 90 0) 7 8) true 0,chO (exN 90 0),coO (exN 90 0)]
def gg3 (a : Nat) : List AObj := [.cells (agC a exT 1 2) true 0,chO exT,coO exT,.cells (agC a (exN 97 0) 4 5) true 0,chO (exN 97 0),coO (exN 97 0),.cells (agC a (exN 90 0) 7 8) true 0,chO (exN 90 0),coO (exN 90 0),.cells [vint 0,vint 0,vint 0,.slice none 0 0,vint 0,.slice none 0 0] true 0]
def gg4 (a : Nat) : List AObj := [.cells (agC a exT 1 2) true 0,chO exT,coO exT,.cells (agC a (exN 97 0) 4 5) true 0,chO (exN 97 0),coO (exN 97 0),.cells (agC a (exN 90 0) 7 8) true 0,chO (exN 90 0),coO (exN 90 0),.cells [vint 0,vint 0,vint 0,.slice none 0 0,vint 0,.slice none 0 0] true 0,.cells [vint 0,vint 0,vint 0,.slice none 0 0,vint 0,.slice none 0 0] true 0]
def gg5 (a : Nat) : List AObj := [.cells (agC a exT 1 2) true 0,chO exT,coO exT,.cells (agC a (exN 97 0) 4 5) true 0,chO (exN 97 0),coO (exN 97 0),.cells (agC a (exN 90 0) 7 8) true 0,chO (exN 90 0),coO (exN 90 0),.cells [vint 0,vint 0,vint 0,.slice none 0 0,vint 0,.slice none 0 0] true 0,.cells [vint 0,vint 0,vint 0,.slice none 0 0,vint 0,.slice none 0 0] true 0,.cells [vint 0,vint 0,vint 0,.slice none 0 0,vint 0,.slice none 0 0] true 0]
def gg6 (a : Nat) : List AObj := [.cells (agC a exT 1 2) true 0,chO exT,coO exT,.cells (agC a (exN 97 0) 4 5) true 0,chO (exN 97 0),coO (exN 97 0),.cells (agC a (exN 90 0) 7 8) true 0,chO (exN 90 0),coO (exN 90 0),.cells (agC a exT 1 2) true 0,.cells [vint 0,vint 0,vint 0,.slice none 0 0,vint 0,.slice none 0 0] true 0,.cells [vint 0,vint 0,vint 0,.slice none 0 0,vint 0,.slice none 0 0] true 0]
def gg7 (a : Nat) : List AObj := [.cells (agC a exT 1 2) true 0,chO exT,coO exT,.cells (agC a (exN 97 0) 4 5) true 0,chO (exN 97 0),coO (exN 97 0),.cells (agC a (exN 90 0) 7 8) true 0,chO (exN 90 0),coO (exN 90 0),.cells (agC a exT 1 2) true 0,.cells (agC a (exN 97 0) 4 5) true 0,.cells [vint 0,vint 0,vint 0,.slice none 0 0,vint 0,.slice none 0 0] true 0]
def gg8 (a : Nat) : List AObj := [.cells (agC a exT 1 2) true 0,chO exT,coO exT,.cells (agC a (exN 97 0) 4 5) true 0,chO (exN 97 0),coO (exN 97 0),.cells (agC a (exN 90 0) 7 8) true 0,chO (exN 90 0),coO (exN 90 0),.cells (agC a exT 1 2) true 0,.cells (agC a (exN 97 0) 4 5) true 0,.cells (agC a (exN 90 0) 7 8) true 0]
def gg9 (a : Nat) : List AObj := [.cells (agC a exT 1 2) true 0,chO exT,coO exT,.cells (agC a (exN 97 0) 4 5) true 0,chO (exN 97 0),coO (exN 97 0),.cells (agC a (exN 90 0) 7 8) true 0,chO (exN 90 0),coO (exN 90 0),.cells (agC a exT 1 2) true 0,.cells (agC a (exN 97 0) 4 5) true 0,.cells (agC a (exN 90 0) 7 8) true 0,.cells (agC a exT 13 14) true 0,chO exT,coO exT]
def gg10 (a : Nat) : List AObj := [.cells (agC a exT 1 2) true 0,chO exT,coO exT,.cells (agC a (exN 97 0) 4 5) true 0,chO (exN 97 0),coO (exN 97 0),.cells (agC a (exN 90 0) 7 8) true 0,chO (exN 90 0),coO (exN 90 0),.cells (agC a exT 1 2) true 0,.cells (agC a (exN 97 0) 4 5) true 0,.cells (agC a (exN 90 0) 7 8) true 0,.cells (agC a exT 13 14) true 0,chO exT,coO exT,.cells (agC a exT 16 17) true 0,chO exT,coO exT]
def gg11 (a : Nat) : List AObj := [.cells (agC a exT 1 2) true 0,chO exT,coO exT,.cells (agC a (exN 97 0) 4 5) true 0,chO (exN 97 0),coO (exN 97 0),.cells (agC a (exN 90 0) 7 8) true 0,chO (exN 90 0),coO (exN 90 0),.cells (agC a exT 1 2) true 0,.cells (agC a (exN 97 0) 4 5) true 0,.cells (agC a (exN 90 0) 7 8) true 0,.cells (agC a exT 13 14) true 0,chO exT,coO exT,.cells (agC a exT 16 17) true 0,chO exT,coO exT,.cells (agC a exT 19 20) true 0,chO exT,coO exT]
def gg12 (a : Nat) : List AObj := [.cells (agC a exT 1 2) true 0,chO exT,coO exT,.cells (agC a (exN 97 0) 4 5) true 0,chO (exN 97 0),coO (exN 97 0),.cells (agC a (exN 90 0) 7 8) true 0,chO (exN 90 0),coO (exN 90 0),.cells (agC a exT 1 2) true 0,.cells (agC a (exN 97 0) 4 5) true 0,.cells (agC a (exN 90 0) 7 8) true 0,.cells (agC a exT 13 14) true 0,chO exT,coO exT,.cells (agC a exT 16 17) true 0,chO exT,coO exT,.cells (agC a exT 19 20) true 0,chO exT,coO exT,.cells (agC a exT 22 23) true 0,chO exT,coO exT]
def gg13 (a : Nat) : List AObj := [.cells (agC a exT 1 2) true 0,chO exT,coO exT,.cells (agC a (exN 97 0) 4 5) true 0,chO (exN 97 0),coO (exN 97 0),.cells (agC a (exN 90 0) 7 8) true 0,chO (exN 90 0),coO (exN 90 0),.cells (agC a exT 1 2) true 0,.cells (agC a (exN 97 0) 4 5) true 0,.cells (agC a (exN 90 0) 7 8) true 0,.cells (agC a exT 13 14) true 0,chO exT,coO exT,.cells (agC a exT 16 17) true 0,chO exT,coO exT,.cells (agC a exT 19 20) true 0,chO exT,coO exT,.cells (agC a exT 22 23) true 0,chO exT,coO exT,.cells [vint 0,vint 0,vint 0,.slice none 0 0,vint 0,.slice none 0 0] true 0]
def gg14 (a : Nat) : List AObj := [.cells (agC a exT 1 2) true 0,chO exT,coO exT,.cells (agC a (exN 97 0) 4 5) true 0,chO (exN 97 0),coO (exN 97 0),.cells (agC a (exN 90 0) 7 8) true 0,chO (exN 90 0),coO (exN 90 0),.cells (agC a exT 1 2) true 0,.cells (agC a (exN 97 0) 4 5) true 0,.cells (agC a (exN 90 0) 7 8) true 0,.cells (agC a exT 13 14) true 0,chO exT,coO exT,.cells (agC a exT 16 17) true 0,chO exT,coO exT,.cells (agC a exT 19 20) true 0,chO exT,coO exT,.cells (agC a exT 22 23) true 0,chO exT,coO exT,.cells [vint 0,vint 0,vint 0,.slice none 0 0,vint 0,.slice none 0 0] true 0,.cells [vint 0,vint 0,vint 0,.slice none 0 0,vint 0,.slice none 0 0] true 0]
def gg15 (a : Nat) : List AObj := [.cells (agC a exT 1 2) true 0,chO exT,coO exT,.cells (agC a (exN 97 0) 4 5) true 0,chO (exN 97 0),coO (exN 97 0),.cells (agC a (exN 90 0) 7 8) true 0,chO (exN 90 0),coO (exN 90 0),.cells (agC a exT 1 2) true 0,.cells (agC a (exN 97 0) 4 5) true 0,.cells (agC a (exN 90 0) 7 8) true 0,.cells (agC a exT 13 14) true 0,chO exT,coO exT,.cells (agC a exT 16 17) true 0,chO exT,coO exT,.cells (agC a exT 19 20) true 0,chO exT,coO exT,.cells (agC a exT 22 23) true 0,chO exT,coO exT,.cells [vint 0,vint 0,vint 0,.slice none 0 0,vint 0,.slice none 0 0] true 0,.cells [vint 0,vint 0,vint 0,.slice none 0 0,vint 0,.slice none 0 0] true 0,.cells [vint 0,vint 0,vint 0,.slice none 0 0,vint 0,.slice none 0 0] true 0]
def gg16 (a : Nat) : List AObj := [.cells (agC a exT 1 2) true 0,chO exT,coO exT,.cells (agC a (exN 97 0) 4 5) true 0,chO (exN 97 0),coO (exN 97 0),.cells (agC a (exN 90 0) 7 8) true 0,chO (exN 90 0),coO (exN 90 0),.cells (agC a exT 1 2) true 0,.cells (agC a (exN 97 0) 4 5) true 0,.cells (agC a (exN 90 0) 7 8) true 0,.cells (agC a exT 13 14) true 0,chO exT,coO exT,.cells (agC a exT 16 17) true 0,chO exT,coO exT,.cells (agC a exT 19 20) true 0,chO exT,coO exT,.cells (agC a exT 22 23) true 0,chO exT,coO exT,.cells [vint 0,vint 0,vint 0,.slice none 0 0,vint 0,.slice none 0 0] true 0,.cells [vint 0,vint 0,vint 0,.slice none 0 0,vint 0,.slice none 0 0] true 0,.cells [vint 0,vint 0,vint 0,.slice none 0 0,vint 0,.slice none 0 0] true 0,.cells [vint 0,vint 0,vint 0,.slice none 0 0,vint 0,.slice none 0 0] true 0]
def gg17 (a : Nat) : List AObj := [.cells (agC a exT 1 2) true 0,chO exT,coO exT,.cells (agC a (exN 97 0) 4 5) true 0,chO (exN 97 0),coO (exN 97 0),.cells (agC a (exN 90 0) 7 8) true 0,chO (exN 90 0),coO (exN 90 0),.cells (agC a exT 1 2) true 0,.cells (agC a (exN 97 0) 4 5) true 0,.cells (agC a (exN 90 0) 7 8) true 0,.cells (agC a exT 13 14) true 0,chO exT,coO exT,.cells (agC a exT 16 17) true 0,chO exT,coO exT,.cells (agC a exT 19 20) true 0,chO exT,coO exT,.cells (agC a exT 22 23) true 0,chO exT,coO exT,.cells (agC a exT 13 14) true 0,.cells [vint 0,vint 0,vint 0,.slice none 0 0,vint 0,.slice none 0 0] true 0,.cells [vint 0,vint 0,vint 0,.slice none 0 0,vint 0,.slice none 0 0] true 0,.cells [vint 0,vint 0,vint 0,.slice none 0 0,vint 0,.slice none 0 0] true 0]
def gg18 (a : Nat) : List AObj := [.cells (agC a exT 1 2) true 0,chO exT,coO exT,.cells (agC a (exN 97 0) 4 5) true 0,chO (exN 97 0),coO (exN 97 0),.cells (agC a (exN 90 0) 7 8) true 0,chO (exN 90 0),coO (exN 90 0),.cells (agC a exT 1 2) true 0,.cells (agC a (exN 97 0) 4 5) true 0,.cells (agC a (exN 90 0) 7 8) true 0,.cells (agC a exT 13 14) true 0,chO exT,coO exT,.cells (agC a exT 16 17) true 0,chO exT,coO exT,.cells (agC a exT 19 20) true 0,chO exT,coO exT,.cells (agC a exT 22 23) true 0,chO exT,coO exT,.cells (agC a exT 13 14) true 0,.cells (agC a exT 16 17) true 0,.cells [vint 0,vint 0,vint 0,.slice none 0 0,vint 0,.slice none 0 0] true 0,.cells [vint 0,vint 0,vint 0,.slice none 0 0,vint 0,.slice none 0 0] true 0]
def gg19 (a : Nat) : List AObj := [.cells (agC a exT 1 2) true 0,chO exT,coO exT,.cells (agC a (exN 97 0) 4 5) true 0,chO (exN 97 0),coO (exN 97 0),.cells (agC a (exN 90 0) 7 8) true 0,chO (exN 90 0),coO (exN 90 0),.cells (agC a exT 1 2) true 0,.cells (agC a (exN 97 0) 4 5) true 0,.cells (agC a (exN 90 0) 7 8) true 0,.cells (agC a exT 13 14) true 0,chO exT,coO exT,.cells (agC a exT 16 17) true 0,chO exT,coO exT,.cells (agC a exT 19 20) true 0,chO exT,coO exT,.cells (agC a exT 22 23) true 0,chO exT,coO exT,.cells (agC a exT 13 14) true 0,.cells (agC a exT 16 17) true 0,.cells (agC a exT 19 20) true 0,.cells [vint 0,vint 0,vint 0,.slice none 0 0,vint 0,.slice none 0 0] true 0]
def gg20 (a : Nat) : List AObj := [.cells (agC a exT 1 2) true 0,chO exT,coO exT,.cells (agC a (exN 97 0) 4 5) true 0,chO (exN 97 0),coO (exN 97 0),.cells (agC a (exN 90 0) 7 8) true 0,chO (exN 90 0),coO (exN 90 0),.cells (agC a exT 1 2) true 0,.cells (agC a (exN 97 0) 4 5) true 0,.cells (agC a (exN 90 0) 7 8) true 0,.cells (agC a exT 13 14) true 0,chO exT,coO exT,.cells (agC a exT 16 17) true 0,chO exT,coO exT,.cells (agC a exT 19 20) true 0,chO exT,coO exT,.cells (agC a exT 22 23) true 0,chO exT,coO exT,.cells (agC a exT 13 14) true 0,.cells (agC a exT 16 17) true 0,.cells (agC a exT 19 20) true 0,.cells (agC a exT 22 23) true 0]
theorem walk3 (hG : PowAt h) (hK : ∀ H,K (.bool true) H) : W prog (J1 prog W0 Post) 331 h.length 3 (codeOf f3) (RG.mk (regs []) []) h (RetQ prog [.tmp 0] h.length K) := by
 have hJ := J1.closed prog W0 Post
 rw [e3]
 refine tl0 hJ (g' := gg0 h.length) rfl ?_
 refine tlE hJ (i := 3) (g' := gg1 h.length) rfl rfl ?_
 refine tlE hJ (i := 6) (g' := gg2 h.length) rfl rfl ?_
 refine bAlE (i := 9) (g' := gg3 h.length) rfl rfl ?_
 refine bAlE (i := 10) (g' := gg4 h.length) rfl rfl ?_
 refine bAlE (i := 11) (g' := gg5 h.length) rfl rfl ?_
 refine bStE (i := 9) (c := agC h.length exT 1 2) (g' := gg6 h.length) rfl ⟨rfl,rfl⟩ rfl ?_
 refine bStE (i := 10) (c := agC h.length (exN 97 0) 4 5) (g' := gg7 h.length) rfl ⟨rfl,rfl⟩ rfl ?_
 refine bStE (i := 11) (c := agC h.length (exN 90 0) 7 8) (g' := gg8 h.length) rfl ⟨rfl,rfl⟩ rfl ?_
 refine tlE hJ (i := 12) (g' := gg9 h.length) rfl rfl ?_
 refine tlE hJ (i := 15) (g' := gg10 h.length) rfl rfl ?_
 refine tlE hJ (i := 18) (g' := gg11 h.length) rfl rfl ?_
 refine tlE hJ (i := 21) (g' := gg12 h.length) rfl rfl ?_
 refine bAlE (i := 24) (g' := gg13 h.length) rfl rfl ?_
 refine bAlE (i := 25) (g' := gg14 h.length) rfl rfl ?_
 refine bAlE (i := 26) (g' := gg15 h.length) rfl rfl ?_
 refine bAlE (i := 27) (g' := gg16 h.length) rfl rfl ?_
 refine bStE (i := 24) (c := agC h.length exT 13 14) (g' := gg17 h.length) rfl ⟨rfl,rfl⟩ rfl ?_
 refine bStE (i := 25) (c := agC h.length exT 16 17) (g' := gg18 h.length) rfl ⟨rfl,rfl⟩ rfl ?_
 refine bStE (i := 26) (c := agC h.length exT 19 20) (g' := gg19 h.length) rfl ⟨rfl,rfl⟩ rfl ?_
 refine bStE (i := 27) (c := agC h.length exT 22 23) (g' := gg20 h.length) rfl ⟨rfl,rfl⟩ rfl ?_
 refine hold.2 ?_
 rw [show gg20 h.length = gA h.length from rfl]
 exact wk1 hG rfl rfl rfl rfl rfl rfl rfl rfl hK
end
end Go.Proofs.YtaceckiodofdkaaDoor
namespace Go.Proofs.YtaceckiodofdkaaDoor
open Go.Conc Go.RowKit
def idEnv : Env := ⟨fun b => b,fun _ => 0⟩
def startFt (w : World) : Foot := ⟨fun b => b < w.heap.size,fun _ => False,0⟩
def startFC (w : World) : Frm := ⟨fun b => w.heap[b]?,fun _ => False⟩
def Fine (n : Nat) (v : Value) : Prop := VOk n v ∧ one v = true ∧ ren idEnv v = v
open Classical in
noncomputable def clean (n : Nat) (v : Value) : Value := if Fine n v then v else unk
noncomputable def absO (n : Nat) : Obj → AObj
 | .cells c _ _ => .cells (c.toList.map (clean n)) false 0
 | _ => .dead
noncomputable def absH (w : World) : List AObj := w.heap.toList.map (absO w.heap.size)
section
variable {w w' : World} {n : Nat}
theorem clean_fine {v : Value} (h : Fine n v) : clean n v = v := by simp [clean,h]
theorem absH_len : (absH w).length = w.heap.size := by simp [absH]
theorem absH_get {b : Nat} : (absH w)[b]? = (w.heap[b]?).map (absO w.heap.size) := by simp [absH]
theorem absO_wrt (x : Obj) : (absO n x).wrt = false := by cases x <;> rfl
theorem start_rel (w : World) : HRel idEnv (absH w) (startFC w) w (startFt w) where
 obj := fun b o hb => by
  rw [absH_get] at hb
  obtain ⟨x,hx,rfl⟩ := Option.map_eq_some_iff.1 hb
  show ORel (absH w).length idEnv b (absO w.heap.size x) w.heap[b]?
  rw [absH_len,hx]
  cases x with
  | cells c ty fr =>
   refine ⟨fun i v hv => ?_,fun _ => by simp,fun hz => absurd rfl hz,fun e => by cases e⟩
   rw [List.getElem?_map] at hv
   obtain ⟨u,hu,rfl⟩ := Option.map_eq_some_iff.1 hv
   by_cases hf : Fine w.heap.size u
   ·rw [clean_fine hf]
    exact .inr ⟨hf.1,hf.2.1,by rw [hf.2.2]; simpa using hu⟩
   ·exact .inl ⟨by simp [clean,hf],rfl⟩
  | _ => trivial
 inj := fun b b' o o' _ _ _ _ e => e
 rd := fun b o hb _ => by
  have : b < (absH w).length := (List.getElem?_eq_some_iff.1 hb).1
  rw [absH_len] at this
  exact this
 wr := fun b o hb hw => by
  rw [absH_get] at hb
  obtain ⟨x,hx,rfl⟩ := Option.map_eq_some_iff.1 hb
  rw [absO_wrt] at hw
  cases hw
 lt := fun b hb => hb
 sub := fun b hb => hb.elim
 kept := fun b o hb => by
  refine ⟨hb,?_,fun a oa ha hw => ?_⟩
  ·exact (Array.getElem?_eq_some_iff.1 hb).1
  ·rw [absH_get] at ha
   obtain ⟨x,hx,rfl⟩ := Option.map_eq_some_iff.1 ha
   rw [absO_wrt] at hw
   cases hw
 keptW := fun b hb => hb.elim
 tag := fun b x hb => by
  rw [absH_get] at hb
  obtain ⟨y,_,e⟩ := Option.map_eq_some_iff.1 hb
  cases y <;> cases e
theorem below_of {ρ' : Env} {h' : List AObj} {ft' : Foot} (H : HRel ρ' h' (startFC w) w' ft') (B : Base w w') : Below w.heap.size w w' :=
 ⟨B.os,B.tape,B.output,B.size,fun k hk => by
  have : (startFC w).ob k = some w.heap[k] := by simp [startFC,hk]
  rw [(H.kept k _ this).1,Array.getElem?_eq_getElem hk]⟩
end
end Go.Proofs.YtaceckiodofdkaaDoor
namespace Go.Proofs.YtaceckiodofdkaaDoor
open Go.Conc Go.ChangeShapes Go.WideShapes Go.ChangeAt Go.RowKit Go.Proofs.Tryd
set_option maxRecDepth 100000
theorem own : ownKnob prog.godebug = none := by kernel_rfl
def cellsD : DataW Unit → Array Value
 | .agg ds => ⟨ds.map fun | .lit (.int k n) => Value.int k n | _ => .int .i64 0⟩
 | _ => #[]
def laySet (d : DataW Unit) : Obj → Obj
 | .cells _ t frozen => .cells (cellsD d) t frozen
 | o => o
noncomputable def laidWorld (os : Os) : World :=
 let w0 := World.holding prog os ⟨#[],#[],[]⟩
 { w0 with heap := ((w0.heap.modify 1 (laySet Rows.laid_internal_strconv_uint64pow10)).modify 2 (laySet Rows.laid_math_bits_deBruijn32tab)).modify 3 (laySet Rows.laid_math_bits_deBruijn64tab) }
theorem laidWorld_met (os : Os) : laidMetH prog Rows.tallyKnownRow.laid ((laidWorld os).forCall (fun _ _ => 0) ⟨#[],#[],[]⟩).memory :=
 (laidMet_of_run3 8 (by kernel_rfl) (by kernel_rfl) (by kernel_rfl) : laidMet prog Rows.tallyKnownRow.laid _)
theorem pow_cells {w : World} (h : laidMetH prog Rows.tallyKnownRow.laid w) : ∃ ty fr,w.heap[1]? = some (.cells ⟨pow10⟩ ty fr) := by
 have h : laidMet prog Rows.tallyKnownRow.laid w := h
 obtain ⟨ps,hv,_⟩ := h
 obtain ⟨_,_,_,_,_,_,_,_,_,_,hv,_⟩ := hv
 obtain ⟨_,_,_,_,_,_,_,_,_,_,hv,_⟩ := hv
 obtain ⟨g,t,cs,fuel,p,q,hg,ht,hvar,htr,_⟩ := hv
 have hg1 : prog.globalNamed "internal/strconv.uint64pow10" = some 1 := by kernel_rfl
 rw [hg1] at hg
 cases hg
 have hty : (prog.globals[1]?).map (·.type) = some 122 := by kernel_rfl
 rw [hty] at ht
 cases ht
 have hcell : ∃ ty fr,w.heap[1]? = some (.cells cs ty fr) := by
  unfold World.var? at hvar
  rw [hg1] at hvar
  simp only [Option.bind_some] at hvar
  split at hvar
  ·rename_i c ty fr hw
   cases hvar
   exact ⟨_,_,hw⟩
  ·cases hvar
 obtain ⟨ty,fr,hw⟩ := hcell
 refine ⟨ty,fr,?_⟩
 obtain ⟨xs,m,_,hx,hl,hxl,hel⟩ := DataW.trod_array (n := 20) (e := 116) (by kernel_rfl) htr
 have hc1 : prog.cellsOf 116 = 1 := by kernel_rfl
 have hc20 : prog.cellsOf 122 = 20 := by kernel_rfl
 rw [hc20] at hl
 rw [hc1] at hel
 have hd : xs.map (·.1) = (List.range 20).map fun i => (DataW.lit (.int .u64 ((10 ^ i : Nat) : Int)) : DataW Unit) := by
  have := congrArg (fun z : DataW Unit × List MemPlace => z.1) hx
  simp only [Rows.laid_internal_strconv_uint64pow10,DataW.agg.injEq] at this
  exact this.symm
 have hcs : cs.toList = pow10 := by
  refine List.ext_getElem? fun i => ?_
  by_cases hi : i < 20
  ·have h1 := hel i hi
   have hxi : i < xs.length := by omega
   rw [List.getElem?_eq_getElem hxi] at h1
   obtain ⟨n,e1,e2,_⟩ := DataW.trod_int (k := .u64) (by kernel_rfl) h1
   have h3 := congrArg (fun l => l[i]?) hd
   simp only [List.getElem?_map,List.getElem?_eq_getElem hxi,Option.map_some,List.getElem?_range hi,e2,Option.some.injEq,DataW.lit.injEq,Lit.int.injEq,true_and] at h3
   subst h3
   rw [pow10_get hi]
   rw [Nat.mul_one] at e1
   have h4 := congrArg (fun l => l[0]?) e1
   simpa using h4
  ·rw [List.getElem?_eq_none (by omega),List.getElem?_eq_none (by simp [pow10]; omega)]
 rw [hw,← hcs]
theorem law_runP {g : FuncId} {fn : Func} {c : Code} (hf : prog.funcs[g]? = some fn) (hb : fn.body = some c) (hin : prog.inits.idxOf? g = none) (W₀ : World) {ty : TypeId} {fr : Nat × Nat} (hP : W₀.heap[1]? = some (.cells ⟨pow10⟩ ty fr))
  (walk : ∀ Post,∀ H0 : List AObj,PowAt H0 → W prog (J1 prog W₀ Post) fn.ntmps H0.length g c ⟨regs [],[]⟩ H0 (RetQ prog fn.results.toList H0.length fun v _ => v = .bool true)) :
  Ends prog (fun v w' => v = .bool true ∧ Below W₀.heap.size W₀ w') (solo (G (Frame.enter prog g ⟨[]⟩ .normal) []) W₀) #[] := by
 have h1 : (absH W₀)[1]? = some (.cells pow10 false 0) := by
  rw [absH_get,hP]
  show some (AObj.cells (pow10.map (clean W₀.heap.size)) false 0) = _
  congr 1
  congr 1
  refine (List.map_congr_left fun v hv => ?_).trans (List.map_id _)
  obtain ⟨i,_,rfl⟩ := List.mem_map.1 hv
  exact clean_fine ⟨by simp [VOk],rfl,by simp [ren]⟩
 have hR := (start_rel W₀).swap (o₁ := .typed false 1 pow10 false) h1 rfl rfl (by
  have := (start_rel W₀).obj 1 _ h1
  show ORel _ _ _ _ W₀.heap[1]?
  have this : ORel (absH W₀).length idEnv 1 (.cells pow10 false 0) W₀.heap[1]? := this
  rw [hP] at this ⊢
  exact ⟨this,(fun e => by cases e),(fun _ => rfl)⟩) (fun x e => by cases e)
 have hlt := (List.getElem?_eq_some_iff.1 h1).1
 refine run_of_J1 (W0 := W₀) (ft := startFt W₀) (top_of_W (args := []) mixed hf hb hin (Nat.zero_le _) rfl (fun i => .inl (by simp)) hR (walk _ _ (List.getElem?_set_self hlt)) ?_) (fun b hb => hb) (fun b hb => hb.elim) rfl
 intro v h' ρ' w' ft' cv hv H' _ _ hcv hB
 subst hv
 refine ⟨?_,below_of H' hB⟩
 rcases hcv with e | ⟨_,e⟩
 ·cases e
 ·rw [e]
  rfl
theorem lifted3 (os : Os) (started : os.Started) (H : Type) (enc : TypeId × Value → H) :
  ReturnsInLeavingWide {} checked os 3 .any (fun w args => (Rows.tallyKnownSpec.pre enc prog f3 Rows.tallyKnownRow.domain false w args ∧ laidMetH prog Rows.tallyKnownRow.laid w) ∧ sizedMet enc prog f3 (OpenSpec.ofChange Rows.tallyKnownSpec) false w args) (Rows.tallyKnownSpec.post enc prog f3 false true false false) := by
 refine returnsInLeavingWide_of_good (C := checked) own started
  (ChangeSpec.witness_at (enc := enc) (C := checked) (os := os) (X := fun w _ => laidMetH prog Rows.tallyKnownRow.laid w) false (laidWorld os) #[] 8 rfl (by kernel_rfl) (by kernel_rfl) (by kernel_rfl) (by kernel_rfl) (by kernel_rfl) (laidWorld_met os)) ?_
 intro w tape i _ _ _ _ hpre _
 obtain ⟨⟨⟨ds,gs,before,hw,_⟩,hlaid⟩,_⟩ := hpre
 obtain ⟨pty,pfr,hP⟩ := pow_cells hlaid
 have hP : (w.forCall tape i).heap[1]? = some (.cells ⟨pow10⟩ pty pfr) := hP
 have hW := DataW.Whole.of_heap (w' := w.forCall tape i) (by rfl) hw
 generalize w.forCall tape i = W at hW hP
 generalize i.args = args at hW
 have hW' := hW
 obtain ⟨p,q,hA0,hV,rfl,_,_⟩ := hW
 have hA : DataW.TrodAll enc prog W 0 (fun _ => true) true f3.params.toList args.toList ds p := hA0
 have hps : f3.params = #[] := by kernel_rfl
 rw [hps] at hA
 obtain ⟨args⟩ := args
 obtain ⟨hvn,hdn,hpn⟩ := trodAll_nil hA
 have hvn : args = [] := hvn
 subst hvn hdn hpn
 obtain ⟨rfl,rfl⟩ := trodVars_none hV
 have u4 : prog.underlying 4 = some .bool := by kernel_rfl
 obtain ⟨M,last,o,w',t',r1,r2,r3,r4⟩ := law_runP (g := 3) (fn := f3) at3 body3 (by kernel_rfl) W hP
  (fun Post H0 hG => walk3 (K := fun v _ => v = .bool true) hG fun _ => rfl)
 refine ⟨M,last,o,w',t',r1,r2,r3,r4.mono fun v hF => ?_⟩
 obtain ⟨rfl,hbelow⟩ := hF
 refine ChangeSpec.post_blind ?_
 refine ⟨_,_,_,[],_,[],hW',?_,by rfl,by rfl,hbelow.frame _,fun h => by cases h⟩
 exact trodAll_mk1 (shut_bool u4 true)
theorem tallyKnown_row : Rows.TallyKnownSaid :=
 OpenClaim.holds_of_wide_leaving 3 f3 rfl rfl rfl rfl rfl rfl rfl ⟨rfl,rfl,rfl,rfl,rfl⟩ rfl rfl rfl rfl rfl (by kernel_rfl) at3 (by kernel_rfl)
  (of_decide_eq_true (by kernel_rfl)) (by unfold Func.isWrapper; first | (rw [if_pos (by decide +kernel)]; kernel_rfl) | (rw [if_neg (by decide +kernel)]; exact ⟨rfl,rfl⟩))
  (fun os started H enc _ => lifted3 os started H enc)
#print axioms tallyKnown_row
end Go.Proofs.YtaceckiodofdkaaDoor
namespace Go.Proofs.YtaceckiodofdkaaDoor
open Go
set_option maxRecDepth 100000
theorem tied_goes {p : Pinned} {s : OpenSpec} {c : OpenClaim} (Lk : Looks) (kinds : List LaidKind) (tests : Bool) (har : Bool × String) (lk : Bool)
  (hc : c.holds p s) (hw : c.wfByText s = true) (htie : c.laidByTextAt Lk p kinds tests)
  (hst : c.start = .entering) (hnb : c.noBlocks = false ∧ c.again = false) (hm : p.checked.prog.mainIs = some (har.1,har.2.toList)) (hn : (!har.1 && har.2.isEmpty && !lk) = false)
  (hl : ∀ f fn,p.checked.prog.funcNamed c.func = some f → p.checked.prog.funcs[f]? = some fn → lk = p.checked.prog.looks [] ∧ ∀ (j : Nat) t,fn.params[j]? = some t → p.checked.prog.wantsStandIn t = false)
  (hg : true = c.goesBy p.checked.prog) :
  Claim7.holds p (.plain s) { stood := { row := c,standIns := [],harness := har,looks := lk },kinds := [],alts := [],goes := true,laidByText := true,laidKinds := kinds,laidTests := tests,laidLooks := Lk } := by
 have h6 : Claim7.isSixth { stood := { row := c,standIns := [],harness := har,looks := lk },kinds := [] } = false := by simpa [Claim7.isSixth] using hn
 exact ⟨Claim7.tied_new_at Lk kinds tests (Claim7.new_of_sixth hc har lk hst hnb hm h6 hl) hw,(fun D hD => by cases hD),htie,(fun h => by cases h),hg⟩
theorem tallyKnown_holds : Rows.TallyKnownCardSaid :=
 tied_goes .later [.data, .data, .data] true (true, "0a98e159035514337b096983abe4e21fdfabd1a6a4498e7d253ecc553968ccff") false
  tallyKnown_row (by kernel_rfl) tallyKnown_row_tie rfl ⟨rfl,rfl⟩ (by kernel_rfl) rfl
  (fun f fn hf hfn => by
   have e : Tryd.prog.funcNamed "mesta/mestalaw05.TallyKnown" = some 3 := by kernel_rfl
   obtain rfl : f = 3 := (Option.some.inj (e.symm.trans hf)).symm
   obtain rfl : fn = Tryd.f3 := (Option.some.inj (at3.symm.trans hfn)).symm
   exact ⟨by kernel_rfl,fun j t ht => by
    have e0 : Tryd.f3.params = #[] := by kernel_rfl
    rw [e0] at ht
    simp at ht⟩)
  (by kernel_rfl)
#print axioms tallyKnown_holds
end Go.Proofs.YtaceckiodofdkaaDoor
