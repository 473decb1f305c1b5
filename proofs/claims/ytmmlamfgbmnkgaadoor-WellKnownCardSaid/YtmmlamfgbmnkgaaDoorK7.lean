/- The card of WellKnown: it answers true, and what its row lists is tied to the program's text. -/
import Derived.Test.YtmmlamfgbmnkgaaDoorK5
import Derived.Test.YtmmlamfgbmnkgaaDoorK6
import Derived.Test.YtmmlamfgbmnkgaaDoorK2
import Derived.Below
import Derived.Test.YtmmlamfgbmnkgaaDoorRows
import Derived.Conc.LeavingOf
import Derived.ChangeSlices
import Derived.OpenShut
import Derived.Carry
import Derived.LaidLaws
import Derived.LaidHandle
import Derived.Deep.DeepLaidRun
import Derived.Test.YtmmlamfgbmnkgaaDoorTie
import Derived.Test.YtmmlamfgbmnkgaaDoorCards
import Derived.SevenTiedAt
namespace Go.Proofs.YtmmlamfgbmnkgaaDoor
open Go.Conc Go.Proofs.Tryd
set_option maxRecDepth 100000
def exFull : Tro := ⟨⟨11, 10, 3⟩, [⟨4, 3⟩, ⟨5, 4⟩]⟩
def exNone : Tro := ⟨⟨6, 10, 3⟩, []⟩
def exDry : Tro := ⟨⟨6, 10, 3⟩, [⟨4, 3⟩, ⟨0, 4⟩]⟩
def exPoor : Tro := ⟨⟨6, 10, 2⟩, [⟨4, 3⟩, ⟨5, 4⟩]⟩
def exDeep : Tro := ⟨⟨6, 10, 3⟩, [⟨4, 3⟩, ⟨11, 4⟩]⟩
def exPas : Pas := ⟨12, 20, 1, 4, 3, 2⟩
def exSky : SkyR := ⟨3, 2, 2⟩
theorem k_chk : troE exTro = 0 ∧ troE exFull = 1 ∧ troE exNone = 7 ∧ troE exDry = 1 := by decide +kernel
theorem k_lev : levelsA exTro [0, 1] 4 = [5, 3, 3, 3] ∧ hrsE exTro [0, 1] 4 = 0 ∧ dryA exTro [0, 1] 4 = [2, 3] := by decide +kernel
def rotas : List (List Int) := [[0, 1, -1], [0, 0, 1], [1]]
def gapsL : List (List Int) := [[3, 3], [2, 3], [0, 1]]
def unfsL : List (List Int) := [[], [], [0]]
theorem k_rot : ∀ i ∈ List.range 3, gapsA exTro (rotas.getD i []) = gapsL.getD i [] ∧ unfA exTro (rotas.getD i []) = unfsL.getD i [] ∧ rotaE exTro (rotas.getD i []) = 0 := of_decide_eq_true (by kernel_rfl)
theorem k_unf : unfA exTro [0, -1, 1, -1] = [0] ∧ rotaE exTro [0, -1, 1, -1] = 0 ∧ lastE exTro [0, 1, -1] = 11 := by decide +kernel
theorem k_poor : rotaX exPoor = 11 := by decide +kernel
theorem k_fil : fillAns exTro = 3 ∧ fillX exTro = 0 ∧ holdsN exTro = 6 ∧ holdsX exTro = 0 := by decide +kernel
theorem k_tra : tradE exTro [0, 1, -1] = 0 ∧ tradA exTro [0, 1, -1] = [[0, 1], [0, 2], [1, 2]] ∧ tradE exTro [0, 1] = 9 := by decide +kernel
theorem k_srv : servL exTro [0, 0] = [0, 1] ∧ servN exTro [0, 0] = 1 ∧ servX exTro [0, 0] = 0 ∧ servX exDeep [0, 0] = 11 := by decide +kernel
theorem k_brs : bearN exTro.well exPas exSky 2 1 = 10 ∧ bearE exTro.well exPas exSky 2 1 = 0 ∧ bearE exTro.well exPas exSky 3 1 = 3 := by decide +kernel
section
variable {main : Bool} {J : JT} {W0 : World} {Post : Value → World → Prop} {h H : List AObj} {K : Value → List AObj → Prop} {n0 : Nat} {F : RG} {KV : Value → Prop}
theorem sliI {p : Nat} {l : List Int} {n : Nat} (hc : H[p]? = some (.cells (l.map vint) true 0)) (hn : l.length = n) : Sli H (.slice (some ⟨p, 0, none⟩) n n) 1 l.length (l.map vint) := by
 subst hn
 exact ownX_sli (ownX_new (s := 1) (n := l.length) hc (by simp) (kn_ints _))
theorem okE {a : Int} {t : TypeId} {A B : Value → Prop} (hb : B (.bool (decide (a ≠ a)))) : aBin prog .neq t (vint a) (vint a) fun v => cnd v (A v) (B v) := neqI (cndI (fun h => absurd rfl h) fun _ => hb)
theorem okN {A B : Value → Prop} (hb : B (.bool (!true))) : aUn .not (.bool true) fun v => cnd v (A v) (B v) := notI (cnd_false.2 hb)
theorem isE {a : Int} {t : TypeId} {A B : Value → Prop} (hb : A (.bool (decide (a = a)))) : aBin prog .eql t (vint a) (vint a) fun v => cnd v (A v) (B v) := eqlI (cndI (fun _ => hb) fun h => absurd rfl h)
theorem smiT (hJ : Closed prog main J) {av bv : Value} {xs ys : List Int} (sa : Sli H av 1 xs.length (xs.map vint)) (sb : Sli H bv 1 ys.length (ys.map vint)) (he : xs = ys) (hl : xs.length < 1000000) (hK : K (.bool true) H) : Good prog J 9 [av, bv] H K := by
 subst he
 refine good9 hJ sa sb (by omega) ?_
 rw [decide_eq_true rfl]
 exact hK
theorem wide {X : List Nat} {b : Nat} {H1 H2 : List AObj} (S : SameX X H H1) (T : SameX [b] H1 H2) : SameX (X ++ [b]) H H2 :=
 ⟨Nat.le_trans S.1 T.1, fun i hi hn => by
  have h1 : i ∉ X := fun h => hn (List.mem_append_left _ h)
  have h2 : i ∉ [b] := fun h => hn (List.mem_append_right _ h)
  rw [T.2 i (Nat.lt_of_lt_of_le hi S.1) h2, S.2 i hi h1]⟩
theorem nF {H : List AObj} (ds : F.ds = []) (hk : K (.bool true) H) : retL n0 K F.ds [.bool true] H := by
 rw [ds]
 exact retL_same (by simp [unk]) hk
theorem Sm.ownX {s len : Nat} {cs : List Value} {v : Value} {o : Option Nat} (a : Sm h H) (O : OwnX h s cs len v o) : OwnX H s cs len v o := by
 obtain ⟨h1, h2, h3⟩ := O
 refine ⟨h1, h2, h3.imp id ?_⟩
 rintro ⟨i, c, sz, a1, a2, a3, a4⟩
 exact ⟨i, c, sz, a1, a2, a.at a3, a4⟩
theorem Sm.ownL {n : Nat} {v : Value} {ls : List (List Int)} {o : Option Nat} (a : Sm h H) (O : OwnL n h v ls o) : OwnL n H v ls o := by
 obtain ⟨h1, cs, O, he⟩ := O
 refine ⟨h1, cs, a.ownX O, fun i l hl => ?_⟩
 obtain ⟨lv, b, e1, e2, e3⟩ := he i l hl
 exact ⟨lv, b, e1, a.ownX e2, e3⟩
def LL (H : List AObj) (p : Nat) (ls : List (List Int)) : Prop := ∃ cs, H[p]? = some (.cells cs true 0) ∧ kn cs = true ∧ cs.length = ls.length ∧ ∀ (i : Nat) l, ls[i]? = some l → ∃ lv, cs[i]? = some lv ∧ kn1 lv = true ∧ Sli H lv 1 l.length (l.map vint)
theorem LL.keep {p : Nat} {ls : List (List Int)} (a : LL h p ls) (S : Sm h H) : LL H p ls := by
 obtain ⟨cs, h1, h2, h3, h4⟩ := a
 refine ⟨cs, S.at h1, h2, h3, fun i l hl => ?_⟩
 obtain ⟨lv, e1, e2, e3⟩ := h4 i l hl
 exact ⟨lv, e1, e2, S.sli e3⟩
theorem LL.get {p i n : Nat} {ls : List (List Int)} (a : LL H p ls) (hn : ls.length = n) {l : List Int} (hl : ls[i]? = some l) {KI : Value → Value → Prop} (hk : ∀ o lv, Sli H lv 1 l.length (l.map vint) → KI (ptr p o) lv) : aIdx 1 (.slice (some ⟨p, 0, none⟩) n n) (vint (i : Nat)) fun q => aLoad false 1 q H (KI q) := by
 obtain ⟨cs, h1, h2, h3, h4⟩ := a
 obtain ⟨lv, e1, e2, e3⟩ := h4 i l hl
 have hi := (List.getElem?_eq_some_iff.1 hl).1
 refine idxI ⟨by omega, by omega⟩ ?_
 rw [Int.toNat_natCast, Nat.zero_add, Nat.mul_one]
 exact ldI h1 e1 e2 (hk _ _ e3)
structure Kp (H : List AObj) (p4 p5 : Nat) : Prop where
 poor : ∃ fv, H[p4]? = some (.cells (troCells exPoor fv) true 0) ∧ TroAt H (.agg ⟨troCells exPoor fv⟩) exPoor fv
 deep : ∃ fv, H[p5]? = some (.cells (troCells exDeep fv) true 0) ∧ TroAt H (.agg ⟨troCells exDeep fv⟩) exDeep fv
theorem Kp.keep {p4 p5 : Nat} (a : Kp h p4 p5) (S : Sm h H) : Kp H p4 p5 := by
 obtain ⟨⟨f1, a1, a2⟩, ⟨f2, b1, b2⟩⟩ := a
 exact ⟨⟨f1, S.at a1, S.tro a2⟩, ⟨f2, S.at b1, S.tro b2⟩⟩
theorem eqlTx (hk : KV (.bool true)) : aBin prog .eql 9 (strV (troT exTro)) (Value.string { data := #[119, 101, 108, 108, 32, 54, 47, 49, 48, 32, 43, 51, 10, 102, 108, 111, 99, 107, 32, 45, 52, 32, 64, 51, 10, 102, 108, 111, 99, 107, 32, 45, 53, 32, 64, 52, 10, 116, 114, 111, 117, 103, 104, 10] }) KV := by
 have e : aBin prog .eql 9 (strV (troT exTro)) (Value.string { data := #[119, 101, 108, 108, 32, 54, 47, 49, 48, 32, 43, 51, 10, 102, 108, 111, 99, 107, 32, 45, 52, 32, 64, 51, 10, 102, 108, 111, 99, 107, 32, 45, 53, 32, 64, 52, 10, 116, 114, 111, 117, 103, 104, 10] }) KV = KV (.bool true) := by kernel_rfl
 rw [e]
 exact hk
set_option maxHeartbeats 2000000 in
theorem wk8 (ds : F.ds = []) (r7 : F.r 7 = vint 0) (r9 : F.r 9 = vint 9) (r20 : F.r 20 = vint 0) (r22 : F.r 22 = vint 11) (r24 : F.r 24 = vint 0) (r29 : F.r 29 = vint 3) (r31 : F.r 31 = vint 0) (r27 : F.r 27 = vint 1) (r21 : F.r 21 = vint 10) {xv ov : Value} {o : Option Nat} {n : Nat} (r25 : F.r 25 = xv) (ox : OwnL n H xv [[0, 1], [0, 2], [1, 2]] o) (r26 : F.r 26 = ov) (so : Sli H ov 1 ([0, 1] : List Int).length (([0, 1] : List Int).map vint)) (r30 : F.r 30 = strV (troT exTro)) (hK : ∀ H, K (.bool true) H) :
  W prog (J1 prog W0 Post) 317 n0 3 (subC [1, 1, 1, 1, 1, 1, 1, 1, 1, 1, 1, 1, 1, 1, 1, 1, 1, 1, 1, 1, 1, 1, 1] (codeOf f3)) F H (contX pl3 prog (J1 prog W0 Post) 317 n0 3 ct3 [1, 1, 1, 1, 1, 1, 1, 1, 1, 1, 1, 1, 1, 1, 1, 1, 1, 1, 1, 1, 1, 1, 1] (codeOf f3) [] (RetQ prog [.tmp 0] n0 K)) := by
 have hJ := J1.closed prog W0 Post
 rw [s3_8, r7, r9, r20, r22, r24, r29, r31, r27, r21, r25, r26, r30]
 refine isE (isE (isE (isE (isE (isE (isE (isE (isE ?_))))))))
 refine ⟨⟨by decide, by decide, rfl⟩, fillO (l := [vint 0]) rfl rfl rfl (Nat.le_of_ble_eq_true (by kernel_rfl)) (fillO (l := [vint 1]) rfl rfl rfl (Nat.le_of_ble_eq_true (by kernel_rfl)) (fillI (qNew fun H1 p1 e1 S1 c1 l1 => ?_)))⟩
 refine ⟨⟨by decide, by decide, rfl⟩, fillO (l := [vint 0]) rfl rfl rfl (Nat.le_of_ble_eq_true (by kernel_rfl)) (fillO (l := [vint 2]) rfl rfl rfl (Nat.le_of_ble_eq_true (by kernel_rfl)) (fillI (qNew fun H2 p2 e2 S2 c2 l2 => ?_)))⟩
 refine ⟨⟨by decide, by decide, rfl⟩, fillO (l := [vint 1]) rfl rfl rfl (Nat.le_of_ble_eq_true (by kernel_rfl)) (fillO (l := [vint 2]) rfl rfl rfl (Nat.le_of_ble_eq_true (by kernel_rfl)) (fillI (qNew fun H3 p3 e3 S3 c3 l3 => ?_)))⟩
 refine ⟨⟨by decide, by decide, rfl⟩, fillO (l := [.slice (some ⟨p1, 0, none⟩) 2 2]) rfl rfl rfl (Nat.le_of_ble_eq_true (by kernel_rfl)) (fillO (l := [.slice (some ⟨p2, 0, none⟩) 2 2]) rfl rfl rfl (Nat.le_of_ble_eq_true (by kernel_rfl)) (fillO (l := [.slice (some ⟨p3, 0, none⟩) 2 2]) rfl rfl rfl (Nat.le_of_ble_eq_true (by kernel_rfl)) (fillI (qNew fun H4 p4 e4 S4 c4 l4 => ?_))))⟩
 have k1 : H4[p1]? = some (.cells (([0, 1] : List Int).map vint) true 0) := S4.get (S3.get (S2.get c1 (by simp)) (by simp)) (by simp)
 have k2 : H4[p2]? = some (.cells (([0, 2] : List Int).map vint) true 0) := S4.get (S3.get c2 (by simp)) (by simp)
 have k3 : H4[p3]? = some (.cells (([1, 2] : List Int).map vint) true 0) := S4.get c3 (by simp)
 have ol : OwnL 0 H4 (.slice (some ⟨p4, 0, none⟩) 3 3) [[0, 1], [0, 2], [1, 2]] (some p4) := by
  refine ⟨fun j hj => Nat.zero_le _, _, ownX_new (s := 1) (n := 3) c4 rfl rfl, fun i l hl => ?_⟩
  match i, hl with
  | 0, hl =>
   cases hl
   exact ⟨_, _, rfl, ownX_new (s := 1) (n := 2) k1 rfl rfl, fun j hj => by cases hj; exact ⟨fun e => by cases e; omega, Nat.zero_le _⟩⟩
  | 1, hl =>
   cases hl
   exact ⟨_, _, rfl, ownX_new (s := 1) (n := 2) k2 rfl rfl, fun j hj => by cases hj; exact ⟨fun e => by cases e; omega, Nat.zero_le _⟩⟩
  | 2, hl =>
   cases hl
   exact ⟨_, _, rfl, ownX_new (s := 1) (n := 2) k3 rfl rfl, fun j hj => by cases hj; exact ⟨fun e => by cases e; omega, Nat.zero_le _⟩⟩
  | i + 3, hl => cases hl
 have T4 := ((S1.trans S2).trans S3).trans S4
 refine good22 hJ (ox.keep T4) ol (by decide) (by decide) (cnd_true.2 ?_)
 refine ⟨⟨by decide, by decide, rfl⟩, fillO (l := [vint 0]) rfl rfl rfl (Nat.le_of_ble_eq_true (by kernel_rfl)) (fillO (l := [vint 1]) rfl rfl rfl (Nat.le_of_ble_eq_true (by kernel_rfl)) (fillI (qNew fun H5 p5 e5 S5 c5 l5 => ?_)))⟩
 refine smiT hJ (xs := [0, 1]) (ys := [0, 1]) ((T4.trans S5).sli so (by simp)) (sliI (l := [0, 1]) c5 rfl) rfl (by decide) (cnd_true.2 ?_)
 exact eqlTx (nF ds (hK _))
set_option maxHeartbeats 2000000 in
theorem wk7 (ds : F.ds = []) (r7 : F.r 7 = vint 0) (r9 : F.r 9 = vint 9) (r20 : F.r 20 = vint 0) (r22 : F.r 22 = vint 11) (r24 : F.r 24 = vint 0) (r27 : F.r 27 = vint 1) (r21 : F.r 21 = vint 10) {xv ov : Value} {o : Option Nat} {n : Nat} (r25 : F.r 25 = xv) (ox : OwnL n H xv [[0, 1], [0, 2], [1, 2]] o) (r26 : F.r 26 = ov) (so : Sli H ov 1 ([0, 1] : List Int).length (([0, 1] : List Int).map vint)) (hK : ∀ H, K (.bool true) H) :
  W prog (J1 prog W0 Post) 317 n0 3 (subC [1, 1, 1, 1, 1, 1, 1, 1, 1, 1, 1, 1, 1, 1, 1, 1, 1, 1, 1, 1, 1] (codeOf f3)) F H (contX pl3 prog (J1 prog W0 Post) 317 n0 3 ct3 [1, 1, 1, 1, 1, 1, 1, 1, 1, 1, 1, 1, 1, 1, 1, 1, 1, 1, 1, 1, 1] (codeOf f3) [] (RetQ prog [.tmp 0] n0 K)) := by
 have hJ := J1.closed prog W0 Post
 rw [s3_7]
 refine good4 hJ fun H1 q1 S1 c1 T1 => ?_
 rw [T1.val]
 refine fld_wel (good19 hJ (good20 hJ (good18 hJ (w := exTro.well) (p := exPas) (s := exSky) (fr := 3) (dy := 1) fun H2 S2 => ?_)))
 rw [k_brs.2.2]
 refine vext0 (vext1 (good4 hJ fun H3 q3 S3 c3 T3 => good21 hJ T3 k_chk.1 fun H4 S4 => vext0 (vext1 (hold.2 ?_))))
 have T := ((S1.trans S2).trans S3).trans S4
 exact wk8 (Eq.trans (b := F.ds) (by kernel_rfl) ds) (Eq.trans (b := F.r 7) (by kernel_rfl) r7) (Eq.trans (b := F.r 9) (by kernel_rfl) r9) (Eq.trans (b := F.r 20) (by kernel_rfl) r20) (Eq.trans (b := F.r 22) (by kernel_rfl) r22) (Eq.trans (b := F.r 24) (by kernel_rfl) r24) (by kernel_rfl) (by kernel_rfl) (Eq.trans (b := F.r 27) (by kernel_rfl) r27) (Eq.trans (b := F.r 21) (by kernel_rfl) r21) (Eq.trans (b := F.r 25) (by kernel_rfl) r25) (ox.keep T) (Eq.trans (b := F.r 26) (by kernel_rfl) r26) (T.sli so (by simp)) (by kernel_rfl) hK
set_option maxHeartbeats 2000000 in
theorem wk6 {p4 p5 : Nat} (ds : F.ds = []) (r7 : F.r 7 = vint 0) (r9 : F.r 9 = vint 9) (r5 : F.r 5 = ptr p5 0) (kp : Kp H p4 p5) {xv : Value} {o : Option Nat} {n : Nat} (r25 : F.r 25 = xv) (ox : OwnL n H xv [[0, 1], [0, 2], [1, 2]] o) (hK : ∀ H, K (.bool true) H) :
  W prog (J1 prog W0 Post) 317 n0 3 (subC [1, 1, 1, 1, 1, 1, 1, 1, 1, 1, 1, 1, 1, 1, 1, 1, 1, 1] (codeOf f3)) F H (contX pl3 prog (J1 prog W0 Post) 317 n0 3 ct3 [1, 1, 1, 1, 1, 1, 1, 1, 1, 1, 1, 1, 1, 1, 1, 1, 1, 1] (codeOf f3) [] (RetQ prog [.tmp 0] n0 K)) := by
 have hJ := J1.closed prog W0 Post
 rw [s3_6, r5]
 refine good4 hJ fun H1 q1 S1 c1 T1 => ⟨⟨by decide, by decide, rfl⟩, fillO (l := [vint 0]) rfl rfl rfl (Nat.le_of_ble_eq_true (by kernel_rfl)) (fillO (l := [vint 0]) rfl rfl rfl (Nat.le_of_ble_eq_true (by kernel_rfl)) (fillI (qNew fun H2 p2 e2 S2 c2 l2 => ?_)))⟩
 refine good17' (t := exTro) (cs := [0, 0]) ⟨T1.val, S2.sli T1.fl (by simp)⟩ (sliI (l := [0, 0]) c2 rfl) (by decide) fun H3 w3 M3 s3 => ?_
 rw [k_srv.2.1, k_srv.2.2.1]
 rw [k_srv.1] at s3
 have M03 := (Sm.of (S1.trans S2)).trans M3
 obtain ⟨fv, d1, d2⟩ := (kp.keep M03).deep
 refine ext30 (ext31 (ext32 (load_part (c := troCells exDeep fv) d1 (by simp [troCells]) rfl (tro_kn d2) ⟨⟨by decide, by decide, rfl⟩, fillO (l := [vint 0]) rfl rfl rfl (Nat.le_of_ble_eq_true (by kernel_rfl)) (fillO (l := [vint 0]) rfl rfl rfl (Nat.le_of_ble_eq_true (by kernel_rfl)) (fillI (qNew fun H4 p4 e4 S4 c4 l4 => ?_)))⟩)))
 refine good17' (t := exDeep) (cs := [0, 0]) ⟨d2.val, S4.sli d2.fl (by simp)⟩ (sliI (l := [0, 0]) c4 rfl) (by decide) fun H5 w5 M5 s5 => ?_
 rw [k_srv.2.2.2]
 refine ext30 (ext31 (ext32 (good4 hJ fun H6 q6 S6 c6 T6 => ?_)))
 rw [T6.val]
 refine fld_wel (good19 hJ (good20 hJ (good18 hJ (w := exTro.well) (p := exPas) (s := exSky) (fr := 2) (dy := 1) fun H7 S7 => ?_)))
 rw [k_brs.1, k_brs.2.1]
 refine vext0 (vext1 (hold.2 ?_))
 have M37 := ((Sm.of S4).trans M5).trans (Sm.of (S6.trans S7))
 exact wk7 (Eq.trans (b := F.ds) (by kernel_rfl) ds) (Eq.trans (b := F.r 7) (by kernel_rfl) r7) (Eq.trans (b := F.r 9) (by kernel_rfl) r9) (by kernel_rfl) (by kernel_rfl) (by kernel_rfl) (by kernel_rfl) (by kernel_rfl) (Eq.trans (b := F.r 25) (by kernel_rfl) r25) ((M03.trans M37).ownL ox) (by kernel_rfl) (M37.sli s3) hK
set_option maxHeartbeats 2000000 in
theorem wk5 {p4 p5 : Nat} (ds : F.ds = []) (r218 : F.r 218 = .bool false) (r5 : F.r 5 = ptr p5 0) (kp : Kp H p4 p5) (hK : ∀ H, K (.bool true) H) :
  W prog (J1 prog W0 Post) 317 n0 3 (subC [1, 1, 1, 1, 1, 1, 1, 1, 1, 1, 1, 1, 1, 1, 1, 0, 1] (codeOf f3)) F H (contX pl3 prog (J1 prog W0 Post) 317 n0 3 ct3 [1, 1, 1, 1, 1, 1, 1, 1, 1, 1, 1, 1, 1, 1, 1, 0, 1] (codeOf f3) [] (RetQ prog [.tmp 0] n0 K)) := by
 have hJ := J1.closed prog W0 Post
 rw [s3_5, r218]
 refine cnd_false.2 (good4 hJ fun H1 q1 S1 c1 T1 => ⟨⟨by decide, by decide, rfl⟩, fillO (l := [vint 0]) rfl rfl rfl (Nat.le_of_ble_eq_true (by kernel_rfl)) (fillO (l := [vint 1]) rfl rfl rfl (Nat.le_of_ble_eq_true (by kernel_rfl)) (fillO (l := [vint (-1)]) rfl rfl rfl (Nat.le_of_ble_eq_true (by kernel_rfl)) (fillI (qNew fun H2 p2 e2 S2 c2 l2 => ?_))))⟩)
 refine good16 hJ (t := exTro) (r := [0, 1, -1]) ⟨T1.val, S2.sli T1.fl (by simp)⟩ (sliI (l := [0, 1, -1]) c2 rfl) (by decide) fun H3 w3 S3 o3 u3 => ?_
 rw [k_tra.1]
 obtain ⟨o, o3⟩ := o3
 rw [k_tra.2.1] at o3
 refine vext0 (vext1 (good4 hJ fun H4 q4 S4 c4 T4 => ⟨⟨by decide, by decide, rfl⟩, fillO (l := [vint 0]) rfl rfl rfl (Nat.le_of_ble_eq_true (by kernel_rfl)) (fillO (l := [vint 1]) rfl rfl rfl (Nat.le_of_ble_eq_true (by kernel_rfl)) (fillI (qNew fun H5 p5 e5 S5 c5 l5 => ?_)))⟩))
 refine good16 hJ (t := exTro) (r := [0, 1]) ⟨T4.val, S5.sli T4.fl (by simp)⟩ (sliI (l := [0, 1]) c5 rfl) (by decide) fun H6 w6 S6 o6 u6 => ?_
 rw [k_tra.2.2]
 refine vext0 (vext1 (hold.2 ?_))
 have T36 := (S4.trans S5).trans S6
 exact wk6 (Eq.trans (b := F.ds) (by kernel_rfl) ds) (by kernel_rfl) (by kernel_rfl) (Eq.trans (b := F.r 5) (by kernel_rfl) r5) (kp.keep (Sm.of (((S1.trans S2).trans S3).trans T36))) (by kernel_rfl) (o3.keep T36) hK
theorem wk4 {nx0 : RG → List AObj → Prop} {i : Nat} (hi : i < 3) (r13 : F.r 13 = vint (i : Nat)) (r159 : F.r 159 = .bool false) (hn : ∀ F', F'.ds = F.ds → F'.r 4 = F.r 4 → F'.r 5 = F.r 5 → F'.r 10 = F.r 10 → F'.r 11 = F.r 11 → F'.r 12 = F.r 12 → F'.r 13 = vint ((i + 1 : Nat) : Int) → nx0 F' H) :
  W prog (J1 prog W0 Post) 317 n0 3 (subC [1, 1, 1, 1, 1, 1, 1, 1, 1, 0, 1, 0, 0, 1, 0, 0, 1, 1, 1] (codeOf f3)) F H (contX pl3 prog (J1 prog W0 Post) 317 n0 3 ct3 [1, 1, 1, 1, 1, 1, 1, 1, 1, 0, 1, 0, 0, 1, 0, 0, 1, 1, 1] (codeOf f3) [nx0] (RetQ prog [.tmp 0] n0 K)) := by
 rw [s3_4, r13, r159]
 exact cnd_false.2 (addI (by omega) (hn _ rfl rfl rfl rfl rfl rfl (by show vint _ = vint _; congr 1)))
set_option maxHeartbeats 4000000 in
theorem wk2 {p4 p5 : Nat} (ds : F.ds = []) (r101 : F.r 101 = .bool false) (r4 : F.r 4 = ptr p4 0) (r5 : F.r 5 = ptr p5 0) (kp : Kp H p4 p5) (hK : ∀ H, K (.bool true) H) :
  W prog (J1 prog W0 Post) 317 n0 3 (subC [1, 1, 1, 1, 1, 1, 0, 1] (codeOf f3)) F H (contX pl3 prog (J1 prog W0 Post) 317 n0 3 ct3 [1, 1, 1, 1, 1, 1, 0, 1] (codeOf f3) [] (RetQ prog [.tmp 0] n0 K)) := by
 have hJ := J1.closed prog W0 Post
 rw [s3_2, r101]
 refine cnd_false.2 ⟨⟨by decide, by decide, rfl⟩, fillO (l := [vint 0]) rfl rfl rfl (Nat.le_of_ble_eq_true (by kernel_rfl)) (fillO (l := [vint 1]) rfl rfl rfl (Nat.le_of_ble_eq_true (by kernel_rfl)) (fillO (l := [vint (-1)]) rfl rfl rfl (Nat.le_of_ble_eq_true (by kernel_rfl)) (fillI (qNew fun H1 p1 e1 S1 c1 l1 => ?_))))⟩
 refine ⟨⟨by decide, by decide, rfl⟩, fillO (l := [vint 0]) rfl rfl rfl (Nat.le_of_ble_eq_true (by kernel_rfl)) (fillO (l := [vint 0]) rfl rfl rfl (Nat.le_of_ble_eq_true (by kernel_rfl)) (fillO (l := [vint 1]) rfl rfl rfl (Nat.le_of_ble_eq_true (by kernel_rfl)) (fillI (qNew fun H2 p2 e2 S2 c2 l2 => ?_))))⟩
 refine ⟨⟨by decide, by decide, rfl⟩, fillO (l := [vint 1]) rfl rfl rfl (Nat.le_of_ble_eq_true (by kernel_rfl)) (fillI (qNew fun H3 p3 e3 S3 c3 l3 => ?_))⟩
 refine ⟨⟨by decide, by decide, rfl⟩, fillO (l := [.slice (some ⟨p1, 0, none⟩) 3 3]) rfl rfl rfl (Nat.le_of_ble_eq_true (by kernel_rfl)) (fillO (l := [.slice (some ⟨p2, 0, none⟩) 3 3]) rfl rfl rfl (Nat.le_of_ble_eq_true (by kernel_rfl)) (fillO (l := [.slice (some ⟨p3, 0, none⟩) 1 1]) rfl rfl rfl (Nat.le_of_ble_eq_true (by kernel_rfl)) (fillI (qNew fun H6 p6 e6 S6 c6 l6 => ?_))))⟩
 refine ⟨⟨by decide, by decide, rfl⟩, fillO (l := [vint 3]) rfl rfl rfl (Nat.le_of_ble_eq_true (by kernel_rfl)) (fillO (l := [vint 3]) rfl rfl rfl (Nat.le_of_ble_eq_true (by kernel_rfl)) (fillI (qNew fun H7 p7 e7 S7 c7 l7 => ?_)))⟩
 refine ⟨⟨by decide, by decide, rfl⟩, fillO (l := [vint 2]) rfl rfl rfl (Nat.le_of_ble_eq_true (by kernel_rfl)) (fillO (l := [vint 3]) rfl rfl rfl (Nat.le_of_ble_eq_true (by kernel_rfl)) (fillI (qNew fun H8 p8 e8 S8 c8 l8 => ?_)))⟩
 refine ⟨⟨by decide, by decide, rfl⟩, fillO (l := [vint 0]) rfl rfl rfl (Nat.le_of_ble_eq_true (by kernel_rfl)) (fillO (l := [vint 1]) rfl rfl rfl (Nat.le_of_ble_eq_true (by kernel_rfl)) (fillI (qNew fun H9 p9 e9 S9 c9 l9 => ?_)))⟩
 refine ⟨⟨by decide, by decide, rfl⟩, fillO (l := [.slice (some ⟨p7, 0, none⟩) 2 2]) rfl rfl rfl (Nat.le_of_ble_eq_true (by kernel_rfl)) (fillO (l := [.slice (some ⟨p8, 0, none⟩) 2 2]) rfl rfl rfl (Nat.le_of_ble_eq_true (by kernel_rfl)) (fillO (l := [.slice (some ⟨p9, 0, none⟩) 2 2]) rfl rfl rfl (Nat.le_of_ble_eq_true (by kernel_rfl)) (fillI (qNew fun H10 p10 e10 S10 c10 l10 => ?_))))⟩
 refine ⟨⟨by decide, by decide, rfl⟩, fillO (l := [vint 0]) rfl rfl rfl (Nat.le_of_ble_eq_true (by kernel_rfl)) (fillI (qNew fun H11 p11 e11 S11 c11 l11 => ?_))⟩
 refine ⟨⟨by decide, by decide, rfl⟩, fillO (l := [.slice none 0 0]) rfl rfl rfl (Nat.le_of_ble_eq_true (by kernel_rfl)) (fillO (l := [.slice none 0 0]) rfl rfl rfl (Nat.le_of_ble_eq_true (by kernel_rfl)) (fillO (l := [.slice (some ⟨p11, 0, none⟩) 1 1]) rfl rfl rfl (Nat.le_of_ble_eq_true (by kernel_rfl)) (fillI (qNew fun H12 p12 e12 S12 c12 l12 => ?_))))⟩
 have k1 : Sli H12 (.slice (some ⟨p1, 0, none⟩) 3 3) 1 ([0, 1, -1] : List Int).length (([0, 1, -1] : List Int).map vint) := (((((((((S2).trans S3).trans S6).trans S7).trans S8).trans S9).trans S10).trans S11).trans S12).sli (sliI (l := [0, 1, -1]) c1 rfl) (by simp)
 have k2 : Sli H12 (.slice (some ⟨p2, 0, none⟩) 3 3) 1 ([0, 0, 1] : List Int).length (([0, 0, 1] : List Int).map vint) := ((((((((S3).trans S6).trans S7).trans S8).trans S9).trans S10).trans S11).trans S12).sli (sliI (l := [0, 0, 1]) c2 rfl) (by simp)
 have k3 : Sli H12 (.slice (some ⟨p3, 0, none⟩) 1 1) 1 ([1] : List Int).length (([1] : List Int).map vint) := (((((((S6).trans S7).trans S8).trans S9).trans S10).trans S11).trans S12).sli (sliI (l := [1]) c3 rfl) (by simp)
 have k7 : Sli H12 (.slice (some ⟨p7, 0, none⟩) 2 2) 1 ([3, 3] : List Int).length (([3, 3] : List Int).map vint) := (((((S8).trans S9).trans S10).trans S11).trans S12).sli (sliI (l := [3, 3]) c7 rfl) (by simp)
 have k8 : Sli H12 (.slice (some ⟨p8, 0, none⟩) 2 2) 1 ([2, 3] : List Int).length (([2, 3] : List Int).map vint) := ((((S9).trans S10).trans S11).trans S12).sli (sliI (l := [2, 3]) c8 rfl) (by simp)
 have k9 : Sli H12 (.slice (some ⟨p9, 0, none⟩) 2 2) 1 ([0, 1] : List Int).length (([0, 1] : List Int).map vint) := (((S10).trans S11).trans S12).sli (sliI (l := [0, 1]) c9 rfl) (by simp)
 have k11 : Sli H12 (.slice (some ⟨p11, 0, none⟩) 1 1) 1 ([0] : List Int).length (([0] : List Int).map vint) := (S12).sli (sliI (l := [0]) c11 rfl) (by simp)
 have la : LL H12 p6 rotas := by
  refine ⟨_, ((((((S7).trans S8).trans S9).trans S10).trans S11).trans S12).get c6 (by simp), rfl, rfl, fun i l hl => ?_⟩
  match i, hl with
  | 0, hl =>
   cases hl
   exact ⟨_, rfl, rfl, k1⟩
  | 1, hl =>
   cases hl
   exact ⟨_, rfl, rfl, k2⟩
  | 2, hl =>
   cases hl
   exact ⟨_, rfl, rfl, k3⟩
  | i + 3, hl => cases hl
 have lb : LL H12 p10 gapsL := by
  refine ⟨_, ((S11).trans S12).get c10 (by simp), rfl, rfl, fun i l hl => ?_⟩
  match i, hl with
  | 0, hl =>
   cases hl
   exact ⟨_, rfl, rfl, k7⟩
  | 1, hl =>
   cases hl
   exact ⟨_, rfl, rfl, k8⟩
  | 2, hl =>
   cases hl
   exact ⟨_, rfl, rfl, k9⟩
  | i + 3, hl => cases hl
 have lc : LL H12 p12 unfsL := by
  refine ⟨_, c12, rfl, rfl, fun i l hl => ?_⟩
  match i, hl with
  | 0, hl =>
   cases hl
   exact ⟨_, rfl, rfl, sli_nil⟩
  | 1, hl =>
   cases hl
   exact ⟨_, rfl, rfl, sli_nil⟩
  | 2, hl =>
   cases hl
   exact ⟨_, rfl, rfl, k11⟩
  | i + 3, hl => cases hl
 have kp12 : Kp H12 p4 p5 := kp.keep (Sm.of (S1.trans (((((((((S2).trans S3).trans S6).trans S7).trans S8).trans S9).trans S10).trans S11).trans S12)))
 refine l3_3 hJ (fun i : Nat => 3 - i) (fun i F' H' => i ≤ 3 ∧ SameX [] H12 H' ∧ F'.ds = [] ∧ F'.r 4 = ptr p4 0 ∧ F'.r 5 = ptr p5 0 ∧ F'.r 10 = .slice (some ⟨p6, 0, none⟩) 3 3 ∧ F'.r 11 = .slice (some ⟨p10, 0, none⟩) 3 3 ∧ F'.r 12 = .slice (some ⟨p12, 0, none⟩) 3 3 ∧ F'.r 13 = vint (i : Nat)) ?_ (s := 0)
  (.inl ⟨by omega, SameX.refl, ds, r4, r5, rfl, rfl, rfl, rfl⟩)
 clear ds r101 r4 r5
 rintro i F' H' ⟨hi, S, ds, r4, r5, r10, r11, r12, r13⟩ okc hnc
 rw [s3_3, r4, r10, r11, r12, r13]
 have M := Sm.of S
 have la := la.keep M
 have lb := lb.keep M
 have lc := lc.keep M
 have b6 := lt_of_get la.choose_spec.1
 refine (show aLenS (.slice (some ⟨p6, 0, none⟩) 3 3) _ from lenI (s := 1) (n := 3) (cells := la.choose) ⟨_, _, rfl, ⟨by rw [la.choose_spec.2.2.1]; rfl, la.choose_spec.2.1⟩, .inr ⟨p6, 0, rfl, .inr ⟨_, _, _, la.choose_spec.1, by rw [List.drop_zero]; exact List.take_of_length_le (by rw [la.choose_spec.2.2.1]; decide)⟩⟩⟩ (lssI (cndI (fun hlt => ?_) fun hge => ?_)))
 ·have hi3 : i < 3 := by omega
  obtain ⟨y1, y2, y3⟩ := k_rot i (List.mem_range.2 hi3)
  obtain ⟨xr, xg, xu, hr, hg, hu, eg, eu, ee, hll⟩ : ∃ xr xg xu : List Int, rotas[i]? = some xr ∧ gapsL[i]? = some xg ∧ unfsL[i]? = some xu ∧ gapsA exTro xr = xg ∧ unfA exTro xr = xu ∧ rotaE exTro xr = 0 ∧ (xg.length < 1000000 ∧ xu.length < 1000000) := by
   match i, hi3 with
   | 0, _ => exact ⟨_, _, _, rfl, rfl, rfl, y1, y2, y3, by decide⟩
   | 1, _ => exact ⟨_, _, _, rfl, rfl, rfl, y1, y2, y3, by decide⟩
   | 2, _ => exact ⟨_, _, _, rfl, rfl, rfl, y1, y2, y3, by decide⟩
  have sb : ∀ {H4 : List AObj}, SameX [] H' H4 → SameB (some [p6]) H' H4 := fun S b hb => by
   rw [List.mem_singleton.1 hb]
   exact S.2 _ b6 (by simp)
  refine ⟨[p6], la.get rfl hr fun o1 rv sr => ⟨by simp [RdOk, ptrBlk], good4 hJ fun H4 q4 S4 c4 T4 => ⟨sb S4, good10 hJ T4 (S4.sli sr (by simp)) (by decide) fun H5 gv S5 sg => ?_⟩⟩⟩
  rw [ee]
  rw [eg] at sg
  have M5 := Sm.of (S4.trans S5)
  have la5 := la.keep M5
  have b65 := lt_of_get la5.choose_spec.1
  have sb5 : ∀ {H4 : List AObj}, SameX [] H5 H4 → SameB (some [p6]) H5 H4 := fun S b hb => by
   rw [List.mem_singleton.1 hb]
   exact S.2 _ b65 (by simp)
  refine vext0 (vext1 ⟨[p6], la5.get rfl hr fun o2 rv2 sr2 => ⟨by simp [RdOk, ptrBlk], good4 hJ fun H6 q6 S6 c6 T6 => ⟨sb5 S6, good11 hJ T6 (S6.sli sr2 (by simp)) (by decide) fun H7 uv S7 su => ?_⟩⟩⟩)
  rw [ee]
  rw [eu] at su
  have M7 := M5.trans (Sm.of (S6.trans S7))
  refine vext0 (vext1 (okE (okE ((lb.keep M7).get rfl hg fun o3 gw sgw => ?_))))
  refine smiT hJ (xs := xg) (ys := xg) ((S6.trans S7).sli sg (by simp)) sgw rfl hll.1 (okN ((lc.keep M7).get rfl hu fun o4 uw suw => ?_))
  refine smiT hJ (xs := xu) (ys := xu) su suw rfl hll.2 (notI (hold.2 (wk4 hi3 (Eq.trans (b := F'.r 13) (by kernel_rfl) r13) (by kernel_rfl) fun F2 d0 q4 q5 q10 q11 q12 q13 => ?_)))
  exact ⟨i + 1, by dsimp only; omega, .inl ⟨by omega, (S.trans (S4.trans S5)).trans (S6.trans S7), d0.trans ds, q4.trans r4, q5.trans r5, q10.trans r10, q11.trans r11, q12.trans r12, q13⟩⟩
 ·have kp' := kp12.keep M
  refine good4 hJ fun H1 q1 S1 c1 T1 => ⟨⟨by decide, by decide, rfl⟩, fillO (l := [vint 0]) rfl rfl rfl (Nat.le_of_ble_eq_true (by kernel_rfl)) (fillO (l := [vint (-1)]) rfl rfl rfl (Nat.le_of_ble_eq_true (by kernel_rfl)) (fillO (l := [vint 1]) rfl rfl rfl (Nat.le_of_ble_eq_true (by kernel_rfl)) (fillO (l := [vint (-1)]) rfl rfl rfl (Nat.le_of_ble_eq_true (by kernel_rfl)) (fillI (qNew fun H2 p2 e2 S2 c2 l2 => ?_)))))⟩
  refine good11 hJ (t := exTro) (r := [0, -1, 1, -1]) ⟨T1.val, S2.sli T1.fl (by simp)⟩ (sliI (l := [0, -1, 1, -1]) c2 rfl) (by decide) fun H3 uv S3 su => ?_
  rw [k_unf.2.1]
  rw [k_unf.1] at su
  refine vext0 (vext1 (good4 hJ fun H4 q4 S4 c4 T4 => ⟨⟨by decide, by decide, rfl⟩, fillO (l := [vint 0]) rfl rfl rfl (Nat.le_of_ble_eq_true (by kernel_rfl)) (fillO (l := [vint 1]) rfl rfl rfl (Nat.le_of_ble_eq_true (by kernel_rfl)) (fillO (l := [vint (-1)]) rfl rfl rfl (Nat.le_of_ble_eq_true (by kernel_rfl)) (fillI (qNew fun H5 p5 e5 S5 c5 l5 => ?_))))⟩))
  refine good12 hJ (t := exTro) (r := [0, 1, -1]) ⟨T4.val, S5.sli T4.fl (by simp)⟩ (sliI (l := [0, 1, -1]) c5 rfl) (by decide) fun H6 S6 => ?_
  rw [k_unf.2.2]
  have T36 := (S4.trans S5).trans S6
  have T06 := ((S1.trans S2).trans S3).trans T36
  obtain ⟨fv, d1, d2⟩ := (kp'.keep (Sm.of T06)).poor
  refine vext0 (vext1 (load_part (c := troCells exPoor fv) d1 (by simp [troCells]) rfl (tro_kn d2) (good13 hJ d2 fun H7 w7 S7 f7 => ?_)))
  rw [k_poor]
  refine vext0 (vext1 (good4 hJ fun H8 q8 S8 c8 T8 => good14' hJ T8 fun H9 S9 => ?_))
  rw [k_fil.1, k_fil.2.1]
  refine vext0 (vext1 (good4 hJ fun H10 q10 S10 c10 T10 => good15' hJ T10 fun H11 S11 => ?_))
  rw [k_fil.2.2.1, k_fil.2.2.2]
  have T611 := (((S7.trans S8).trans S9).trans S10).trans S11
  refine vext0 (vext1 (okE (okE (okE (okE (okE (okE (okE ⟨⟨by decide, by decide, rfl⟩, fillO (l := [vint 0]) rfl rfl rfl (Nat.le_of_ble_eq_true (by kernel_rfl)) (fillI (qNew fun H13 p13 e13 S13 c13 l13 => ?_))⟩))))))))
  refine smiT hJ (xs := [0]) (ys := [0]) (((T36.trans T611).trans S13).sli su (by simp)) (sliI (l := [0]) c13 rfl) rfl (by decide) (notI (hold.2 ?_))
  exact wk5 (Eq.trans (b := F'.ds) (by kernel_rfl) ds) (by kernel_rfl) (Eq.trans (b := F'.r 5) (by kernel_rfl) r5) (kp'.keep (Sm.of ((T06.trans T611).trans S13))) hK
set_option maxHeartbeats 2000000 in
theorem wk1 {p4 p5 : Nat} (ds : F.ds = []) (r71 : F.r 71 = .bool false) (r4 : F.r 4 = ptr p4 0) (r5 : F.r 5 = ptr p5 0) (kp : Kp H p4 p5) (hK : ∀ H, K (.bool true) H) :
  W prog (J1 prog W0 Post) 317 n0 3 (subC [1, 1, 1, 0, 1] (codeOf f3)) F H (contX pl3 prog (J1 prog W0 Post) 317 n0 3 ct3 [1, 1, 1, 0, 1] (codeOf f3) [] (RetQ prog [.tmp 0] n0 K)) := by
 have hJ := J1.closed prog W0 Post
 rw [s3_1, r71]
 refine cnd_false.2 (good4 hJ fun H1 q1 S1 c1 T1 => ⟨⟨by decide, by decide, rfl⟩, fillO (l := [vint 0]) rfl rfl rfl (Nat.le_of_ble_eq_true (by kernel_rfl)) (fillO (l := [vint 1]) rfl rfl rfl (Nat.le_of_ble_eq_true (by kernel_rfl)) (fillI (qNew fun H2 p2 e2 S2 c2 l2 => ?_)))⟩)
 refine good7 hJ (t := exTro) (r := [0, 1]) (n := 4) ⟨T1.val, S2.sli T1.fl (by simp)⟩ (sliI (l := [0, 1]) c2 rfl) (by decide) fun H3 lv S3 sl3 => ?_
 rw [k_lev.2.1]
 rw [k_lev.1] at sl3
 refine vext0 (vext1 (good4 hJ fun H4 q4 S4 c4 T4 => ⟨⟨by decide, by decide, rfl⟩, fillO (l := [vint 0]) rfl rfl rfl (Nat.le_of_ble_eq_true (by kernel_rfl)) (fillO (l := [vint 1]) rfl rfl rfl (Nat.le_of_ble_eq_true (by kernel_rfl)) (fillI (qNew fun H5 p5 e5 S5 c5 l5 => ?_)))⟩))
 refine good8 hJ (t := exTro) (r := [0, 1]) (n := 4) ⟨T4.val, S5.sli T4.fl (by simp)⟩ (sliI (l := [0, 1]) c5 rfl) (by decide) fun H6 dv S6 sd6 => ?_
 rw [k_lev.2.1]
 rw [k_lev.2.2] at sd6
 have T36 := (S4.trans S5).trans S6
 refine vext0 (vext1 (okE (okE ⟨⟨by decide, by decide, rfl⟩, fillO (l := [vint 5]) rfl rfl rfl (Nat.le_of_ble_eq_true (by kernel_rfl)) (fillO (l := [vint 3]) rfl rfl rfl (Nat.le_of_ble_eq_true (by kernel_rfl)) (fillO (l := [vint 3]) rfl rfl rfl (Nat.le_of_ble_eq_true (by kernel_rfl)) (fillO (l := [vint 3]) rfl rfl rfl (Nat.le_of_ble_eq_true (by kernel_rfl)) (fillI (qNew fun H7 p7 e7 S7 c7 l7 => ?_)))))⟩)))
 refine smiT hJ (xs := [5, 3, 3, 3]) (ys := [5, 3, 3, 3]) ((T36.trans S7).sli sl3 (by simp)) (sliI (l := [5, 3, 3, 3]) c7 rfl) rfl (by decide) (okN ⟨⟨by decide, by decide, rfl⟩, fillO (l := [vint 2]) rfl rfl rfl (Nat.le_of_ble_eq_true (by kernel_rfl)) (fillO (l := [vint 3]) rfl rfl rfl (Nat.le_of_ble_eq_true (by kernel_rfl)) (fillI (qNew fun H8 p8 e8 S8 c8 l8 => ?_)))⟩)
 refine smiT hJ (xs := [2, 3]) (ys := [2, 3]) ((S7.trans S8).sli sd6 (by simp)) (sliI (l := [2, 3]) c8 rfl) rfl (by decide) (notI (hold.2 ?_))
 exact wk2 (Eq.trans (b := F.ds) (by kernel_rfl) ds) (by kernel_rfl) (Eq.trans (b := F.r 4) (by kernel_rfl) r4) (Eq.trans (b := F.r 5) (by kernel_rfl) r5) (kp.keep (Sm.of ((((S1.trans S2).trans S3).trans T36).trans (S7.trans S8)))) hK
theorem tro_cells {p : Nat} {t : Tro} {n : Nat} (hc : H[p]? = some (.cells (t.flocks.flatMap Dro.cells) true 0)) (hn : t.flocks.length = n) (hk : kn (t.flocks.flatMap Dro.cells) = true) : TroAt H (.agg ⟨troCells t (.slice (some ⟨p, 0, none⟩) n n)⟩) t (.slice (some ⟨p, 0, none⟩) n n) := by
 subst hn
 have hl : (t.flocks.flatMap Dro.cells).length = t.flocks.length * 2 := by
  induction t.flocks with
  | nil => rfl
  | cons d l ih => rw [List.flatMap_cons, List.length_append, ih, List.length_cons]; simp [Dro.cells]; omega
 exact ⟨rfl, _, _, rfl, ⟨hl, hk⟩, .inr ⟨p, 0, rfl, .inr ⟨_, true, 0, hc, by rw [List.drop_zero]; exact List.take_of_length_le (by rw [hl]; exact Nat.le_refl _)⟩⟩⟩
theorem trough_new (hJ : Closed prog main J) (hK : ∀ H p, SameX [] h H → h.length ≤ p → H[p]? = some (.cells (exTro.flocks.flatMap Dro.cells) true 0) → K (.agg ⟨troCells exTro (.slice (some ⟨p, 0, none⟩) 2 2)⟩) H) : Good prog J 4 [] h K := by
 refine g4 hJ fun ok => ?_
 rw [e4]
 refine qAl fun H1 p1 e1 S1 c1 l1 => ?_
 refine fill_one rfl rfl rfl (by decide) (fill_one rfl rfl rfl (by decide) (fill_one rfl rfl rfl (by decide) (fillI ?_)))
 refine fill_one rfl rfl rfl (by decide) (fill_one rfl rfl rfl (by decide) (fillI ?_))
 refine fill_one rfl rfl rfl (by decide) (fill_one rfl rfl rfl (by decide) (fillI ?_))
 refine ⟨by decide, fill_one rfl rfl rfl (by decide) (fill_one rfl rfl rfl (by decide) (fillI (qNew fun H2 p2 e2 S2 c2 l2 => ?_)))⟩
 have c2 : H2[p2]? = some (.cells (exTro.flocks.flatMap Dro.cells) true 0) := c2
 refine fill_one rfl rfl rfl (by decide) (fill_one rfl rfl rfl (by decide) (fillI ?_))
 refine qStA (c := troCells exTro (.slice (some ⟨p2, 0, none⟩) 2 2)) (S2.get c1 (by simp)) rfl rfl rfl fun H3 S3 c3 l3 => ?_
 have SS : SameX [] h H3 := (S1.trans S2).thru S3 (by intro x hx; rw [List.mem_singleton.1 hx]; exact .inr (by omega))
 refine retQ_same rfl (resW_cell (gg := true) (s := 4) (by kernel_rfl) ?_)
 refine load_part (c := troCells exTro (.slice (some ⟨p2, 0, none⟩) 2 2)) c3 (by simp [troCells]) rfl rfl (resW_nil ?_)
 exact hK _ p2 SS (by have := S1.1; omega) (S3.get c2 (by simp; omega))
theorem tro_sl {p : Nat} {t : Tro} (hc : H[p]? = some (.cells (t.flocks.flatMap Dro.cells) true 0)) (hn : t.flocks.length = 2) (hk : kn (t.flocks.flatMap Dro.cells) = true) : TroAt H (.agg ⟨troCells t (.slice (some ⟨p, 0, none⟩) 2 2)⟩) t (.slice (some ⟨p, 0, none⟩) 2 2) := tro_cells hc hn hk
set_option maxHeartbeats 8000000 in
theorem walk3 (hK : ∀ H, K (.bool true) H) : W prog (J1 prog W0 Post) 317 h.length 3 (codeOf f3) (RG.mk (regs []) []) h (RetQ prog [.tmp 0] h.length K) := by
 have hJ := J1.closed prog W0 Post
 rw [e3]
 refine trough_new hJ fun H1 q1 S1 n1 c1 => trough_new hJ fun H2 q2 S2 n2 c2 => trough_new hJ fun H3 q3 S3 n3 c3 => trough_new hJ fun H4 q4 S4 n4 c4 => trough_new hJ fun H5 q5 S5 n5 c5 => ?_
 refine qAl fun H6 p1 e6 S6 c6 l6 => qAl fun H7 p2 e7 S7 c7 l7 => qAl fun H8 p3 e8 S8 c8 l8 => qAl fun H9 p4 e9 S9 c9 l9 => qAl fun H10 p5 e10 S10 c10 l10 => ?_
 -- where the blocks lie
 have u1 := lt_of_get c1
 have u2 := lt_of_get c2
 have u3 := lt_of_get c3
 have u4 := lt_of_get c4
 have u5 := lt_of_get c5
 have g2 := S2.1
 have g3 := S3.1
 have g4 := S4.1
 have g5 := S5.1
 have z1 := (((S7.trans S8).trans S9).trans S10).get c6 (by simp)
 have z2 := ((S8.trans S9).trans S10).get c7 (by simp)
 have z3 := (S9.trans S10).get c8 (by simp)
 have z4 := S10.get c9 (by simp)
 have A5 : SameX [] H5 H10 := (((S6.trans S7).trans S8).trans S9).trans S10
 have x1 := A5.get ((((S2.trans S3).trans S4).trans S5).get c1 (by simp)) (by simp)
 have x3 := A5.get ((S4.trans S5).get c3 (by simp)) (by simp)
 have x4 := A5.get (S5.get c4 (by simp)) (by simp)
 have x5 := A5.get c5 (by simp)
 refine qStA (c := troCells exTro (.slice (some ⟨q1, 0, none⟩) 2 2)) z1 rfl rfl rfl fun H11 S11 a1 l11 => qStA (c := troCells exTro (.slice (some ⟨q2, 0, none⟩) 2 2)) (S11.get z2 (by simp; omega)) rfl rfl rfl fun H12 S12 a2 l12 => ?_
 refine qStA (c := troCells exTro (.slice (some ⟨q3, 0, none⟩) 2 2)) (S12.get (S11.get z3 (by simp; omega)) (by simp; omega)) rfl rfl rfl fun H13 S13 a3 l13 => ?_
 refine qStA (c := troCells exTro (.slice (some ⟨q4, 0, none⟩) 2 2)) (S13.get (S12.get (S11.get z4 (by simp; omega)) (by simp; omega)) (by simp; omega)) rfl rfl rfl fun H14 S14 a4 l14 => ?_
 refine qStA (c := troCells exTro (.slice (some ⟨q5, 0, none⟩) 2 2)) (S14.get (S13.get (S12.get (S11.get c10 (by simp; omega)) (by simp; omega)) (by simp; omega)) (by simp; omega)) rfl rfl rfl fun H15 S15 a5 l15 => ?_
 have past : ∀ {i : Nat} {o : AObj}, i < p1 → H10[i]? = some o → H15[i]? = some o := fun hi ho => S15.get (S14.get (S13.get (S12.get (S11.get ho (by simp; omega)) (by simp; omega)) (by simp; omega)) (by simp; omega)) (by simp; omega)
 have y1 := past (by omega) x1
 have y3 := past (by omega) x3
 have y4 := past (by omega) x4
 have y5 := past (by omega) x5
 have b1 := S15.get (S14.get (S13.get (S12.get a1 (by simp; omega)) (by simp; omega)) (by simp; omega)) (by simp; omega)
 have b2 := S15.get (S14.get (S13.get a2 (by simp; omega)) (by simp; omega)) (by simp; omega)
 have b3 := S15.get (S14.get a3 (by simp; omega)) (by simp; omega)
 have b4 := S15.get a4 (by simp; omega)
 clear past x1 x3 x4 x5 z1 z2 z3 z4 A5 a1 a2 a3 a4 S11 S12 S13 S14 S15 S1 S2 S3 S4 S5 S6 S7 S8 S9 S10 c1 c2 c3 c4 c5 c6 c7 c8 c9 c10
 have hlen : H15.length = H10.length := by omega
 have rd3 : ∀ {o : Nat}, RdOk (some [p3, p5]) (ptrBlk (ptr p3 o)) := by simp [RdOk, ptrBlk]
 have rd5 : ∀ {o : Nat}, RdOk (some [p3, p5]) (ptrBlk (ptr p5 o)) := by simp [RdOk, ptrBlk]
 have sb : ∀ {X : List Nat} {H' : List AObj}, SameX X H15 H' → p3 ∉ X → p5 ∉ X → SameB (some [p3, p5]) H15 H' := fun S h3 h5 => sbTwo S (lt_of_get b3) (lt_of_get a5) h3 h5
 refine ⟨[p3, p5], offI (ldI (v := .slice (some ⟨q3, 0, none⟩) 2 2) b3 rfl rfl ⟨rd3, offI (ldI (v := .slice (some ⟨q5, 0, none⟩) 2 2) a5 rfl rfl ⟨rd5, ?_⟩)⟩)⟩
 refine offI (offI (qSt (v := vint 11) b1 (Nat.lt_of_lt_of_le (by decide : 0 < 4) (Nat.le_refl 4)) rfl rfl fun H16 S16 w1 l16 => ⟨sb S16 (by simp; omega) (by simp; omega), ?_⟩))
 have T16 : SameX [p1] H15 H16 := S16
 refine offI (qSt (v := .slice none 0 0) (S16.get b2 (by simp; omega)) (Nat.lt_of_lt_of_le (by decide : 3 < 4) (Nat.le_refl 4)) rfl rfl fun H17 S17 w2 l17 => ⟨sb (X := [p1, p2]) (wide S16 S17) (by simp; omega) (by simp; omega), ?_⟩)
 have T17 : SameX [p1, p2] H15 H17 := wide S16 S17
 refine idxI ⟨by decide, by decide⟩ (offI (qSt (v := vint 0) (T17.get y3 (by simp; omega)) (by decide) rfl rfl fun H18 S18 w3 l18 => ⟨sb (X := [p1, p2, q3]) (wide T17 S18) (by simp; omega) (by simp; omega), ?_⟩))
 have T18 : SameX [p1, p2, q3] H15 H18 := wide T17 S18
 refine offI (offI (qSt (v := vint 2) (T18.get b4 (by simp; omega)) (Nat.lt_of_lt_of_le (by decide : 2 < 4) (Nat.le_refl 4)) rfl rfl fun H19 S19 w4 l19 => ⟨sb (X := [p1, p2, q3, p4]) (wide T18 S19) (by simp; omega) (by simp; omega), ?_⟩))
 have T19 : SameX [p1, p2, q3, p4] H15 H19 := wide T18 S19
 refine idxI ⟨by decide, by decide⟩ (offI (qSt (v := vint 11) (T19.get y5 (by simp; omega)) (by decide) rfl rfl fun H20 S20 w5 l20 => ?_))
 have T20 : SameX [p1, p2, q3, p4, q5] H15 H20 := wide T19 S20
 have P1 : H20[p1]? = some (.cells (troCells exFull (.slice (some ⟨q1, 0, none⟩) 2 2)) true 0) := S20.get (S19.get (S18.get (S17.get w1 (by simp; omega)) (by simp; omega)) (by simp; omega)) (by simp; omega)
 have P2 : H20[p2]? = some (.cells (troCells exNone (.slice none 0 0)) true 0) := S20.get (S19.get (S18.get w2 (by simp; omega)) (by simp; omega)) (by simp; omega)
 have P3 : H20[p3]? = some (.cells (troCells exDry (.slice (some ⟨q3, 0, none⟩) 2 2)) true 0) := T20.get b3 (by simp; omega)
 have P4 : H20[p4]? = some (.cells (troCells exPoor (.slice (some ⟨q4, 0, none⟩) 2 2)) true 0) := S20.get w4 (by simp; omega)
 have P5 : H20[p5]? = some (.cells (troCells exDeep (.slice (some ⟨q5, 0, none⟩) 2 2)) true 0) := T20.get a5 (by simp; omega)
 have Q1 : H20[q1]? = some (.cells (exFull.flocks.flatMap Dro.cells) true 0) := T20.get y1 (by simp; omega)
 have Q3 : H20[q3]? = some (.cells (exDry.flocks.flatMap Dro.cells) true 0) := S20.get (S19.get w3 (by simp; omega)) (by simp; omega)
 have Q4 : H20[q4]? = some (.cells (exPoor.flocks.flatMap Dro.cells) true 0) := T20.get y4 (by simp; omega)
 have Q5 : H20[q5]? = some (.cells (exDeep.flocks.flatMap Dro.cells) true 0) := w5
 have kp : Kp H20 p4 p5 := ⟨⟨_, P4, tro_sl Q4 rfl rfl⟩, ⟨_, P5, tro_sl Q5 rfl rfl⟩⟩
 refine good19f fun H21 S21 => okN ?_
 have M21 := Sm.unch S21
 refine good4 hJ fun H22 q22 S22 c22 T22 => good6 hJ T22 ?_
 have M22 := M21.trans (Sm.of S22)
 rw [k_chk.1]
 refine okE (load_part (c := troCells exFull (.slice (some ⟨q1, 0, none⟩) 2 2)) (M22.at P1) (by simp [troCells]) rfl rfl (good6 hJ (tro_sl (t := exFull) (M22.at Q1) rfl rfl) ?_))
 rw [k_chk.2.1]
 refine okE (load_part (c := troCells exNone (.slice none 0 0)) (M22.at P2) (by simp [troCells]) rfl rfl (good6 hJ (t := exNone) (fv := .slice none 0 0) ⟨rfl, sli_nil⟩ ?_))
 rw [k_chk.2.2.1]
 refine okE (load_part (c := troCells exDry (.slice (some ⟨q3, 0, none⟩) 2 2)) (M22.at P3) (by simp [troCells]) rfl rfl (good6 hJ (tro_sl (t := exDry) (M22.at Q3) rfl rfl) ?_))
 rw [k_chk.2.2.2]
 exact neqI (hold.2 (wk1 (by kernel_rfl) (by kernel_rfl) (by kernel_rfl) (by kernel_rfl) (kp.keep M22) hK))
end
end Go.Proofs.YtmmlamfgbmnkgaaDoor
namespace Go.Proofs.YtmmlamfgbmnkgaaDoor
open Go.Conc
section
variable {P : Program} {W0 : World} {Post : Value → World → Prop} {ρ : Env} {h : List AObj} {FC : Frm} {w : World} {ft : Foot} {f : RG} {a : Act} {b : FB} {K : Value → List AObj → Prop} {n0 : Nat}
theorem leave_top {fn : Func} (hk : b.kind = .normal) (hf : P.funcs[b.fn]? = some fn) (hin : P.inits.idxOf? b.fn = none)
  (hc : ∀ v h' ρ' w' ft' cv, K v h' → HRel ρ' h' FC w' ft' → Env.upto n0 ρ ρ' → n0 ≤ h'.length → VRel h'.length ρ' v cv → Base W0 w' → Post cv w') :
  ∀ (ds : List Nat) (h : List AObj) (w : World) (ft : Foot) (a : Act) (fr : Frame), fr.fn = b.fn → fr.kind = .normal → fr.mode = .returning → fr.tmps = a.tmps → fr.defers = ds.map (fun d => { target := .collected (ρ.blk d), args := #[] }) → RegRel h.length ρ f.r a.tmps → HRel ρ h FC w ft → n0 ≤ h.length →
   takeW ds h (fun h => resW P fn.results.toList f.r h fun vs => K (pack vs) h ∨ ∃ σ h' v, GC n0 σ h h' ∧ pack vs = sub σ v ∧ VOk h'.length v ∧ K v h') → J1 P W0 Post (G fr []) w ft
 | [], h, w, ft, a, fr, e1, e2, e3, e4, e5, hr, H, hn, hq => by
  obtain ⟨fn', tmps, todo, defers, mode, kind, ro⟩ := fr
  simp only at e1 e2 e3 e4 e5
  subst e1 e2 e3 e4 e5
  refine J1.both rfl fun w₁ h₁ hbase => .inr ?_
  have H₁ := H.rely h₁
  have hrun : RunsTo P (EvOk ft) (results fn a.tmps) w₁ fun cv w' => w' = w₁ ∧ ∃ vs, cv = ren ρ (pack vs) ∧ (∀ v ∈ vs, VOk h.length v) ∧ (K (pack vs) h ∨ ∃ σ h' v, GC n0 σ h h' ∧ pack vs = sub σ v ∧ VOk h'.length v ∧ K v h') := by
   unfold results
   have : (fn.results.mapM (resF a.tmps)) = List.toArray <$> fn.results.toList.mapM (resF a.tmps) := by
    rw [Array.mapM_eq_mapM_toList]
   show RunsTo P (EvOk ft) (do
    let vs ← fn.results.mapM (resF a.tmps)
    pure (if h : vs.size = 1 then vs[0] else .tuple vs)) w₁ _
   rw [this]
   refine RunsTo.bind (RunsTo.map (res_run (n := 0) H₁ hr fn.results.toList hq fun vs hvs hok => RunsTo.pure ⟨rfl, vs, ?_, hok, hvs⟩))
   exact pack_ren vs
  obtain ⟨cv, w', es, hr', he, rfl, vs, rfl, hvok, hvs⟩ := hrun #[] (by simp)
  have hes : ∀ e ∈ seen P b.fn es, EvOk ft e := fun e hm => he e (mem_seen hm)
  refine ⟨ren ρ (pack vs), seen P b.fn es, ?_, hes, ?_⟩
  ·simp only [G, stepG, unwind, List.map_nil, hf, hr']
   simp [doReturn, GStep.after, hin]
  ·rcases hvs with hK | ⟨σ, h', v, g, hp, hok, hK⟩
   ·exact hc _ h _ w' ft _ hK H₁ (Env.upto_refl _ _) hn (.inr ⟨pack_ok hvok, rfl⟩) hbase
   ·rw [hp, ren_sub]
    exact hc v h' _ w' ft _ hK (g.rel H₁) g.upto g.le (.inr ⟨hok, rfl⟩) hbase
 | d :: ds, h, w, ft, a, fr, e1, e2, e3, e4, e5, hr, H, hn, hq => by
  obtain ⟨fn', tmps, todo, defers, mode, kind, ro⟩ := fr
  simp only at e1 e2 e3 e4 e5
  subst e1 e2 e3 e4 e5
  obtain ⟨hd, hq⟩ := hq
  refine (J1.closed P W0 Post).step rfl fun w₁ h₁ => ?_
  have H₁ := H.rely h₁
  obtain ⟨cv, w', es, hr', he, rfl, H', hst, hsz⟩ := take_run (P := P) H₁ hd (Q := fun l w' => l = [] ∧ HRel ρ (h.set d .dead) FC w' ft ∧ Stays ft w₁ w' ∧ w'.heap.size = w₁.heap.size) (fun w' a1 a2 a3 => ⟨rfl, a1, a2, a3⟩) #[] (by simp)
  have hes : ∀ e ∈ seen P b.fn es, EvOk ft e := fun e hm => he e (mem_seen hm)
  refine ⟨G { fn := b.fn, tmps := a.tmps, todo := todo, defers := ds.map (fun d => { target := .collected (ρ.blk d), args := #[] }), mode := .returning, kind := .normal, roundOf := ro } [], w', seen P b.fn es, ?_, rfl, hst.guar hes, ?_⟩
  ·simp only [G, stepG, unwind, List.map_cons, hr']
   simp [GStep.after]
  ·rw [hsz, Foot.ext_self]
   exact leave_top hk hf hin hc ds _ w' ft a _ rfl rfl rfl rfl rfl (by rw [List.length_set]; exact hr) H' (by rw [List.length_set]; exact hn) hq
theorem top_of_W (hm : P.follows .mixedOrders = true) {g : FuncId} {fn : Func} (hf : P.funcs[g]? = some fn) {c : Code} (hb : fn.body = some c) (hin : P.inits.idxOf? g = none) {args : List Value} {cargs : Array Value} (ha : args.length ≤ fn.ntmps) (hl : cargs.size = args.length)
  (hr : ∀ i : Nat, VRel h.length ρ (args.getD i unk) (cargs.toList.getD i undef)) (H : HRel ρ h FC w ft)
  (hs : W P (J1 P W0 Post) fn.ntmps h.length g c ⟨regs args, []⟩ h (RetQ P fn.results.toList h.length K))
  (hc : ∀ v h' ρ' w' ft' cv, K v h' → HRel ρ' h' FC w' ft' → Env.upto h.length ρ ρ' → h.length ≤ h'.length → VRel h'.length ρ' v cv → Base W0 w' → Post cv w') : J1 P W0 Post (G (Frame.enter P g cargs .normal) []) w ft := by
 have hJ := J1.closed P W0 Post
 obtain ⟨cargs⟩ := cargs
 simp only at hl hr
 have he : Frame.enter P g ⟨cargs⟩ .normal = FB.at ⟨g, .normal, none, []⟩ ⟨⟨cargs⟩ ++ Array.replicate (fn.ntmps - cargs.length) undef, []⟩ [.code c] := by
  simp [Frame.enter, FB.at, hf, hb]
 rw [he]
 have A : ActRel h.length ρ fn.ntmps ⟨regs args, []⟩ ⟨⟨cargs⟩ ++ Array.replicate (fn.ntmps - cargs.length) undef, []⟩ := by
  refine ⟨fun t => ?_, by simp at hl ⊢; omega, rfl, by simp⟩
  have := hr t
  have ht : ((⟨cargs⟩ : Array Value) ++ Array.replicate (fn.ntmps - cargs.length) undef).getD t undef = cargs.getD t undef := by
   rw [Array.getD_eq_getD_getElem?, List.getD_eq_getElem?_getD]
   by_cases hx : t < cargs.length
   ·rw [Array.getElem?_append_left (by simpa using hx)]
    simp
   ·rw [Array.getElem?_append_right (by simp; omega), List.getElem?_eq_none (by omega)]
    simp only [Array.getElem?_replicate]
    split <;> rfl
  rw [ht]
  exact this
 have last : ∀ f' h' ρ' w' ft' a' todo, RetQ P fn.results.toList h.length K .ret f' h' → ActRel h'.length ρ' fn.ntmps f' a' → HRel ρ' h' FC w' ft' → Env.upto h.length ρ ρ' → h.length ≤ h'.length →
   J1 P W0 Post (G { (FB.at ⟨g, .normal, none, []⟩ a' todo) with mode := .returning } []) w' ft' := by
  intro f' h' ρ' w' ft' a' todo q A' H' hu hl
  exact leave_top (b := ⟨g, .normal, none, []⟩) (f := f') (n0 := h.length) (ρ := ρ') rfl hf hin (fun v h2 ρ2 w2 ft2 cv k H2 u2 l2 v2 => hc v h2 ρ2 w2 ft2 cv k H2 (Env.upto_trans hu u2) l2 v2) f'.ds h' w' ft' a' _ rfl rfl rfl rfl ((List.append_nil _).trans A'.defers) A'.regs H' hl q
 refine W_sound hJ hm c hs ⟨g, .normal, none, []⟩ _ [] [] (fun jump a w ft => jump = some .ret ∧ ∀ todo, J1 P W0 Post (G { (FB.at ⟨g, .normal, none, []⟩ a todo) with mode := .returning } []) w ft) ρ FC w ft rfl (by simp) ?_ A H (Nat.le_refl _) ?_
 ·rintro jump a w ft todo ⟨rfl, hj⟩ hh
  rcases hh with ⟨_, k, rfl⟩ | ⟨id, k, e, _⟩ | ⟨e, _⟩
  ·exact hJ.ctrl rfl rfl (fun w => by simp [G, stepG, stepG.exec, FB.at]) (hj (.code .ret :: k))
  ·cases e
  ·cases e
 ·intro e f' h' ρ' w' ft' a' q A' H' hu hl
  cases e with
  | normal => exact hJ.ctrl rfl rfl (fun w => by simp [G, stepG, stepG.exec, FB.at]) (last f' h' ρ' w' ft' a' [] q A' H' hu hl)
  | ret => exact ⟨rfl, fun todo => last f' h' ρ' w' ft' a' todo q A' H' hu hl⟩
  | exit id => exact q.elim
  | goto l => exact q.elim
  | panic l => exact q.elim
  | outgrown => exact q.elim
theorem run_of_J1 {g : Goroutine} {w : World} {ft : Foot} (h : J1 P W0 Post g w ft) (hb : ∀ b, ft.rd b → b < w.heap.size) (hs : ∀ b, ft.wr b → ft.rd b) (hw : W0 = w) : Ends P Post (solo g w) #[] := by
 rw [solo_eq_crowd]
 exact h #[g] w none #[] (fun _ => 0) hb hs (RelyW.refl _ _) (by subst hw; exact ⟨rfl, rfl, rfl, Nat.le_refl _⟩) rfl (leavers_one P g) (past_nil.mono (Nat.zero_le _))
end
end Go.Proofs.YtmmlamfgbmnkgaaDoor
namespace Go.Proofs.YtmmlamfgbmnkgaaDoor
open Go.Conc Go.RowKit
def idEnv : Env := ⟨fun b => b, fun _ => 0⟩
def startFt (w : World) : Foot := ⟨fun b => b < w.heap.size, fun _ => False, 0⟩
def startFC (w : World) : Frm := ⟨fun b => w.heap[b]?, fun _ => False⟩
def Fine (n : Nat) (v : Value) : Prop := VOk n v ∧ one v = true ∧ ren idEnv v = v
open Classical in
noncomputable def clean (n : Nat) (v : Value) : Value := if Fine n v then v else unk
noncomputable def absO (n : Nat) : Obj → AObj
 | .cells c _ _ => .cells (c.toList.map (clean n)) false 0
 | _ => .dead
noncomputable def absH (w : World) : List AObj := w.heap.toList.map (absO w.heap.size)
section
variable {w w' : World} {n : Nat}
theorem clean_fine {v : Value} (h : Fine n v) : clean n v = v := by simp [clean, h]
theorem absH_len : (absH w).length = w.heap.size := by simp [absH]
theorem absH_get {b : Nat} : (absH w)[b]? = (w.heap[b]?).map (absO w.heap.size) := by simp [absH]
theorem absO_wrt (x : Obj) : (absO n x).wrt = false := by cases x <;> rfl
theorem start_rel (w : World) : HRel idEnv (absH w) (startFC w) w (startFt w) where
 obj := fun b o hb => by
  rw [absH_get] at hb
  obtain ⟨x, hx, rfl⟩ := Option.map_eq_some_iff.1 hb
  show ORel (absH w).length idEnv b (absO w.heap.size x) w.heap[b]?
  rw [absH_len, hx]
  cases x with
  | cells c ty fr =>
   refine ⟨fun i v hv => ?_, fun _ => by simp, fun hz => absurd rfl hz, fun e => by cases e⟩
   rw [List.getElem?_map] at hv
   obtain ⟨u, hu, rfl⟩ := Option.map_eq_some_iff.1 hv
   by_cases hf : Fine w.heap.size u
   ·rw [clean_fine hf]
    exact .inr ⟨hf.1, hf.2.1, by rw [hf.2.2]; simpa using hu⟩
   ·exact .inl ⟨by simp [clean, hf], rfl⟩
  | _ => trivial
 inj := fun b b' o o' _ _ _ _ e => e
 rd := fun b o hb _ => by
  have : b < (absH w).length := (List.getElem?_eq_some_iff.1 hb).1
  rw [absH_len] at this
  exact this
 wr := fun b o hb hw => by
  rw [absH_get] at hb
  obtain ⟨x, hx, rfl⟩ := Option.map_eq_some_iff.1 hb
  rw [absO_wrt] at hw
  cases hw
 lt := fun b hb => hb
 sub := fun b hb => hb.elim
 kept := fun b o hb => by
  refine ⟨hb, ?_, fun a oa ha hw => ?_⟩
  ·exact (Array.getElem?_eq_some_iff.1 hb).1
  ·rw [absH_get] at ha
   obtain ⟨x, hx, rfl⟩ := Option.map_eq_some_iff.1 ha
   rw [absO_wrt] at hw
   cases hw
 keptW := fun b hb => hb.elim
 tag := fun b x hb => by
  rw [absH_get] at hb
  obtain ⟨y, _, e⟩ := Option.map_eq_some_iff.1 hb
  cases y <;> cases e
theorem below_of {ρ' : Env} {h' : List AObj} {ft' : Foot} (H : HRel ρ' h' (startFC w) w' ft') (B : Base w w') : Below w.heap.size w w' :=
 ⟨B.os, B.tape, B.output, B.size, fun k hk => by
  have : (startFC w).ob k = some w.heap[k] := by simp [startFC, hk]
  rw [(H.kept k _ this).1, Array.getElem?_eq_getElem hk]⟩
end
end Go.Proofs.YtmmlamfgbmnkgaaDoor
namespace Go.Proofs.YtmmlamfgbmnkgaaDoor
open Go.Conc Go.ChangeShapes Go.WideShapes Go.ChangeAt Go.RowKit Go.Proofs.Tryd
set_option maxRecDepth 100000
theorem own : ownKnob prog.godebug = none := by kernel_rfl
def ArgOk (W : World) (v : Value) : Prop := VOk W.heap.size v ∧ ren idEnv v = v
theorem law_run1 {g : FuncId} {fn : Func} {c : Code} (hf : prog.funcs[g]? = some fn) (hb : fn.body = some c) (hin : prog.inits.idxOf? g = none) (W₀ : World) (args : List Value) (ha : args.length ≤ fn.ntmps) (hok : ∀ v ∈ args, ArgOk W₀ v)
  (walk : ∀ Post, W prog (J1 prog W₀ Post) fn.ntmps (absH W₀).length g c ⟨regs args, []⟩ (absH W₀) (RetQ prog fn.results.toList (absH W₀).length fun v _ => v = .bool true)) :
  Ends prog (fun v w' => v = .bool true ∧ Below W₀.heap.size W₀ w') (solo (G (Frame.enter prog g ⟨args⟩ .normal) []) W₀) #[] := by
 refine run_of_J1 (W0 := W₀) (ft := startFt W₀) (top_of_W mixed hf hb hin ha rfl (fun i => ?_) (start_rel W₀) (walk _) ?_) (fun b hb => hb) (fun b hb => hb.elim) rfl
 ·show VRel (absH W₀).length idEnv (args.getD i unk) (args.getD i undef)
  simp only [List.getD_eq_getElem?_getD]
  cases hi : args[i]? with
  | none => exact .inl rfl
  | some v =>
   obtain ⟨h1, h2⟩ := hok v (List.mem_of_getElem? hi)
   exact .inr ⟨by rw [absH_len]; exact h1, h2.symm⟩
 ·intro v h' ρ' w' ft' cv hv H' _ _ hcv hB
  subst hv
  refine ⟨?_, below_of H' hB⟩
  rcases hcv with e | ⟨_, e⟩
  ·cases e
  ·rw [e]
   rfl
def cellsD : DataW Unit → Array Value
 | .agg ds => ⟨ds.map fun | .lit (.int k n) => Value.int k n | _ => .int .i64 0⟩
 | _ => #[]
def laySet (d : DataW Unit) : Obj → Obj
 | .cells _ t frozen => .cells (cellsD d) t frozen
 | o => o
noncomputable def laidWorld (os : Os) : World :=
 let w0 := World.holding prog os ⟨#[], #[], []⟩
 { w0 with heap := ((w0.heap.modify 0 (laySet Rows.laid_internal_strconv_uint64pow10)).modify 1 (laySet Rows.laid_math_bits_deBruijn32tab)).modify 2 (laySet Rows.laid_math_bits_deBruijn64tab) }
theorem laidWorld_met (os : Os) : laidMetH prog Rows.wellKnownRow.laid ((laidWorld os).forCall (fun _ _ => 0) ⟨#[], #[], []⟩).memory :=
 (laidMet_of_run3 8 (by kernel_rfl) (by kernel_rfl) (by kernel_rfl) : laidMet prog Rows.wellKnownRow.laid _)
theorem lifted3 (os : Os) (started : os.Started) (H : Type) (enc : TypeId × Value → H) :
  ReturnsInLeavingWide {} checked os 3 .any (fun w args => (Rows.wellKnownSpec.pre enc prog f3 Rows.wellKnownRow.domain false w args ∧ laidMetH prog Rows.wellKnownRow.laid w) ∧ sizedMet enc prog f3 (OpenSpec.ofChange Rows.wellKnownSpec) false w args) (Rows.wellKnownSpec.post enc prog f3 false true false false) := by
 refine returnsInLeavingWide_of_good (C := checked) own started
  (ChangeSpec.witness_at (enc := enc) (C := checked) (os := os) (X := fun w _ => laidMetH prog Rows.wellKnownRow.laid w) false (laidWorld os) #[] 8 rfl (by kernel_rfl) (by kernel_rfl) (by kernel_rfl) (by kernel_rfl) (by kernel_rfl) (laidWorld_met os)) ?_
 intro w tape i _ _ _ _ hpre _
 obtain ⟨⟨⟨ds, gs, before, hw, _⟩, _⟩, _⟩ := hpre
 have hW := DataW.Whole.of_heap (w' := w.forCall tape i) (by rfl) hw
 generalize w.forCall tape i = W at hW
 generalize i.args = args at hW
 have hW' := hW
 obtain ⟨p, q, hA0, hV, rfl, _, _⟩ := hW
 have hA : DataW.TrodAll enc prog W 0 (fun _ => true) true f3.params.toList args.toList ds p := hA0
 have hps : f3.params = #[] := by kernel_rfl
 rw [hps] at hA
 obtain ⟨args⟩ := args
 obtain ⟨hvn, hdn, hpn⟩ := trodAll_nil hA
 have hvn : args = [] := hvn
 subst hvn hdn hpn
 obtain ⟨rfl, rfl⟩ := trodVars_none hV
 have u4 : prog.underlying 4 = some .bool := by kernel_rfl
 obtain ⟨M, last, o, w', t', r1, r2, r3, r4⟩ := law_run1 (g := 3) (fn := f3) at3 body3 (by kernel_rfl) W [] (Nat.zero_le _) (fun v hv => absurd hv (by simp))
  (fun Post => walk3 (K := fun v _ => v = .bool true) fun _ => rfl)
 refine ⟨M, last, o, w', t', r1, r2, r3, r4.mono fun v hF => ?_⟩
 obtain ⟨rfl, hbelow⟩ := hF
 refine ChangeSpec.post_blind ?_
 refine ⟨_, _, _, [], _, [], hW', ?_, by rfl, by rfl, hbelow.frame _, fun h => by cases h⟩
 exact trodAll_mk1 (shut_bool u4 true)
theorem wellKnown_row : Rows.WellKnownSaid :=
 OpenClaim.holds_of_wide_leaving 3 f3 rfl rfl rfl rfl rfl rfl rfl ⟨rfl, rfl, rfl, rfl, rfl⟩ rfl rfl rfl rfl rfl (by kernel_rfl) at3 (by kernel_rfl)
  (of_decide_eq_true (by kernel_rfl)) (by unfold Func.isWrapper; first | (rw [if_pos (by decide +kernel)]; kernel_rfl) | (rw [if_neg (by decide +kernel)]; exact ⟨rfl, rfl⟩))
  (fun os started H enc _ => lifted3 os started H enc)
#print axioms wellKnown_row
end Go.Proofs.YtmmlamfgbmnkgaaDoor
namespace Go.Proofs.YtmmlamfgbmnkgaaDoor
open Go
set_option maxRecDepth 100000
theorem tied_goes {p : Pinned} {s : OpenSpec} {c : OpenClaim} (Lk : Looks) (kinds : List LaidKind) (tests : Bool) (har : Bool × String) (lk : Bool)
  (hc : c.holds p s) (hw : c.wfByText s = true) (htie : c.laidByTextAt Lk p kinds tests)
  (hst : c.start = .entering) (hnb : c.noBlocks = false ∧ c.again = false) (hm : p.checked.prog.mainIs = some (har.1, har.2.toList)) (hn : (!har.1 && har.2.isEmpty && !lk) = false)
  (hl : ∀ f fn, p.checked.prog.funcNamed c.func = some f → p.checked.prog.funcs[f]? = some fn → lk = p.checked.prog.looks [] ∧ ∀ (j : Nat) t, fn.params[j]? = some t → p.checked.prog.wantsStandIn t = false)
  (hg : true = c.goesBy p.checked.prog) :
  Claim7.holds p (.plain s) { stood := { row := c, standIns := [], harness := har, looks := lk }, kinds := [], alts := [], goes := true, laidByText := true, laidKinds := kinds, laidTests := tests, laidLooks := Lk } := by
 have h6 : Claim7.isSixth { stood := { row := c, standIns := [], harness := har, looks := lk }, kinds := [] } = false := by simpa [Claim7.isSixth] using hn
 exact ⟨Claim7.tied_new_at Lk kinds tests (Claim7.new_of_sixth hc har lk hst hnb hm h6 hl) hw, (fun D hD => by cases hD), htie, (fun h => by cases h), hg⟩
theorem wellKnown_holds : Rows.WellKnownCardSaid :=
 tied_goes .later [.data, .data, .data] true (true, "3a5997f214d0f25ddd81f960ffd5b67349c8c729c2176674be1b05f803ab7485") false
  wellKnown_row (by kernel_rfl) wellKnown_row_tie rfl ⟨rfl, rfl⟩ (by kernel_rfl) rfl
  (fun f fn hf hfn => by
   have e : Tryd.prog.funcNamed "mesta/mestalaw11.WellKnown" = some 3 := by kernel_rfl
   obtain rfl : f = 3 := (Option.some.inj (e.symm.trans hf)).symm
   obtain rfl : fn = Tryd.f3 := (Option.some.inj (at3.symm.trans hfn)).symm
   exact ⟨by kernel_rfl, fun j t ht => by
    have e0 : Tryd.f3.params = #[] := by kernel_rfl
    rw [e0] at ht
    simp at ht⟩)
  (by kernel_rfl)
#print axioms wellKnown_holds
end Go.Proofs.YtmmlamfgbmnkgaaDoor
