/- The card of WellWritten: it answers true at every input, its arguments read as before, and what its row lists is tied to the program's text. -/
import Derived.Test.YtcmgjbflljmphaaGreatDoorK6
import Derived.Test.YtcmgjbflljmphaaGreatDoorK2
import Derived.Test.YtcmgjbflljmphaaGreatDoorK5
import Derived.Below
import Derived.Test.YtcmgjbflljmphaaGreatDoorRows
import Derived.Conc.LeavingOf
import Derived.ChangeSlices
import Derived.OpenShut
import Derived.Carry
import Derived.Test.YtcmgjbflljmphaaGreatDoorK4
import Derived.Deep.Slices
import Derived.LaidLaws
import Derived.LaidHandle
import Derived.Deep.DeepLaidRun
import Derived.ChangeMaps5
import Derived.JoinedOf
import Derived.Test.YtcmgjbflljmphaaGreatDoorTie
import Derived.Test.YtcmgjbflljmphaaGreatDoorCards
import Derived.SevenTiedAt
namespace Go.Proofs.YtcmgjbflljmphaaGreatDoor
open Go.Conc Go.Proofs.Tryz
set_option maxRecDepth 100000
theorem callCw {J : JT} {H : List AObj} {K : Value → List AObj → Prop} {g : FuncId} {args cap : List Value} (hg : Nat.blt g prog.funcs.size = true) (hk : Good prog J g (args ++ cap) H K) : callV prog (Good prog J) (.func (.func g) ⟨[]⟩ ⟨cap⟩) args H K := callCt hg hk
def pn7 : List Nat := [1,0,1,0,0,1,1,0,0,1,1,1,1,0]
def pn10 : List Nat := [1,1,1,0]
noncomputable def on7 : Array Oper := opsAt pn7 (codeOf f32)
noncomputable def on10 : Array Oper := opsAt pn10 (codeOf f32)
theorem rn7 : subC pn7 (codeOf f32) = .region 7 on7 false := by kernel_rfl
theorem rn10 : subC pn10 (codeOf f32) = .region 10 on10 false := by kernel_rfl
theorem zn7 : List.range on7.size = [0,1,2,3] ++ [4] := by kernel_rfl
theorem zn10 : List.range on10.size = [0,1,2,3] ++ [4] := by kernel_rfl
def wrongV (n : Int) : Value := .iface 72 (.agg ⟨[vint n]⟩)
section
variable {main : Bool} {J : JT} {H : List AObj} {K KP : Value → List AObj → Prop} {KV : Value → Prop} {F : RG} {n0 pg : Nat} {s : List UInt8} {Q : QT}
theorem wn7 {KK : RG → List AObj → Prop} : opsW prog (Good prog J) 73 on7 [0,1,2,3] [] F H KK =
 aBin prog .add 3 (F.r 6) (vint 1) fun v1 => aFill [vint 0] [(0,1,v1)] fun c => aMkI prog 72 (.agg ⟨c⟩) fun v2 => KK (RG.p (RG.p (RG.p (RG.p F 50 (F.r 6)) 51 v1) 52 (.agg ⟨c⟩)) 53 v2) H := by kernel_rfl
theorem wn10 {KK : RG → List AObj → Prop} : opsW prog (Good prog J) 73 on10 [0,1,2,3] [] F H KK =
 aLenS (F.r 4) fun v1 => aFill [vint 0] [(0,1,v1)] fun c => aMkI prog 72 (.agg ⟨c⟩) fun v2 => KK (RG.p (RG.p (RG.p (RG.p F 69 (F.r 4)) 70 v1) 71 (.agg ⟨c⟩)) 72 v2) H := by kernel_rfl
theorem fillWr {x : Int} {KV : Value → Prop} (hk : KV (wrongV x)) : aFill [vint 0] [(0,1,vint x)] fun c => aMkI prog 72 (.agg ⟨c⟩) KV :=
 fillO (l := [vint x]) rfl rfl rfl (Nat.le_of_ble_eq_true rfl) (fillI ⟨by simp [unk],hk⟩)
theorem sem7 (hJ : Closed prog main J) {i : Nat} (hi : i < 100000) (r6 : F.r 6 = vint (i : Nat)) (hq : ∀ F' : RG,F'.ds = F.ds → Q (.panic [{ v := wrongV ((i : Nat) + 1),recovered := false }]) F' H) : Sem J 73 n0 32 (subC pn7 (codeOf f32)) F H Q := by
 rw [rn7]
 refine Sem_region hJ ?_
 rw [zn7]
 refine SemOps_app hJ [0,1,2,3] (dec := []) (fun j b e => by cases e) ?_
 rw [wn7,r6]
 refine addI (by omega) (fillWr ?_)
 exact SemOps_panic hJ (o := opGet on7 4) (x := .tmp 53) (t := 72) (v := .agg ⟨[vint ((i : Nat) + 1)]⟩) (by kernel_rfl) (by kernel_rfl) (gd_none (by kernel_rfl) _) rfl (hq _ rfl)
theorem sem10 (hJ : Closed prog main J) {n c : Nat} {p : Option Addr} (r4 : F.r 4 = .slice p n c) (hq : ∀ F' : RG,F'.ds = F.ds → Q (.panic [{ v := wrongV (n : Nat),recovered := false }]) F' H) : Sem J 73 n0 32 (subC pn10 (codeOf f32)) F H Q := by
 rw [rn10]
 refine Sem_region hJ ?_
 rw [zn10]
 refine SemOps_app hJ [0,1,2,3] (dec := []) (fun j b e => by cases e) ?_
 rw [wn10,r4]
 refine lenSl (fillWr ?_)
 exact SemOps_panic hJ (o := opGet on10 4) (x := .tmp 72) (t := 72) (v := .agg ⟨[vint (n : Nat)]⟩) (by kernel_rfl) (by kernel_rfl) (gd_none (by kernel_rfl) _) rfl (hq _ rfl)
def PgAt (G : List AObj) (pg n0 : Nat) (t : Tro) (sm en : Bool) : Prop :=
 ∃ fv o,G[pg]? = some (.cells (pgC t.well fv sm en) true 0) ∧ OwnX G 2 (t.flocks.flatMap Dro.cells) t.flocks.length fv o ∧ ∀ k,o = some k → n0 ≤ k
def RdW (s : List UInt8) (H4 : List AObj) (pg m bl : Nat) (x : Nat × Tro × Bool) (F : RG) (G : List AObj) : Prop :=
 F.ds = [] ∧ F.r 0 = ptr pg 0 ∧ F.r 4 = .slice (some ⟨bl,0,none⟩) (partsB 10 s).length (partsB 10 s).length ∧ F.r 5 = .map (some m) ∧ F.r 19 = .slice (some ⟨bl,0,none⟩) ((partsB 10 s).length - 1) (partsB 10 s).length ∧ F.r 20 = vint ((partsB 10 s).length - 1 : Nat) ∧ F.r 21 = vint (x.1 : Nat) ∧
  x.1 ≤ (partsB 10 s).length - 1 ∧ SameX [pg] H4 G ∧ PgAt G pg H4.length x.2.1 (decide (0 < x.1)) x.2.2 ∧ x.2.1.flocks.length ≤ x.1 ∧ linesTr 0 (partsB 10 s).dropLast (tro0,false) = linesTr x.1 ((partsB 10 s).dropLast.drop x.1) x.2
theorem lines_next {L : List (List UInt8)} {i : Nat} {u : List UInt8} {x : Tro × Bool} (hu : L[i]? = some u) : linesTr i (L.drop i) x = match lineTr i u x with
  | some y => linesTr (i + 1) (L.drop (i + 1)) y
  | none => .inl (i + 1) := by
 obtain ⟨hi,rfl⟩ := List.getElem?_eq_some_iff.1 hu
 rw [List.drop_eq_getElem_cons hi]
 rfl
theorem read_bad {i : Nat} (h : linesTr 0 (partsB 10 s).dropLast (tro0,false) = .inl i) : readTr s = .inl i := by
 unfold readTr
 rw [h]
theorem read_end {t : Tro} {en : Bool} (h : linesTr 0 (partsB 10 s).dropLast (tro0,false) = .inr (t,en)) : readTr s = if en = true ∧ (partsB 10 s).getLast? = some [] then .inr t else .inl (partsB 10 s).length := by
 unfold readTr
 rw [h]
theorem rdp_2 (hJ : Closed prog main J) {H4 : List AObj} {m bl i : Nat} {t t' : Tro} {en en' : Bool} {G : List AObj} {q : Bool} (hi : i < 10000) (hin : i < (partsB 10 s).length) (ds : F.ds = []) (r6 : F.r 6 = vint (i : Nat)) (r49 : F.r 49 = .bool q) (r21 : F.r 21 = vint (i : Nat))
  (kp : q = true → KP (wrongV ((i : Nat) + 1)) G)
  (k : q = false → ∀ F' : RG,F'.ds = F.ds → F'.r 0 = F.r 0 → F'.r 4 = F.r 4 → F'.r 5 = F.r 5 → F'.r 19 = F.r 19 → F'.r 20 = F.r 20 → F'.r 21 = vint (i + 1 : Nat) → RdW s H4 pg m bl (i + 1,t',en') F' G) :
  W prog J 73 n0 32 (subC yp2 (codeOf f32)) F G (contX pl32 prog J 73 n0 32 ct32 yp2 (codeOf f32) [Nx n0 (fun x : Nat × Tro × Bool => (partsB 10 s).length - x.1) (RdW s H4 pg m bl) (i,t,en)] (RetQP prog [] n0 K KP)) := by
 rw [s32_2]
 simp only [r49,r21]
 cases q with
 | true =>
  refine cnd_true.2 (sem7 hJ (by omega) r6 fun F' hd => ?_)
  have e : ∀ {nx : RG → List AObj → Prop} {ch : List PanicEntry},contX pl32 prog J 73 n0 32 ct32 [1,0,1,0,0,1,1,0,0,1,1,1,1,0] (codeOf f32) [nx] (RetQP prog [] n0 K KP) (.panic ch) F' G = RetQP prog [] n0 K KP (.panic ch) F' G := fun {nx ch} => by kernel_rfl
  rw [e]
  exact ⟨hd.trans ds,_,rfl,by simp [wrongV,unk],by simp [wrongV,VOk,AOk,LOk],kp rfl⟩
 | false =>
  refine cnd_false.2 (addI (by omega) ⟨(i + 1,t',en'),by dsimp only; omega,.inl (k rfl _ rfl rfl rfl rfl rfl rfl rfl)⟩)
theorem rdp_3 (hJ : Closed prog main J) {G : List AObj} {q : Bool} {p : Option Addr} {n c : Nat} (ds : F.ds = []) (r4 : F.r 4 = .slice p n c) (r68 : F.r 68 = .bool q) (kp : q = true → KP (wrongV (n : Nat)) G) (k : q = false → K (.tuple ⟨[]⟩) G) :
  W prog J 73 n0 32 (subC [1,1,1] (codeOf f32)) F G (contX pl32 prog J 73 n0 32 ct32 [1,1,1] (codeOf f32) [] (RetQP prog [] n0 K KP)) := by
 rw [s32_3]
 simp only [ds,r68]
 cases q with
 | true =>
  refine cnd_true.2 (sem10 hJ r4 fun F' hd => ?_)
  have e : ∀ {ch : List PanicEntry},contX pl32 prog J 73 n0 32 ct32 [1,1,1,0] (codeOf f32) [] (RetQP prog [] n0 K KP) (.panic ch) F' G = RetQP prog [] n0 K KP (.panic ch) F' G := fun {ch} => by kernel_rfl
  rw [e]
  exact ⟨hd.trans ds,_,rfl,by simp [wrongV,unk],by simp [wrongV,VOk,AOk,LOk],kp rfl⟩
 | false => exact cnd_false.2 (retL_same (by simp) (k rfl))
theorem kindF_some {w : List (List UInt8)} {sm : Bool} {d : Dro} (h : kindF w sm = some d) : sm = true := by
 cases sm with
 | true => rfl
 | false => rw [kindF_len (.inr rfl)] at h; cases h
theorem drop_last_get {L : List (List UInt8)} {i : Nat} (hi : i < L.length - 1) : L.dropLast[i]? = L[i]? := by
 rw [List.dropLast_eq_take,List.getElem?_take,if_pos (by omega)]
set_option maxHeartbeats 1000000 in
theorem good32 (hJ : Closed prog main J) (hs : s.length ≤ 500) (cp : H[pg]? = some (.cells (pgC ⟨0,0,0⟩ (.slice none 0 0) false false) true 0))
  (kp : ∀ (i : Nat) H',readTr s = .inl i → SameX [pg] H H' → KP (wrongV (i : Nat)) H')
  (k : ∀ t sm H',readTr s = .inr t → SameX [pg] H H' → PgAt H' pg H.length t sm true → K (.tuple ⟨[]⟩) H') : GoodP prog J 32 [ptr pg 0,strV s] H K KP := by
 refine g32 hJ fun ok => ?_
 rw [e32]
 have lp := lt_of_get cp
 have hpl : (partsB 10 s).length ≤ s.length + 1 := by
  rw [partsB_count]
  have : s.count 10 ≤ s.length := List.count_le_length
  omega
 have hpn : 0 < (partsB 10 s).length := List.length_pos_iff.2 (partsB_ne 10 s)
 refine good56 (c := 10) hJ (by omega) ?_
 have S1 : SameX [] H (H ++ [.cells ((partsB 10 s).map strV) true 0]) := SameX.refl.app
 have cl : (H ++ [.cells ((partsB 10 s).map strV) true 0] : List AObj)[H.length]? = some (.cells ((partsB 10 s).map strV) true 0) := by simp
 have l1 : (H ++ [.cells ((partsB 10 s).map strV) true 0] : List AObj).length = H.length + 1 := by simp
 generalize H ++ [.cells ((partsB 10 s).map strV) true 0] = H1 at *
 refine good57 hJ fun b2 m H4 S4 c2 cm hb hm => ?_
 have S14 := S1.trans S4
 have cl4 := S4.get cl (by simp)
 have cp4 := S14.get cp (by simp)
 have hH4 := S4.1
 refine lenSl (subI (by omega) ?_)
 rw [show (((partsB 10 s).length : Nat) : Int) - 1 = (((partsB 10 s).length - 1 : Nat) : Int) by omega]
 refine slA2 ⟨by omega,Nat.lt_trans (by omega : (partsB 10 s).length < 1000) (by decide)⟩ (lenSl ?_)
 refine l32_1 hJ (S := Nat × Tro × Bool) (fun x => (partsB 10 s).length - x.1) (RdW s H4 pg m H.length) ?_ (s := (0,tro0,false))
  (.inl ⟨rfl,rfl,rfl,rfl,rfl,rfl,rfl,Nat.zero_le _,SameX.refl,⟨_,none,cp4,⟨rfl,rfl,.inl ⟨rfl,rfl,rfl⟩⟩,fun k e => by cases e⟩,Nat.le_refl _,rfl⟩)
 rintro ⟨i,t,en⟩ F G ⟨ds,r0,r4,r5,r19,r20,r21,hi,S,⟨fv,o,cg,O,hO⟩,hfl,hlin⟩ ok' hn'
 simp only at r21 hi cg O hfl hlin
 rw [s32_1]
 simp only [r0,r4,r5,r19,r20,r21]
 have lb2 := lt_of_get c2
 have lm := lt_of_get cm
 have clG := S.get cl4 (by simp; omega)
 have c2G := S.get c2 (by simp; omega)
 have cmG := S.get cm (by simp; omega)
 have hHG := S.1
 have SHG : SameX [pg] H G := S14.weak0.trans S
 have ob : ∀ j,o = some j → j < G.length := ownX_lt O
 refine lssI (cndI (fun hlt => ?_) fun hge => ?_)
 ·have hil : i < (partsB 10 s).length - 1 := by omega
  obtain ⟨u,hu⟩ : ∃ u,(partsB 10 s)[i]? = some u := ⟨_,List.getElem?_eq_getElem (by omega)⟩
  have hud := (drop_last_get hil).trans hu
  have hul : u.length ≤ 500 := by
   have := partsB_len (c := 10) s u (List.mem_of_getElem? hu)
   omega
  have hnx := hlin.trans (lines_next hud)
  refine idxW (j := i) hil (ldW clG hu ?_)
  refine good56 (s := u) (c := 32) hJ (by omega) ?_
  have S5 : SameX [] G (G ++ [.cells ((partsB 32 u).map strV) true 0]) := SameX.refl.app
  have c5 : (G ++ [.cells ((partsB 32 u).map strV) true 0] : List AObj)[G.length]? = some (.cells ((partsB 32 u).map strV) true 0) := by simp
  generalize G ++ [.cells ((partsB 32 u).map strV) true 0] = G5 at *
  have hwl : ∀ v ∈ partsB 32 u,v.length ≤ 2000 := fun v hv => by
   have := partsB_len (c := 32) u v hv
   omega
  obtain ⟨w0,r,hw⟩ : ∃ w0 r,partsB 32 u = w0 :: r := by
   cases h : partsB 32 u with
   | nil => exact absurd h (partsB_ne 32 u)
   | cons a l => exact ⟨a,l,rfl⟩
  have h0 : (partsB 32 u)[0]? = some w0 := by rw [hw]; rfl
  refine idxW (j := 0) (by rw [hw]; simp) (ldW c5 h0 (look_kds (S5.get cmG (by simp)) (ext0 (ext1 (nilI (offI (ldI (v := .bool en) (S5.get cg (by simp)) rfl rfl ?_)))))))
  have S45 : SameX [pg] H4 G5 := S.trans S5.weak0
  have SH5 : SameX [pg] H G5 := SHG.trans S5.weak0
  have cg5 := S5.get cg (by simp)
  have c25 := S5.get c2G (by simp)
  have O5 := ownX_keep O S5 (by simp)
  have bad : ∀ {F : RG} {G' : List AObj},F.ds = [] → F.r 6 = vint (i : Nat) → F.r 49 = .bool true → F.r 21 = vint (i : Nat) → SameX [pg] H G' → lineTr i u (t,en) = none → W prog J 73 H.length 32 (subC yp2 (codeOf f32)) F G' (contX pl32 prog J 73 H.length 32 ct32 yp2 (codeOf f32) [Nx H.length (fun x : Nat × Tro × Bool => (partsB 10 s).length - x.1) (RdW s H4 pg m H.length) (i,t,en)] (RetQP prog [] H.length K KP)) := fun {F G'} ds r6 r49 r21 S' hl =>
   rdp_2 (t' := t) (en' := en) hJ (by omega) (by omega) ds r6 r49 r21 (fun _ => by
    rw [hl] at hnx
    exact kp (i + 1) G' (read_bad hnx) S') fun h => by cases h
  have good : ∀ {F : RG} {G' : List AObj} {t' : Tro} {en' : Bool} {fv' : Value} {o' : Option Nat},F.ds = [] → F.r 6 = vint (i : Nat) → F.r 49 = .bool false → F.r 21 = vint (i : Nat) → F.r 0 = ptr pg 0 → F.r 4 = .slice (some ⟨H.length,0,none⟩) (partsB 10 s).length (partsB 10 s).length → F.r 5 = .map (some m) → F.r 19 = .slice (some ⟨H.length,0,none⟩) ((partsB 10 s).length - 1) (partsB 10 s).length → F.r 20 = vint ((partsB 10 s).length - 1 : Nat) →
    SameX [pg] H4 G' → G'[pg]? = some (.cells (pgC t'.well fv' true en') true 0) → OwnX G' 2 (t'.flocks.flatMap Dro.cells) t'.flocks.length fv' o' → (∀ j,o' = some j → H4.length ≤ j) → t'.flocks.length ≤ i + 1 → lineTr i u (t,en) = some (t',en') → W prog J 73 H.length 32 (subC yp2 (codeOf f32)) F G' (contX pl32 prog J 73 H.length 32 ct32 yp2 (codeOf f32) [Nx H.length (fun x : Nat × Tro × Bool => (partsB 10 s).length - x.1) (RdW s H4 pg m H.length) (i,t,en)] (RetQP prog [] H.length K KP)) :=
   fun {F G' t' en' fv' o'} ds r6 r49 r21 r0 r4 r5 r19 r20 S' c' O' hO' hf' hl => rdp_2 (t' := t') (en' := en') hJ (by omega) (by omega) ds r6 r49 r21 (fun h => by cases h) fun _ F' d x0 x4 x5 x19 x20 x21 => by
    rw [hl] at hnx
    have e1 : decide (0 < i + 1) = true := decide_eq_true (by omega)
    exact ⟨d.trans ds,x0.trans r0,x4.trans r4,x5.trans r5,x19.trans r19,x20.trans r20,x21,(by show i + 1 ≤ _; omega),S',⟨fv',o',(by rw [e1]; exact c'),O',hO'⟩,hf',hnx⟩
  cases en with
  | true => exact cnd_true.2 (hold.2 (bad ds rfl rfl r21 SH5 rfl))
  | false =>
   have hline : lineTr i u (t,false) = wordT i (w0 :: r) (t,false) := by
    rw [← hw]
    rfl
   refine cnd_false.2 (notI ?_)
   unfold kdsAt
   by_cases h1 : w0 = wWell
   ·subst h1
    rw [if_pos rfl]
    refine cnd_false.2 (callCw (by kernel_rfl) ?_)
    have hwt := wordT_well (i := i) (r := r) (t := t)
    refine good73 hJ c5 hwl c25 cg5 (by omega) (by omega) (fun y G6 hy S6 c6 => notI (hold.2 ?_)) fun G6 hy S6 => notI (hold.2 ?_)
    ·rw [hw] at hy
     rw [hy] at hwt
     exact good (t' := { t with well := y }) ds rfl rfl r21 r0 r4 r5 r19 r20 (S45.thru S6 (by simp)) c6 (ownX_keep O5 S6 fun j hj => by have := hO j hj; simp; omega) hO (by show t.flocks.length ≤ _; omega) (hline.trans hwt)
    ·rw [hw] at hy
     rw [hy] at hwt
     exact bad ds rfl rfl r21 (SH5.thru S6 (by simp)) (hline.trans hwt)
   ·rw [if_neg h1]
    by_cases h2 : w0 = wFlock
    ·subst h2
     rw [if_pos rfl]
     refine cnd_false.2 (callCw (by kernel_rfl) ?_)
     have hwt := wordT_flock (i := i) (r := r) (t := t)
     refine good77 hJ c5 hwl c25 cg5 (by omega) O5 (fun j hj => by have := hO j hj; omega) (by omega) (fun d fv' p6 G6 hy S6 c6 O6 hp6 => notI (hold.2 ?_)) fun G6 hy S6 => notI (hold.2 ?_)
     ·rw [hw] at hy
      rw [hy] at hwt
      rw [kindF_some hy] at c6
      have hG5 := S5.1
      refine good (t' := { t with flocks := t.flocks ++ [d] }) ds rfl rfl r21 r0 r4 r5 r19 r20 (S45.thru S6 fun y hy => ?_) c6 O6 (fun j hj => by cases hj; omega) (by simp; omega) (hline.trans hwt)
      rcases List.mem_cons.1 hy with rfl | hy
      ·exact .inl (by simp)
      ·exact .inr (hO y (by simpa using hy))
     ·rw [hw] at hy
      rw [hy] at hwt
      exact bad ds rfl rfl r21 (SH5.trans S6.weak0) (hline.trans hwt)
    ·rw [if_neg h2]
     by_cases h3 : w0 = wTrough
     ·subst h3
      rw [if_pos rfl]
      refine cnd_false.2 (callCw (by kernel_rfl) ?_)
      have hwt := wordT_trough (i := i) (r := r) (t := t)
      refine good78 hJ c25 cg5 (by omega) fun G6 S6 c6 => notI (hold.2 ?_)
      rw [hw]
      generalize hq : (decide ((wTrough :: r).length = 1) && decide (0 < i)) = q at *
      cases q with
      | true =>
       have hsm : decide (0 < i) = true := by
        cases hd : decide (0 < i) with
        | true => rfl
        | false => rw [hd,Bool.and_false] at hq; cases hq
       rw [hsm] at c6
       exact good (t' := t) ds rfl rfl r21 r0 r4 r5 r19 r20 (S45.thru S6 (by simp)) c6 (ownX_keep O5 S6 fun j hj => by have := hO j hj; simp; omega) hO (by omega) (hline.trans hwt)
      | false => exact bad ds rfl rfl r21 (SH5.thru S6 (by simp)) (hline.trans hwt)
     ·rw [if_neg h3]
      exact cnd_true.2 (hold.2 (bad ds rfl rfl r21 SH5 (hline.trans (wordT_none h1 h2 h3))))
 ·have hie : i = (partsB 10 s).length - 1 := by omega
  have hdr : (partsB 10 s).dropLast.drop i = [] := List.drop_eq_nil_of_le (by simp; omega)
  rw [hdr] at hlin
  have hre := read_end (t := t) (en := en) hlin
  refine nilI (offI (ldI (v := .bool en) cg rfl rfl (notI ?_)))
  cases en with
  | false =>
   refine cnd_true.2 (hold.2 (rdp_3 hJ ds r4 rfl (fun _ => kp _ G ?_ SHG) fun h => by cases h))
   rw [hre,if_neg (by simp)]
  | true =>
   obtain ⟨u,hu⟩ : ∃ u,(partsB 10 s)[i]? = some u := ⟨_,List.getElem?_eq_getElem (by omega)⟩
   have hlast : (partsB 10 s).getLast? = some u := by rw [List.getLast?_eq_getElem?,← hie,hu]
   rw [hlast] at hre
   refine cnd_false.2 (lenSl (subI (by omega) ?_))
   rw [show (((partsB 10 s).length : Nat) : Int) - 1 = (i : Nat) by omega]
   refine idxW (j := i) (by omega) (ldW clG hu (neS (b := []) (hold.2 ?_)))
   refine rdp_3 hJ ds r4 rfl (fun hq => kp _ G ?_ SHG) fun hq => k t _ G ?_ SHG ⟨fv,o,cg,O,fun j hj => by have := hO j hj; omega⟩
   ·rw [hre,if_neg]
    rintro ⟨_,h⟩
    exact of_decide_eq_true hq (Option.some.inj h)
   ·have : u = [] := Decidable.not_not.1 (of_decide_eq_false hq)
    rw [hre,if_pos ⟨rfl,by rw [this]⟩]
end
end Go.Proofs.YtcmgjbflljmphaaGreatDoor
namespace Go.Proofs.YtcmgjbflljmphaaGreatDoor
open Go.Conc Go.Proofs.Tryz
set_option maxRecDepth 100000
set_option maxHeartbeats 4000000
set_option linter.unusedVariables false
section
variable {main : Bool} {J : JT} {n0 : Nat} {h : List AObj} {K : Value → List AObj → Prop}
theorem at12 : prog.funcs[12]? = some f12 := by kernel_rfl
theorem body12 : f12.body = some (codeOf f12) := by kernel_rfl
def pl12 : Plans := []
def ct12 : Cuts := .go
theorem pok12 : plansOk prog pl12 (codeOf f12) = true := by kernel_rfl
theorem e12 {a0 : Value} : W prog J 23 h.length 12 (codeOf f12) (RG.mk (regs [a0]) []) h (RetQ prog [.cell 2 26,.cell 3 3,.cell 4 35] h.length K) =
(aAlloc [(vint 0),(vint 0),(vint 0),(Value.slice none 0 0)] h fun v1 h2 =>
 aAlloc [(vint 0)] h2 fun v3 h4 =>
 aAlloc [(vint 0)] h4 fun v5 h6 =>
 aLenStr a0 fun v7 =>
 aBin prog .gtr 3 v7 (vint 80) fun v8 =>
 cnd v8
(aFill [(vint 0),(vint 0),(vint 0),(Value.slice none 0 0)] [] fun c9 =>
 aStore 4 v1 (Value.agg ⟨c9⟩) h6 fun h10 =>
 aStore 1 v3 (vint 0) h10 fun h11 =>
 aStore 1 v5 (vint 10) h11 fun h12 =>
 RetQ prog [.cell 2 26,.cell 3 3,.cell 4 35] h.length K .ret (RG.p (RG.p (RG.p (RG.p (RG.p (RG.p (RG.p (RG.mk (regs [a0]) []) 2 v1) 3 v3) 4 v5) 7 a0) 8 v7) 9 v8) 10 (Value.agg ⟨c9⟩)) h12)
(aMkF 31 [] [v1,v5,v3] fun v13 =>
 False)) := top_eq pok12 ct12 (by kernel_rfl)
theorem q12_1 {f : RG} {fr : FuncId} {Q : QT} : W prog J 23 n0 fr (subC [0] (codeOf f12)) f h Q =
(aAlloc [(vint 0),(vint 0),(vint 0),(Value.slice none 0 0)] h fun v1 h2 =>
 aAlloc [(vint 0)] h2 fun v3 h4 =>
 aAlloc [(vint 0)] h4 fun v5 h6 =>
 Q .normal (RG.p (RG.p (RG.p f 2 v1) 3 v3) 4 v5) h6) := by kernel_rfl
theorem q12_2 {f : RG} {fr : FuncId} {Q : QT} : W prog J 23 n0 fr (subC [1,0] (codeOf f12)) f h Q =
(aLenStr (f.r 0) fun v1 =>
 aBin prog .gtr 3 v1 (vint 80) fun v2 =>
 cnd v2
(aFill [(vint 0),(vint 0),(vint 0),(Value.slice none 0 0)] [] fun c3 =>
 aStore 4 (f.r 2) (Value.agg ⟨c3⟩) h fun h4 =>
 aStore 1 (f.r 3) (vint 0) h4 fun h5 =>
 aStore 1 (f.r 4) (vint 10) h5 fun h6 =>
 Q .ret (RG.p (RG.p (RG.p (RG.p f 7 (f.r 0)) 8 v1) 9 v2) 10 (Value.agg ⟨c3⟩)) h6)
(Q .normal (RG.p (RG.p (RG.p f 7 (f.r 0)) 8 v1) 9 v2) h)) := by kernel_rfl
theorem q12_3 {f : RG} {fr : FuncId} {Q : QT} : W prog J 23 n0 fr (subC [1,1,1,0] (codeOf f12)) f h Q =
(aAlloc [(vint 0),(vint 0),(vint 0),(Value.slice none 0 0),(Value.bool false),(Value.bool false)] h fun v1 h2 =>
 Q .normal (RG.p f 5 v1) h2) := by kernel_rfl
theorem q12_4 {f : RG} {fr : FuncId} {Q : QT} : W prog J 23 n0 fr (subC [1,1,1,1,1] (codeOf f12)) f h Q =
(aOff (f.r 5) 0 fun v1 =>
 aLoad true 4 v1 h fun v2 =>
 Good prog J 27 [v2] h fun v3 h4 =>
 aBin prog .neq 35 v3 (vint 0) fun v5 =>
 cnd v5
(aFill [(vint 0),(vint 0),(vint 0),(Value.slice none 0 0)] [] fun c6 =>
 aStore 4 (f.r 2) (Value.agg ⟨c6⟩) h4 fun h7 =>
 aStore 1 (f.r 3) (vint 0) h7 fun h8 =>
 aStore 1 (f.r 4) v3 h8 fun h9 =>
 Q .ret (RG.p (RG.p (RG.p (RG.p (RG.p (RG.p (RG.p (RG.p f 14 v1) 15 v2) 16 v3) 6 v3) 17 v3) 18 v5) 19 (Value.agg ⟨c6⟩)) 20 v3) h9)
(aOff (f.r 5) 0 fun v10 =>
 aLoad true 4 v10 h4 fun v11 =>
 aStore 4 (f.r 2) v11 h4 fun h12 =>
 aStore 1 (f.r 3) (vint 0) h12 fun h13 =>
 aStore 1 (f.r 4) (vint 0) h13 fun h14 =>
 Q .ret (RG.p (RG.p (RG.p (RG.p (RG.p (RG.p (RG.p (RG.p f 14 v1) 15 v2) 16 v3) 6 v3) 17 v3) 18 v5) 21 v10) 22 v11) h14)) := by kernel_rfl
theorem at31 : prog.funcs[31]? = some f31 := by kernel_rfl
theorem body31 : f31.body = some (codeOf f31) := by kernel_rfl
theorem q31_1 {f : RG} {fr : FuncId} {Q : QT} : W prog J 18 n0 fr (subC [1,0] (codeOf f31)) f h Q =
(aIfN prog .neq 20 (f.r 3) fun v1 =>
 Q .normal (RG.p (RG.p f 7 (f.r 3)) 8 v1) h) := by kernel_rfl
theorem q31_2 {f : RG} {fr : FuncId} {Q : QT} : W prog J 18 n0 fr (subC [1,1,0,0] (codeOf f31)) f h Q =
(aFill [(vint 0),(vint 0),(vint 0),(Value.slice none 0 0)] [] fun c1 =>
 aStore 4 (f.r 0) (Value.agg ⟨c1⟩) h fun h2 =>
 aStore 1 (f.r 1) (vint 2) h2 fun h3 =>
 Q .normal (RG.p f 9 (Value.agg ⟨c1⟩)) h3) := by kernel_rfl
theorem q31_3 {f : RG} {fr : FuncId} {Q : QT} : W prog J 18 n0 fr (subC [1,1,0,1,1] (codeOf f31)) f h Q =
(cnd (f.r 5)
(aOff (f.r 4) 0 fun v1 =>
 aLoad false 1 v1 h fun v2 =>
 aStore 1 (f.r 2) v2 h fun h3 =>
 Q .normal (RG.p (RG.p (RG.p f 15 (f.r 5)) 16 v1) 17 v2) h3)
(Q .normal (RG.p f 15 (f.r 5)) h)) := by kernel_rfl
end
end Go.Proofs.YtcmgjbflljmphaaGreatDoor
namespace Go.Proofs.YtcmgjbflljmphaaGreatDoor
open Go.Conc Go.Proofs.Tryz
set_option maxRecDepth 100000
noncomputable def oC0 : Array Oper := opsAt [0] (codeOf f31)
noncomputable def oC3 : Array Oper := opsAt [1,1,0,1,0] (codeOf f31)
theorem eC0 : codeOf f31 = .seq (.region 0 oC0 false) (subC [1] (codeOf f31)) := by kernel_rfl
theorem eC1 : subC [1] (codeOf f31) = .seq (subC [1,0] (codeOf f31)) (.cond (.tmp 8) (.seq (subC [1,1,0,0] (codeOf f31)) (.seq (.region 3 oC3 false) (subC [1,1,0,1,1] (codeOf f31)))) .skip) := by kernel_rfl
theorem zC0 : List.range oC0.size = 0 :: [1] := by kernel_rfl
theorem zC3 : List.range oC3.size = [0] ++ 1 :: [2,3,4,5,6,7] := by kernel_rfl
theorem wrong_struct : ∃ fs,prog.underlying 72 = some (.struct fs) := by
 have h : (match prog.underlying 72 with | some (.struct _) => true | _ => false) = true := by kernel_rfl
 split at h
 ·exact ⟨_,by assumption⟩
 ·cases h
section
variable {main : Bool} {J : JT} {H : List AObj} {K : Value → List AObj → Prop} {KV : Value → Prop} {F : RG} {n0 bt be bl : Nat} {s : List UInt8} {KH : List AObj → Prop}
theorem wC0 {KK : RG → List AObj → Prop} : opsW prog (Good prog J) 18 oC0 [1] [] F H KK = KK (RG.p F 3 (F.r 6)) H := by kernel_rfl
theorem wC3a {KK : RG → List AObj → Prop} : opsW prog (Good prog J) 18 oC3 [0] [] F H KK = KK (RG.p F 11 (F.r 3)) H := by kernel_rfl
theorem wC3b {KK : RG → List AObj → Prop} : opsW prog (Good prog J) 18 oC3 [2,3,4,5,6,7] [] F H KK =
 aExt (F.r 12) 0 fun v1 => aExt (F.r 12) 1 fun v2 => aAlloc [vint 0] H fun v3 h4 => aStore 1 v3 v1 h4 fun h5 => KK (RG.p (RG.p (RG.p (RG.p (RG.p F 10 (F.r 12)) 13 v1) 14 v2) 4 v3) 5 v2) h5 := by kernel_rfl
theorem ifNil (hk : KV (.bool false)) : aIfN prog .neq 20 .nilIface KV := by
 have h : (match prog.underlying 20 with | some (.interface _) => true | _ => false) = true := by kernel_rfl
 unfold aIfN
 split at h
 ·rename_i e
  rw [e]
  exact hk
 ·cases h
theorem ifSome {t : TypeId} {v : Value} (hk : KV (.bool true)) : aIfN prog .neq 20 (.iface t v) KV := by
 have h : (match prog.underlying 20 with | some (.interface _) => true | _ => false) = true := by kernel_rfl
 unfold aIfN
 split at h
 ·rename_i e
  rw [e]
  exact hk
 ·cases h
theorem clo_nil (hJ : Closed prog main J) {caps : List Value} (hk : KH H) : SemOps J 18 n0 31 oC0 [1] (RG.p ⟨regs caps,[]⟩ 6 .nilIface) H (thenK (fun f h => Sem J 18 n0 31 (subC [1] (codeOf f31)) f h (QK KH)) (QK KH)) := by
 refine SemOps_of hJ [1] (dec := []) (fun j b e => by cases e) ?_
 rw [wC0]
 show Sem J 18 n0 31 (subC [1] (codeOf f31)) _ H (QK KH)
 rw [eC1]
 refine Sem_seq hJ (W_sound hJ mixed _ ?_)
 rw [q31_1]
 refine ifNil ?_
 show Sem J 18 n0 31 _ _ H (QK KH)
 exact Sem_cond hJ (t := false) rfl (Sem_skip hJ ⟨rfl,rfl,hk⟩)
theorem clo_wrong (hJ : Closed prog main J) {n : Int} {ct ce cl : List Value} (ht : H[bt]? = some (.cells ct true 0)) (htl : ct.length = 4) (he : H[be]? = some (.cells ce true 0)) (hel : ce.length = 1) (hl : H[bl]? = some (.cells cl true 0)) (hll : cl.length = 1) (h1 : bt ≠ be) (h2 : bt ≠ bl) (h3 : be ≠ bl)
  (hk : ∀ H',SameX [bt,be,bl] H H' → H'[bt]? = some (.cells (troCells tro0 (.slice none 0 0)) true 0) → H'[be]? = some (.cells [vint 2] true 0) → H'[bl]? = some (.cells [vint n] true 0) → KH H') :
  SemOps J 18 n0 31 oC0 [1] (RG.p ⟨regs [ptr bt 0,ptr be 0,ptr bl 0],[]⟩ 6 (wrongV n)) H (thenK (fun f h => Sem J 18 n0 31 (subC [1] (codeOf f31)) f h (QK KH)) (QK KH)) := by
 have set1 : ∀ {c : List Value} {v : Value},c.length = 1 → c.set 0 v = [v] := fun {c v} h => by
  match c,h with
  | [_],_ => rfl
 refine SemOps_of hJ [1] (dec := []) (fun j b e => by cases e) ?_
 rw [wC0]
 show Sem J 18 n0 31 (subC [1] (codeOf f31)) _ H (QK KH)
 rw [eC1]
 refine Sem_seq hJ (W_sound hJ mixed _ ?_)
 rw [q31_1]
 refine ifSome ?_
 show Sem J 18 n0 31 _ _ H (QK KH)
 refine Sem_cond hJ (t := true) rfl (Sem_seq hJ (W_sound hJ mixed _ ?_))
 rw [q31_2]
 refine fillI (qStA (c := troCells tro0 (.slice none 0 0)) ht rfl htl rfl fun H1 S1 c1 l1 => ?_)
 have he1 := S1.get he (by simp; exact Ne.symm h1)
 have hl1 := S1.get hl (by simp; exact Ne.symm h2)
 refine qSt he1 (by omega) rfl rfl fun H2 S2 c2 l2 => ?_
 rw [set1 hel] at c2
 have c12 := S2.get c1 (by simpa using h1)
 have hl2 := S2.get hl1 (by simp; exact Ne.symm h3)
 show Sem J 18 n0 31 _ _ H2 (QK KH)
 refine Sem_seq hJ (Sem_region hJ ?_)
 rw [zC3]
 refine SemOps_app hJ [0] (dec := []) (fun j b e => by cases e) ?_
 rw [wC3a]
 obtain ⟨fs,hfs⟩ := wrong_struct
 refine SemOps_tya hJ (o := opGet oC3 1) (x := .tmp 11) (xt := 20) (t := 72) (d := 12) (by kernel_rfl) (by kernel_rfl) (by kernel_rfl) (by kernel_rfl) (by decide) hfs (v := .agg ⟨[vint n]⟩) rfl ?_
 refine SemOps_of hJ [2,3,4,5,6,7] (dec := []) (fun j b e => by cases e) ?_
 rw [wC3b]
 refine ext0 (ext1 (qAl fun H3 p4 e4 S3 c4 l4 => qStA (c := [vint n]) c4 rfl rfl rfl fun H4 S4 c5 l5 => ?_))
 show Sem J 18 n0 31 _ _ H4 (QK KH)
 refine W_sound hJ mixed _ ?_
 rw [q31_3]
 have lt2 := lt_of_get c12
 have le2 := lt_of_get c2
 have ll2 := lt_of_get hl2
 have g1 := S4.get (S3.get c12 (by simp)) (by simp; omega)
 have g2 := S4.get (S3.get c2 (by simp)) (by simp; omega)
 have g3 := S4.get (S3.get hl2 (by simp)) (by simp; omega)
 refine cnd_true.2 (offI (ldI (v := vint n) c5 rfl rfl (qSt g3 (by omega) rfl rfl fun H5 S5 c6 l6 => ⟨rfl,rfl,?_⟩)))
 rw [set1 hll] at c6
 have S24 : SameX [] H2 H4 := S3.thru S4 (by simp; omega)
 have S02 : SameX [bt,be,bl] H H2 := (S1.weak (Y := [bt,be,bl]) (by simp)).thru S2 (by simp)
 exact hk H5 ((S02.trans S24.weak0).thru S5 (by simp)) (S5.get g1 (by simpa using h2)) (S5.get g2 (by simpa using h3)) c6
noncomputable def oR3 : Array Oper := opsAt [1,1,0] (codeOf f12)
noncomputable def oR5 : Array Oper := opsAt [1,1,1,1,0] (codeOf f12)
theorem eR : codeOf f12 = .seq (subC [0] (codeOf f12)) (.seq (subC [1,0] (codeOf f12)) (.seq (.region 3 oR3 false) (.seq (subC [1,1,1,0] (codeOf f12)) (.seq (.region 5 oR5 false) (subC [1,1,1,1,1] (codeOf f12)))))) := by kernel_rfl
theorem zR3 : List.range oR3.size = [0,1] := by kernel_rfl
theorem zR5 : List.range oR5.size = [0] ++ [1] := by kernel_rfl
theorem wR3 {f : RG} {KK : Value → List AObj → Prop} : opW prog (Good prog J) (opGet oR3 0) f.r H KK = aMkF 31 [] [f.r 2,f.r 4,f.r 3] fun v => KK v H := by kernel_rfl
theorem wR5 {KK : RG → List AObj → Prop} : opsW prog (Good prog J) 23 oR5 [0] [] F H KK = KK (RG.p F 12 (F.r 0)) H := by kernel_rfl
theorem resR : f12.results.toList = [.cell 2 26,.cell 3 3,.cell 4 35] := by kernel_rfl
theorem resRd {a e : Int} {cs : List Value} (r2 : F.r 2 = ptr bt 0) (r3 : F.r 3 = ptr bl 0) (r4 : F.r 4 = ptr be 0) (ct : H[bt]? = some (.cells cs true 0)) (hl : cs.length = 4) (hn : kn cs = true) (cl : H[bl]? = some (.cells [vint a] true 0)) (ce : H[be]? = some (.cells [vint e] true 0))
  (hK : K (.tuple ⟨[.agg ⟨cs⟩,vint a,vint e]⟩) H) : resW prog f12.results.toList F.r H fun vs => K (pack vs) H := by
 rw [resR]
 refine resW_cell (gg := true) (s := 4) (by kernel_rfl) ?_
 rw [r2]
 refine load_part (c := cs) ct (by simp [hl]) (by rw [List.drop_zero,← hl,List.take_length]) hn ?_
 refine resW_cell (gg := false) (s := 1) (by kernel_rfl) ?_
 rw [r3]
 refine ldI (v := vint a) cl rfl rfl ?_
 refine resW_cell (gg := false) (s := 1) (by kernel_rfl) ?_
 rw [r4]
 exact ldI (v := vint e) ce rfl rfl (resW_nil hK)
theorem sli_nil0 : SliE H (.slice none 0 0) 2 Dro.cells ([] : List Dro) := ownX_sli (cs := []) (len := 0) ⟨rfl,rfl,.inl ⟨rfl,rfl,rfl⟩⟩
theorem tro_zero : TroAt H (.agg ⟨troCells tro0 (.slice none 0 0)⟩) tro0 (.slice none 0 0) := ⟨rfl,sli_nil0⟩
set_option maxHeartbeats 1000000 in
theorem good12 (hJ : Closed prog main J) (hK : ∀ H' fv,SameX [] H H' → TroAt H' (.agg ⟨troCells (readWT s) fv⟩) (readWT s) fv → K (.tuple ⟨[.agg ⟨troCells (readWT s) fv⟩,vint (readWE s).1,vint (readWE s).2]⟩) H') : Good prog J 12 [strV s] H K := by
 refine good_of_at at12 body12 (by kernel_rfl) (Nat.le_of_ble_eq_true (by kernel_rfl)) fun ok ρ FC cs c hc => ?_
 have hN : f12.ntmps = 23 := by kernel_rfl
 rw [hN,eR]
 have hfc : prog.funcs[31]? = some f31 := at31
 have hNc : f31.ntmps = 18 := by kernel_rfl
 -- a good end, told of the cells
 have bad : ∀ {a e : Int} {H' : List AObj},readWE s = (a,e) → e ≠ 0 → SameX [] H H' → K (.tuple ⟨[.agg ⟨troCells tro0 (.slice none 0 0)⟩,vint a,vint e]⟩) H' := fun {a e H'} h1 h2 S => by
  have hT : readWT s = tro0 := if_neg (by rw [h1]; exact h2)
  have := hK H' (.slice none 0 0) S (by rw [hT]; exact tro_zero)
  rw [hT,h1] at this
  exact this
 refine At.seq hJ (At.pieceQ hJ rfl (fn := 12) rfl (by simp) (Nat.le_refl _) (W_sound hJ mixed _ ?_))
 rw [q12_1]
 refine qAl fun H1 bt e1 S1 c1 l1 => qAl fun H2 bl e2 S2 c2 l2 => qAl fun H3 be e3 S3 c3 l3 => .inl ⟨rfl,?_⟩
 have ct3 := (S2.trans S3).get c1 (by simp)
 have cl3 := S3.get c2 (by simp)
 have S03 : SameX [] H H3 := (S1.trans S2).trans S3
 refine At.seq hJ (At.pieceQ hJ rfl (fn := 12) rfl (by simp) S03.1 (W_sound hJ mixed _ ?_))
 rw [q12_2]
 refine lenStr (s := s) (gtrI (cndI (fun hlong => ?_) fun hshort => .inl ⟨rfl,?_⟩))
 ·refine fillI (qStA (c := troCells tro0 (.slice none 0 0)) ct3 rfl rfl rfl fun H4 S4 c4 l4 => ?_)
  refine qSt (S4.get cl3 (by simp; omega)) (by decide) rfl rfl fun H5 S5 c5 l5 => ?_
  refine qSt (S5.get (S4.get c3 (by simp; omega)) (by simp; omega)) (by decide) rfl rfl fun H6 S6 c6 l6 => .inr (.inl ⟨rfl,?_⟩)
  refine AtE.finish hJ at12 hc rfl (resRd (bt := bt) (bl := bl) (be := be) rfl rfl rfl (S6.get (S5.get c4 (by simp; omega)) (by simp; omega)) rfl rfl (S6.get c5 (by simp; omega)) c6 ?_)
  exact bad (show readWE s = (0,10) from if_pos (by omega)) (by decide) (((S03.thru S4 (by simp; omega)).thru S5 (by simp; omega)).thru S6 (by simp; omega))
 have hs80 : s.length ≤ 80 := by omega
 have hE : readWE s = match readTr s with
  | .inl i => ((i : Nat),2)
  | .inr t => (0,troE t) := if_neg (by omega)
 -- the closure is put down
 refine At.seq hJ (At.reroot fun ρ1 hu1 hm1 => At.region hJ ?_)
 rw [zR3]
 have hc1 : ∀ v h' ρ' w' ft' cv,K v h' → HRel ρ' h' FC w' ft' → Env.upto H3.length ρ1 ρ' → H3.length ≤ h'.length → VRel h'.length ρ' v cv → J (G (c.finish cv) cs) w' ft' := fun v h' ρ' w' ft' cv a1 a2 a3 a4 a5 =>
  hc v h' ρ' w' ft' cv a1 a2 (Env.upto_trans hu1 (Env.upto_le a3 hm1)) (Nat.le_trans hm1 a4) a5
 refine At.op hJ (by simp) (o := opGet oR3 0) (by kernel_rfl) (by kernel_rfl) (gd_none (by kernel_rfl) _) ?_
 rw [wR3]
 refine ⟨rfl,fun _ => ?_⟩
 rw [show (opGet oR3 0).dst = some 11 by kernel_rfl]
 have hcap : LOk H3.length [ptr bt 0,ptr be 0,ptr bl 0] := by
  simp only [LOk,VOk,ptr,AddrOk]
  simp
  omega
 refine At.deferV hJ (by simp) rfl rfl (o := opGet oR3 1) (x := .tmp 11) (ats := #[]) (by kernel_rfl) (by kernel_rfl) (by kernel_rfl) (by kernel_rfl) (g := 31) (cap := [ptr bt 0,ptr be 0,ptr bl 0]) rfl hcap rfl ?_
 refine At.ops_nil hJ ?_
 -- the page
 refine At.seq hJ (At.pieceQ hJ rfl (fn := 12) rfl (by simp) (Nat.le_refl _) (W_sound hJ mixed _ ?_))
 rw [q12_3]
 refine qAl fun H4 pg e4 S4 c4 l4 => .inl ⟨rfl,?_⟩
 have ct4 := S4.get ct3 (by simp)
 have cl4 := S4.get cl3 (by simp)
 have ce4 := S4.get c3 (by simp)
 have S04 : SameX [] H H4 := S03.trans S4
 -- the two ends: nothing to recover; a wrong line
 have fin0 : ∀ {F' : RG} {H' : List AObj} {t : Tro} {fv : Value} {a e : Int},F'.ds = [] → F'.r 2 = ptr bt 0 → F'.r 3 = ptr bl 0 → F'.r 4 = ptr be 0 → H'[bt]? = some (.cells (troCells t fv) true 0) → kn1 fv = true → H'[bl]? = some (.cells [vint a] true 0) → H'[be]? = some (.cells [vint e] true 0) → K (.tuple ⟨[.agg ⟨troCells t fv⟩,vint a,vint e]⟩) H' → H3.length ≤ H'.length →
   AtE J 23 ⟨12,.normal,none,[]⟩ (c :: cs) FC ρ1 H3.length .returning F' H' := fun {F' H' t fv a e} hd x2 x3 x4 y2 hfv y3 y4 hk hle =>
  AtE.finish hJ at12 hc1 hd (resRd x2 x3 x4 y2 rfl (by unfold troCells kn; simp only [List.all_cons,hfv]; rfl) y3 y4 hk)
 have closeN : ∀ {F' : RG} {H' : List AObj} {t : Tro} {fv : Value} {a e : Int},F'.ds = [] → F'.r 2 = ptr bt 0 → F'.r 3 = ptr bl 0 → F'.r 4 = ptr be 0 → H'[bt]? = some (.cells (troCells t fv) true 0) → kn1 fv = true → H'[bl]? = some (.cells [vint a] true 0) → H'[be]? = some (.cells [vint e] true 0) → K (.tuple ⟨[.agg ⟨troCells t fv⟩,vint a,vint e]⟩) H' → H3.length ≤ H'.length →
   AtE J 23 ⟨12,.normal,none,[dcallV 31 ([ptr bt 0,ptr be 0,ptr bl 0].map (ren ρ1))]⟩ (c :: cs) FC ρ1 H3.length .returning F' H' := fun {F' H' t fv a e} hd x2 x3 x4 y2 hfv y3 y4 hk hle =>
  AtE.close hJ (fg := f31) (id := 0) (ops := oC0) (o := opGet oC0 0) (d := 6) (ats := #[]) (rest := subC [1] (codeOf f31)) (KH := fun h' => h' = H') hfc (body31.trans (congrArg some eC0)) (by kernel_rfl) (by kernel_rfl) (Nat.le_of_ble_eq_true (by kernel_rfl)) hcap (by kernel_rfl) (by kernel_rfl) (by kernel_rfl) (by kernel_rfl) (Nat.le_of_ble_eq_true (by kernel_rfl)) zC0 (.inl ⟨rfl,rfl⟩) (by simp [VOk]) hd
   (fun _ => by rw [hNc]; exact clo_nil hJ rfl) fun h' e _ => by subst e; exact fin0 hd x2 x3 x4 y2 hfv y3 y4 hk hle
 have closeP : ∀ {F' : RG} {H' : List AObj} {n : Nat},F'.ds = [] → F'.r 2 = ptr bt 0 → F'.r 3 = ptr bl 0 → F'.r 4 = ptr be 0 → SameX [pg] H4 H' → readTr s = .inl n →
   AtE J 23 ⟨12,.normal,none,[dcallV 31 ([ptr bt 0,ptr be 0,ptr bl 0].map (ren ρ1))]⟩ (c :: cs) FC ρ1 H3.length (.panicking [{ v := wrongV (n : Nat),recovered := false }]) F' H' := fun {F' H' n} hd x2 x3 x4 S hr =>
  AtE.close hJ (fg := f31) (id := 0) (ops := oC0) (o := opGet oC0 0) (d := 6) (ats := #[]) (rest := subC [1] (codeOf f31)) (KH := fun h' => SameX [bt,be,bl] H' h' ∧ h'[bt]? = some (.cells (troCells tro0 (.slice none 0 0)) true 0) ∧ h'[be]? = some (.cells [vint 2] true 0) ∧ h'[bl]? = some (.cells [vint (n : Nat)] true 0)) hfc (body31.trans (congrArg some eC0)) (by kernel_rfl) (by kernel_rfl) (Nat.le_of_ble_eq_true (by kernel_rfl)) hcap (by kernel_rfl) (by kernel_rfl) (by kernel_rfl) (by kernel_rfl) (Nat.le_of_ble_eq_true (by kernel_rfl)) zC0 (.inr rfl) (by simp [VOk,AOk,LOk,wrongV]) hd
   (fun _ => by
    rw [hNc]
    exact clo_wrong hJ (S.get ct4 (by simp; omega)) rfl (S.get ce4 (by simp; omega)) rfl (S.get cl4 (by simp; omega)) rfl (by omega) (by omega) (by omega) fun H6 S6 g1 g2 g3 => ⟨S6,g1,g2,g3⟩)
   fun h' ⟨S6,g1,g2,g3⟩ _ => fin0 hd x2 x3 x4 g1 rfl g3 g2 (bad (by rw [hE,hr]) (by decide) ((S04.thru S (by simp; omega)).thru S6 (by simp; omega))) (by have := S4.1; have := S.1; have := S6.1; omega)
 refine At.seq hJ (At.pieceQ hJ rfl (fn := 12) rfl (by simp) (by omega) (Sem_region hJ ?_))
 rw [zR5]
 refine SemOps_app hJ [0] (dec := []) (fun j b e => by cases e) ?_
 rw [wR5]
 have hG := good32 (s := s) (pg := pg) hJ (by omega) c4 (K := fun v H' => ∃ t sm,readTr s = .inr t ∧ SameX [pg] H4 H' ∧ PgAt H' pg H4.length t sm true) (KP := fun v H' => ∃ i : Nat,v = wrongV (i : Nat) ∧ readTr s = .inl i ∧ SameX [pg] H4 H') (fun i H' h1 h2 => ⟨i,rfl,h1,h2⟩) fun t sm H' h1 h2 h3 => ⟨t,sm,h1,h2,h3⟩
 refine SemOps_callP hJ (ops := oR5) (i := 1) (o := opGet oR5 1) (x := .func 32) (args := #[.tmp 5,.tmp 12]) (ats := (match (opGet oR5 1).op with | .call c => c.argTypes | _ => #[])) (by kernel_rfl) (gd_none (by kernel_rfl) _) (fun t ht => ?_) (by kernel_rfl) (g := 32) (first := []) (cap := []) rfl (show 32 < prog.funcs.size from Nat.le_of_ble_eq_true (by kernel_rfl)) hG ?_ ?_
 ·rw [show (opGet oR5 1).dst = some 13 by kernel_rfl] at ht
  cases ht
  decide
 ·rintro v H5 ⟨t,sm,hr,S5,fv,o,cp,O,hO⟩
  refine SemOps_nil hJ (.inl ⟨rfl,?_⟩)
  rw [show (opGet oR5 1).dst = some 13 by kernel_rfl]
  have hH4 := S4.1
  have hH5 := S5.1
  refine At.pieceQ hJ rfl (fn := 12) rfl (by simp) (by omega) (W_sound hJ mixed _ ?_)
  rw [q12_4]
  have fk : kn1 fv = true := (ownX_val O).2.2
  have kT : kn (troCells t fv) = true := by unfold troCells kn; simp only [List.all_cons,fk]; rfl
  have oT : (troCells t fv).all one = true := by unfold troCells; simp only [List.all_cons,(ownX_val O).2.1]; rfl
  have ld : ∀ {KV : Value → Prop} {H' : List AObj},H'[pg]? = some (.cells (pgC t.well fv sm true) true 0) → KV (.agg ⟨troCells t fv⟩) → aLoad true 4 (ptr pg 0) H' KV := fun hg hk => load_part (c := troCells t fv) hg (Nat.le_of_ble_eq_true rfl) rfl kT hk
  have hT : TroAt H5 (.agg ⟨troCells t fv⟩) t fv := ⟨rfl,ownX_sli O⟩
  have hEt : readWE s = (0,troE t) := by rw [hE,hr]
  have ct5 := S5.get ct4 (by simp; omega)
  have cl5 := S5.get cl4 (by simp; omega)
  have ce5 := S5.get ce4 (by simp; omega)
  refine offI (ld cp (good27 hJ hT (neqI (cndI (fun he => ?_) fun he => ?_))))
  ·refine fillI (qStA (c := troCells tro0 (.slice none 0 0)) ct5 rfl rfl rfl fun H6 S6 c6 l6 => ?_)
   refine qSt (S6.get cl5 (by simp; omega)) (by decide) rfl rfl fun H7 S7 c7 l7 => ?_
   refine qSt (S7.get (S6.get ce5 (by simp; omega)) (by simp; omega)) (by decide) rfl rfl fun H8 S8 c8 l8 => .inr (.inl ⟨rfl,?_⟩)
   refine closeN rfl rfl rfl rfl (S8.get (S7.get c6 (by simp; omega)) (by simp; omega)) rfl (S8.get c7 (by simp; omega)) c8 (bad hEt he ?_) (by omega)
   exact (((S04.thru S5 (by simp; omega)).thru S6 (by simp; omega)).thru S7 (by simp; omega)).thru S8 (by simp; omega)
  ·have he0 : troE t = 0 := Decidable.not_not.1 he
   refine offI (ld cp (qStA (c := troCells t fv) ct5 rfl rfl oT fun H6 S6 c6 l6 => ?_))
   refine qSt (S6.get cl5 (by simp; omega)) (by decide) rfl rfl fun H7 S7 c7 l7 => ?_
   refine qSt (S7.get (S6.get ce5 (by simp; omega)) (by simp; omega)) (by decide) rfl rfl fun H8 S8 c8 l8 => .inr (.inl ⟨rfl,?_⟩)
   refine closeN rfl rfl rfl rfl (S8.get (S7.get c6 (by simp; omega)) (by simp; omega)) fk (S8.get c7 (by simp; omega)) c8 ?_ (by omega)
   have S58 : SameX [bt,bl,be] H5 H8 := ((S6.weak (Y := [bt,bl,be]) (by simp)).thru S7 (by simp)).thru S8 (by simp)
   have S08 : SameX [] H H8 := (S04.thru S5 (by simp; omega)).thru S58 (by simp; omega)
   have hw : readWT s = t := by
    unfold readWT
    rw [if_pos (by rw [hEt]; exact he0),hr]
   have O8 := ownX_keep O S58 fun j hj => by have := hO j hj; simp; omega
   have := hK H8 fv S08 (by rw [hw]; exact ⟨rfl,ownX_sli O8⟩)
   rw [hw,hEt,he0] at this
   exact this
 ·rintro v H5 ⟨i,rfl,hr,S5⟩ _ _
  exact .inr (.inr ⟨_,rfl,by simp [VOk,AOk,LOk,wrongV],closeP rfl rfl rfl rfl S5 hr⟩)
end
end Go.Proofs.YtcmgjbflljmphaaGreatDoor
namespace Go.Proofs.YtcmgjbflljmphaaGreatDoor
open Go.Conc Go.Proofs.Tryz
set_option maxRecDepth 100000
set_option maxHeartbeats 4000000
set_option linter.unusedVariables false
section
variable {main : Bool} {J : JT} {n0 : Nat} {h : List AObj} {K : Value → List AObj → Prop}
def pl13 : Plans := []
def ct13 : Cuts := .bin (.go) (.bin (.go) (.bin (.go) (.bin (.go) (.bin (.go) (.bin (.bin (.go) (.un (.un (.bin (.go) (.bin (.un (.bin (.go) (.bin (.go) (.un (.bin (.go) (.cut (.bin (.go) (.bin (.go) (.cut (.bin (.go) (.bin (.go) (.cut (.go))))))))))))) (.go)))))) (.bin (.bin (.go) (.cut (.go))) (.go)))))))
theorem pok13 : plansOk prog pl13 (codeOf f13) = true := by kernel_rfl
theorem e13 {a0 : Value} : W prog J 105 h.length 13 (codeOf f13) (RG.mk (regs [a0]) []) h (RetQ prog [.cell 2 26,.tmp 3,.tmp 4] h.length K) =
(aAlloc [(vint 0),(vint 0),(vint 0),(Value.slice none 0 0)] h fun v1 h2 =>
 aLenStr a0 fun v3 =>
 aBin prog .gtr 3 v3 (vint 80) fun v4 =>
 cnd v4
(aFill [(vint 0),(vint 0),(vint 0),(Value.slice none 0 0)] [] fun c5 =>
 aStore 4 v1 (Value.agg ⟨c5⟩) h2 fun h6 =>
 RetQ prog [.cell 2 26,.tmp 3,.tmp 4] h.length K .ret (RG.p (RG.p (RG.p (RG.p (RG.p (RG.p (RG.p (RG.p (RG.p (RG.mk (regs [a0]) []) 2 v1) 3 (vint 0)) 4 (vint 0)) 14 a0) 15 v3) 16 v4) 17 (Value.agg ⟨c5⟩)) 3 (vint 0)) 4 (vint 10)) h6)
(Good prog J 33 [a0,(Value.int .u8 10)] h2 fun v7 h8 =>
 aAlloc [(vint 0),(vint 0),(vint 0),(Value.slice none 0 0)] h8 fun v9 h10 =>
 Sem J 105 h.length 13 (subC [1,1,1,1,1,0,1,0] (codeOf f13)) (RG.p (RG.p (RG.p (RG.p (RG.p (RG.p (RG.p (RG.p (RG.p (RG.p (RG.p (RG.p (RG.mk (regs [a0]) []) 2 v1) 3 (vint 0)) 4 (vint 0)) 14 a0) 15 v3) 16 v4) 18 a0) 19 v7) 5 v7) 6 v9) 7 (Value.bool false)) 8 (vint 0)) h10 (contX pl13 prog J 105 h.length 13 ct13 [1,1,1,1,1,0,1,0] (codeOf f13) [] (RetQ prog [.cell 2 26,.tmp 3,.tmp 4] h.length K)))) := top_eq pok13 ct13 (by kernel_rfl)
def pl10 : Plans := [(4,false,.take 0 (.take 1 (.take 2 (.take 6 (.take 7 (.take 8 (.take 12 (.take 13 (.take 14 (.last 3 true (.take 4 (.take 5 (.last 9 true (.take 10 (.take 11 (.last 15 true (.take 16 (.take 17 (.take 18 (.fin)))))))))))))))))))),
 (8,false,.take 0 (.take 1 (.take 2 (.take 3 (.take 4 (.take 5 (.take 6 (.take 7 (.take 11 (.take 12 (.take 13 (.take 14 (.take 15 (.take 16 (.last 8 true (.take 9 (.take 10 (.last 17 true (.take 18 (.take 19 (.take 20 (.fin))))))))))))))))))))))]
def ct10 : Cuts := .go
theorem pok10 : plansOk prog pl10 (codeOf f10) = true := by kernel_rfl
theorem e10 {a0 : Value} : W prog J 59 h.length 10 (codeOf f10) (RG.mk (regs [a0]) []) h (RetQ prog [.tmp 2,.tmp 3] h.length K) =
(aBox a0 h fun v1 h2 =>
 aLoad true 4 v1 h2 fun v3 =>
 Good prog J 29 [v3] h2 fun v4 h5 =>
 aBin prog .neq 35 v4 (vint 0) fun v6 =>
 cnd v6
(retL h.length K [] [(Value.string { data := #[] }),v4] h5)
((∃ B,aOff v1 0 fun v7 =>
 aOff v7 0 fun v8 =>
 aLoad false 1 v8 h5 fun v9 =>
 RdOk (some B) (ptrBlk v8) ∧ (aOff v1 0 fun v10 =>
 aOff v10 1 fun v11 =>
 aLoad false 1 v11 h5 fun v12 =>
 RdOk (some B) (ptrBlk v11) ∧ (aOff v1 0 fun v13 =>
 aOff v13 2 fun v14 =>
 aLoad false 1 v14 h5 fun v15 =>
 RdOk (some B) (ptrBlk v14) ∧ (Good prog J 28 [v9] h5 fun v16 h17 =>
 SameB (some B) h5 h17 ∧ (aBin prog .add 9 (Value.string { data := #[119,101,108,108,32] }) v16 fun v18 =>
 aBin prog .add 9 v18 (Value.string { data := #[47] }) fun v19 =>
 Good prog J 28 [v12] h17 fun v20 h21 =>
 SameB (some B) h5 h21 ∧ (aBin prog .add 9 v19 v20 fun v22 =>
 aBin prog .add 9 v22 (Value.string { data := #[32,43] }) fun v23 =>
 Good prog J 28 [v15] h21 fun v24 h25 =>
 SameB (some B) h5 h25 ∧ (aBin prog .add 9 v23 v24 fun v26 =>
 aBin prog .add 9 v26 (Value.string { data := #[10] }) fun v27 =>
 Sem J 59 h.length 10 (subC yp0 (codeOf f10)) (RG.p (RG.p (RG.p (RG.p (RG.p (RG.p (RG.p (RG.p (RG.p (RG.p (RG.p (RG.p (RG.p (RG.p (RG.p (RG.p (RG.p (RG.p (RG.p (RG.p (RG.p (RG.p (RG.p (RG.p (RG.p (RG.p (RG.p (RG.p (RG.mk (regs [a0]) []) 1 v1) 2 (Value.string { data := #[] })) 3 (vint 0)) 7 v3) 8 v4) 4 v4) 9 v4) 10 v6) 12 v7) 13 v8) 14 v9) 18 v10) 19 v11) 20 v12) 24 v13) 25 v14) 26 v15) 15 v16) 16 v18) 17 v19) 21 v20) 22 v22) 23 v23) 27 v24) 28 v26) 29 v27) 5 v27) 6 (vint 0)) h25 (contX pl10 prog J 59 h.length 10 ct10 yp0 (codeOf f10) [] (RetQ prog [.tmp 2,.tmp 3] h.length K))))))))))) := top_eq pok10 ct10 (by kernel_rfl)
end
end Go.Proofs.YtcmgjbflljmphaaGreatDoor
namespace Go.Proofs.YtcmgjbflljmphaaGreatDoor
open Go.Conc Go.Proofs.Tryz
set_option maxRecDepth 100000
def txtT (t : Tro) : List UInt8 := if troE t ≠ 0 then [] else troT t
section
variable {main : Bool} {J : JT} {h H : List AObj} {K : Value → List AObj → Prop} {KV : Value → Prop}
theorem good9t (hJ : Closed prog main J) {v fv : Value} {t : Tro} (ht : TroAt H v t fv) (hK : ∀ H',SameX [] H H' → K (.tuple ⟨[strV (txtT t),vint (troE t)]⟩) H') : Good prog J 9 [v] H K := by
 by_cases hz : troE t = 0
 ·refine good9 hJ ht hz fun H' S => ?_
  have := hK H' S
  unfold txtT at this
  rw [if_neg (by omega),hz] at this
  exact this
 ·refine g9 hJ fun ok => ?_
  rw [e9,ht.val]
  refine qBox (tro_one ht) fun H1 p1 e1 S1 c1 l1 => ?_
  refine load_part (c := troCells t fv) c1 (by simp [troCells]) rfl (tro_kn ht) ?_
  refine good27 hJ ⟨rfl,S1.sli ht.fl (by simp)⟩ (neqI (cndI (fun _ => ?_) fun g1 => absurd (Decidable.not_not.1 g1) hz))
  have := hK H1 S1
  unfold txtT at this
  rw [if_pos hz] at this
  exact retL_same (by simp [unk]) this
end
end Go.Proofs.YtcmgjbflljmphaaGreatDoor
namespace Go.Proofs.YtcmgjbflljmphaaGreatDoor
open Go.Conc Go.Proofs.Tryz
set_option maxRecDepth 100000
set_option maxHeartbeats 4000000
set_option linter.unusedVariables false
section
variable {main : Bool} {J : JT} {n0 : Nat} {h : List AObj} {K : Value → List AObj → Prop}
theorem at14 : prog.funcs[14]? = some f14 := by kernel_rfl
theorem body14 : f14.body = some (codeOf f14) := by kernel_rfl
def pl14 : Plans := [(6,true,.take 0 (.take 1 (.take 2 (.take 3 (.take 4 (.take 5 (.take 6 (.take 7 (.take 8 (.take 9 (.take 10 (.fin))))))))))))]
def ct14 : Cuts := .bin (.go) (.bin (.bin (.go) (.cut (.go))) (.go))
theorem pok14 : plansOk prog pl14 (codeOf f14) = true := by kernel_rfl
theorem e14 {a0 a1 : Value} : W prog J 38 h.length 14 (codeOf f14) (RG.mk (regs [a0,a1]) []) h (RetQ prog [.tmp 4] h.length K) =
(aBox a0 h fun v1 h2 =>
 aBox a1 h2 fun v3 h4 =>
 aOff v1 0 fun v5 =>
 aLoad true 3 v5 h4 fun v6 =>
 aOff v3 0 fun v7 =>
 aLoad true 3 v7 h4 fun v8 =>
 aBin prog .neq 23 v6 v8 fun v9 =>
 cnd v9
(Hold (W prog J 38 h.length 14 (subC [1,0,1] (codeOf f14)) (RG.p (RG.p (RG.p (RG.p (RG.p (RG.p (RG.p (RG.p (RG.p (RG.p (RG.p (RG.p (RG.p (RG.p (RG.p (RG.p (RG.p (RG.p (RG.mk (regs [a0,a1]) []) 2 v1) 3 v3) 4 (Value.bool false)) 6 v5) 7 v6) 8 v7) 9 v8) 10 v9) 11 v9) 11 (Value.bool true)) 12 undef) 13 undef) 14 undef) 15 undef) 16 undef) 17 undef) 18 undef) 19 (Value.bool true)) h4 (contX pl14 prog J 38 h.length 14 ct14 [1,0,1] (codeOf f14) [] (RetQ prog [.tmp 4] h.length K))))
(aOff v1 3 fun v10 =>
 aLoad false 1 v10 h4 fun v11 =>
 aLenS v11 fun v12 =>
 aOff v3 3 fun v13 =>
 aLoad false 1 v13 h4 fun v14 =>
 aLenS v14 fun v15 =>
 aBin prog .neq 3 v12 v15 fun v16 =>
 Hold (W prog J 38 h.length 14 (subC [1,0,1] (codeOf f14)) (RG.p (RG.p (RG.p (RG.p (RG.p (RG.p (RG.p (RG.p (RG.p (RG.p (RG.p (RG.p (RG.p (RG.p (RG.p (RG.p (RG.p (RG.p (RG.mk (regs [a0,a1]) []) 2 v1) 3 v3) 4 (Value.bool false)) 6 v5) 7 v6) 8 v7) 9 v8) 10 v9) 11 v9) 11 (Value.bool false)) 12 v10) 13 v11) 14 v12) 15 v13) 16 v14) 17 v15) 18 v16) 19 v16) h4 (contX pl14 prog J 38 h.length 14 ct14 [1,0,1] (codeOf f14) [] (RetQ prog [.tmp 4] h.length K))))) := top_eq pok14 ct14 (by kernel_rfl)
theorem g14 (hJ : Closed prog main J) {a0 a1 : Value} (hs : heapOk h → W prog J 38 h.length 14 (codeOf f14) (RG.mk (regs [a0,a1]) []) h (RetQ prog [.tmp 4] h.length K)) : Good prog J 14 [a0,a1] h K :=
 good_of_W hJ mixed at14 body14 (by kernel_rfl) (Nat.le_of_ble_eq_true rfl) hs
theorem s14_1 {f : RG} : W prog J 38 n0 14 (subC [1,0,1] (codeOf f14)) f h (contX pl14 prog J 38 n0 14 ct14 [1,0,1] (codeOf f14) [] (RetQ prog [.tmp 4] n0 K)) =
(cnd (f.r 19)
(retL n0 K f.ds [(Value.bool false)] h)
(Sem J 38 n0 14 (subC yp1 (codeOf f14)) (RG.p f 5 (vint 0)) h (contX pl14 prog J 38 n0 14 ct14 yp1 (codeOf f14) [] (RetQ prog [.tmp 4] n0 K)))) := sub_eq pok14 ct14 (by kernel_rfl)
theorem s14_2 {f : RG} {nx0 : RG → List AObj → Prop} : W prog J 38 n0 14 (subC [1,1,0,1,0,0] (codeOf f14)) f h (thenK nx0 (contX pl14 prog J 38 n0 14 ct14 yp1 (codeOf f14) [] (RetQ prog [.tmp 4] n0 K))) =
(aOff (f.r 2) 3 fun v1 =>
 aLoad false 1 v1 h fun v2 =>
 aLenS v2 fun v3 =>
 aBin prog .lss 3 (f.r 5) v3 fun v4 =>
 cnd v4
(aOff (f.r 2) 3 fun v5 =>
 aLoad false 1 v5 h fun v6 =>
 aIdx 2 v6 (f.r 5) fun v7 =>
 aLoad true 2 v7 h fun v8 =>
 aOff (f.r 3) 3 fun v9 =>
 aLoad false 1 v9 h fun v10 =>
 aIdx 2 v10 (f.r 5) fun v11 =>
 aLoad true 2 v11 h fun v12 =>
 aBin prog .neq 64 v8 v12 fun v13 =>
 cnd v13
(retL n0 K f.ds [(Value.bool false)] h)
(aBin prog .add 3 (f.r 5) (vint 1) fun v14 =>
 nx0 (RG.p (RG.p (RG.p (RG.p (RG.p (RG.p (RG.p (RG.p (RG.p (RG.p (RG.p (RG.p (RG.p (RG.p (RG.p (RG.p (RG.p (RG.p (RG.p f 20 (f.r 5)) 21 v1) 22 v2) 23 v3) 24 v4) 27 v5) 28 v6) 29 (f.r 5)) 30 v7) 31 v8) 32 v9) 33 v10) 34 (f.r 5)) 35 v11) 36 v12) 37 v13) 25 (f.r 5)) 26 v14) 5 v14) h))
(retL n0 K f.ds [(Value.bool true)] h)) := sub_eq pok14 ct14 (by kernel_rfl)
theorem l14_2 (hJ : Closed prog main J) {S : Type} (μ : S → Nat) (I : S → RG → List AObj → Prop) (hI : ∀ s f h,I s f h → heapOk h → n0 ≤ h.length → W prog J 38 n0 14 (subC [1,1,0,1,0,0] (codeOf f14)) f h (thenK (Nx n0 μ I s) (contX pl14 prog J 38 n0 14 ct14 yp1 (codeOf f14) [] (RetQ prog [.tmp 4] n0 K))))
 {s : S} {f : RG} (hi : Gets n0 I s f h) : Sem J 38 n0 14 (subC yp1 (codeOf f14)) f h (contX pl14 prog J 38 n0 14 ct14 yp1 (codeOf f14) [] (RetQ prog [.tmp 4] n0 K)) :=
 loop_rule hJ mixed (b := subC [1,1,0,1,0,0] (codeOf f14)) (by kernel_rfl) μ I hI hi
theorem at5 : prog.funcs[5]? = some f5 := by kernel_rfl
theorem body5 : f5.body = some (codeOf f5) := by kernel_rfl
def pl5 : Plans := []
def ct5 : Cuts := .go
theorem pok5 : plansOk prog pl5 (codeOf f5) = true := by kernel_rfl
theorem e5 {a0 a1 : Value} : W prog J 14 h.length 5 (codeOf f5) (RG.mk (regs [a0,a1]) []) h (RetQ prog [.tmp 4] h.length K) =
(aBox a0 h fun v1 h2 =>
 aOff v1 3 fun v3 =>
 aLoad false 1 v3 h2 fun v4 =>
 aLenS v4 fun v5 =>
 aBin prog .gtr 3 v5 (vint 20) fun v6 =>
 cnd v6
(retL h.length K [] [(Value.bool true)] h2)
(aLenS a1 fun v7 =>
 aBin prog .gtr 3 v7 (vint 20) fun v8 =>
 retL h.length K [] [v8] h2)) := top_eq pok5 ct5 (by kernel_rfl)
theorem g5 (hJ : Closed prog main J) {a0 a1 : Value} (hs : heapOk h → W prog J 14 h.length 5 (codeOf f5) (RG.mk (regs [a0,a1]) []) h (RetQ prog [.tmp 4] h.length K)) : Good prog J 5 [a0,a1] h K :=
 good_of_W hJ mixed at5 body5 (by kernel_rfl) (Nat.le_of_ble_eq_true rfl) hs
end
end Go.Proofs.YtcmgjbflljmphaaGreatDoor
namespace Go.Proofs.YtcmgjbflljmphaaGreatDoor
open Go.Conc Go.Proofs.Tryz
set_option maxRecDepth 100000
theorem teqW (a b c d e f : Int) : teq prog 10000 23 (.agg ⟨[vint a,vint b,vint c]⟩) (.agg ⟨[vint d,vint e,vint f]⟩) =
 (match some (a == d) with
 | some true => (match some (b == e) with
  | some true => (match some (c == f) with
   | some true => some true
   | some false => some false
   | none => none)
  | some false => some false
  | none => none)
 | some false => some false
 | none => none) := by kernel_rfl
theorem teqW_same (w : Wel) : teq prog 10000 23 (.agg ⟨w.cells⟩) (.agg ⟨w.cells⟩) = some true := by
 unfold Wel.cells
 rw [teqW]
 simp
theorem teqD (a b c d : Int) : teq prog 10000 64 (.agg ⟨[vint a,vint b]⟩) (.agg ⟨[vint c,vint d]⟩) =
 (match some (a == c) with
 | some true => (match some (b == d) with
  | some true => some true
  | some false => some false
  | none => none)
 | some false => some false
 | none => none) := by kernel_rfl
theorem teqD_same (d : Dro) : teq prog 10000 64 (.agg ⟨d.cells⟩) (.agg ⟨d.cells⟩) = some true := by
 unfold Dro.cells
 rw [teqD]
 simp
section
variable {main : Bool} {J : JT} {h H : List AObj} {K : Value → List AObj → Prop} {KV : Value → Prop} {HL : List AObj → Prop} {n0 : Nat}
theorem neqSame {t : TypeId} {c : Array Value} (ht : teq prog 10000 t (.agg c) (.agg c) = some true) (hg : prog.eqGuardType prog.depth t = false) (hk : KV (.bool false)) : aBin prog .neq t (.agg c) (.agg c) KV := by
 show aEq prog true t (.agg c) (.agg c) KV
 unfold aEq
 rw [ht]
 exact ⟨hg,hk⟩
theorem good14 (hJ : Closed prog main J) {v w fv gv : Value} {t : Tro} (ht : TroAt H v t fv) (hw : TroAt H w t gv) (hl : t.flocks.length < 1000000) (hK : ∀ H',SameX [] H H' → K (.bool true) H') : Good prog J 14 [v,w] H K := by
 refine g14 hJ fun ok => ?_
 rw [e14,ht.val,hw.val]
 have kf := (sli_val ht.fl).2.2
 have kg := (sli_val hw.fl).2.2
 refine qBox (tro_one ht) fun H1 p1 e1 S1 c1 l1 => qBox (tro_one hw) fun H2 p2 e2 S2 c2 l2 => ?_
 have c12 := S2.get c1 (by simp)
 have T2 := S1.trans S2
 have st : SliE H2 fv 2 Dro.cells t.flocks := T2.sli ht.fl (by simp)
 have sw : SliE H2 gv 2 Dro.cells t.flocks := T2.sli hw.fl (by simp)
 refine offI (load_part (c := t.well.cells) c12 (by simp [troCells]) rfl rfl (offI (load_part (c := t.well.cells) c2 (by simp [troCells]) rfl rfl ?_)))
 refine neqSame (teqW_same t.well) (by kernel_rfl) (cnd_false.2 ?_)
 refine offI (ldI (v := fv) c12 rfl kf (lenI st (offI (ldI (v := gv) c2 rfl kg (lenI sw (neqI (hold.2 ?_)))))))
 rw [s14_1]
 have e : ∀ {A B : Prop},B → cnd (Value.bool (decide ((t.flocks.length : Int) ≠ t.flocks.length))) A B := fun hB => cndI (fun hx => absurd rfl hx) fun _ => hB
 refine e ?_
 refine l14_2 hJ (fun i : Nat => t.flocks.length - i) (fun i F H' => H' = H2 ∧ i ≤ t.flocks.length ∧ F.ds = [] ∧ F.r 2 = ptr p1 0 ∧ F.r 3 = ptr p2 0 ∧ F.r 5 = vint (i : Nat)) ?_ (s := 0)
  (.inl ⟨rfl,by omega,rfl,rfl,rfl,rfl⟩)
 rintro i F H' ⟨rfl,hi,ds,r2,r3,r5⟩ okc hnc
 rw [s14_2,r2,r3,r5,ds]
 refine offI (ldI (v := fv) c12 rfl kf (lenI st (lssI (cndI (fun hlt => ?_) fun hge => retL_same (by simp [unk]) (hK H' T2)))))
 have hil : i < t.flocks.length := by omega
 obtain ⟨b,o,cs,wr,sz,hidx,hb,hol,hft,hkn⟩ := sliE_elem dro_len (by omega) st hil
 obtain ⟨b',o',cs',wr',sz',hidx',hb',hol',hft',hkn'⟩ := sliE_elem dro_len (by omega) sw hil
 refine offI (ldI (v := fv) c12 rfl kf (hidx _ (load_part hb hol hft hkn ?_)))
 refine offI (ldI (v := gv) c2 rfl kg (hidx' _ (load_part hb' hol' hft' hkn' ?_)))
 refine neqSame (teqD_same t.flocks[i]) (by kernel_rfl) (cnd_false.2 ?_)
 exact addI (by omega) ⟨i + 1,by dsimp only; omega,.inl ⟨rfl,by omega,ds,r2,r3,by show vint _ = vint _; congr 1⟩⟩
end
end Go.Proofs.YtcmgjbflljmphaaGreatDoor
namespace Go.Proofs.YtcmgjbflljmphaaGreatDoor
open Go.Conc Go.Proofs.Tryz
set_option maxRecDepth 100000
set_option maxHeartbeats 4000000
set_option linter.unusedVariables false
section
variable {main : Bool} {J : JT} {n0 : Nat} {h : List AObj} {K : Value → List AObj → Prop}
theorem at4 : prog.funcs[4]? = some f4 := by kernel_rfl
theorem body4 : f4.body = some (codeOf f4) := by kernel_rfl
def pl4 : Plans := []
def ct4 : Cuts := .bin (.go) (.bin (.go) (.cut (.bin (.go) (.cut (.bin (.go) (.cut (.bin (.go) (.cut (.bin (.bin (.go) (.cut (.go))) (.cut (.bin (.go) (.cut (.bin (.go) (.cut (.go)))))))))))))))
theorem pok4 : plansOk prog pl4 (codeOf f4) = true := by kernel_rfl
theorem e4 {a0 a1 : Value} : W prog J 74 h.length 4 (codeOf f4) (RG.mk (regs [a0,a1]) []) h (RetQ prog [.tmp 4] h.length K) =
(aLenStr a1 fun v1 =>
 aBin prog .gtr 3 v1 (vint 70) fun v2 =>
 cnd v2
(Good prog J 6 [] h fun v3 h4 =>
 retL h.length K [] [v3] h4)
(Hold (W prog J 74 h.length 4 (subC [1,1] (codeOf f4)) (RG.p (RG.p (RG.p (RG.p (RG.mk (regs [a0,a1]) []) 4 (Value.bool false)) 16 a1) 17 v1) 18 v2) h (contX pl4 prog J 74 h.length 4 ct4 [1,1] (codeOf f4) [] (RetQ prog [.tmp 4] h.length K))))) := top_eq pok4 ct4 (by kernel_rfl)
theorem g4 (hJ : Closed prog main J) {a0 a1 : Value} (hs : heapOk h → W prog J 74 h.length 4 (codeOf f4) (RG.mk (regs [a0,a1]) []) h (RetQ prog [.tmp 4] h.length K)) : Good prog J 4 [a0,a1] h K :=
 good_of_W hJ mixed at4 body4 (by kernel_rfl) (Nat.le_of_ble_eq_true rfl) hs
theorem s4_1 {f : RG} : W prog J 74 n0 4 (subC [1,1] (codeOf f4)) f h (contX pl4 prog J 74 n0 4 ct4 [1,1] (codeOf f4) [] (RetQ prog [.tmp 4] n0 K)) =
(Good prog J 8 [(f.r 0)] h fun v1 h2 =>
 Good prog J 7 [v1,(vint 3),(vint 40)] h2 fun v3 h4 =>
 aAlloc [(vint 0),(vint 0),(vint 0),(Value.slice none 0 0)] h4 fun v5 h6 =>
 aStore 4 v5 v3 h6 fun h7 =>
 Hold (W prog J 74 n0 4 (subC [1,1,1] (codeOf f4)) (RG.p (RG.p (RG.p (RG.p f 20 (f.r 0)) 21 v1) 22 v3) 5 v5) h7 (contX pl4 prog J 74 n0 4 ct4 [1,1,1] (codeOf f4) [] (RetQ prog [.tmp 4] n0 K)))) := sub_eq pok4 ct4 (by kernel_rfl)
theorem s4_2 {f : RG} : W prog J 74 n0 4 (subC [1,1,1] (codeOf f4)) f h (contX pl4 prog J 74 n0 4 ct4 [1,1,1] (codeOf f4) [] (RetQ prog [.tmp 4] n0 K)) =
(aLoad true 4 (f.r 5) h fun v1 =>
 Good prog J 9 [v1] h fun v2 h3 =>
 aExt v2 0 fun v4 =>
 aExt v2 1 fun v5 =>
 Hold (W prog J 74 n0 4 (subC [1,1,1,1] (codeOf f4)) (RG.p (RG.p (RG.p (RG.p (RG.p (RG.p (RG.p f 24 v1) 25 v2) 23 v2) 26 v4) 27 v5) 6 v4) 7 v5) h3 (contX pl4 prog J 74 n0 4 ct4 [1,1,1,1] (codeOf f4) [] (RetQ prog [.tmp 4] n0 K)))) := sub_eq pok4 ct4 (by kernel_rfl)
theorem s4_3 {f : RG} : W prog J 74 n0 4 (subC [1,1,1,1] (codeOf f4)) f h (contX pl4 prog J 74 n0 4 ct4 [1,1,1,1] (codeOf f4) [] (RetQ prog [.tmp 4] n0 K)) =
(Good prog J 12 [(f.r 6)] h fun v1 h2 =>
 aExt v1 0 fun v3 =>
 aExt v1 1 fun v4 =>
 aExt v1 2 fun v5 =>
 aAlloc [(vint 0),(vint 0),(vint 0),(Value.slice none 0 0)] h2 fun v6 h7 =>
 aStore 4 v6 v3 h7 fun h8 =>
 Hold (W prog J 74 n0 4 (subC [1,1,1,1,1] (codeOf f4)) (RG.p (RG.p (RG.p (RG.p (RG.p (RG.p (RG.p (RG.p (RG.p f 29 (f.r 6)) 30 v1) 28 v1) 31 v3) 32 v4) 33 v5) 8 v6) 9 v4) 10 v5) h8 (contX pl4 prog J 74 n0 4 ct4 [1,1,1,1,1] (codeOf f4) [] (RetQ prog [.tmp 4] n0 K)))) := sub_eq pok4 ct4 (by kernel_rfl)
theorem s4_4 {f : RG} : W prog J 74 n0 4 (subC [1,1,1,1,1] (codeOf f4)) f h (contX pl4 prog J 74 n0 4 ct4 [1,1,1,1,1] (codeOf f4) [] (RetQ prog [.tmp 4] n0 K)) =
(aBin prog .neq 35 (f.r 7) (vint 0) fun v1 =>
 cnd v1
(Hold (W prog J 74 n0 4 (subC yp6 (codeOf f4)) (RG.p (RG.p (RG.p (RG.p (RG.p (RG.p (RG.p (RG.p (RG.p (RG.p (RG.p (RG.p (RG.p (RG.p (RG.p (RG.p (RG.p (RG.p (RG.p f 34 (f.r 7)) 35 v1) 36 v1) 36 (Value.bool true)) 37 undef) 38 undef) 39 (Value.bool true)) 40 (Value.bool true)) 40 (Value.bool true)) 41 undef) 42 undef) 43 (Value.bool true)) 44 (Value.bool true)) 44 (Value.bool true)) 45 undef) 46 undef) 47 undef) 48 undef) 49 (Value.bool true)) h (contX pl4 prog J 74 n0 4 ct4 yp6 (codeOf f4) [] (RetQ prog [.tmp 4] n0 K))))
(aBin prog .neq 35 (f.r 10) (vint 0) fun v2 =>
 cnd v2
(Hold (W prog J 74 n0 4 (subC yp6 (codeOf f4)) (RG.p (RG.p (RG.p (RG.p (RG.p (RG.p (RG.p (RG.p (RG.p (RG.p (RG.p (RG.p (RG.p (RG.p (RG.p (RG.p (RG.p (RG.p (RG.p f 34 (f.r 7)) 35 v1) 36 v1) 36 (Value.bool false)) 37 (f.r 10)) 38 v2) 39 v2) 40 v2) 40 (Value.bool true)) 41 undef) 42 undef) 43 (Value.bool true)) 44 (Value.bool true)) 44 (Value.bool true)) 45 undef) 46 undef) 47 undef) 48 undef) 49 (Value.bool true)) h (contX pl4 prog J 74 n0 4 ct4 yp6 (codeOf f4) [] (RetQ prog [.tmp 4] n0 K))))
(aBin prog .neq 3 (f.r 9) (vint 0) fun v3 =>
 cnd v3
(Hold (W prog J 74 n0 4 (subC yp6 (codeOf f4)) (RG.p (RG.p (RG.p (RG.p (RG.p (RG.p (RG.p (RG.p (RG.p (RG.p (RG.p (RG.p (RG.p (RG.p (RG.p (RG.p (RG.p (RG.p (RG.p f 34 (f.r 7)) 35 v1) 36 v1) 36 (Value.bool false)) 37 (f.r 10)) 38 v2) 39 v2) 40 v2) 40 (Value.bool false)) 41 (f.r 9)) 42 v3) 43 v3) 44 v3) 44 (Value.bool true)) 45 undef) 46 undef) 47 undef) 48 undef) 49 (Value.bool true)) h (contX pl4 prog J 74 n0 4 ct4 yp6 (codeOf f4) [] (RetQ prog [.tmp 4] n0 K))))
(aLoad true 4 (f.r 5) h fun v4 =>
 aLoad true 4 (f.r 8) h fun v5 =>
 Good prog J 14 [v4,v5] h fun v6 h7 =>
 aUn .not v6 fun v8 =>
 Hold (W prog J 74 n0 4 (subC yp6 (codeOf f4)) (RG.p (RG.p (RG.p (RG.p (RG.p (RG.p (RG.p (RG.p (RG.p (RG.p (RG.p (RG.p (RG.p (RG.p (RG.p (RG.p (RG.p (RG.p (RG.p f 34 (f.r 7)) 35 v1) 36 v1) 36 (Value.bool false)) 37 (f.r 10)) 38 v2) 39 v2) 40 v2) 40 (Value.bool false)) 41 (f.r 9)) 42 v3) 43 v3) 44 v3) 44 (Value.bool false)) 45 v4) 46 v5) 47 v6) 48 v8) 49 v8) h7 (contX pl4 prog J 74 n0 4 ct4 yp6 (codeOf f4) [] (RetQ prog [.tmp 4] n0 K))))))) := sub_eq pok4 ct4 (by kernel_rfl)
theorem s4_5 {f : RG} : W prog J 74 n0 4 (subC yp6 (codeOf f4)) f h (contX pl4 prog J 74 n0 4 ct4 yp6 (codeOf f4) [] (RetQ prog [.tmp 4] n0 K)) =
(cnd (f.r 49)
(retL n0 K f.ds [(Value.bool false)] h)
(Hold (W prog J 74 n0 4 (subC [1,1,1,1,1,1] (codeOf f4)) f h (contX pl4 prog J 74 n0 4 ct4 [1,1,1,1,1,1] (codeOf f4) [] (RetQ prog [.tmp 4] n0 K))))) := sub_eq pok4 ct4 (by kernel_rfl)
theorem s4_6 {f : RG} : W prog J 74 n0 4 (subC [1,1,1,1,1,1] (codeOf f4)) f h (contX pl4 prog J 74 n0 4 ct4 [1,1,1,1,1,1] (codeOf f4) [] (RetQ prog [.tmp 4] n0 K)) =
(Good prog J 12 [(f.r 1)] h fun v1 h2 =>
 aExt v1 0 fun v3 =>
 aExt v1 1 fun v4 =>
 aExt v1 2 fun v5 =>
 aAlloc [(vint 0),(vint 0),(vint 0),(Value.slice none 0 0)] h2 fun v6 h7 =>
 aStore 4 v6 v3 h7 fun h8 =>
 Hold (W prog J 74 n0 4 (subC yp9 (codeOf f4)) (RG.p (RG.p (RG.p (RG.p (RG.p (RG.p (RG.p (RG.p (RG.p f 51 (f.r 1)) 52 v1) 50 v1) 53 v3) 54 v4) 55 v5) 11 v6) 12 v4) 13 v5) h8 (contX pl4 prog J 74 n0 4 ct4 yp9 (codeOf f4) [] (RetQ prog [.tmp 4] n0 K)))) := sub_eq pok4 ct4 (by kernel_rfl)
theorem s4_7 {f : RG} : W prog J 74 n0 4 (subC yp9 (codeOf f4)) f h (contX pl4 prog J 74 n0 4 ct4 yp9 (codeOf f4) [] (RetQ prog [.tmp 4] n0 K)) =
(aBin prog .neq 35 (f.r 13) (vint 0) fun v1 =>
 cnd v1
(Good prog J 6 [] h fun v2 h3 =>
 retL n0 K f.ds [v2] h3)
(Hold (W prog J 74 n0 4 (subC yp10 (codeOf f4)) (RG.p (RG.p f 56 (f.r 13)) 57 v1) h (contX pl4 prog J 74 n0 4 ct4 yp10 (codeOf f4) [] (RetQ prog [.tmp 4] n0 K))))) := sub_eq pok4 ct4 (by kernel_rfl)
theorem s4_8 {f : RG} : W prog J 74 n0 4 (subC yp10 (codeOf f4)) f h (contX pl4 prog J 74 n0 4 ct4 yp10 (codeOf f4) [] (RetQ prog [.tmp 4] n0 K)) =
(aLoad true 4 (f.r 11) h fun v1 =>
 Good prog J 9 [v1] h fun v2 h3 =>
 aExt v2 0 fun v4 =>
 aExt v2 1 fun v5 =>
 aBin prog .eql 35 v5 (vint 0) fun v6 =>
 cnd v6
(aBin prog .eql 9 v4 (f.r 1) fun v7 =>
 cnd v7
(Good prog J 6 [] h3 fun v8 h9 =>
 retL n0 K f.ds [v8] h9)
(retL n0 K f.ds [(Value.bool false)] h3))
(retL n0 K f.ds [(Value.bool false)] h3)) := sub_eq pok4 ct4 (by kernel_rfl)
end
end Go.Proofs.YtcmgjbflljmphaaGreatDoor
namespace Go.Proofs.YtcmgjbflljmphaaGreatDoor
open Go.Conc Go.Proofs.Tryz
set_option maxRecDepth 100000
theorem troC_kn {H : List AObj} {v fv : Value} {t : Tro} (a : TroAt H v t fv) : kn (troCells t fv) = true ∧ (troCells t fv).all one = true := by
 obtain ⟨_,h2,h3⟩ := sli_val a.fl
 refine ⟨?_,?_⟩
 ·unfold troCells kn
  simp only [List.all_cons,h3]
  rfl
 ·unfold troCells
  simp only [List.all_cons,h2]
  rfl
section
variable {W0 : World} {Post : Value → World → Prop} {h H : List AObj} {K : Value → List AObj → Prop} {F : RG} {n0 : Nat}
theorem wtn_8 (hK : ∀ H',K (.bool true) H') {text : List UInt8} {fv : Value} {p : Nat} (ds : F.ds = []) (r1 : F.r 1 = strV text) (r11 : F.r 11 = ptr p 0) (hok : (readWE text).2 = 0) (cp : H[p]? = some (.cells (troCells (readWT text) fv) true 0)) (ht : TroAt H (.agg ⟨troCells (readWT text) fv⟩) (readWT text) fv) :
  W prog (J1 prog W0 Post) 74 n0 4 (subC yp10 (codeOf f4)) F H (contX pl4 prog (J1 prog W0 Post) 74 n0 4 ct4 yp10 (codeOf f4) [] (RetQ prog [.tmp 4] n0 K)) := by
 have hJ := J1.closed prog W0 Post
 obtain ⟨_,hf,_,hw⟩ := readWE_ok hok
 rw [s4_8]
 simp only [ds,r1,r11]
 refine load_part (c := troCells (readWT text) fv) cp (by simp [troCells]) rfl (troC_kn ht).1 (good9t hJ ht fun H' _ => ?_)
 have hz := fine_troE hf
 have htx : txtT (readWT text) = text := by
  unfold txtT
  rw [if_neg (by omega),hw]
 rw [htx,hz]
 exact ext0 (ext1 (eqlI (cndI (fun _ => eqS (cndI (fun _ => good6 fun H' => retL_same (by simp [unk]) (hK H')) fun h1 => absurd rfl h1)) fun h1 => absurd rfl h1)))
set_option maxHeartbeats 1000000 in
theorem walk4 {nv : Value} {ns : List Int} {text : List UInt8} (sn : Sli h nv 1 ns.length (ns.map vint)) (hln : ns.length < 4611686018427387904) (hK : ∀ H',K (.bool true) H') :
  W prog (J1 prog W0 Post) 74 h.length 4 (codeOf f4) (RG.mk (regs [nv,strV text]) []) h (RetQ prog [.tmp 4] h.length K) := by
 have hJ := J1.closed prog W0 Post
 rw [e4]
 refine lenStr (gtrI (cndI (fun _ => good6 fun H' => retL_same (by simp [unk]) (hK H')) fun _ => hold.2 ?_))
 rw [s4_1]
 refine newX hJ sn hln fun H1 a1 => good7 hJ a1 (by omega) (F := 3) (B := 40) (by decide) (by decide) fun t fv o H2 ht S2 a2 O2 => ?_
 have f := ht.fine (by decide)
 have hz := fine_troE f
 have htx : txtT t = troT t := if_neg (by omega)
 obtain ⟨kT,oT⟩ := troC_kn O2.at
 refine qAl fun H3 p5 e3 S3 c3 l3 => qStA (c := troCells t fv) c3 rfl rfl oT fun H4 S4 c4 l4 => hold.2 ?_
 have S24 : SameX [] H2 H4 := S3.thru S4 (by simp; omega)
 have t4 : TroAt H4 (.agg ⟨troCells t fv⟩) t fv := (O2.same S24 (by simp)).at
 rw [s4_2]
 refine load_part (b := p5) (c := troCells t fv) c4 (by simp [troCells]) rfl kT (good9t hJ t4 fun H5 S5 => ext0 (ext1 (hold.2 ?_)))
 rw [htx,hz]
 rw [s4_3]
 refine good12 (s := troT t) hJ fun H6 fv2 S6 t6 => ?_
 obtain ⟨hE,hT⟩ := readWE_text f
 rw [hE]
 rw [hT] at t6 ⊢
 obtain ⟨kT2,oT2⟩ := troC_kn t6
 refine ext30 (ext31 (ext32 (qAl fun H7 p8 e7 S7 c7 l7 => qStA (c := troCells t fv2) c7 rfl rfl oT2 fun H8 S8 c8 l8 => hold.2 ?_)))
 have S48 : SameX [] H4 H8 := ((S5.trans S6).trans S7).thru S8 (by have := S5.1; have := S6.1; simp; omega)
 have S68 : SameX [] H6 H8 := S7.thru S8 (by simp; omega)
 have d5 := S48.get c4 (by simp)
 have ta := troAt_same t4 S48 (by simp)
 have tb := troAt_same t6 S68 (by simp)
 suffices w4 : ∀ {F : RG},F.ds = [] → F.r 1 = strV text → F.r 5 = ptr p5 0 → F.r 7 = vint 0 → F.r 8 = ptr p8 0 → F.r 9 = vint 0 → F.r 10 = vint 0 → W prog (J1 prog W0 Post) 74 h.length 4 (subC [1,1,1,1,1] (codeOf f4)) F H8 (contX pl4 prog (J1 prog W0 Post) 74 h.length 4 ct4 [1,1,1,1,1] (codeOf f4) [] (RetQ prog [.tmp 4] h.length K)) from w4 rfl rfl rfl rfl rfl rfl rfl
 intro F ds r1 r5 r7 r8 r9 r10
 rw [s4_4]
 simp only [r5,r7,r8,r9,r10]
 refine neqI (cndI (fun h1 => absurd rfl h1) fun _ => neqI (cndI (fun h1 => absurd rfl h1) fun _ => neqI (cndI (fun h1 => absurd rfl h1) fun _ => ?_)))
 refine load_part (c := troCells t fv) d5 (by simp [troCells]) rfl kT (load_part (c := troCells t fv2) c8 (by simp [troCells]) rfl kT2 ?_)
 refine good14 hJ ta tb (by have := f.len; omega) fun H9 S9 => notI (hold.2 ?_)
 rw [s4_5]
 refine cnd_false.2 (hold.2 ?_)
 suffices w6 : ∀ {F : RG},F.ds = [] → F.r 1 = strV text → W prog (J1 prog W0 Post) 74 h.length 4 (subC [1,1,1,1,1,1] (codeOf f4)) F H9 (contX pl4 prog (J1 prog W0 Post) 74 h.length 4 ct4 [1,1,1,1,1,1] (codeOf f4) [] (RetQ prog [.tmp 4] h.length K)) from w6 ds r1
 intro F ds r1
 rw [s4_6]
 simp only [r1]
 refine good12 (s := text) hJ fun H10 fv3 S10 t10 => ?_
 obtain ⟨kT3,oT3⟩ := troC_kn t10
 refine ext30 (ext31 (ext32 (qAl fun H11 p11 e11 S11 c11 l11 => qStA (c := troCells (readWT text) fv3) c11 rfl rfl oT3 fun H12 S12 c12 l12 => hold.2 ?_)))
 have tc := troAt_same t10 (S11.thru S12 (by simp; omega) : SameX [] H10 H12) (by simp)
 suffices w7 : ∀ {F : RG},F.ds = [] → F.r 1 = strV text → F.r 11 = ptr p11 0 → F.r 13 = vint (readWE text).2 → W prog (J1 prog W0 Post) 74 h.length 4 (subC yp9 (codeOf f4)) F H12 (contX pl4 prog (J1 prog W0 Post) 74 h.length 4 ct4 yp9 (codeOf f4) [] (RetQ prog [.tmp 4] h.length K)) from w7 ds r1 rfl rfl
 intro F ds r1 r11 r13
 rw [s4_7]
 simp only [ds,r13]
 refine neqI (cndI (fun _ => good6 fun H' => retL_same (by simp [unk]) (hK H')) fun he => hold.2 ?_)
 exact wtn_8 hK ds r1 r11 (Decidable.not_not.1 he) c12 tc
end
end Go.Proofs.YtcmgjbflljmphaaGreatDoor
namespace Go.Proofs.YtcmgjbflljmphaaGreatDoor
open Go.Conc Go.RowKit
def idEnv : Env := ⟨fun b => b,fun _ => 0⟩
def startFt (w : World) : Foot := ⟨fun b => b < w.heap.size,fun _ => False,0⟩
def startFC (w : World) : Frm := ⟨fun b => w.heap[b]?,fun _ => False⟩
def Fine (n : Nat) (v : Value) : Prop := VOk n v ∧ one v = true ∧ ren idEnv v = v
open Classical in
noncomputable def clean (n : Nat) (v : Value) : Value := if Fine n v then v else unk
noncomputable def absO (n : Nat) : Obj → AObj
 | .cells c _ _ => .cells (c.toList.map (clean n)) false 0
 | _ => .dead
noncomputable def absH (w : World) : List AObj := w.heap.toList.map (absO w.heap.size)
section
variable {w w' : World} {n : Nat}
theorem clean_fine {v : Value} (h : Fine n v) : clean n v = v := by simp [clean,h]
theorem absH_len : (absH w).length = w.heap.size := by simp [absH]
theorem absH_get {b : Nat} : (absH w)[b]? = (w.heap[b]?).map (absO w.heap.size) := by simp [absH]
theorem absO_wrt (x : Obj) : (absO n x).wrt = false := by cases x <;> rfl
theorem start_rel (w : World) : HRel idEnv (absH w) (startFC w) w (startFt w) where
 obj := fun b o hb => by
  rw [absH_get] at hb
  obtain ⟨x,hx,rfl⟩ := Option.map_eq_some_iff.1 hb
  show ORel (absH w).length idEnv b (absO w.heap.size x) w.heap[b]?
  rw [absH_len,hx]
  cases x with
  | cells c ty fr =>
   refine ⟨fun i v hv => ?_,fun _ => by simp,fun hz => absurd rfl hz,fun e => by cases e⟩
   rw [List.getElem?_map] at hv
   obtain ⟨u,hu,rfl⟩ := Option.map_eq_some_iff.1 hv
   by_cases hf : Fine w.heap.size u
   ·rw [clean_fine hf]
    exact .inr ⟨hf.1,hf.2.1,by rw [hf.2.2]; simpa using hu⟩
   ·exact .inl ⟨by simp [clean,hf],rfl⟩
  | _ => trivial
 inj := fun b b' o o' _ _ _ _ _ e => e
 rd := fun b o hb _ => by
  have : b < (absH w).length := (List.getElem?_eq_some_iff.1 hb).1
  rw [absH_len] at this
  exact this
 wr := fun b o hb hw => by
  rw [absH_get] at hb
  obtain ⟨x,hx,rfl⟩ := Option.map_eq_some_iff.1 hb
  rw [absO_wrt] at hw
  cases hw
 lt := fun b hb => hb
 sub := fun b hb => hb.elim
 kept := fun b o hb => by
  refine ⟨hb,?_,fun a oa ha hw => ?_⟩
  ·exact (Array.getElem?_eq_some_iff.1 hb).1
  ·rw [absH_get] at ha
   obtain ⟨x,hx,rfl⟩ := Option.map_eq_some_iff.1 ha
   rw [absO_wrt] at hw
   cases hw
 keptW := fun b hb => hb.elim
 tag := fun b x hb => by
  rw [absH_get] at hb
  obtain ⟨y,_,e⟩ := Option.map_eq_some_iff.1 hb
  cases y <;> cases e
theorem absH_cell {b o : Nat} {v : Value} (hc : w.cell? ⟨b,o,none⟩ = some v) (hf : Fine w.heap.size v) : ∃ c,(absH w)[b]? = some (.cells c false 0) ∧ c[o]? = some v := by
 unfold World.cell? at hc
 simp only at hc
 split at hc
 ·rename_i c ty fr hx
  refine ⟨c.toList.map (clean w.heap.size),by rw [absH_get,hx]; rfl,?_⟩
  have hc' : c[o]? = some v := by simpa using hc
  rw [List.getElem?_map,Array.getElem?_toList,hc']
  simp [clean_fine hf]
 ·cases hc
theorem below_of {ρ' : Env} {h' : List AObj} {ft' : Foot} (H : HRel ρ' h' (startFC w) w' ft') (B : Base w w') : Below w.heap.size w w' :=
 ⟨B.os,B.tape,B.output,B.size,fun k hk => by
  have : (startFC w).ob k = some w.heap[k] := by simp [startFC,hk]
  rw [(H.kept k _ this).1,Array.getElem?_eq_getElem hk]⟩
end
end Go.Proofs.YtcmgjbflljmphaaGreatDoor
namespace Go.Proofs.YtcmgjbflljmphaaGreatDoor
open Go.Conc Go.ChangeShapes Go.WideShapes Go.ChangeAt Go.RowKit Go.Proofs.Tryz
set_option maxRecDepth 100000
theorem own : ownKnob prog.godebug = none := by kernel_rfl
theorem laidOut : laidOutB prog = true := by kernel_rfl
def ArgOk (W : World) (v : Value) : Prop := VOk W.heap.size v ∧ ren idEnv v = v
theorem law_run1 {g : FuncId} {fn : Func} {c : Code} (hf : prog.funcs[g]? = some fn) (hb : fn.body = some c) (hin : prog.inits.idxOf? g = none) (W₀ : World) (args : List Value) (ha : args.length ≤ fn.ntmps) (hok : ∀ v ∈ args,ArgOk W₀ v)
  (walk : ∀ Post,W prog (J1 prog W₀ Post) fn.ntmps (absH W₀).length g c ⟨regs args,[]⟩ (absH W₀) (RetQ prog fn.results.toList (absH W₀).length fun v _ => v = .bool true)) :
  Ends prog (fun v w' => v = .bool true ∧ Below W₀.heap.size W₀ w') (solo (G (Frame.enter prog g ⟨args⟩ .normal) []) W₀) #[] := by
 refine run_of_J1 (W0 := W₀) (ft := startFt W₀) (top_of_W mixed hf hb hin ha rfl (fun i => ?_) (start_rel W₀) (walk _) ?_) (fun b hb => hb) (fun b hb => hb.elim) rfl
 ·show VRel (absH W₀).length idEnv (args.getD i unk) (args.getD i undef)
  simp only [List.getD_eq_getElem?_getD]
  cases hi : args[i]? with
  | none => exact .inl rfl
  | some v =>
   obtain ⟨h1,h2⟩ := hok v (List.mem_of_getElem? hi)
   exact .inr ⟨by rw [absH_len]; exact h1,h2.symm⟩
 ·intro v h' ρ' w' ft' cv hv H' _ _ hcv hB
  subst hv
  refine ⟨?_,below_of H' hB⟩
  rcases hcv with e | ⟨_,e⟩
  ·cases e
  ·rw [e]
   rfl
section
variable {H : Type} {enc : TypeId × Value → H}
theorem arg_ints {t e : TypeId} (ht : prog.underlying t = some (.slice e)) (he : prog.underlying e = some (.int .i64)) (hc : prog.cellsOf e = 1) {W : World} {base : Nat} {v : Value} {d : DataW H} {ps : List MemPlace}
  (hval : Value.okWide prog W .any base t v) (hd : DataW.Trod enc prog W 0 (fun _ => true) true t v d ps) :
  ∃ zs : List Int,Sli (absH W) v 1 zs.length (zs.map vint) ∧ ArgOk W v ∧ (zs = [] ∨ ∃ es sp,d = .slice es sp ∧ zs.length ≤ es.length + sp.length) := by
 obtain ⟨a0,len,cap,rfl⟩ := okWide_slice ht hval
 obtain ⟨fuel,hf⟩ := hd
 rcases open_ints ht he hc hf with ⟨hcs,hx⟩ | ⟨a,len',cap',zs,hcs,_,hl,hm,hz,hx,hcell,hwz⟩
 ·simp [Value.cells] at hcs
  obtain ⟨rfl,rfl,rfl⟩ := hcs
  exact ⟨[],sli_nil,⟨by simp [VOk],by simp [ren]⟩,.inl rfl⟩
 ·simp [Value.cells] at hcs
  obtain ⟨rfl,rfl,rfl⟩ := hcs
  simp only [Prod.mk.injEq] at hx
  obtain ⟨rfl,rfl⟩ := hx
  simp only [if_true] at hz
  simp only [Value.okWide,ht,Cell.okWide,Cell.ok,World.has] at hval
  obtain ⟨_,_,_,hspot,row,cells,hshape,_⟩ := hval
  obtain ⟨b,o,spot⟩ := a
  simp only at hspot hshape
  subst hspot
  have hb : b < W.heap.size := by
   unfold World.shape? at hshape
   split at hshape
   ·rename_i h
    exact (Array.getElem?_eq_some_iff.1 h).1
   ·cases hshape
  have hlen : (zs.take len).length = len := by simp; omega
  have hcell' : ∀ i,i < zs.length → W.cell? ⟨b,o + i,none⟩ = some (vint (zs.getD i 0)) := by
   intro i hi
   have := hcell i hi
   unfold Addr.add at this
   by_cases h0 : i = 0
   ·subst h0; simpa using this
   ·simpa [h0] using this
  have hmax : cap < fz := by
   simp only [maxLen] at hm
   unfold fz
   omega
  refine ⟨zs.take len,?_,⟨by simp only [VOk,AddrOk]; exact ⟨hb,trivial⟩,?_⟩,.inr ⟨_,_,rfl,?_⟩⟩
  ·refine ⟨some ⟨b,o,none⟩,cap,by rw [hlen],⟨by simp,kn_ints _⟩,.inr ⟨b,o,rfl,?_⟩⟩
   rw [hlen]
   by_cases h0 : len = 0
   ·exact .inl h0
   ·right
    have fine : ∀ n : Int,Fine W.heap.size (vint n) := fun n => ⟨by simp [VOk],rfl,by simp [ren]⟩
    obtain ⟨c,hc1,hc2⟩ := absH_cell (hcell' 0 (by omega)) (fine _)
    refine ⟨c,false,0,hc1,?_⟩
    apply List.ext_getElem?
    intro i
    rw [Nat.mul_one]
    by_cases hi : i < len
    ·obtain ⟨c',hc1',hc2'⟩ := absH_cell (hcell' i (by omega)) (fine _)
     rw [hc1] at hc1'
     cases hc1'
     rw [List.getElem?_take,if_pos hi,List.getElem?_drop,hc2']
     have hzi : i < zs.length := by omega
     simp [hi,hzi]
    ·rw [List.getElem?_take,if_neg hi,List.getElem?_eq_none (by simp; omega)]
  ·have hnf : ¬ fz ≤ cap := by omega
   simp [ren,renAddr,renCap,idEnv,hnf]
  ·simp only [lits,List.length_map,List.length_take,List.length_drop]
   omega
end
theorem trodAll_cons {H : Type} {enc : TypeId × Value → H} {P : Program} {w : World} {base : Nat} {spare : Nat → Bool} {held : Bool} {t : TypeId} {ts : List TypeId} {vs : List Value} {ds : List (DataW H)} {ps : List MemPlace}
  (h : DataW.TrodAll enc P w base spare held (t :: ts) vs ds ps) : ∃ v vs' d ds' p q,vs = v :: vs' ∧ ds = d :: ds' ∧ ps = p ++ q ∧ DataW.Trod enc P w base spare held t v d p ∧ DataW.TrodAll enc P w base spare held ts vs' ds' q := by
 match vs,ds,h with
 | v :: vs,d :: ds,⟨p,q,h1,h2,h3⟩ => exact ⟨v,vs,d,ds,p,q,rfl,rfl,h3,h1,h2⟩
theorem trodAll_nil {H : Type} {enc : TypeId × Value → H} {P : Program} {w : World} {base : Nat} {spare : Nat → Bool} {held : Bool} {vs : List Value} {ds : List (DataW H)} {ps : List MemPlace}
  (h : DataW.TrodAll enc P w base spare held [] vs ds ps) : vs = [] ∧ ds = [] ∧ ps = [] := by
 match vs,ds,h with
 | [],[],h => exact ⟨rfl,rfl,h⟩
theorem trodAll_mkc {H : Type} {enc : TypeId × Value → H} {P : Program} {w : World} {base : Nat} {spare : Nat → Bool} {held : Bool} {t : TypeId} {ts : List TypeId} {v : Value} {vs : List Value} {d : DataW H} {ds : List (DataW H)} {p q : List MemPlace}
 (h1 : DataW.Trod enc P w base spare held t v d p) (h2 : DataW.TrodAll enc P w base spare held ts vs ds q) : DataW.TrodAll enc P w base spare held (t :: ts) (v :: vs) (d :: ds) (p ++ q) := ⟨p,q,h1,h2,rfl⟩
instance : Inhabited Dro := ⟨⟨0,0⟩⟩
section
variable {H : Type} {enc : TypeId × Value → H} {W : World} {n base : Nat} {cs : List Value} {r : DataW H × List MemPlace}
theorem argOk_fine {v : Value} (h : ∀ m,Fine m v) : ArgOk W v := ⟨(h _).1,(h 0).2.2⟩
end
end Go.Proofs.YtcmgjbflljmphaaGreatDoor
namespace Go.Proofs.YtcmgjbflljmphaaGreatDoor
open Go Go.Conc Go.ChangeShapes Go.WideShapes Go.ChangeAt Go.RowKit Go.Proofs.Tryz
set_option maxRecDepth 100000
theorem tied_goes {p : Pinned} {s : OpenSpec} {c : OpenClaim} (Lk : Looks) (kinds : List LaidKind) (tests : Bool) (har : Bool × String) (lk : Bool)
  (hc : c.holds p s) (hw : c.wfByText s = true) (htie : c.laidByTextAt Lk p kinds tests)
  (hst : c.start = .entering) (hnb : c.noBlocks = false ∧ c.again = false) (hm : p.checked.prog.mainIs = some (har.1,har.2.toList)) (hn : (!har.1 && har.2.isEmpty && !lk) = false)
  (hl : ∀ f fn,p.checked.prog.funcNamed c.func = some f → p.checked.prog.funcs[f]? = some fn → lk = p.checked.prog.looks [] ∧ ∀ (j : Nat) t,fn.params[j]? = some t → p.checked.prog.wantsStandIn t = false)
  (hg : true = c.goesBy p.checked.prog) :
  Claim7.holds p (.plain s) { stood := { row := c,standIns := [],harness := har,looks := lk },kinds := [],alts := [],goes := true,laidByText := true,laidKinds := kinds,laidTests := tests,laidLooks := Lk } := by
 have h6 : Claim7.isSixth { stood := { row := c,standIns := [],harness := har,looks := lk },kinds := [] } = false := by simpa [Claim7.isSixth] using hn
 exact ⟨Claim7.tied_new_at Lk kinds tests (Claim7.new_of_sixth hc har lk hst hnb hm h6 hl) hw,(fun D hD => by cases hD),htie,(fun h => by cases h),hg⟩
abbrev laidL : List (String × DataW Unit) := [("math/bits.deBruijn32tab", Rows.laid_math_bits_deBruijn32tab), ("math/bits.deBruijn64tab", Rows.laid_math_bits_deBruijn64tab), ("internal/strconv.uint64pow10", Rows.laid_internal_strconv_uint64pow10), ("unicode/utf8.acceptRanges", Rows.laid_unicode_utf8_acceptRanges), ("unicode/utf8.first", Rows.laid_unicode_utf8_first)]
theorem laid_split : laidL.filter (fun x => x.2.handleName?.isSome) = [] ∧ laidL.filter (fun x => x.2.handleName?.isNone) = laidL := ⟨by kernel_rfl,by kernel_rfl⟩
def cellsN : Nat → DataW Unit → List Value
 | 0,_ => []
 | n + 1,.agg ds => ds.flatMap (cellsN n)
 | _,.lit (.int k n) => [.int k n]
 | _,_ => []
def laySet (d : DataW Unit) : Obj → Obj
 | .cells _ t frozen => .cells ⟨cellsN 4 d⟩ t frozen
 | o => o
noncomputable def laidWorld (os : Os) (args : Array Value) : World :=
 let w0 := World.holding prog os ⟨#[],args,[]⟩
 { w0 with heap := ((((w0.heap.modify 0 (laySet Rows.laid_internal_strconv_uint64pow10)).modify 2 (laySet Rows.laid_math_bits_deBruijn32tab)).modify 3 (laySet Rows.laid_math_bits_deBruijn64tab)).modify 4 (laySet Rows.laid_unicode_utf8_first)).modify 5 (laySet Rows.laid_unicode_utf8_acceptRanges) }
section
variable {H : Type} {enc : TypeId × Value → H}
theorem leaving_told {a : Assume} {C : Checked} {os : Os} {f : FuncId} {fn : Func} {s : ChangeSpec} {conds : List PathCond} {apart fresh handsOn again : Bool} {X : World → Array Value → Prop}
  (own : ownKnob C.prog.godebug = none) (started : os.Started) (hfn : C.prog.funcs[f]? = some fn)
  (witness : ∃ (w : World) (tape : Tape) (i : Input),w.os = os ∧ (w.forCall tape i).Shaped C.prog ∧ i.vars = [] ∧ Input.okWide C.prog (w.forCall tape i) .any w.heap.size f i ∧
   ((s.pre enc C.prog fn conds apart (w.forCall tape i).memory i.args ∧ X (w.forCall tape i).memory i.args) ∧ sizedMet enc C.prog fn (OpenSpec.ofChange s) apart (w.forCall tape i).memory i.args) ∧ a.holds C.prog (lone (Frame.enter C.prog f i.args .normal) [] (w.forCall tape i)))
  (runs : ∀ (W : World) (base : Nat) (args : Array Value) (ds gs : List (DataW H)) (before : List MemPlace),W.ShapedOpen C.prog →
   (∀ (j : Nat) t v,fn.params[j]? = some t → args[j]? = some v → Value.okWide C.prog W .any base t v) →
   DataW.Whole enc C.prog fn.params.toList s.vars apart W args.toList ds gs before →
   conds.all (PathCond.test C.prog ⟨fn.params.toList,ds,s.plain.varTypes C.prog,gs⟩) = true →
   (DataW.weightsEach C.prog (fn.params.toList ++ s.plain.varTypes C.prog) (ds ++ gs)).all (· ≤ reachBytes) = true → X W.memory args →
   Ends C.prog (fun v W' => s.post enc C.prog fn apart fresh handsOn again W args v W') (solo (G (Frame.enter C.prog f args .normal) []) W) #[]) :
  ReturnsInLeavingWide a C os f .any (fun w args => (s.pre enc C.prog fn conds apart w args ∧ X w args) ∧ sizedMet enc C.prog fn (OpenSpec.ofChange s) apart w args) (s.post enc C.prog fn apart fresh handsOn again) := by
 refine returnsInLeavingWide_of_good own started witness ?_
 intro w tape i _ hsh _ hok hpre hholds
 obtain ⟨_,_,_,fn',hfn',_,_,_,_,hval⟩ := hok
 have e : fn' = fn := Option.some.inj (hfn'.symm.trans hfn)
 subst e
 obtain ⟨⟨⟨ds,gs,before,hw,hc⟩,hx⟩,hz⟩ := hpre
 have hw' := DataW.Whole.of_heap (w' := w.forCall tape i) (by rfl) hw
 obtain ⟨M,last,o,w',t',h1,h2,h3,h4⟩ := runs (w.forCall tape i) w.heap.size i.args ds gs before hsh hval hw' hc (hz.weights hw) hx
 exact ⟨M,last,o,w',t',h1,h2,h3,h4.mono fun v hp => ChangeSpec.post_blind hp⟩
end
section
variable {H : Type} {enc : TypeId × Value → H} {W : World} {base : Nat}
theorem argT_str {t : TypeId} (u : prog.underlying t = some .string) {v : Value} {d : DataW H} {ps : List MemPlace} (hval : Value.okWide prog W .any base t v) (hd : DataW.Trod enc prog W 0 (fun _ => true) true t v d ps) : ∃ w : List UInt8,v = strV w ∧ ArgOk W v ∧ w.length ≤ maxLen := by
 obtain ⟨⟨⟨w⟩⟩,rfl,_,_,hl⟩ := Go.ChangeMaps.open_string u hval hd
 exact ⟨w,rfl,argOk_fine fun m => ⟨by simp [VOk],rfl,by simp [ren]⟩,hl⟩
end
theorem lifted4 (os : Os) (started : os.Started) (H : Type) (enc : TypeId × Value → H) :
  ReturnsInLeavingWide {} checked os 4 .any (fun w args => (Rows.wellWrittenSpec.pre enc prog f4 Rows.wellWrittenRow.domain false w args ∧ laidMetH prog laidL w) ∧ sizedMet enc prog f4 (OpenSpec.ofChange Rows.wellWrittenSpec) false w args) (Rows.wellWrittenSpec.post enc prog f4 false true false false) := by
 refine leaving_told (C := checked) (X := fun w _ => laidMetH prog laidL w) own started at4
  (ChangeSpec.witness_at (enc := enc) (C := checked) (os := os) (X := fun w _ => laidMetH prog laidL w) false (laidWorld os #[.slice none 0 0,.string ⟨#[]⟩]) #[.slice none 0 0,.string ⟨#[]⟩] 8 rfl (by kernel_rfl) (by kernel_rfl) (by kernel_rfl) (by kernel_rfl) (by kernel_rfl)
   (laidMetH_of_parts (by rw [laid_split.2]; exact laidMet_of_run3 8 (by kernel_rfl) (by kernel_rfl) (by kernel_rfl)) (by rw [laid_split.1]; kernel_rfl))) ?_
 intro W base args ds gs before _ hval0 hW _ hsz0 _
 have hsz : (DataW.weightsEach prog (f4.params.toList ++ Rows.wellWrittenSpec.plain.varTypes prog) (ds ++ gs)).all (· ≤ reachBytes) = true := hsz0
 clear hsz0
 have hval : ∀ (j : Nat) t v,f4.params[j]? = some t → args[j]? = some v → Value.okWide prog W .any base t v := hval0
 have hW' := hW
 obtain ⟨p,q,hA0,hV,rfl,_,_⟩ := hW
 have hA : DataW.TrodAll enc prog W 0 (fun _ => true) true f4.params.toList args.toList ds p := hA0
 have hps : f4.params = #[27,9] := by kernel_rfl
 have uti : prog.underlying 27 = some (.slice 3) := by kernel_rfl
 have ui : prog.underlying 3 = some (.int .i64) := by kernel_rfl
 have uts : prog.underlying 9 = some .string := by kernel_rfl
 have cti : prog.cellsOf 3 = 1 := by kernel_rfl
 have bti : prog.bytesOf 3 = 8 := by kernel_rfl
 rw [hps] at hA hval hsz
 obtain ⟨args⟩ := args
 obtain ⟨v0,vs0,d0,ds0,p0,q0,hvv,hdd,hpp,h0,hA⟩ := trodAll_cons hA
 obtain ⟨v1,vs1,d1,ds1,p1,q1,hvv1,hdd1,hpp1,h1,hA⟩ := trodAll_cons hA
 obtain ⟨hvn,hdn,hpn⟩ := trodAll_nil hA
 subst hvn hdn hpn hvv1 hdd1 hpp1 hdd hpp
 have hvv : args = [v0,v1] := hvv
 subst hvv
 obtain ⟨rfl,rfl⟩ := trodVars_none hV
 have u4 : prog.underlying 4 = some .bool := by kernel_rfl
 have hlt : ∀ x ∈ p0 ++ (p1 ++ []),x.block < W.heap.size := fun x hx => by simpa using hW'.lt x (by simpa using hx)
 have hargs : ∀ (W' : World),Below W.heap.size W W' → DataW.TrodAll enc prog W' 0 (fun b => decide (b < W.heap.size)) true [27,9] [v0,v1] [d0,d1] (p0 ++ (p1 ++ [])) := fun W' hn =>
  trodAll_mkc (Below.trod laidOut (by kernel_rfl) (of_decide_eq_true (by kernel_rfl)) h0 hn fun x hx => hlt x (by simp [hx])) (trodAll_mkc (Below.trod laidOut (by kernel_rfl) (of_decide_eq_true (by kernel_rfl)) h1 hn fun x hx => hlt x (by simp [hx])) rfl)
 obtain ⟨ns,sn,ok0,hbig⟩ := arg_ints uti ui cti (hval 0 27 v0 rfl rfl) h0
 obtain ⟨text,rfl,ok1,htl⟩ := argT_str uts (hval 1 9 v1 rfl rfl) h1
 have hln : ns.length < 4611686018427387904 := by
  rcases hbig with rfl | ⟨es,sp,rfl,hle⟩
  ·simp
  ·have := sized_slice hsz (j := 0) (t := 27) (e := 3) rfl rfl uti
   rw [bti] at this
   simp only [reachBytes] at this
   omega
 obtain ⟨M,last,o,w',t',r1,r2,r3,r4⟩ := law_run1 (g := 4) (fn := f4) at4 body4 (by kernel_rfl) W [v0,strV text] (Nat.le_of_ble_eq_true (by kernel_rfl : Nat.ble 2 f4.ntmps = true))
  (by
   intro v hv
   simp only [List.mem_cons,List.not_mem_nil,or_false] at hv
   rcases hv with rfl | rfl
   ·exact ok0
   ·exact ok1)
  (fun Post => walk4 (K := fun v _ => v = .bool true) sn hln fun _ => rfl)
 refine ⟨M,last,o,w',t',r1,r2,r3,r4.mono fun v hF => ?_⟩
 obtain ⟨rfl,hbelow⟩ := hF
 refine ⟨_,_,_,[],_,[],hW',?_,hargs _ hbelow,by rfl,hbelow.frame _,fun h => by cases h⟩
 exact trodAll_mk1 (shut_bool u4 true)
theorem wellWritten_row : Rows.WellWrittenSaid :=
 OpenClaim.holds_of_wide_leaving 4 f4 rfl rfl rfl rfl rfl rfl rfl ⟨rfl,rfl,rfl,rfl,rfl⟩ rfl rfl rfl rfl rfl (by kernel_rfl) at4 (by kernel_rfl)
  (of_decide_eq_true (by kernel_rfl)) (by unfold Func.isWrapper; first | (rw [if_pos (by decide +kernel)]; kernel_rfl) | (rw [if_neg (by decide +kernel)]; exact ⟨rfl,rfl⟩))
  (fun os started H enc _ => lifted4 os started H enc)
theorem wellWritten_holds : Rows.WellWrittenCardSaid :=
 tied_goes .later [.data, .data, .data, .data, .pinned] true (true, "d6519cc0e2a5fdeede642742a27fb2e43d3c4a0b28d97ac2a792e1e301911d29") true
  wellWritten_row (by kernel_rfl) wellWritten_row_tie rfl ⟨rfl,rfl⟩ (by kernel_rfl) rfl
  (fun f fn hf hfn => by
   have e : Tryz.prog.funcNamed "mesta/mestalaw11.WellWritten" = some 4 := by kernel_rfl
   obtain rfl : f = 4 := (Option.some.inj (e.symm.trans hf)).symm
   obtain rfl : fn = f4 := (Option.some.inj (at4.symm.trans hfn)).symm
   exact ⟨by kernel_rfl,fun j t ht => by
    have e0 : Tryz.f4.params = #[27,9] := by kernel_rfl
    rw [e0] at ht
    rcases j with _ | _ | j
    ·cases ht
     exact (by kernel_rfl : Tryz.prog.wantsStandIn 27 = false)
    ·cases ht
     exact (by kernel_rfl : Tryz.prog.wantsStandIn 9 = false)
    ·simp at ht⟩)
  (by kernel_rfl)
#print axioms wellWritten_holds
end Go.Proofs.YtcmgjbflljmphaaGreatDoor
