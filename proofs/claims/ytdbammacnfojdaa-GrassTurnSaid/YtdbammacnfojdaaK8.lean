/- GrassTurn answers true at every input, and its arguments read behind the call as they read before. No conditions. -/
import Derived.Test.YtdbammacnfojdaaK7
import Derived.Test.YtdbammacnfojdaaK6
import Derived.Test.YtdbammacnfojdaaK2
import Derived.Test.YtdbammacnfojdaaK3
import Derived.Deep.Slices
namespace Go.Proofs.Ytdbammacnfojdaa
open Go.Conc Go.Proofs.Try
set_option maxRecDepth 100000
def B2s (hb : Nat) (H : List AObj) (v : Value) (c : List Value) : Prop := ∃ p,v = .slice (some ⟨p,0,none⟩) 2 2 ∧ p ≠ hb ∧ H[p]? = some (.cells c true 0)
theorem B2s.same {hb : Nat} {H H' : List AObj} {v : Value} {c : List Value} (a : B2s hb H v c) (S : SameX [hb] H H') : B2s hb H' v c := by
 obtain ⟨p,h1,h2,h3⟩ := a
 exact ⟨p,h1,h2,S.get h3 (by simpa using h2)⟩
theorem w2v {z a b : Value} : wrAt (wrAt (zrep [z] 2) 0 [a]) 1 [b] = [a,b] := by kernel_rfl
theorem w2s {p q : SkyR} : wrAt (wrAt (zrep [vint 0,vint 0,vint 0] 2) 0 p.cells) 3 q.cells = [p,q].flatMap SkyR.cells := by kernel_rfl
inductive VT | val (x : Value) | pair (a b : Value) | sky | sbox (s : SkyR) | num | nbox (n : Int)
def VT.ok (hb : Nat) : VT → Value → List AObj → Prop
 | .val x,v,_ => v = x
 | .pair a b,v,H => B2s hb H v [a,b]
 | .sky,v,_ => ∃ t : SkyR,skyOk t ∧ t.days ≤ 4 ∧ v = .agg ⟨t.cells⟩
 | .sbox s,v,H => ∃ t : SkyR,skyOk t ∧ t.days ≤ 4 ∧ B2s hb H v ([t,s].flatMap SkyR.cells)
 | .num,v,_ => ∃ y : Int,0 ≤ y ∧ y ≤ 15 ∧ v = vint y
 | .nbox n,v,H => ∃ y : Int,0 ≤ y ∧ y ≤ 15 ∧ B2s hb H v [vint y,vint n]
theorem VT.same {hb : Nat} {k : VT} {v : Value} {H H' : List AObj} (a : VT.ok hb k v H) (S : SameX [hb] H H') : VT.ok hb k v H' := by
 cases k with
 | val x => exact a
 | pair x y => exact B2s.same a S
 | sky => exact a
 | sbox s => exact let ⟨t,h1,h2,b⟩ := a; ⟨t,h1,h2,b.same S⟩
 | num => exact a
 | nbox n => exact let ⟨y,h1,h2,b⟩ := a; ⟨y,h1,h2,b.same S⟩
def ka3 (mv lv : Value) (s : SkyR) (heads : Int) (hb : Nat) : Nat → VT
 | 0 => .val mv
 | 1 => .val lv
 | 2 => .pair mv lv
 | 3 => .val (ptr hb 0)
 | 4 => .sky
 | 5 => .val (.agg ⟨s.cells⟩)
 | 6 => .sbox s
 | 7 => .val (ptr hb 0)
 | 8 => .num
 | 9 => .val (vint heads)
 | 10 => .nbox heads
 | 11 => .pair mv lv
 | 12 => .sbox s
 | 13 => .nbox heads
 | _ => .num
section
variable {main : Bool} {J : JT} {h H : List AObj} {K : Value → List AObj → Prop} {n0 : Nat}
structure M3 (Hb H : List AObj) (ns : List Int) (f : RG) (mv lv : Value) (s : SkyR) (heads : Int) (p5 : Nat) : Prop where
 ds : f.ds = []
 hx : HX Hb H ns 40
 vl : lv.cells = #[lv] ∧ one lv = true ∧ kn1 lv = true
 vm : mv.cells = #[mv] ∧ one mv = true ∧ kn1 mv = true
 r0 : f.r 0 = lv
 r2 : f.r 2 = vint heads
 r5 : f.r 5 = ptr p5 0
 r9 : f.r 9 = ptr Hb.length 0
 r10 : f.r 10 = mv
 n5 : p5 ≠ Hb.length
 c5 : H[p5]? = some (.cells s.cells true 0)
set_option maxHeartbeats 4000000 in
theorem region3 (hJ : Closed prog main J) {Hb H : List AObj} {ns : List Int} {f : RG} {mv lv : Value} {s : SkyR} {heads : Int} {p5 : Nat} {Q : QT} (M : M3 Hb H ns f mv lv s heads p5)
  (hS : ∀ f' H',f'.ds = [] → (∀ {tt},noDst ops3_1 tt = true → f'.r tt = f.r tt) → SameX [Hb.length] H H' → VT.ok Hb.length (.pair mv lv) (f'.r 12) H' → VT.ok Hb.length (.sbox s) (f'.r 13) H' → VT.ok Hb.length (.nbox heads) (f'.r 14) H' → Q .normal f' H') :
  Sem J 136 n0 3 (subC [1,1,1,1,1,0] (codeOf f3)) f H Q := by
 rw [r3_1]
 have z := z3_1
 refine Sem_vals hJ mixed (by kernel_rfl) (by kernel_rfl) (fun j v H' => VT.ok Hb.length ((ka3 mv lv s heads Hb.length) j) v H') (fun d H' => HX Hb H' ns (40 + (bif d 4 then 3 else 0) + (bif d 8 then 1 else 0)) ∧ SameX [Hb.length] H H') (SameX [Hb.length]) (fun j v h h' S a => VT.same a S) ⟨M.hx,SameX.refl⟩ ?_ ?_
 ·intro d i o f1 h1 ho hd2 hB hout hdep
  obtain ⟨hx,S⟩ := hB
  have hlt := hxLt hx
  have out : ∀ {tt},noDst ops3_1 tt = true → f1.r tt = f.r tt := fun hn => hout _ (noDst_spec hn)
  have hi : i < 14 := by
   have := (Array.getElem?_eq_some_iff.1 ho).1
   omega
  have dep : ∀ {j pj tt},needs ops3_1 i j = true → (ops3_1[j]? = some pj ∧ pj.dst = some tt) → VT.ok Hb.length ((ka3 mv lv s heads Hb.length) j) (f1.r tt) h1 := fun hn e => needs_spec (A := fun j tt => VT.ok Hb.length ((ka3 mv lv s heads Hb.length) j) (f1.r tt) h1) hn ho e.1 e.2 hdep
  have same : ∀ {v},(4 == i) = false → (8 == i) = false → VT.ok Hb.length ((ka3 mv lv s heads Hb.length) i) v h1 → VT.ok Hb.length ((ka3 mv lv s heads Hb.length) i) v h1 ∧ (HX Hb h1 ns (40 + (bif (4 == i || d 4) then 3 else 0) + (bif (8 == i || d 8) then 1 else 0)) ∧ SameX [Hb.length] H h1) ∧ SameX [Hb.length] h1 h1 := fun {v} e4 e8 qq => by
   rw [e4,e8,Bool.false_or,Bool.false_or]
   exact ⟨qq,⟨hx,S⟩,SameX.refl⟩
  have made : ∀ {c} {h2 : List AObj} {qa : Nat},(4 == i) = false → (8 == i) = false → (B2s Hb.length h2 (.slice (some ⟨qa,0,none⟩) 2 2) c → VT.ok Hb.length ((ka3 mv lv s heads Hb.length) i) (.slice (some ⟨qa,0,none⟩) 2 2) h2) → qa = h1.length → SameX [] h1 h2 → h2[qa]? = some (.cells c true 0) → VT.ok Hb.length ((ka3 mv lv s heads Hb.length) i) (.slice (some ⟨qa,0,none⟩) 2 2) h2 ∧ (HX Hb h2 ns (40 + (bif (4 == i || d 4) then 3 else 0) + (bif (8 == i || d 8) then 1 else 0)) ∧ SameX [Hb.length] H h2) ∧ SameX [Hb.length] h1 h2 := fun {c h2 qa} e4 e8 hk eq S2 c2 => by
   rw [e4,e8,Bool.false_or,Bool.false_or]
   exact ⟨hk ⟨qa,rfl,by omega,c2⟩,⟨hx.same S2 (by simp),S.trans S2.weak0⟩,S2.weak0⟩
  have vl := M.vl
  have vm := M.vm
  match i,hi with
  | 0,_ =>
   refine op_step o3_1_0 ho ?_
   rw [out (tt := 10) (by kernel_rfl),M.r10]
   exact same rfl rfl rfl
  | 1,_ =>
   refine op_step o3_1_1 ho ?_
   rw [out (tt := 0) (by kernel_rfl),M.r0]
   exact same rfl rfl rfl
  | 2,_ =>
   refine op_step o3_1_2 ho ?_
   have u0 : f1.r 39 = mv := (dep (j := 0) (tt := 39) (by kernel_rfl) ⟨o3_1_0 (J := J).1,o3_1_0 (J := J).2.1⟩)
   have u1 : f1.r 40 = lv := (dep (j := 1) (tt := 40) (by kernel_rfl) ⟨o3_1_1 (J := J).1,o3_1_1 (J := J).2.1⟩)
   rw [u0,u1]
   refine ⟨by decide,fillO (l := [mv]) (congrArg Array.toList vm.1) rfl (by simp [vm.2.1]) (Nat.le_of_ble_eq_true (by kernel_rfl)) (fillO (l := [lv]) (congrArg Array.toList vl.1) rfl (by simp [vl.2.1]) (Nat.le_of_ble_eq_true (by kernel_rfl)) (fillI (qNew fun h2 qa eq S2 c2 l2 => ?_)))⟩
   rw [w2v] at c2
   exact made rfl rfl (fun b => b) eq S2 c2
  | 3,_ =>
   refine op_step o3_1_3 ho ?_
   rw [out (tt := 9) (by kernel_rfl),M.r9]
   exact same rfl rfl rfl
  | 4,_ =>
   refine op_step o3_1_4 ho ?_
   have u3 : f1.r 42 = ptr Hb.length 0 := (dep (j := 3) (tt := 42) (by kernel_rfl) ⟨o3_1_3 (J := J).1,o3_1_3 (J := J).2.1⟩)
   rw [u3]
   exact good9 hJ hx (by cases d 4 <;> cases d 8 <;> decide) (D := 4) (by decide) fun t h2 ht ht4 S2 hx2 => ⟨⟨t,ht,ht4,rfl⟩,⟨hx2.mono (by show _ ≤ 40 + (bif (4 == 4 || d 4) then 3 else 0) + (bif ((8 : Nat) == 4 || d 8) then 1 else 0); rw [hd2]; cases d 8 <;> decide),S.trans S2⟩,S2⟩
  | 5,_ =>
   refine op_step o3_1_5 ho ?_
   rw [out (tt := 5) (by kernel_rfl),M.r5]
   exact load_part (c := s.cells) (S.get M.c5 (by simpa using M.n5)) (by simp [SkyR.cells]) rfl rfl (same rfl rfl rfl)
  | 6,_ =>
   refine op_step o3_1_6 ho ?_
   obtain ⟨t,ht,ht4,u4⟩ : ∃ t : SkyR,skyOk t ∧ t.days ≤ 4 ∧ f1.r 43 = .agg ⟨t.cells⟩ := (dep (j := 4) (tt := 43) (by kernel_rfl) ⟨o3_1_4 (J := J).1,o3_1_4 (J := J).2.1⟩)
   have u5 : f1.r 44 = .agg ⟨s.cells⟩ := (dep (j := 5) (tt := 44) (by kernel_rfl) ⟨o3_1_5 (J := J).1,o3_1_5 (J := J).2.1⟩)
   rw [u4,u5]
   refine ⟨by decide,fillO (l := t.cells) rfl rfl rfl (Nat.le_of_ble_eq_true (by kernel_rfl)) (fillO (l := s.cells) rfl rfl rfl (Nat.le_of_ble_eq_true (by kernel_rfl)) (fillI (qNew fun h2 qa eq S2 c2 l2 => ?_)))⟩
   rw [w2s] at c2
   exact made rfl rfl (fun b => ⟨t,ht,ht4,b⟩) eq S2 c2
  | 7,_ =>
   refine op_step o3_1_7 ho ?_
   rw [out (tt := 9) (by kernel_rfl),M.r9]
   exact same rfl rfl rfl
  | 8,_ =>
   refine op_step o3_1_8 ho ?_
   have u7 : f1.r 46 = ptr Hb.length 0 := (dep (j := 7) (tt := 46) (by kernel_rfl) ⟨o3_1_7 (J := J).1,o3_1_7 (J := J).2.1⟩)
   rw [u7]
   exact upX hJ hx (by cases d 4 <;> cases d 8 <;> decide) (by omega) fun y h2 y1 y2 S2 l2 hx2 => ⟨⟨y,y1,by omega,rfl⟩,⟨hx2.mono (by show _ ≤ 40 + (bif ((4 : Nat) == 8 || d 4) then 3 else 0) + (bif (8 == 8 || d 8) then 1 else 0); rw [hd2]; cases d 4 <;> decide),S.trans S2⟩,S2⟩
  | 9,_ =>
   refine op_step o3_1_9 ho ?_
   rw [out (tt := 2) (by kernel_rfl),M.r2]
   exact same rfl rfl rfl
  | 10,_ =>
   refine op_step o3_1_10 ho ?_
   obtain ⟨y,y1,y2,u8⟩ : ∃ y : Int,0 ≤ y ∧ y ≤ 15 ∧ f1.r 47 = vint y := (dep (j := 8) (tt := 47) (by kernel_rfl) ⟨o3_1_8 (J := J).1,o3_1_8 (J := J).2.1⟩)
   have u9 : f1.r 48 = vint heads := (dep (j := 9) (tt := 48) (by kernel_rfl) ⟨o3_1_9 (J := J).1,o3_1_9 (J := J).2.1⟩)
   rw [u8,u9]
   refine ⟨by decide,fillO (l := [vint y]) rfl rfl rfl (Nat.le_of_ble_eq_true (by kernel_rfl)) (fillO (l := [vint heads]) rfl rfl rfl (Nat.le_of_ble_eq_true (by kernel_rfl)) (fillI (qNew fun h2 qa eq S2 c2 l2 => ?_)))⟩
   rw [w2v] at c2
   exact made rfl rfl (fun b => ⟨y,y1,y2,b⟩) eq S2 c2
  | 11,_ =>
   refine op_step o3_1_11 ho ?_
   exact same rfl rfl (dep (j := 2) (tt := 41) (by kernel_rfl) ⟨o3_1_2 (J := J).1,o3_1_2 (J := J).2.1⟩)
  | 12,_ =>
   refine op_step o3_1_12 ho ?_
   exact same rfl rfl (dep (j := 6) (tt := 45) (by kernel_rfl) ⟨o3_1_6 (J := J).1,o3_1_6 (J := J).2.1⟩)
  | 13,_ =>
   refine op_step o3_1_13 ho ?_
   exact same rfl rfl (dep (j := 10) (tt := 49) (by kernel_rfl) ⟨o3_1_10 (J := J).1,o3_1_10 (J := J).2.1⟩)
 ·intro d f1 h1 hB ds hout hin
  obtain ⟨hx,S⟩ := hB
  have at_ : ∀ {j pj tt},(ops3_1[j]? = some pj ∧ pj.dst = some tt) → VT.ok Hb.length ((ka3 mv lv s heads Hb.length) j) (f1.r tt) h1 := fun e => hin _ _ _ e.1 e.2
  have out : ∀ {tt},noDst ops3_1 tt = true → f1.r tt = f.r tt := fun hn => hout _ (noDst_spec hn)
  exact hS f1 h1 (ds.trans M.ds) out S (at_ (j := 11) (tt := 12) ⟨o3_1_11 (J := J).1,o3_1_11 (J := J).2.1⟩) (at_ (j := 12) (tt := 13) ⟨o3_1_12 (J := J).1,o3_1_12 (J := J).2.1⟩) (at_ (j := 13) (tt := 14) ⟨o3_1_13 (J := J).1,o3_1_13 (J := J).2.1⟩)
theorem front3 {W0 : World} {Post : Value → World → Prop} {ls : List Pas} {lv nv : Value} {s : SkyR} {heads : Int} {ns : List Int} {Sx : RG → List AObj → Prop} (sl : SliE h lv 6 Pas.cells ls) (sn : Sli h nv 1 ns.length (ns.map vint)) (hln : ns.length < 4611686018427387904) (hK : ∀ H',K (.bool true) H')
  (hS : ∀ Hb H f ms mv p5,ls.length ≤ 20 → SameX [] h H → LsOk ms → SliE H mv 6 Pas.cells ms → SameX [] Hb H → h.length ≤ Hb.length → (∀ H',SameX [Hb.length] H H' → SliE H' mv 6 Pas.cells ms) → M3 Hb H ns f mv lv s heads p5 → Sx f H) :
  W prog (J2 prog W0 Post) 136 h.length 3 (trunc 5 (codeOf f3)) (RG.mk (regs [lv,.agg ⟨s.cells⟩,vint heads,nv]) []) h (thenK Sx (RetQ prog [.tmp 8] h.length K)) := by
 have hJ := J2.closed prog W0 Post
 rw [e3]
 refine qBox (l := s.cells) rfl fun H1 p5 e1 S1 c1 l1 => ?_
 rw [sliE_len sl]
 refine gtrI (cndI (fun _ => good5 fun H' _ => retL_same (by simp [unk]) (hK H')) fun h20 => ?_)
 have sn1 := S1.sli sn (by simp)
 refine newX hJ sn1 hln fun H2 a2 => amX hJ a2 (by omega) (by omega) (by omega) fun n H3 n0 n1 S3 l3 a3 => ?_
 obtain ⟨m,rfl⟩ : ∃ m : Nat,n = (m : Int) := ⟨n.toNat,by omega⟩
 have hm : 1 ≤ m ∧ m ≤ 3 := by omega
 have hp5 : p5 < H1.length := lt_of_get c1
 refine l3_1 hJ (fun i : Nat => i) (fun i F H' => ∃ (ms : List Pas) (v : Value) (o : Option Nat),HX H1 H' ns (40 - 12 * i) ∧ i + ms.length = m ∧ (∀ p ∈ ms,pasOk p) ∧ OwnX H' 6 (ms.flatMap Pas.cells) ms.length v o ∧ (∀ j,o = some j → H1.length < j) ∧ F.ds = [] ∧ F.r 0 = lv ∧ F.r 2 = vint heads ∧ F.r 5 = ptr p5 0 ∧ F.r 9 = ptr H1.length 0 ∧ F.r 10 = v ∧ F.r 11 = vint (i : Nat)) ?_ (s := m)
  (.inl ⟨[],.slice none 0 0,none,a3.mono (by omega),by simp,(by simp),⟨rfl,rfl,.inl ⟨rfl,rfl,rfl⟩⟩,(by simp),rfl,rfl,rfl,rfl,rfl,rfl,rfl⟩)
 rintro i F H' ⟨ms,v,o,hx,hi,hok,O,ho,ds,r0,r2,r5,r9,r10,r11⟩ okc hnc
 have lx := hxLt hx
 rw [s3_1,r9,r10,r11]
 refine gtrI (cndI (fun hlt => ?_) fun hge => ?_)
 ·refine good8 hJ hx (by omega) fun p H3 fp _ S3 hx3 => ⟨⟨by decide,by decide,rfl⟩,fillO (l := p.cells) rfl rfl rfl (by decide) (fillI (qNew fun H4 p4 e4 S4 c4 l4 => ?_))⟩
  have c4 : H4[p4]? = some (.cells p.cells true 0) := c4
  have O4 := ownX_keep (ownX_keep O S3 (fun j hj => by have := ho j hj; simp; omega)) S4 (by simp)
  refine ⟨⟨rfl,by decide,by decide,by decide⟩,ownX_more O4 (by decide) (by omega) (ownX_sli (ownX_new (s := 6) (n := 1) (l := p.cells) c4 rfl rfl)) fun v5 H5 p6 e5 O5 S5 => subI (by omega) ?_⟩
  have hx4 := hx3.same S4 (by simp)
  have l4x := hxLt hx4
  refine ⟨i - 1,by dsimp only; omega,.inl ⟨ms ++ [p],v5,some p6,(hx4.same S5 (fun x hxo => ?_)).mono (by omega),by rw [List.length_append,List.length_singleton]; omega,fun q hq => ?_,?_,fun j hj => ?_,ds,r0,r2,r5,r9,rfl,?_⟩⟩
  ·have := ho x (Option.mem_toList.1 hxo)
   omega
  ·rcases List.mem_append.1 hq with hq | hq
   ·exact hok q hq
   ·rw [List.mem_singleton.1 hq]
    exact fp
  ·have e1 : (ms ++ [p]).flatMap Pas.cells = ms.flatMap Pas.cells ++ p.cells := by simp [List.flatMap_append]
   rw [e1,List.length_append]
   exact O5
  ·cases hj
   omega
  ·show vint _ = vint _
   congr 1
   omega
 ·have hi0 : i = 0 := by omega
  subst hi0
  have hpre := hx.pre
  refine hS H1 H' _ ms v p5 (by omega) (S1.trans hpre) ⟨⟨by omega,by omega⟩,hok⟩ (ownX_sli O) hpre S1.1 (fun H'' S'' => ownX_sli (ownX_keep O S'' fun j hj => by have := ho j hj; simp; omega)) ⟨ds,hx.mono (by omega),sliK sl,?_,r0,r2,r5,r9,r10,by omega,hpre.get c1 (by simp)⟩
  obtain ⟨q1,q2,q3⟩ := ownX_val O
  exact ⟨q1,q2,q3⟩
end
def ansL (ls : List Pas) (s : SkyR) (heads : Int) : List Int := if turnE ls s heads ≠ 0 then [] else ((wordsR ls.length s.days.toNat).find? (turnsB ls s heads)).getD []
def ansE (ls : List Pas) (s : SkyR) (heads : Int) : Int := if turnE ls s heads ≠ 0 then turnE ls s heads else if ((wordsR ls.length s.days.toNat).find? (turnsB ls s heads)).isSome = true then 0 else 11
theorem ansL_len {ls : List Pas} {s : SkyR} {heads : Int} : (ansL ls s heads).length ≤ 8 := by
 unfold ansL
 split
 ·simp
 ·rename_i he
  have he : turnE ls s heads = 0 := by simpa using he
  cases h : (wordsR ls.length s.days.toNat).find? (turnsB ls s heads) with
  | none => simp
  | some l =>
   have := (words_of (List.mem_of_find?_eq_some h)).1
   have := (turnE_ok he).2.1.1
   simp only [Option.getD_some]
   omega
theorem sliNil {H : List AObj} : Sli H (.slice none 0 0) 1 ([] : List Int).length (([] : List Int).map vint) := ⟨none,0,rfl,⟨rfl,rfl⟩,.inl ⟨rfl,rfl⟩⟩
section
variable {main : Bool} {J : JT} {W0 : World} {Post : Value → World → Prop} {h : List AObj} {K : Value → List AObj → Prop}
theorem goodV11 {ls : List Pas} {lv : Value} {s : SkyR} {heads : Int} (hlen : ls.length < 1000000) (hl : SliE h lv 6 Pas.cells ls) (hK : ∀ H' v,KeepC h H' → Sli H' v 1 (ansL ls s heads).length ((ansL ls s heads).map vint) → K (.tuple ⟨[v,vint (ansE ls s heads)]⟩) H') : Good prog (J2 prog W0 Post) 11 [lv,.agg ⟨s.cells⟩,vint heads] h K := by
 refine goodA11 hlen hl ⟨fun hne H' S => ?_,fun h0 => ?_⟩
 ·have := hK H' (.slice none 0 0) (keepC_same S)
  unfold ansL ansE at this
  rw [if_pos hne,if_pos hne] at this
  exact this sliNil
 ·have key : ∀ {H' v},SameX [] (unch h) H' → Sli H' v 1 (((wordsR ls.length s.days.toNat).find? (turnsB ls s heads)).getD []).length ((((wordsR ls.length s.days.toNat).find? (turnsB ls s heads)).getD []).map vint) → K (.tuple ⟨[v,vint (if ((wordsR ls.length s.days.toNat).find? (turnsB ls s heads)).isSome = true then 0 else 11)]⟩) H' := fun {H' v} S hs => by
   have := hK H' v (keepC_unch S)
   unfold ansL ansE at this
   rw [if_neg (by omega),if_neg (by omega)] at this
   exact this hs
  cases hX : (wordsR ls.length s.days.toNat).find? (turnsB ls s heads) with
  | none =>
   intro H' S
   have := key (v := .slice none 0 0) S
   rw [hX] at this
   exact this sliNil
  | some l =>
   intro H' b S _ hb
   have := key (v := .slice (some ⟨b,0,none⟩) l.length fz) S
   rw [hX] at this
   exact this (sliF hb)
theorem goodV12 (hJ : Closed prog main J) {ls : List Pas} {lv : Value} {s : SkyR} {heads : Int} (hlen : ls.length < 1000000) (hl : SliE h lv 6 Pas.cells ls) (hfew : turnE ls s heads = 0 → ls.length ^ s.days.toNat ≤ 243) (hK : ∀ H' v,SameX [] h H' → Sli H' v 1 (ansL ls s heads).length ((ansL ls s heads).map vint) → K (.tuple ⟨[v,vint (ansE ls s heads)]⟩) H') : Good prog J 12 [lv,.agg ⟨s.cells⟩,vint heads] h K := by
 refine good12 hJ hlen hl hfew ⟨fun hne H' S => ?_,fun h0 => ?_⟩
 ·have := hK H' (.slice none 0 0) S
  unfold ansL ansE at this
  rw [if_pos hne,if_pos hne] at this
  exact this sliNil
 ·have key : ∀ {H' v},SameX [] h H' → Sli H' v 1 (((wordsR ls.length s.days.toNat).find? (turnsB ls s heads)).getD []).length ((((wordsR ls.length s.days.toNat).find? (turnsB ls s heads)).getD []).map vint) → K (.tuple ⟨[v,vint (if ((wordsR ls.length s.days.toNat).find? (turnsB ls s heads)).isSome = true then 0 else 11)]⟩) H' := fun {H' v} S hs => by
   have := hK H' v S
   unfold ansL ansE at this
   rw [if_neg (by omega),if_neg (by omega)] at this
   exact this hs
  cases hX : (wordsR ls.length s.days.toNat).find? (turnsB ls s heads) with
  | none =>
   intro H' S
   have := key (v := .slice none 0 0) S
   rw [hX] at this
   exact this sliNil
  | some l =>
   intro H' v S hs
   have := key (v := v) S
   rw [hX] at this
   exact this hs
end
theorem neqP {p : Pas} {KV : Value → Prop} (hk : KV (.bool false)) : aBin prog .neq 31 (.agg ⟨p.cells⟩) (.agg ⟨p.cells⟩) KV := by
 show aEq prog true 31 (.agg ⟨p.cells⟩) (.agg ⟨p.cells⟩) KV
 have : teq prog 10000 31 (.agg ⟨p.cells⟩) (.agg ⟨p.cells⟩) = some true := by
  rw [teqP]
  simp [mB_some]
 unfold aEq
 rw [this]
 exact ⟨by kernel_rfl,hk⟩
theorem few_of {ls : List Pas} {s : SkyR} {heads : Int} (h : ls.length ≤ 1 ∨ ¬ (4 < s.days ∧ s.days ≤ 8)) (he : turnE ls s heads = 0) : ls.length ^ s.days.toNat ≤ 243 := by
 obtain ⟨L,gs,_⟩ := turnE_ok he
 have g := gs.1
 have few := L.few
 rcases h with h | h
 ·have : ls.length = 1 := by omega
  rw [this,Nat.one_pow]
  decide
 ·exact pow_bd few (by omega)
structure Rd (H : List AObj) (q12 q13 q14 i : Nat) (ls : List Pas) (v : Value) (s : SkyR) (n : Int) : Prop where
 w : ∀ {K2 : Value → Value → Prop},(∀ q,K2 q v) → aIdx 1 (.slice (some ⟨q12,0,none⟩) 2 2) (vint (i : Nat)) fun q => aLoad false 1 q H (K2 q)
 s : ∀ {K2 : Value → Value → Prop},(∀ q,K2 q (.agg ⟨s.cells⟩)) → aIdx 3 (.slice (some ⟨q13,0,none⟩) 2 2) (vint (i : Nat)) fun q => aLoad true 3 q H (K2 q)
 n : ∀ {K2 : Value → Value → Prop},(∀ q,K2 q (vint n)) → aIdx 1 (.slice (some ⟨q14,0,none⟩) 2 2) (vint (i : Nat)) fun q => aLoad false 1 q H (K2 q)
 sl : SliE H v 6 Pas.cells ls
theorem rd_of {H : List AObj} {q12 q13 q14 : Nat} {mv lv : Value} {t s : SkyR} {y n : Int} {ms ls : List Pas} (c12 : H[q12]? = some (.cells [mv,lv] true 0)) (c13 : H[q13]? = some (.cells ([t,s].flatMap SkyR.cells) true 0)) (c14 : H[q14]? = some (.cells [vint y,vint n] true 0)) (hm : SliE H mv 6 Pas.cells ms) (hl : SliE H lv 6 Pas.cells ls) : Rd H q12 q13 q14 0 ms mv t y ∧ Rd H q12 q13 q14 1 ls lv s n := by
 have km := (sliK hm).2.2
 have kl := (sliK hl).2.2
 have S : SliE H (.slice (some ⟨q13,0,none⟩) 2 2) 3 SkyR.cells [t,s] := ownX_sli (ownX_new (s := 3) (n := 2) c13 rfl rfl)
 have sk : ∀ {i : Nat} (hi : i < 2) {K2 : Value → Value → Prop},(∀ q,K2 q (.agg ⟨([t,s][i]'hi).cells⟩)) → aIdx 3 (.slice (some ⟨q13,0,none⟩) 2 2) (vint (i : Nat)) fun q => aLoad true 3 q H (K2 q) := fun {i} hi {K2} hk => by
  obtain ⟨b,o,cs,wr,sz,hidx,hb,hos,htk,hkn⟩ := sliE_elem (s := 3) (fun _ => rfl) (by decide) S (i := i) hi
  exact hidx _ (load_part hb hos htk hkn (hk _))
 refine ⟨⟨fun hk => idxI ⟨by omega,by omega⟩ (ldI (v := mv) c12 rfl km (hk _)),fun hk => sk (i := 0) (by omega) hk,fun hk => idxI ⟨by omega,by omega⟩ (ldI (v := vint y) c14 rfl rfl (hk _)),hm⟩,⟨fun hk => idxI ⟨by omega,by omega⟩ (ldI (v := lv) c12 rfl kl (hk _)),fun hk => sk (i := 1) (by omega) hk,fun hk => idxI ⟨by omega,by omega⟩ (ldI (v := vint n) c14 rfl rfl (hk _)),hl⟩⟩
theorem lenS2 {a : Option Addr} {n c : Nat} {KV : Value → Prop} : aLenS (.slice a n c) KV = KV (vint (n : Nat)) := rfl
structure RG3 (f : RG) (lv : Value) (p5 q12 q13 q14 i : Nat) : Prop where
 ds : f.ds = []
 r0 : f.r 0 = lv
 r5 : f.r 5 = ptr p5 0
 r12 : f.r 12 = .slice (some ⟨q12,0,none⟩) 2 2
 r13 : f.r 13 = .slice (some ⟨q13,0,none⟩) 2 2
 r14 : f.r 14 = .slice (some ⟨q14,0,none⟩) 2 2
 r15 : f.r 15 = vint (i : Nat)
section
variable {W0 : World} {Post : Value → World → Prop} {K : Value → List AObj → Prop} {n0 : Nat}
set_option maxHeartbeats 1000000 in
theorem round3 {H : List AObj} {f : RG} {lv v : Value} {ls : List Pas} {s : SkyR} {n : Int} {p5 q12 q13 q14 i : Nat} {nx0 : RG → List AObj → Prop} (R : RG3 f lv p5 q12 q13 q14 i) (hi : i < 2) (r72 : f.r 72 = .bool false) (hRd : ∀ H',KeepC H H' → Rd H' q12 q13 q14 i ls v s n) (h20 : ls.length ≤ 20) (hfew : turnE ls s n = 0 → ls.length ^ s.days.toNat ≤ 243)
  (hnx : ∀ F' H',KeepC H H' → RG3 F' lv p5 q12 q13 q14 (i + 1) → nx0 F' H') :
  W prog (J2 prog W0 Post) 136 n0 3 (subC [1,1,1,1,1,1,0,1,0,0,1,0,0,0,1] (codeOf f3)) f H (contX pl3t prog (J2 prog W0 Post) 136 n0 3 ct3t [1,1,1,1,1,1,0,1,0,0,1,0,0,0,1] (codeOf f3) [nx0] (RetQ prog [.tmp 8] n0 K)) := by
 have hJ := J2.closed prog W0 Post
 obtain ⟨ds,r0,r5,r12,r13,r14,r15⟩ := R
 rw [s3t_3,r72]
 refine cnd_false.2 ?_
 rw [r12,r13,r14,r15]
 refine ⟨⟨by decide,by decide,rfl⟩,fillI (qNew fun H1 p1 e1 S1 c1 l1 => ?_)⟩
 have C1 := keepC_same S1
 have c1 : H1[p1]? = some (.cells [] true 0) := c1
 refine (hRd H1 C1).w fun _ => ⟨⟨rfl,by decide,by decide,by decide⟩,appX c1 (by decide) (by omega) (hRd H1 C1).sl fun v2 H2 p2 O2 S2 _ => ?_⟩
 have C2 := C1.trans (keepC_same S2)
 refine (hRd H2 C2).s fun _ => (hRd H2 C2).n fun _ => goodV11 (by omega) (ownX_sli O2) fun H3 a C3 sa => ext0 (ext1 ?_)
 have C3 := C2.trans C3
 refine (hRd H3 C3).w fun _ => (hRd H3 C3).s fun _ => (hRd H3 C3).n fun _ => goodV12 hJ (by omega) (hRd H3 C3).sl hfew fun H4 b S4 sb => ext0 (ext1 ?_)
 have C4 := C3.trans (keepC_same S4)
 have o4 : SliE H4 v2 6 Pas.cells ls := by
  have h3 : KeepC H2 H3 := by assumption
  exact (h3.trans (keepC_same S4)).sli (ownX_sli O2)
 refine neqI (cndI (fun hx => absurd rfl hx) fun _ => ?_)
 have hal := ansL_len (ls := ls) (s := s) (heads := n)
 refine good13 hJ (xs := ansL ls s n) (ys := ansL ls s n) (S4.sli sa (by simp)) sb (by omega) (notI (hold.2 ?_))
 rw [decide_eq_true (rfl : ansL ls s n = ansL ls s n),s3t_4]
 refine cnd_false.2 ?_
 refine l3t_5 hJ (fun k : Nat => ls.length - k) (fun k F H' => k ≤ ls.length ∧ H' = H4 ∧ RG3 F lv p5 q12 q13 q14 i ∧ F.r 16 = v2 ∧ F.r 21 = vint (k : Nat)) ?_ (s := 0)
  (.inl ⟨by omega,rfl,⟨ds,r0,r5,r12,r13,r14,r15⟩,rfl,rfl⟩)
 clear ds r0 r5 r12 r13 r14 r15
 rintro k F H' ⟨hk,rfl,⟨ds,r0,r5,r12,r13,r14,r15⟩,r16,r21⟩ okc hnc
 rw [s3t_5,r12,r15,r16,r21,ds,sliE_len o4]
 refine lssI (cndI (fun hlt => ?_) fun hge => ?_)
 ·have hkl : k < ls.length := by omega
  obtain ⟨b1,o1,cs1,wr1,sz1,hidx1,hb1,hos1,htk1,hkn1⟩ := sliE_elem (s := 6) (fun _ => rfl) (by decide) o4 hkl
  obtain ⟨b2,o2,cs2,wr2,sz2,hidx2,hb2,hos2,htk2,hkn2⟩ := sliE_elem (s := 6) (fun _ => rfl) (by decide) (hRd H' C4).sl hkl
  refine hidx1 _ (load_part hb1 hos1 htk1 hkn1 ((hRd H' C4).w fun _ => hidx2 _ (load_part hb2 hos2 htk2 hkn2 ?_)))
  exact neqP (cnd_false.2 (addI (by omega) ⟨k + 1,by dsimp only; omega,.inl ⟨by omega,rfl,⟨ds,r0,r5,r12,r13,r14,r15⟩,r16,by show vint _ = vint _; congr 1⟩⟩))
 ·exact addI (by omega) (hnx _ _ C4 ⟨ds,r0,r5,r12,r13,r14,by show vint _ = vint _; congr 1⟩)
theorem skip3 {H : List AObj} {f : RG} {lv : Value} {p5 q12 q13 q14 i : Nat} {nx0 : RG → List AObj → Prop} (R : RG3 f lv p5 q12 q13 q14 i) (hi : i < 2) (r72 : f.r 72 = .bool true) (hnx : ∀ F',RG3 F' lv p5 q12 q13 q14 (i + 1) → nx0 F' H) :
  W prog (J2 prog W0 Post) 136 n0 3 (subC [1,1,1,1,1,1,0,1,0,0,1,0,0,0,1] (codeOf f3)) f H (contX pl3t prog (J2 prog W0 Post) 136 n0 3 ct3t [1,1,1,1,1,1,0,1,0,0,1,0,0,0,1] (codeOf f3) [nx0] (RetQ prog [.tmp 8] n0 K)) := by
 obtain ⟨ds,r0,r5,r12,r13,r14,r15⟩ := R
 rw [s3t_3,r72]
 refine cnd_true.2 ?_
 rw [r15]
 exact addI (by omega) (hnx _ ⟨ds,r0,r5,r12,r13,r14,by show vint _ = vint _; congr 1⟩)
set_option maxHeartbeats 1000000 in
theorem loop3 {H0 : List AObj} {f : RG} {lv mv : Value} {ls ms : List Pas} {s t : SkyR} {heads y : Int} {p5 q12 q13 q14 : Nat} (c12 : H0[q12]? = some (.cells [mv,lv] true 0)) (c13 : H0[q13]? = some (.cells ([t,s].flatMap SkyR.cells) true 0)) (c14 : H0[q14]? = some (.cells [vint y,vint heads] true 0)) (c5 : H0[p5]? = some (.cells s.cells true 0)) (sm : SliE H0 mv 6 Pas.cells ms) (sl : SliE H0 lv 6 Pas.cells ls) (h20 : ls.length ≤ 20) (Lm : LsOk ms) (ht : t.days ≤ 4)
  (ds : f.ds = []) (r0 : f.r 0 = lv) (r5 : f.r 5 = ptr p5 0) (r12 : f.r 12 = .slice (some ⟨q12,0,none⟩) 2 2) (r13 : f.r 13 = .slice (some ⟨q13,0,none⟩) 2 2) (r14 : f.r 14 = .slice (some ⟨q14,0,none⟩) 2 2) (hK : ∀ H',K (.bool true) H') :
  Sem (J2 prog W0 Post) 136 n0 3 (subC [1,1,1,1,1,1] (codeOf f3)) f H0 (RetQ prog [.tmp 8] n0 K) := by
 have hJ := J2.closed prog W0 Post
 have few := Lm.few
 refine W_sound hJ mixed _ ?_
 have e := s3t_1 (J := J2 prog W0 Post) (n0 := n0) (K := K) (f := f) (h := H0)
 refine e.mpr ?_
 have rd : ∀ H',KeepC H0 H' → Rd H' q12 q13 q14 0 ms mv t y ∧ Rd H' q12 q13 q14 1 ls lv s heads := fun H' C => rd_of (C.2 _ _ _ _ c12) (C.2 _ _ _ _ c13) (C.2 _ _ _ _ c14) (C.sli sm) (C.sli sl)
 refine l3t_2 hJ (fun i : Nat => 2 - i) (fun i F H' => KeepC H0 H' ∧ i ≤ 2 ∧ RG3 F lv p5 q12 q13 q14 i) ?_ (s := 0)
  (.inl ⟨KeepC.refl,by omega,⟨ds,r0,r5,r12,r13,r14,rfl⟩⟩)
 clear ds r0 r5 r12 r13 r14
 rintro i F H ⟨C,hi,⟨ds,r0,r5,r12,r13,r14,r15⟩⟩ okc hnc
 rw [s3t_2,r0,r5,r12,r15,ds,lenS2]
 refine lssI (cndI (fun hlt => ?_) fun hge => good5 fun H' _ => retL_same (by simp [unk]) (hK H'))
 have nx : ∀ (F' : RG) (H' : List AObj),KeepC H H' → RG3 F' lv p5 q12 q13 q14 (i + 1) → Nx n0 (fun i : Nat => 2 - i) (fun i F H' => KeepC H0 H' ∧ i ≤ 2 ∧ RG3 F lv p5 q12 q13 q14 i) i F' H' := fun F' H' C' R' => ⟨i + 1,by dsimp only; omega,.inl ⟨C.trans C',by omega,R'⟩⟩
 refine eqlI (cndI (fun h1 => ?_) fun h1 => ?_)
 ·have hi1 : i = 1 := by omega
  subst hi1
  have body : ∀ (F' : RG),F'.r 72 = .bool false → RG3 F' lv p5 q12 q13 q14 1 → (ls.length ≤ 1 ∨ ¬ (4 < s.days ∧ s.days ≤ 8)) → W prog (J2 prog W0 Post) 136 n0 3 (subC [1,1,1,1,1,1,0,1,0,0,1,0,0,0,1] (codeOf f3)) F' H (contX pl3t prog (J2 prog W0 Post) 136 n0 3 ct3t [1,1,1,1,1,1,0,1,0,0,1,0,0,0,1] (codeOf f3) [Nx n0 (fun i : Nat => 2 - i) (fun i F H' => KeepC H0 H' ∧ i ≤ 2 ∧ RG3 F lv p5 q12 q13 q14 i) 1] (RetQ prog [.tmp 8] n0 K)) := fun F' hr R hc =>
   round3 R (by omega) hr (fun H' C' => (rd H' (C.trans C')).2) h20 (fun he => few_of hc he) nx
  have c5' := C.2 _ _ _ _ c5
  rw [sliE_len (C.sli sl)]
  refine gtrI (cndI (fun h2 => ?_) fun h2 => hold.2 (body _ (by rfl) (by exact ⟨ds,r0,r5,r12,r13,r14,r15⟩) (.inl (by omega))))
  refine offI (ldI (v := vint s.days) c5' rfl rfl (gtrI (cndI (fun h3 => ?_) fun h3 => hold.2 (body _ (by rfl) (by exact ⟨ds,r0,r5,r12,r13,r14,r15⟩) (.inr (by omega))))))
  refine offI (ldI (v := vint s.days) c5' rfl rfl (leqI (hold.2 ?_)))
  by_cases h4 : s.days ≤ 8
  ·rw [decide_eq_true h4]
   exact skip3 (i := 1) (by exact ⟨ds,r0,r5,r12,r13,r14,r15⟩) (by omega) (by rfl) fun F' R' => nx F' H KeepC.refl R'
  ·rw [decide_eq_false h4]
   exact body _ (by rfl) (by exact ⟨ds,r0,r5,r12,r13,r14,r15⟩) (.inr (by omega))
 ·have hi0 : i = 0 := by omega
  subst hi0
  refine hold.2 (round3 ⟨ds,r0,r5,r12,r13,r14,r15⟩ (by omega) (by rfl) (fun H' C' => (rd H' (C.trans C')).1) (by omega) (fun _ => pow_bd few (by omega)) nx)
theorem walk3 {h : List AObj} {ls : List Pas} {lv nv : Value} {s : SkyR} {heads : Int} {ns : List Int} (sl : SliE h lv 6 Pas.cells ls) (sn : Sli h nv 1 ns.length (ns.map vint)) (hln : ns.length < 4611686018427387904) (hK : ∀ H',K (.bool true) H') :
  Sem (J2 prog W0 Post) 136 h.length 3 (codeOf f3) (RG.mk (regs [lv,.agg ⟨s.cells⟩,vint heads,nv]) []) h (RetQ prog [.tmp 8] h.length K) := by
 have hJ := J2.closed prog W0 Post
 refine trunc_sound hJ mixed 5 (codeOf f3) (by kernel_rfl) (front3 sl sn hln hK fun Hb H f ms mv p5 h20 SH Lm sm _ hHb hkeep M => ?_)
 have e : subC (List.replicate 5 1) (codeOf f3) = .seq (subC [1,1,1,1,1,0] (codeOf f3)) (subC [1,1,1,1,1,1] (codeOf f3)) := by kernel_rfl
 rw [e]
 refine Sem_seq hJ (region3 hJ M fun f1 H1 ds out S b12 b13 b14 => ?_)
 obtain ⟨q12,e12,_,c12⟩ := b12
 obtain ⟨t,_,ht4,q13,e13,_,c13⟩ := b13
 obtain ⟨y,_,_,q14,e14,_,c14⟩ := b14
 have sl1 : SliE H1 lv 6 Pas.cells ls := (SH.thru S (by simpa using hHb)).sli sl (by simp)
 exact loop3 c12 c13 c14 (S.get M.c5 (by simpa using M.n5)) (hkeep H1 S) sl1 h20 Lm ht4 ds ((out (tt := 0) (by kernel_rfl)).trans M.r0) ((out (tt := 5) (by kernel_rfl)).trans M.r5) e12 e13 e14 hK
end
end Go.Proofs.Ytdbammacnfojdaa
namespace Go.Proofs.Ytdbammacnfojdaa
open Go.Conc Go.ChangeShapes Go.WideShapes Go.ChangeAt Go.RowKit Go.Proofs.Try
set_option maxRecDepth 100000
theorem trodAll_cons {H : Type} {enc : TypeId × Value → H} {P : Program} {w : World} {base : Nat} {spare : Nat → Bool} {held : Bool} {t : TypeId} {ts : List TypeId} {vs : List Value} {ds : List (DataW H)} {ps : List MemPlace}
  (h : DataW.TrodAll enc P w base spare held (t :: ts) vs ds ps) : ∃ v vs' d ds' p q,vs = v :: vs' ∧ ds = d :: ds' ∧ ps = p ++ q ∧ DataW.Trod enc P w base spare held t v d p ∧ DataW.TrodAll enc P w base spare held ts vs' ds' q := by
 match vs,ds,h with
 | v :: vs,d :: ds,⟨p,q,h1,h2,h3⟩ => exact ⟨v,vs,d,ds,p,q,rfl,rfl,h3,h1,h2⟩
theorem trodAll_nil {H : Type} {enc : TypeId × Value → H} {P : Program} {w : World} {base : Nat} {spare : Nat → Bool} {held : Bool} {vs : List Value} {ds : List (DataW H)} {ps : List MemPlace}
  (h : DataW.TrodAll enc P w base spare held [] vs ds ps) : vs = [] ∧ ds = [] ∧ ps = [] := by
 match vs,ds,h with
 | [],[],h => exact ⟨rfl,rfl,h⟩
theorem trodAll_mkc {H : Type} {enc : TypeId × Value → H} {P : Program} {w : World} {base : Nat} {spare : Nat → Bool} {held : Bool} {t : TypeId} {ts : List TypeId} {v : Value} {vs : List Value} {d : DataW H} {ds : List (DataW H)} {p q : List MemPlace}
 (h1 : DataW.Trod enc P w base spare held t v d p) (h2 : DataW.TrodAll enc P w base spare held ts vs ds q) : DataW.TrodAll enc P w base spare held (t :: ts) (v :: vs) (d :: ds) (p ++ q) := ⟨p,q,h1,h2,rfl⟩
section
variable {H : Type} {enc : TypeId × Value → H}
theorem fine_int {m : Nat} {n : Int} : Fine m (vint n) := ⟨by simp [VOk],rfl,by simp [ren]⟩
theorem trod_vint {W : World} {n : Nat} {cs : List Value} {r : DataW H × List MemPlace} {t : TypeId} (u : prog.underlying t = some (.int .i64)) (h : DataW.trod enc prog W 0 (fun _ => true) true n t cs = some r) : ∃ z,cs = [vint z] := by
 obtain ⟨z,h1,_⟩ := DataW.trod_int u h
 exact ⟨z,h1⟩
end
section
variable {H : Type} {enc : TypeId × Value → H} {W : World} {n base : Nat} {cs : List Value} {r : DataW H × List MemPlace}
def structOf : Option TypeDesc → Option (List (TypeId × Nat))
 | some (.struct fs) => some (fs.toList.map fun f => (f.type,f.offset))
 | _ => none
theorem trod_fields {t : TypeId} {l : List (TypeId × Nat)} (hs : structOf (prog.underlying t) = some l) (h : DataW.trod enc prog W 0 (fun _ => true) true n t cs = some r) :
  cs.length = prog.cellsOf t ∧ ∃ n' : Nat,∀ (i : Nat) (ty : TypeId) (off : Nat),l[i]? = some (ty,off) → ∃ r',DataW.trod enc prog W 0 (fun _ => true) true n' ty ((cs.drop off).take (prog.cellsOf ty)) = some r' := by
 unfold structOf at hs
 split at hs
 ·rename_i fs hu
  cases hs
  obtain ⟨xs,n',_,rfl,hl,hxl,hf⟩ := DataW.trod_struct hu h
  refine ⟨hl,n',fun i ty off hi => ?_⟩
  rw [List.getElem?_map,Option.map_eq_some_iff] at hi
  obtain ⟨f,hfi,he⟩ := hi
  cases he
  have hfi' : fs[i]? = some f := by simpa using hfi
  have hil : i < xs.length := by rw [hxl]; exact (Array.getElem?_eq_some_iff.1 hfi').1
  exact ⟨xs[i],by rw [hf i f hfi',List.getElem?_eq_getElem hil]⟩
 ·cases hs
theorem lok_of : ∀ {l : List Value} {m : Nat},(∀ v ∈ l,VOk m v) → LOk m l
 | [],_,_ => by simp [LOk]
 | v :: l,m,h => by
  simp only [LOk]
  exact ⟨h v (by simp),lok_of fun u hu => h u (by simp [hu])⟩
theorem argOk_agg {l : List Value} (h : ∀ v ∈ l,ArgOk W v) : ArgOk W (.agg ⟨l⟩) := by
 refine ⟨?_,?_⟩
 ·simp only [VOk,AOk]
  exact lok_of fun v hv => (h v hv).1
 ·simp only [ren,renA,renL_eq]
  congr 2
  rw [List.map_congr_left (g := id) fun v hv => (h v hv).2,List.map_id]
theorem argOk_fine {v : Value} (h : ∀ m,Fine m v) : ArgOk W v := ⟨(h _).1,(h 0).2.2⟩
theorem agg_of {t : TypeId} {l : List (TypeId × Nat)} {v : Value} (hs : structOf (prog.underlying t) = some l) (hval : Value.okWide prog W .any base t v) : ∃ cs,v = .agg cs ∧ Row.okWide prog W .any base t cs := by
 unfold structOf at hs
 split at hs
 ·rename_i fs hu
  simp only [Value.okWide,hu] at hval
  obtain ⟨cs,h1,_,h3⟩ := hval
  exact ⟨cs,h1,h3⟩
 ·cases hs
end
section
variable {H : Type} {enc : TypeId × Value → H} {W : World} {base : Nat}
theorem arg_recs {t : TypeId} {m : Nat} (hs : structOf (prog.underlying t) = some ((List.range m).map fun i => (3,i))) (hc : prog.cellsOf t = m) {v : Value} {d : DataW H} {ps : List MemPlace}
  (hval : Value.okWide prog W .any base t v) (hd : DataW.Trod enc prog W 0 (fun _ => true) true t v d ps) : ∃ zs : List Int,zs.length = m ∧ v = .agg ⟨zs.map vint⟩ ∧ ArgOk W v := by
 have u3 : prog.underlying 3 = some (.int .i64) := by kernel_rfl
 have c3 : prog.cellsOf 3 = 1 := by kernel_rfl
 obtain ⟨cs,rfl,_⟩ := agg_of hs hval
 obtain ⟨cs⟩ := cs
 obtain ⟨fuel,hf⟩ := hd
 obtain ⟨hl,n',hf⟩ := trod_fields (cs := cs) hs hf
 rw [hc] at hl
 have hz : ∀ i,i < m → ∃ z,cs[i]? = some (vint z) := fun i hi => by
  obtain ⟨r',g⟩ := hf i 3 i (by rw [List.getElem?_map,List.getElem?_range hi]; rfl)
  rw [c3] at g
  obtain ⟨z,hz⟩ := trod_vint u3 g
  refine ⟨z,?_⟩
  have := congrArg (fun l => l[0]?) hz
  simpa [List.getElem?_take,List.getElem?_drop] using this
 have hall : ∀ v ∈ cs,∃ z,v = vint z := fun v hv => by
  obtain ⟨i,hi,rfl⟩ := List.getElem_of_mem hv
  obtain ⟨z,e⟩ := hz i (by omega)
  rw [List.getElem?_eq_getElem hi] at e
  exact ⟨z,Option.some.inj e⟩
 have key : ∀ (l : List Value),(∀ v ∈ l,∃ z,v = vint z) → ∃ zs : List Int,l = zs.map vint := by
  intro l
  induction l with
  | nil => exact fun _ => ⟨[],rfl⟩
  | cons v l ih =>
   intro h
   obtain ⟨z,rfl⟩ := h v (by simp)
   obtain ⟨zs,e⟩ := ih fun u hu => h u (by simp [hu])
   exact ⟨z :: zs,by rw [e]; rfl⟩
 obtain ⟨zs,rfl⟩ := key cs hall
 refine ⟨zs,by simpa using hl,rfl,argOk_agg fun v hv => ?_⟩
 obtain ⟨z,rfl⟩ := hall v hv
 exact argOk_fine fun m => fine_int
theorem arg_skyr {v : Value} {d : DataW H} {ps : List MemPlace} (hval : Value.okWide prog W .any base 24 v) (hd : DataW.Trod enc prog W 0 (fun _ => true) true 24 v d ps) : ∃ w : SkyR,v = .agg ⟨w.cells⟩ ∧ ArgOk W v := by
 obtain ⟨zs,hl,rfl,ok⟩ := arg_recs (m := 3) (by kernel_rfl) (by kernel_rfl) hval hd
 match zs,hl with
 | [a,b,c],_ => exact ⟨⟨a,b,c⟩,rfl,ok⟩
end
theorem law_run2S {g : FuncId} {fn : Func} {c : Code} (hf : prog.funcs[g]? = some fn) (hb : fn.body = some c) (hin : prog.inits.idxOf? g = none) (W₀ : World) (args : List Value) (ha : args.length ≤ fn.ntmps) (hok : ∀ v ∈ args,ArgOk W₀ v)
  (walk : ∀ Post,Sem (J2 prog W₀ Post) fn.ntmps (absH W₀).length g c ⟨regs args,[]⟩ (absH W₀) (RetQ prog fn.results.toList (absH W₀).length fun v _ => v = .bool true)) :
  Ends prog (fun v w' => v = .bool true ∧ Below W₀.heap.size W₀ w') (solo (G (Frame.enter prog g ⟨args⟩ .normal) []) W₀) #[] := by
 refine run_of_J2 (W0 := W₀) (ft := startFt W₀) (top_of_sem2 hf hb hin ha rfl (fun i => ?_) (start_rel W₀) (walk _) ?_) (fun b hb => hb) (fun b hb => hb.elim) rfl
 ·show VRel (absH W₀).length idEnv (args.getD i unk) (args.getD i undef)
  simp only [List.getD_eq_getElem?_getD]
  cases hi : args[i]? with
  | none => exact .inl rfl
  | some v =>
   obtain ⟨h1,h2⟩ := hok v (List.mem_of_getElem? hi)
   exact .inr ⟨by rw [absH_len]; exact h1,h2.symm⟩
 ·intro v h' ρ' w' ft' cv hv H' _ _ hcv hB
  subst hv
  refine ⟨?_,below_of H' hB⟩
  rcases hcv with e | ⟨_,e⟩
  ·cases e
  ·rw [e]
   rfl
theorem flatP_get {α : Type} {enc : α → List Value} {s : Nat} (hen : ∀ x,(enc x).length = s) (xs : List α) {i j : Nat} (hi : i < xs.length) (hj : j < s) : (xs.flatMap enc)[i * s + j]? = (enc xs[i])[j]? := by
 have := flat_take hen xs i hi
 rw [← this,List.getElem?_take,if_pos hj,List.getElem?_drop]
theorem flatP_len {α : Type} {enc : α → List Value} {s : Nat} (hen : ∀ x,(enc x).length = s) : ∀ xs : List α,(xs.flatMap enc).length = xs.length * s
 | [] => by simp
 | x :: xs => by rw [List.flatMap_cons,List.length_append,flatP_len hen xs,hen,List.length_cons,Nat.succ_mul]; omega
theorem flatP_kn {α : Type} {enc : α → List Value} (hk : ∀ x,kn (enc x) = true) : ∀ xs : List α,kn (xs.flatMap enc) = true
 | [] => rfl
 | x :: xs => by
  have h1 := hk x
  have h2 := flatP_kn hk xs
  unfold kn at *
  rw [List.flatMap_cons,List.all_append,h1,h2]
  rfl
section
variable {H : Type} {enc : TypeId × Value → H}
theorem arg_sliE {α : Type} [Inhabited α] {encE : α → List Value} {t e : TypeId} {s : Nat} (ht : prog.underlying t = some (.slice e)) (hc : prog.cellsOf e = s) (hs : 0 < s) {W : World} {base n : Nat} {v : Value} {x : DataW H × List MemPlace}
  (hlen : ∀ x,(encE x).length = s) (hkn : ∀ x,kn (encE x) = true) (hfine : ∀ x,∀ y ∈ encE x,∀ m,Fine m y)
  (dec : ∀ n cs r,DataW.trod enc prog W 0 (fun _ => true) true n e cs = some r → ∃ x,cs = encE x)
  (hval : Cell.okWide prog W .any base t v) (hf : DataW.trod enc prog W 0 (fun _ => true) true n t v.cells.toList = some x) :
  ∃ xs : List α,SliE (absH W) v s encE xs ∧ ArgOk W v := by
 have hval' : Value.okWide prog W .any base t v := by
  unfold Value.okWide
  rw [ht]
  exact hval
 obtain ⟨a0,len0,cap0,rfl⟩ := okWide_slice ht hval'
 clear hval'
 rcases Deep.open_slice ht hf with ⟨hcs,hx⟩ | ⟨a,len,cap,m,n',D,Pl,hcs,_,hl,hm,hmm,hx,hel⟩
 ·simp [Value.cells] at hcs
  obtain ⟨rfl,rfl,rfl⟩ := hcs
  exact ⟨[],⟨none,0,rfl,⟨by simp,rfl⟩,.inl ⟨rfl,rfl⟩⟩,⟨by simp [VOk],by simp [ren]⟩⟩
 ·simp [Value.cells] at hcs
  obtain ⟨rfl,rfl,rfl⟩ := hcs
  simp only [if_true] at hmm
  subst hmm
  simp only [ht,Cell.okWide,Cell.ok,World.has] at hval
  obtain ⟨_,_,_,hspot,row,cells,hshape,_⟩ := hval
  obtain ⟨b,o,spot⟩ := a
  simp only at hspot hshape
  subst hspot
  have hb : b < W.heap.size := by
   unfold World.shape? at hshape
   split at hshape
   ·rename_i h
    exact (Array.getElem?_eq_some_iff.1 h).1
   ·cases hshape
  have hmax : m < fz := by
   simp only [maxLen] at hm
   unfold fz
   omega
  obtain ⟨f,hfx⟩ := Deep.choose_lt (α := α) (p := fun i x => W.cells? 0 ((⟨b,o,none⟩ : Addr).add (i * prog.cellsOf e)) (prog.cellsOf e) = some (encE x)) (fun i (hi : i < m) => by
   obtain ⟨cs',h1,h2⟩ := hel i hi
   obtain ⟨x,rfl⟩ := dec _ _ _ h2
   exact ⟨x,h1⟩)
  rw [hc] at hfx
  have hcell : ∀ i j,i < m → j < s → W.cell? ⟨b,o + (i * s + j),none⟩ = (encE (f i))[j]? := fun i j hi hj => by
   have := (World.cells?_some (hfx i hi)).2.2 j hj
   rw [Deep.add_add] at this
   revert this
   generalize i * s + j = k
   intro this
   unfold Addr.add at this
   by_cases h0 : k = 0
   ·subst h0
    simpa using this
   ·simpa [h0] using this
  have hxl : ((List.range len0).map f).length = len0 := by simp
  refine ⟨(List.range len0).map f,?_,⟨by simp only [VOk,AddrOk]; exact ⟨hb,trivial⟩,?_⟩⟩
  ·refine ⟨some ⟨b,o,none⟩,m,by rw [hxl],⟨flatP_len hlen _,flatP_kn hkn _⟩,.inr ⟨b,o,rfl,?_⟩⟩
   rw [hxl]
   by_cases h0 : len0 = 0
   ·exact .inl h0
   ·right
    have key : ∀ i j,i < len0 → j < s → ∃ c,(absH W)[b]? = some (.cells c false 0) ∧ c[o + (i * s + j)]? = (encE (f i))[j]? := fun i j hi hj => by
     have h1 := hcell i j (by omega) hj
     have h2 : j < (encE (f i)).length := by rw [hlen]; exact hj
     rw [List.getElem?_eq_getElem h2] at h1 ⊢
     exact absH_cell h1 (hfine _ _ (List.getElem_mem h2) _)
    obtain ⟨c,hc1,_⟩ := key 0 0 (by omega) hs
    refine ⟨c,false,0,hc1,?_⟩
    apply List.ext_getElem?
    intro k
    by_cases hk : k < len0 * s
    ·have hq : k / s < len0 := Nat.div_lt_of_lt_mul (by rw [Nat.mul_comm]; exact hk)
     have hr : k % s < s := Nat.mod_lt _ hs
     have hkk : k / s * s + k % s = k := by rw [Nat.mul_comm]; exact Nat.div_add_mod k s
     obtain ⟨c',hc1',hc2'⟩ := key _ _ hq hr
     rw [hc1] at hc1'
     cases hc1'
     rw [List.getElem?_take,if_pos hk,List.getElem?_drop]
     rw [hkk] at hc2'
     rw [hc2']
     have := flatP_get hlen ((List.range len0).map f) (i := k / s) (j := k % s) (by rw [hxl]; exact hq) hr
     rw [hkk] at this
     rw [this]
     simp
    ·rw [List.getElem?_take,if_neg hk,List.getElem?_eq_none (by rw [flatP_len hlen,hxl]; omega)]
  ·have hnf : ¬ fz ≤ m := by omega
   simp [ren,renAddr,renCap,idEnv,hnf]
theorem dec_pas {W : World} {n : Nat} {cs : List Value} {r : DataW H × List MemPlace} (h : DataW.trod enc prog W 0 (fun _ => true) true n 31 cs = some r) : ∃ x : Pas,cs = x.cells := by
 have u3 : prog.underlying 3 = some (.int .i64) := by kernel_rfl
 have c3 : prog.cellsOf 3 = 1 := by kernel_rfl
 have cP : prog.cellsOf 31 = 6 := by kernel_rfl
 obtain ⟨hl,n',hf⟩ := trod_fields (l := [(3,0),(3,1),(3,2),(3,3),(3,4),(3,5)]) (by kernel_rfl) h
 rw [cP] at hl
 obtain ⟨a,b,c,d,e,f,rfl⟩ : ∃ a b c d e f,cs = [a,b,c,d,e,f] := by
  match cs,hl with
  | [a,b,c,d,e,f],_ => exact ⟨a,b,c,d,e,f,rfl⟩
 obtain ⟨_,g0⟩ := hf 0 3 0 rfl
 obtain ⟨_,g1⟩ := hf 1 3 1 rfl
 obtain ⟨_,g2⟩ := hf 2 3 2 rfl
 obtain ⟨_,g3⟩ := hf 3 3 3 rfl
 obtain ⟨_,g4⟩ := hf 4 3 4 rfl
 obtain ⟨_,g5⟩ := hf 5 3 5 rfl
 rw [c3] at g0 g1 g2 g3 g4 g5
 obtain ⟨z0,w0⟩ := trod_vint u3 g0
 obtain ⟨z1,w1⟩ := trod_vint u3 g1
 obtain ⟨z2,w2⟩ := trod_vint u3 g2
 obtain ⟨z3,w3⟩ := trod_vint u3 g3
 obtain ⟨z4,w4⟩ := trod_vint u3 g4
 obtain ⟨z5,w5⟩ := trod_vint u3 g5
 simp at w0 w1 w2 w3 w4 w5
 exact ⟨⟨z0,z1,z2,z3,z4,z5⟩,by rw [w0,w1,w2,w3,w4,w5]; rfl⟩
theorem fine_pas (x : Pas) : ∀ y ∈ x.cells,∀ m,Fine m y := fun y hy m => by
 simp only [Pas.cells,List.mem_cons,List.not_mem_nil,or_false] at hy
 rcases hy with rfl | rfl | rfl | rfl | rfl | rfl <;> exact fine_int
theorem arg_lpas {W : World} {base : Nat} {v : Value} {d : DataW H} {ps : List MemPlace} (hval : Value.okWide prog W .any base 22 v) (hd : DataW.Trod enc prog W 0 (fun _ => true) true 22 v d ps) : ∃ ls : List Pas,SliE (absH W) v 6 Pas.cells ls ∧ ArgOk W v := by
 have uS : prog.underlying 22 = some (.slice 31) := by kernel_rfl
 obtain ⟨fuel,hf⟩ := hd
 have k : Cell.okWide prog W .any base 22 v := by
  unfold Value.okWide at hval
  rw [uS] at hval
  exact hval
 haveI : Inhabited Pas := ⟨⟨0,0,0,0,0,0⟩⟩
 exact arg_sliE (encE := Pas.cells) uS (by kernel_rfl) (by omega) (fun _ => rfl) (fun _ => rfl) fine_pas (fun _ _ _ h => dec_pas h) k hf
end
theorem lifted3 (os : Os) (started : os.Started) (H : Type) (enc : TypeId × Value → H) :
  ReturnsInLeavingWide {} checked os 3 .any (Rows.grassTurnSpec.pre6 enc prog f3 Rows.grassTurnRow.domain false) (Rows.grassTurnSpec.post enc prog f3 false true false false) := by
 refine returnsInLeavingWide_of_change_sized (C := checked) own started at3
  (ChangeSpec.witness6 (enc := enc) (C := checked) false ⟨#[],#[.slice none 0 0,.agg #[.int .i64 0,.int .i64 0,.int .i64 0],.int .i64 0,.slice none 0 0],[]⟩ 8 (by kernel_rfl) (by kernel_rfl) (by kernel_rfl) (by kernel_rfl)) ?_
 intro W base args ds gs before hval0 hW _ hsz0 _
 have hsz : (DataW.weightsEach prog (f3.params.toList ++ Rows.grassTurnSpec.plain.varTypes prog) (ds ++ gs)).all (· ≤ reachBytes) = true := hsz0
 clear hsz0
 have hval : ∀ (j : Nat) t v,f3.params[j]? = some t → args[j]? = some v → Value.okWide prog W .any base t v := hval0
 have hW' := hW
 obtain ⟨p,q,hA0,hV,rfl,_,_⟩ := hW
 have hA : DataW.TrodAll enc prog W 0 (fun _ => true) true f3.params.toList args.toList ds p := hA0
 have hps : f3.params = #[22,24,3,25] := by kernel_rfl
 rw [hps] at hA hval hsz
 obtain ⟨args⟩ := args
 have r0 : DataW.TrodAll enc prog W 0 (fun _ => true) true [22,24,3,25] args ds p := hA
 obtain ⟨v0,vs0,d0,ds0,p0,q0,hv0,hd0,hp0,h0,r1⟩ := trodAll_cons r0
 obtain ⟨v1,vs1,d1,ds1,p1,q1,hv1,hd1,hp1,h1,r2⟩ := trodAll_cons r1
 obtain ⟨v2,vs2,d2,ds2,p2,q2,hv2,hd2,hp2,h2,r3⟩ := trodAll_cons r2
 obtain ⟨v3,vs3,d3,ds3,p3,q3,hv3,hd3,hp3,h3,r4⟩ := trodAll_cons r3
 obtain ⟨hvn,hdn,hpn⟩ := trodAll_nil r4
 subst hvn hdn hpn
 subst hv3 hd3 hp3
 subst hv2 hd2 hp2
 subst hv1 hd1 hp1
 subst hv0 hd0 hp0
 obtain ⟨rfl,rfl⟩ := trodVars_none hV
 have u3 : prog.underlying 3 = some (.int .i64) := by kernel_rfl
 have u27 : prog.underlying 25 = some (.slice 3) := by kernel_rfl
 have u4 : prog.underlying 4 = some .bool := by kernel_rfl
 have c3 : prog.cellsOf 3 = 1 := by kernel_rfl
 have b3 : prog.bytesOf 3 = 8 := by kernel_rfl
 have hlt : ∀ x ∈ p0 ++ (p1 ++ (p2 ++ (p3 ++ []))),x.block < W.heap.size := fun x hx => by simpa using hW'.lt x (by simpa using hx)
 have hargs : ∀ (W' : World),Below W.heap.size W W' → DataW.TrodAll enc prog W' 0 (fun b => decide (b < W.heap.size)) true [22,24,3,25] [v0,v1,v2,v3] [d0,d1,d2,d3] (p0 ++ (p1 ++ (p2 ++ (p3 ++ [])))) := fun W' hn =>
  trodAll_mkc (Below.trod laidOut (by kernel_rfl) (of_decide_eq_true (by kernel_rfl)) h0 hn fun x hx => hlt x (by simp [hx])) (trodAll_mkc (Below.trod laidOut (by kernel_rfl) (of_decide_eq_true (by kernel_rfl)) h1 hn fun x hx => hlt x (by simp [hx])) (trodAll_mkc (Below.trod laidOut (by kernel_rfl) (of_decide_eq_true (by kernel_rfl)) h2 hn fun x hx => hlt x (by simp [hx])) (trodAll_mkc (Below.trod laidOut (by kernel_rfl) (of_decide_eq_true (by kernel_rfl)) h3 hn fun x hx => hlt x (by simp [hx])) (rfl))))
 obtain ⟨ls0,sl0,ok0⟩ := arg_lpas (hval 0 22 v0 rfl rfl) h0
 obtain ⟨w1,rfl,ok1⟩ := arg_skyr (hval 1 24 v1 rfl rfl) h1
 obtain ⟨z2,rfl,_,_,_⟩ := open_int u3 (hval 2 3 v2 rfl rfl) h2
 obtain ⟨ns3,sn3,ok3,hbig3⟩ := arg_ints u27 u3 c3 (hval 3 25 v3 rfl rfl) h3
 have hln3 : ns3.length < 4611686018427387904 := by
  rcases hbig3 with rfl | ⟨es,sp,rfl,hle⟩
  ·simp
  ·have := sized_slice hsz (j := 3) (t := 25) (e := 3) rfl rfl u27
   rw [b3] at this
   simp only [reachBytes] at this
   omega
 obtain ⟨M,last,o,w',t',r1,r2,r3,r4⟩ := law_run2S (g := 3) (fn := f3) at3 body3 (by kernel_rfl) W [v0,.agg ⟨SkyR.cells w1⟩,vint z2,v3] (Nat.le_of_ble_eq_true (by kernel_rfl : Nat.ble 4 f3.ntmps = true))
  (by
   intro v hv
   simp only [List.mem_cons,List.not_mem_nil,or_false] at hv
   rcases hv with rfl | rfl | rfl | rfl
   ·exact ok0
   ·exact ok1
   ·exact argOk_int
   ·exact ok3)
  (fun Post => walk3 (K := fun v _ => v = .bool true) sl0 sn3 hln3 fun _ => rfl)
 refine ⟨M,last,o,w',t',r1,r2,r3,r4.mono fun v hF => ?_⟩
 obtain ⟨rfl,hbelow⟩ := hF
 refine ⟨_,_,_,[],_,[],hW',?_,hargs _ hbelow,by rfl,hbelow.frame _,fun h => by cases h⟩
 exact trodAll_mk1 (shut_bool u4 true)
theorem grassTurn_holds : Rows.GrassTurnSaid :=
 OpenClaim.holds_of_wide_leaving 3 f3 rfl rfl rfl rfl rfl rfl rfl ⟨rfl,rfl,rfl,rfl,rfl⟩ rfl rfl rfl rfl rfl (by kernel_rfl) at3 (by kernel_rfl)
  (of_decide_eq_true (by kernel_rfl)) (by unfold Func.isWrapper; first | (rw [if_pos (by decide +kernel)]; kernel_rfl) | (rw [if_neg (by decide +kernel)]; exact ⟨rfl,rfl⟩))
  (fun os started H enc _ => lifted3 os started H enc)
#print axioms grassTurn_holds
end Go.Proofs.Ytdbammacnfojdaa
