/- TopDivided answers true at every input, and its argument reads behind the call as it read before. No conditions. -/
import Derived.Test.YtfljbanjmplcfaaK5
import Derived.Test.YtfljbanjmplcfaaK4
import Derived.Test.YtfljbanjmplcfaaK2
namespace Go.Proofs.Ytfljbanjmplcfaa
open Go.Conc Go.Proofs.Try
set_option maxRecDepth 100000
section
variable {main : Bool} {J : JT} {h H : List AObj} {K : Value → List AObj → Prop} {KV : Value → Prop} {HL : List AObj → Prop} {n0 : Nat} {ns : List Int} {k : Nat}
theorem ofT (hJ : Closed prog main J) (a : HX h H ns k) (hk : k < 1000000) {x : Int} {others : List Int} {p n c : Nat} (hp : H[p]? = some (.cells (others.map vint) true 0)) (hne : p ≠ h.length) (hn : others.length = n) (hl : n < 1000)
  (hK : ∀ y H',(y = x ∨ y ∈ others) → SameX [h.length] H H' → H'.length = H.length → HX h H' ns (k + 1) → K (vint y) H') : Good prog J 15 [ptr h.length 0,vint x,.slice (some ⟨p,0,none⟩) n c] H K := by
 subst hn
 obtain ⟨nv,k1,s,rest,rfl,b1,b2,b3⟩ := a
 have e0 : HF h nv k1 s rest = HF h nv k1 s rest ++ [] := by simp
 rw [e0] at hp ⊢
 refine good15 hJ (hfa b2 (by omega) b3.list b3.sane) (others := others) (fun h' hd => ?_) (by omega) fun y h1 hy hd => ?_
 ·obtain ⟨k',s',c1,c2,rfl⟩ := hfd hd
  have S := hf_same (h := h) (nv := nv) (k1 := k1) (k2 := k') (s1 := s) (s2 := s') (rest := rest) (g := [])
  rw [List.append_nil] at hp
  exact sli_new (wr := true) (sz := 0) (S.get hp (by simpa using hne)) (by simp) (kn_ints _)
 ·obtain ⟨k',s',c1,c2,rfl⟩ := hfd hd
  have S := hf_same (h := h) (nv := nv) (k1 := k1) (k2 := k') (s1 := s) (s2 := s') (rest := rest) (g := [])
  exact hK y _ hy (by simpa using S) (by simp [hf_len]) ⟨nv,k',s',rest,by simp,by omega,c2,b3⟩
theorem oddX (hJ : Closed prog main J) (a : HX h H ns k) (hk : k < 1000000) {x y : Int} (hy : 0 < y ∧ y < 1000)
  (hK : ∀ b H',SameX [h.length] H H' → H'.length = H.length → HX h H' ns (k + 1) → K (.bool b) H') : Good prog J 17 [ptr h.length 0,vint x,vint y] H K := by
 obtain ⟨nv,k1,s,rest,rfl,b1,b2,b3⟩ := a
 have := good17 (g := []) (a := x) (b := y) (K := K) hJ b3 b2 (by omega : k1 < 1000000) hy fun b k' s' h1 h2 => hK b _ hf_same (by simp [hf_len]) ⟨nv,k',s',rest,by simp,by omega,h2,b3⟩
 simpa using this
theorem remT {a n : Int} {t : TypeId} (ha : 0 ≤ a) (hn : 0 < n) (hk : KV (vint (a % n))) : aBin prog .rem t (vint a) (vint n) KV := by
 have h1 : Int.tmod a n = a % n := Int.tmod_eq_emod_of_nonneg ha
 simp only [aBin,aInt,true_and]
 rw [h1]
 exact ⟨by omega,hk⟩
theorem good16 (hJ : Closed prog main J) {a n : Int} (ha : 0 ≤ a ∧ a ≤ 1000) (hn : 1 ≤ n ∧ n ≤ 1000) (hK : K (vint (a % n)) H) : Good prog J 16 [vint a,vint n] H K := by
 refine g16 hJ fun ok => ?_
 rw [e16]
 have h2 := Int.emod_nonneg a (by omega : n ≠ 0)
 exact lssF (by omega) (cnd_false.2 (remT ha.1 (by omega) (lssF (by omega) (cnd_false.2 (retL_same (by simp [unk]) hK)))))
theorem wrap_ne {a x n : Int} (ha : 0 ≤ a ∧ a ≤ n - 1) (hx : 1 ≤ x ∧ x ≤ n - 1) : 0 ≤ (a + x) % n ∧ (a + x) % n ≤ n - 1 ∧ a ≠ (a + x) % n := by
 have h1 := Int.emod_nonneg (a + x) (by omega : n ≠ 0)
 have h2 := Int.emod_lt_of_pos (a + x) (by omega : 0 < n)
 refine ⟨h1,by omega,fun e => ?_⟩
 by_cases h : a + x < n
 ·rw [Int.emod_eq_of_lt (by omega) h] at e
  omega
 ·have e2 : (a + x) % n = (a + x - n) % n := by
   have : a + x = (a + x - n) + n := by omega
   conv => lhs; rw [this]
   exact Int.add_emod_right _ _
  rw [e2,Int.emod_eq_of_lt (by omega) (by omega)] at e
  omega
structure B1 (h H : List AObj) (ns : List Int) (k pr p1 : Nat) (days stages : Int) (l : List Strp) (sv : Value) (o : Option Nat) : Prop where
 a : HX h H ns k
 r : H[pr]? = some (.cells [vint days,vint stages,sv] true 0)
 j : ∃ c,c.length = 6 ∧ H[p1]? = some (.cells c true 0)
 O : OwnX H 7 (l.flatMap Strp.cells) l.length sv o
 lr : h.length < pr
 l1 : h.length < p1
 ne : pr ≠ p1
 lo : ∀ i,o = some i → h.length < i ∧ i ≠ pr ∧ i ≠ p1
variable {pr p1 : Nat} {days stages : Int} {l : List Strp} {sv : Value} {o : Option Nat}
theorem B1.hand {H' : List AObj} {k' : Nat} (b : B1 h H ns k pr p1 days stages l sv o) (S : SameX [h.length] H H') (a : HX h H' ns k') : B1 h H' ns k' pr p1 days stages l sv o :=
 ⟨a,S.get b.r (by have := b.lr; simp; omega),b.j.imp fun c hc => ⟨hc.1,S.get hc.2 (by have := b.l1; simp; omega)⟩,ownX_keep b.O S fun i hi => by have := (b.lo i hi).1; simp; omega,b.lr,b.l1,b.ne,b.lo⟩
theorem B1.same {H' : List AObj} (b : B1 h H ns k pr p1 days stages l sv o) (S : SameX [] H H') : B1 h H' ns k pr p1 days stages l sv o :=
 ⟨b.a.same S (by simp),S.get b.r (by simp),b.j.imp fun c hc => ⟨hc.1,S.get hc.2 (by simp)⟩,ownX_keep b.O S (by simp),b.lr,b.l1,b.ne,b.lo⟩
theorem B1.st {H' : List AObj} {q : Nat} (b : B1 h H ns k pr p1 days stages l sv o) (S : SameX [q] H H') (hq : h.length < q) (hr : q ≠ pr) (h1 : q ≠ p1) (ho : ∀ i,o = some i → i ≠ q) : B1 h H' ns k pr p1 days stages l sv o :=
 ⟨b.a.same S (by simpa using hq),S.get b.r (by simpa using Ne.symm hr),b.j.imp fun c hc => ⟨hc.1,S.get hc.2 (by simpa using Ne.symm h1)⟩,ownX_keep b.O S fun i hi => by simpa using ho i hi,b.lr,b.l1,b.ne,b.lo⟩
theorem B1.lt (b : B1 h H ns k pr p1 days stages l sv o) : pr < H.length ∧ p1 < H.length ∧ ∀ i,o = some i → i < H.length := ⟨lt_of_get b.r,b.j.elim fun _ hc => lt_of_get hc.2,ownX_lt b.O⟩
theorem tailS {Hs : List AObj} {ps : Nat} {x : Strp} {X : Value → Value → Value → List Value → Value → Value → Value → List AObj → Prop} (b : B1 h H ns k pr p1 days stages l sv o) (T : SameX [h.length] Hs H) (hpr : Hs.length ≤ pr) (hos : ∀ i,o = some i → Hs.length ≤ i) (c : H[ps]? = some (.cells x.cells true 0)) (hl : l.length < 100)
  (hX : ∀ v1 v2 v3 c4 v5 v6 v7 H' p,B1 h H' ns k pr p1 days stages (l ++ [x]) v6 (some p) → SameX [h.length] Hs H' → Hs.length ≤ p → X v1 v2 v3 c4 v5 v6 v7 H') :
  aOff (ptr pr 0) 2 fun v1 => aLoad false 1 v1 H fun v2 => aLoad true 7 (ptr ps 0) H fun v3 =>
  (((1 * 7 : Nat) ≤ 16777216 ∧ (1 : Nat) ≤ 16777216 ∧ List.length [(vint 0),(vint 0),(vint 0),(vint 0),(vint 0),(vint 0),(vint 0)] = 7) ∧ aFill (zrep [(vint 0),(vint 0),(vint 0),(vint 0),(vint 0),(vint 0),(vint 0)] 1) [(0,7,v3)] fun c4 =>
  aNewS 1 c4 H fun v5 h5 =>
  ((List.length [(vint 0),(vint 0),(vint 0),(vint 0),(vint 0),(vint 0),(vint 0)] = 7 ∧ 0 < (7 : Nat) ∧ 0 < (56 : Nat) ∧ (56 : Nat) ≤ 1024) ∧ aApp 7 v2 v5 h5 fun v6 h6 =>
  aOff (ptr pr 0) 2 fun v7 =>
  aStore 1 v7 v6 h6 fun h7 => X v1 v2 v3 c4 v5 v6 v7 h7)) := by
 have ks := ownX_val b.O
 have bl := b.lt
 have hh := b.a.lt
 refine offI (ldI (v := sv) b.r rfl ks.2.2 (load_part (c := x.cells) c (by simp [Strp.cells]) rfl rfl ⟨⟨by decide,by decide,rfl⟩,fillA (l := x.cells) rfl rfl (Nat.le_of_ble_eq_true rfl) (fillI (qNew fun H1 q e1 S1 c1 l1 => ?_))⟩))
 have c1 : H1[q]? = some (.cells x.cells true 0) := c1
 have b1 := b.same S1
 refine ⟨⟨rfl,by decide,by decide,by decide⟩,ownX_more b1.O (by decide) (by omega) (ownX_sli (ownX_new (s := 7) (n := 1) (l := x.cells) c1 rfl rfl)) fun v6 H2 p e2 O2 S2 => offI ?_⟩
 have hr2 := S2.get b1.r (by intro hm; have := (b1.lo pr (Option.mem_toList.1 hm)).2.1; exact this rfl)
 have k6 := ownX_val O2
 refine qSt hr2 (by simp) k6.1 k6.2.1 fun H3 S3 c3 l3 => ?_
 have hp := ownX_lt O2 p rfl
 have s1 := S1.1
 have hTS := T.1
 refine hX _ _ _ _ _ _ _ _ p ⟨?_,c3,?_,?_,b.lr,b.l1,b.ne,?_⟩ ?_ (by omega)
 ·exact (b1.a.same S2 fun i hi => (b1.lo i (Option.mem_toList.1 hi)).1).same S3 (by have := b.lr; simpa using this)
 ·obtain ⟨cj,hc6,hcj⟩ := b1.j
  refine ⟨cj,hc6,S3.get (S2.get hcj ?_) (by have := b.ne; simp; exact Ne.symm this)⟩
  intro hm
  exact (b1.lo p1 (Option.mem_toList.1 hm)).2.2 rfl
 ·rw [List.flatMap_append,List.length_append]
  have := ownX_keep O2 S3 (by intro i hi; cases hi; have := bl.1; simp; omega)
  simpa using this
 ·intro i hi
  cases hi
  have := b.lr
  have := b.l1
  omega
 ·have T2 : SameX [h.length] Hs H2 := (T.trans S1.weak0).thru S2 fun i hi => .inr (hos i (Option.mem_toList.1 hi))
  exact T2.thru S3 (by simpa using .inr hpr)
end
theorem sbT {X : List Nat} {p : Nat} {H H' : List AObj} (S : SameX X H H') (hp : p < H.length) (hX : p ∉ X) : SameB (some [p]) H H' := fun b hb => by
 simp at hb
 subst hb
 exact S.2 _ hp hX
section
variable {main : Bool} {J : JT} {h H Hs : List AObj} {K : Value → List AObj → Prop} {n0 : Nat} {ns : List Int} {k : Nat} {pr p1 : Nat} {days stages : Int} {l : List Strp} {sv : Value} {o : Option Nat}
structure R1 (f : RG) (hl pr p1 : Nat) (i : Nat) : Prop where
 ds : f.ds = []
 r0 : f.r 0 = ptr hl 0
 r2 : f.r 2 = vint 4
 r6 : f.r 6 = ptr p1 0
 r7 : f.r 7 = ptr pr 0
 r8 : f.r 8 = vint (i : Nat)
set_option maxHeartbeats 1000000 in
theorem strip6 (hJ : Closed prog main J) {f : RG} {nx0 : RG → List AObj → Prop} {i : Nat} (R : R1 f h.length pr p1 i) (hi : 0 < i ∧ i ≤ 4) (b : B1 h H ns k pr p1 days stages l sv o) (T : SameX [h.length] Hs H) (hpr : Hs.length ≤ pr) (hp1 : Hs.length ≤ p1) (hos : ∀ j,o = some j → Hs.length ≤ j) (hl : l.length < 100) (hk : k < 500000) (hd : 1 ≤ days ∧ days ≤ 3) (hs : 2 ≤ stages ∧ stages ≤ 4)
  (hnx : ∀ F' H' x sv' p,StrpOk days stages x → B1 h H' ns (k + 7) pr p1 days stages (l ++ [x]) sv' (some p) → SameX [h.length] Hs H' → Hs.length ≤ p → R1 F' h.length pr p1 (i - 1) → nx0 F' H') :
  W prog J 199 n0 6 (subC [1,1,0,1,0,0] (codeOf f6)) f H (thenK nx0 (contX pl6 prog J 199 n0 6 ct6 [1,1,0,1,0] (codeOf f6) [] (RetQ prog [.cell 6 39] n0 K))) := by
 obtain ⟨ds,r0,r2,r6,r7,r8⟩ := R
 rw [s6_1,r0,r7,r8]
 refine gtrT (by omega) (cnd_true.2 (offI (ldI (v := vint stages) b.r rfl rfl (subI (by omega) ?_))))
 refine upX hJ b.a (by omega) (by omega) fun a H1 a1 a2 S1 _ x1 => ?_
 have b1 := b.hand S1 x1
 refine amX hJ b1.a (by omega) (by omega) (by omega) fun lg H2 g1 g2 S2 _ x2 => ?_
 have b2 := b1.hand S2 x2
 refine ⟨⟨by decide,by decide,rfl⟩,fillV rfl rfl (Nat.le_of_ble_eq_true rfl) (fillV rfl rfl (Nat.le_of_ble_eq_true rfl) (fillV rfl rfl (Nat.le_of_ble_eq_true rfl) (fillV rfl rfl (Nat.le_of_ble_eq_true rfl) (fillI (qNew fun H3 p3 e3 S3 c3 _ => ?_)))))⟩
 have c3 : H3[p3]? = some (.cells ([90,90,45,25].map vint) true 0) := c3
 have b3 := b2.same S3
 have q2 := b2.a.lt
 refine ofT hJ b3.a (by omega) c3 (by omega) rfl (by simp) fun wd H4 m4 S4 _ x4 => ?_
 have b4 := b3.hand S4 x4
 have hwd : 1 ≤ wd ∧ wd ≤ 99 := by
  rcases m4 with rfl | m4
  ·omega
  ·simp at m4
   omega
 refine fillV rfl rfl (Nat.le_of_ble_eq_true rfl) (fillV rfl rfl (Nat.le_of_ble_eq_true rfl) (fillV rfl rfl (Nat.le_of_ble_eq_true rfl) (fillV rfl rfl (Nat.le_of_ble_eq_true rfl) (fillI ?_))))
 have T4 : SameX [h.length] Hs H4 := (((T.trans S1).trans S2).trans S3.weak0).trans S4
 refine qAl fun H5 ps e5 S5 c5 _ => qStA (c := (⟨a,0,lg,wd,1,0,0⟩ : Strp).cells) c5 rfl rfl rfl fun H6 S6 c6 _ => ?_
 have q4 := b4.a.lt
 have t4 := b4.lt
 have hT4 := T4.1
 have hps : h.length < ps := by omega
 have nps : ps ≠ pr ∧ ps ≠ p1 ∧ ∀ j,o = some j → j ≠ ps := ⟨by omega,by omega,fun j hj => by have := t4.2.2 j hj; omega⟩
 have b6 := (b4.same S5).st S6 hps nps.1 nps.2.1 nps.2.2
 have T6 : SameX [h.length] Hs H6 := (T4.trans S5.weak0).thru S6 (by simpa using .inr (by omega))
 have lps := lt_of_get c6
 have lpr := b6.lt.1
 have sb : ∀ {X : List Nat} {H' : List AObj},SameX X H6 H' → ps ∉ X → pr ∉ X → SameB (some [ps,pr]) H6 H' := fun S h1 h2 y hy => by
  simp at hy
  rcases hy with rfl | rfl
  ·exact S.2 _ lps h1
  ·exact S.2 _ lpr h2
 refine ⟨[ps,pr],offI (ldI (v := vint a) c6 rfl rfl ⟨by simp [RdOk,ptrBlk],offI (ldI (v := vint stages) b6.r rfl rfl ⟨by simp [RdOk,ptrBlk],subI (by omega) (offI (ldI (v := vint stages) b6.r rfl rfl ⟨by simp [RdOk,ptrBlk],?_⟩))⟩)⟩)⟩
 have nh : ps ∉ [h.length] ∧ pr ∉ [h.length] := by have := b.lr; simp; omega
 refine amX hJ b6.a (by omega) (by omega) (by omega) fun st H7 s1 s2 S7 _ x7 => ⟨sb S7 nh.1 nh.2,addI (by omega) ?_⟩
 have b7 := b6.hand S7 x7
 refine good16 hJ (by omega) (by omega) ⟨sb S7 nh.1 nh.2,?_⟩
 obtain ⟨w1,w2,w3⟩ := wrap_ne (a := a) (x := st) (n := stages) (by omega) (by omega)
 generalize (a + st) % stages = bb at *
 have c7 := S7.get c6 (by simpa using nh.1)
 refine offI (qSt c7 (by simp [Strp.cells]) rfl rfl fun H8 S8 c8 _ => ?_)
 have c8 : H8[ps]? = some (.cells (⟨a,bb,lg,wd,1,0,0⟩ : Strp).cells true 0) := c8
 have b8 := b7.st S8 hps nps.1 nps.2.1 nps.2.2
 have T8 : SameX [h.length] Hs H8 := (T6.trans S7).thru S8 (by simpa using .inr (by omega))
 refine upX hJ b8.a (by omega) (by omega) fun sw H9 v1 v2 S9 _ x9 => ?_
 have b9 := b8.hand S9 x9
 have T9 := T8.trans S9
 have c9 := S9.get c8 (by simpa using nh.1)
 have mk : ∀ {kd x y : Int},kindOk days ⟨a,bb,lg,wd,kd,x,y⟩ → StrpOk days stages ⟨a,bb,lg,wd,kd,x,y⟩ := fun hk => ⟨by dsimp only; omega,by dsimp only; omega,w3,by dsimp only; omega,hwd,hk⟩
 have fin : ∀ {x : Strp} {H' : List AObj} {sv' : Value} {p : Nat} {F' : RG} {k' : Nat},StrpOk days stages x → B1 h H' ns k' pr p1 days stages (l ++ [x]) sv' (some p) → k' ≤ k + 7 → SameX [h.length] Hs H' → Hs.length ≤ p → R1 F' h.length pr p1 (i - 1) → nx0 F' H' := fun ok bb hk' TT hp RR =>
  hnx _ _ _ _ _ ok ⟨bb.a.mono hk',bb.r,bb.j,bb.O,bb.lr,bb.l1,bb.ne,bb.lo⟩ TT hp RR
 have e8 : ((i : Nat) : Int) - 1 = ((i - 1 : Nat) : Int) := by omega
 refine eqlI (cndI (fun h0 => ?_) fun h0 => eqlI (cndI (fun h1 => ?_) fun h1 => eqlI (cndI (fun h2 => ?_) fun h2 => ?_)))
 ·-- a pass
  refine offI (ldI (v := vint days) b9.r rfl rfl (subI (by omega) ?_))
  refine upX hJ b9.a (by omega) (by omega) fun x HA xa xb SA _ xA => ?_
  have bA := b9.hand SA xA
  have cA := SA.get c9 (by simpa using nh.1)
  refine offI (qSt cA (by simp [Strp.cells]) rfl rfl fun HB SB cB _ => ?_)
  have bB := bA.st SB hps nps.1 nps.2.1 nps.2.2
  refine offI (qSt cB (by simp [Strp.cells]) rfl rfl fun HC SC cC _ => ?_)
  have bC := bB.st SC hps nps.1 nps.2.1 nps.2.2
  have cC : HC[ps]? = some (.cells (⟨a,bb,lg,wd,2,x,0⟩ : Strp).cells true 0) := cC
  refine offI (ldI (v := vint x) cC rfl rfl (offI (ldI (v := vint days) bC.r rfl rfl (subI (by omega) ?_))))
  refine amX hJ bC.a (by omega) (by omega) (by omega) fun y HD ya yb SD _ xD => ?_
  have bD := bC.hand SD xD
  have cD := SD.get cC (by simpa using nh.1)
  refine offI (qSt cD (by simp [Strp.cells]) rfl rfl fun HE SE cE _ => ?_)
  have bE := bD.st SE hps nps.1 nps.2.1 nps.2.2
  have cE : HE[ps]? = some (.cells (⟨a,bb,lg,wd,2,x,y⟩ : Strp).cells true 0) := cE
  have TE : SameX [h.length] Hs HE := ((((T9.trans SA).thru SB (by simpa using .inr (by omega))).thru SC (by simpa using .inr (by omega))).trans SD).thru SE (by simpa using .inr (by omega))
  refine tailS bE TE hpr hos cE hl fun u1 u2 u3 u4 u5 u6 u7 HF p bF TF hp => subI (by omega) (fin (mk (.inr (.inl ⟨rfl,by dsimp only; omega,by dsimp only; omega⟩))) bF (by omega) TF hp ⟨ds,r0,r2,r6,r7,?_⟩)
  show vint _ = vint _
  rw [e8]
 ·-- a ford
  refine amX hJ b9.a (by omega) (by omega) (by omega) fun x HA xa xb SA _ xA => ?_
  have bA := b9.hand SA xA
  refine amX hJ bA.a (by omega) (by omega) (by omega) fun y HB ya yb SB _ xB => ?_
  have bB := bA.hand SB xB
  have cB := SB.get (SA.get c9 (by simpa using nh.1)) (by simpa using nh.1)
  refine offI (qSt cB (by simp [Strp.cells]) rfl rfl fun HC SC cC _ => ?_)
  have bC := bB.st SC hps nps.1 nps.2.1 nps.2.2
  refine offI (qSt cC (by simp [Strp.cells]) rfl rfl fun HD SD cD _ => ?_)
  have bD := bC.st SD hps nps.1 nps.2.1 nps.2.2
  refine offI (qSt cD (by simp [Strp.cells]) rfl rfl fun HE SE cE _ => ?_)
  have bE := bD.st SE hps nps.1 nps.2.1 nps.2.2
  have cE : HE[ps]? = some (.cells (⟨a,bb,lg,wd,3,x,y⟩ : Strp).cells true 0) := cE
  have TE : SameX [h.length] Hs HE := ((((T9.trans SA).trans SB).thru SC (by simpa using .inr (by omega))).thru SD (by simpa using .inr (by omega))).thru SE (by simpa using .inr (by omega))
  refine tailS bE TE hpr hos cE hl fun u1 u2 u3 u4 u5 u6 u7 HF p bF TF hp => subI (by omega) (fin (mk (.inr (.inr (.inl ⟨rfl,by dsimp only; omega,by dsimp only; omega⟩)))) bF (by omega) TF hp ⟨ds,r0,r2,r6,r7,?_⟩)
  show vint _ = vint _
  rw [e8]
 ·-- a bridge
  refine amX hJ b9.a (by omega) (by omega) (by omega) fun x HA xa xb SA _ xA => ?_
  have bA := b9.hand SA xA
  have cA := SA.get c9 (by simpa using nh.1)
  refine offI (qSt cA (by simp [Strp.cells]) rfl rfl fun HC SC cC _ => ?_)
  have bC := bA.st SC hps nps.1 nps.2.1 nps.2.2
  refine offI (qSt cC (by simp [Strp.cells]) rfl rfl fun HE SE cE _ => ?_)
  have bE := bC.st SE hps nps.1 nps.2.1 nps.2.2
  have cE : HE[ps]? = some (.cells (⟨a,bb,lg,wd,4,x,0⟩ : Strp).cells true 0) := cE
  have TE : SameX [h.length] Hs HE := ((T9.trans SA).thru SC (by simpa using .inr (by omega))).thru SE (by simpa using .inr (by omega))
  refine tailS bE TE hpr hos cE hl fun u1 u2 u3 u4 u5 u6 u7 HF p bF TF hp => subI (by omega) (fin (mk (.inr (.inr (.inr ⟨rfl,by dsimp only; omega,rfl⟩)))) bF (by omega) TF hp ⟨ds,r0,r2,r6,r7,?_⟩)
  show vint _ = vint _
  rw [e8]
 ·refine tailS b9 T9 hpr hos c9 hl fun u1 u2 u3 u4 u5 u6 u7 HF p bF TF hp => subI (by omega) (fin (mk (.inl ⟨rfl,rfl,rfl⟩)) bF (by omega) TF hp ⟨ds,r0,r2,r6,r7,?_⟩)
  show vint _ = vint _
  rw [e8]
set_option maxHeartbeats 1000000 in
theorem pace6 (hJ : Closed prog main J) {f : RG} {nx0 : RG → List AObj → Prop} (R : R1 f h.length pr p1 0) (b : B1 h H ns k pr p1 days stages l sv o) (T : SameX [h.length] Hs H) (hpr : Hs.length ≤ pr) (hk : k < 500000)
  (hE : ∀ F' H' pt pace,1 ≤ pace ∧ pace ≤ 9 → B1 h H' ns (k + 2) pr p1 days stages l sv o → SameX [h.length] Hs H' → Hs.length ≤ pt → h.length < pt → pt ≠ pr → pt ≠ p1 → (∀ j,o = some j → j ≠ pt) → H'[pt]? = some (.cells [vint days,vint stages,sv,vint pace,.slice none 0 0,.slice none 0 0] true 0) →
   F'.ds = [] → F'.r 0 = ptr h.length 0 → F'.r 2 = vint 4 → F'.r 6 = ptr p1 0 → F'.r 7 = ptr pr 0 → F'.r 10 = ptr pt 0 →
   W prog J 199 n0 6 (subC [1,1,1,1] (codeOf f6)) F' H' (contX pl6 prog J 199 n0 6 ct6 [1,1,1,1] (codeOf f6) [] (RetQ prog [.cell 6 39] n0 K))) :
  W prog J 199 n0 6 (subC [1,1,0,1,0,0] (codeOf f6)) f H (thenK nx0 (contX pl6 prog J 199 n0 6 ct6 [1,1,0,1,0] (codeOf f6) [] (RetQ prog [.cell 6 39] n0 K))) := by
 obtain ⟨ds,r0,r2,r6,r7,r8⟩ := R
 rw [s6_1,r0,r7,r8]
 refine gtrF (by decide) (cnd_false.2 ?_)
 have ks := ownX_val b.O
 have lpr := b.lt.1
 have nh : pr ∉ [h.length] := by have := b.lr; simp; omega
 have hh := b.a.lt
 have hT := T.1
 have lb := b.lt
 have z6 : zrep [vint 0] 3 = [vint 0,vint 0,vint 0] := rfl
 have okp : ∀ {x y : Int},1 ≤ x ∧ (x ≤ 9 ∨ x = 1) → (y = 4 ∨ y ∈ ([6,9,x] : List Int)) → 1 ≤ y ∧ y ≤ 9 := fun hx hy => by
  rcases hy with rfl | hy
  ·omega
  ·simp at hy
   omega
 refine ⟨[pr],load_part (c := [vint days,vint stages,sv]) b.r (by simp) rfl (by simp [kn,ks.2.2]; exact ⟨rfl,rfl⟩) ⟨by simp [RdOk,ptrBlk],⟨?_,?_⟩⟩⟩
 ·refine amX hJ b.a (by omega) (by omega) (by omega) fun x H1 xa xb S1 l1 x1 => ⟨sbT S1 lpr nh,⟨⟨⟨by decide,by decide,rfl⟩,?_⟩,?_⟩⟩
  ·have b1 := b.hand S1 x1
   refine fillV rfl rfl (Nat.le_of_ble_eq_true rfl) (fillV rfl rfl (Nat.le_of_ble_eq_true rfl) (fillV rfl rfl (Nat.le_of_ble_eq_true rfl) (fillI (qNew fun H2 p2 e2 S2 c2 l2 => ?_))))
   have c2 : H2[p2]? = some (.cells ([6,9,x].map vint) true 0) := c2
   have b2 := b1.same S2
   have T2 : SameX [h.length] H H2 := S1.trans S2.weak0
   refine ⟨sbT T2 lpr nh,⟨?_,?_⟩⟩
   ·refine ofT hJ b2.a (by omega) c2 (by omega) rfl (by simp) fun y H3 my S3 l3 x3 => ⟨sbT (T2.trans S3) lpr nh,?_⟩
    refine fillA (l := [vint days,vint stages,sv]) rfl (by simp [ks.2.1]; exact ⟨rfl,rfl⟩) (Nat.le_of_ble_eq_true rfl) (fillV rfl rfl (Nat.le_of_ble_eq_true rfl) (fillI (qAl fun H4 pt e4 S4 c4 l4 => ⟨sbT ((T2.trans S3).trans S4.weak0) lpr nh,?_⟩)))
    have b4 := (b2.hand S3 x3).same S4
    refine qStA (c := [vint days,vint stages,sv,vint y,.slice none 0 0,.slice none 0 0]) c4 rfl rfl (by simp [ks.2.1]; exact ⟨rfl,rfl,rfl,rfl⟩) fun H5 S5 c5 l5 => hold.2 ?_
    have s1 := S1.1
    have s2 := S2.1
    have s3 := S3.1
    have n := (show h.length < pt ∧ pt ≠ pr ∧ pt ≠ p1 ∧ (∀ j,o = some j → j ≠ pt) from ⟨by omega,by omega,by omega,fun j hj => by have := lb.2.2 j hj; omega⟩)
    exact hE _ H5 pt y (okp ⟨xa,xb⟩ my) (b4.st S5 n.1 n.2.1 n.2.2.1 n.2.2.2) ((T.trans ((T2.trans S3).trans S4.weak0)).thru S5 (by simpa using .inr (by omega))) (by omega) n.1 n.2.1 n.2.2.1 n.2.2.2 c5 ds r0 r2 r6 r7 rfl
   ·refine qAl fun H3 pt e3 S3 c3 l3 => ⟨sbT (T2.trans S3.weak0) lpr nh,?_⟩
    have b3 := b2.same S3
    refine ofT hJ b3.a (by omega) (S3.get c2 (by simp)) (by omega) rfl (by simp) fun y H4 my S4 l4 x4 => ⟨sbT ((T2.trans S3.weak0).trans S4) lpr nh,?_⟩
    refine fillA (l := [vint days,vint stages,sv]) rfl (by simp [ks.2.1]; exact ⟨rfl,rfl⟩) (Nat.le_of_ble_eq_true rfl) (fillV rfl rfl (Nat.le_of_ble_eq_true rfl) (fillI ?_))
    have s1 := S1.1
    have s2 := S2.1
    have s3 := S3.1
    have n := (show h.length < pt ∧ pt ≠ pr ∧ pt ≠ p1 ∧ (∀ j,o = some j → j ≠ pt) from ⟨by omega,by omega,by omega,fun j hj => by have := lb.2.2 j hj; omega⟩)
    refine qStA (c := [vint days,vint stages,sv,vint y,.slice none 0 0,.slice none 0 0]) (S4.get c3 (by simp; omega)) rfl rfl (by simp [ks.2.1]; exact ⟨rfl,rfl,rfl,rfl⟩) fun H5 S5 c5 l5 => hold.2 ?_
    exact hE _ H5 pt y (okp ⟨xa,xb⟩ my) ((b3.hand S4 x4).st S5 n.1 n.2.1 n.2.2.1 n.2.2.2) ((T.trans ((T2.trans S3.weak0).trans S4)).thru S5 (by simpa using .inr (by omega))) (by omega) n.1 n.2.1 n.2.2.1 n.2.2.2 c5 ds r0 r2 r6 r7 rfl
  ·have b1 := b.hand S1 x1
   refine qAl fun H2 pt e2 S2 c2 l2 => ⟨sbT (S1.trans S2.weak0) lpr nh,⟨by decide,by decide,rfl⟩,?_⟩
   have b2 := b1.same S2
   refine fillV rfl rfl (Nat.le_of_ble_eq_true rfl) (fillV rfl rfl (Nat.le_of_ble_eq_true rfl) (fillV rfl rfl (Nat.le_of_ble_eq_true rfl) (fillI (qNew fun H3 p3 e3 S3 c3 l3 => ?_))))
   have c3 : H3[p3]? = some (.cells ([6,9,x].map vint) true 0) := c3
   have b3 := b2.same S3
   have T3 : SameX [h.length] H H3 := (S1.trans S2.weak0).trans S3.weak0
   refine ⟨sbT T3 lpr nh,?_⟩
   have s1 := S1.1
   have s2 := S2.1
   have s3 := S3.1
   refine ofT hJ b3.a (by omega) c3 (by omega) rfl (by simp) fun y H4 my S4 l4 x4 => ⟨sbT (T3.trans S4) lpr nh,?_⟩
   refine fillA (l := [vint days,vint stages,sv]) rfl (by simp [ks.2.1]; exact ⟨rfl,rfl⟩) (Nat.le_of_ble_eq_true rfl) (fillV rfl rfl (Nat.le_of_ble_eq_true rfl) (fillI ?_))
   have n := (show h.length < pt ∧ pt ≠ pr ∧ pt ≠ p1 ∧ (∀ j,o = some j → j ≠ pt) from ⟨by omega,by omega,by omega,fun j hj => by have := lb.2.2 j hj; omega⟩)
   refine qStA (c := [vint days,vint stages,sv,vint y,.slice none 0 0,.slice none 0 0]) (S4.get (S3.get c2 (by simp)) (by simp; omega)) rfl rfl (by simp [ks.2.1]; exact ⟨rfl,rfl,rfl,rfl⟩) fun H5 S5 c5 l5 => hold.2 ?_
   exact hE _ H5 pt y (okp ⟨xa,xb⟩ my) ((b3.hand S4 x4).st S5 n.1 n.2.1 n.2.2.1 n.2.2.2) ((T.trans (T3.trans S4)).thru S5 (by simpa using .inr (by omega))) (by omega) n.1 n.2.1 n.2.2.1 n.2.2.2 c5 ds r0 r2 r6 r7 rfl
 ·refine qAl fun H1 pt e1 S1 c1 l1 => ⟨sbT S1 lpr (by simp),?_⟩
  have b1 := b.same S1
  refine amX hJ b1.a (by omega) (by omega) (by omega) fun x H2 xa xb S2 l2 x2 => ⟨sbT (S1.weak0.trans S2) lpr nh,⟨by decide,by decide,rfl⟩,?_⟩
  have b2 := b1.hand S2 x2
  refine fillV rfl rfl (Nat.le_of_ble_eq_true rfl) (fillV rfl rfl (Nat.le_of_ble_eq_true rfl) (fillV rfl rfl (Nat.le_of_ble_eq_true rfl) (fillI (qNew fun H3 p3 e3 S3 c3 l3 => ?_))))
  have c3 : H3[p3]? = some (.cells ([6,9,x].map vint) true 0) := c3
  have b3 := b2.same S3
  have T3 : SameX [h.length] H H3 := (S1.weak0.trans S2).trans S3.weak0
  refine ⟨sbT T3 lpr nh,?_⟩
  have s1 := S1.1
  have s2 := S2.1
  have s3 := S3.1
  refine ofT hJ b3.a (by omega) c3 (by omega) rfl (by simp) fun y H4 my S4 l4 x4 => ⟨sbT (T3.trans S4) lpr nh,?_⟩
  refine fillA (l := [vint days,vint stages,sv]) rfl (by simp [ks.2.1]; exact ⟨rfl,rfl⟩) (Nat.le_of_ble_eq_true rfl) (fillV rfl rfl (Nat.le_of_ble_eq_true rfl) (fillI ?_))
  have n := (show h.length < pt ∧ pt ≠ pr ∧ pt ≠ p1 ∧ (∀ j,o = some j → j ≠ pt) from ⟨by omega,by omega,by omega,fun j hj => by have := lb.2.2 j hj; omega⟩)
  refine qStA (c := [vint days,vint stages,sv,vint y,.slice none 0 0,.slice none 0 0]) (S4.get (S3.get (S2.get c1 (by simp; omega)) (by simp)) (by simp; omega)) rfl rfl (by simp [ks.2.1]; exact ⟨rfl,rfl,rfl,rfl⟩) fun H5 S5 c5 l5 => hold.2 ?_
  exact hE _ H5 pt y (okp ⟨xa,xb⟩ my) ((b3.hand S4 x4).st S5 n.1 n.2.1 n.2.2.1 n.2.2.2) ((T.trans (T3.trans S4)).thru S5 (by simpa using .inr (by omega))) (by omega) n.1 n.2.1 n.2.2.1 n.2.2.2 c5 ds r0 r2 r6 r7 rfl
end
structure B2 (h H : List AObj) (ns : List Int) (k pr p1 pt : Nat) (t : Tarf) (sv pv tv : Value) (o o2 o3 : Option Nat) : Prop where
 b : B1 h H ns k pr p1 t.days t.stages t.strips sv o
 c : H[pt]? = some (.cells (tarCells t sv pv tv) true 0)
 P : OwnX H 3 (t.payers.flatMap Payr.cells) t.payers.length pv o2
 T : OwnX H 3 (t.tolls.flatMap Toll.cells) t.tolls.length tv o3
 lt : h.length < pt ∧ pt ≠ pr ∧ pt ≠ p1 ∧ ∀ j,o = some j → j ≠ pt
 l2 : ∀ i,o2 = some i → h.length < i ∧ i ≠ pr ∧ i ≠ p1 ∧ i ≠ pt ∧ o ≠ some i ∧ o3 ≠ some i
 l3 : ∀ i,o3 = some i → h.length < i ∧ i ≠ pr ∧ i ≠ p1 ∧ i ≠ pt ∧ o ≠ some i
section
variable {main : Bool} {J : JT} {h H Hs : List AObj} {K : Value → List AObj → Prop} {n0 : Nat} {ns : List Int} {k pr p1 pt : Nat} {t : Tarf} {sv pv tv : Value} {o o2 o3 : Option Nat}
theorem B2.hand {H' : List AObj} {k' : Nat} (b : B2 h H ns k pr p1 pt t sv pv tv o o2 o3) (S : SameX [h.length] H H') (a : HX h H' ns k') : B2 h H' ns k' pr p1 pt t sv pv tv o o2 o3 :=
 ⟨b.b.hand S a,S.get b.c (by have := b.lt.1; simp; omega),ownX_keep b.P S fun i hi => by have := (b.l2 i hi).1; simp; omega,ownX_keep b.T S fun i hi => by have := (b.l3 i hi).1; simp; omega,b.lt,b.l2,b.l3⟩
theorem B2.same {H' : List AObj} (b : B2 h H ns k pr p1 pt t sv pv tv o o2 o3) (S : SameX [] H H') : B2 h H' ns k pr p1 pt t sv pv tv o o2 o3 :=
 ⟨b.b.same S,S.get b.c (by simp),ownX_keep b.P S (by simp),ownX_keep b.T S (by simp),b.lt,b.l2,b.l3⟩
theorem B2.bd (b : B2 h H ns k pr p1 pt t sv pv tv o o2 o3) : pt < H.length ∧ pr < H.length ∧ p1 < H.length ∧ (∀ i,o = some i → i < H.length) ∧ (∀ i,o2 = some i → i < H.length) ∧ (∀ i,o3 = some i → i < H.length) := ⟨lt_of_get b.c,b.b.lt.1,b.b.lt.2.1,b.b.lt.2.2,ownX_lt b.P,ownX_lt b.T⟩
theorem B2.st {H1 H' : List AObj} {q : Nat} (b : B2 h H ns k pr p1 pt t sv pv tv o o2 o3) (S1 : SameX [] H H1) (hq : H.length ≤ q) (S : SameX [q] H1 H') : B2 h H' ns k pr p1 pt t sv pv tv o o2 o3 := by
 have b1 := b.same S1
 obtain ⟨d1,d2,d3,d4,d5,d6⟩ := b.bd
 have hh := b.b.a.lt
 refine ⟨b1.b.st S (by omega) (by omega) (by omega) (fun i hi => by have := d4 i hi; omega),S.get b1.c (by simp; omega),ownX_keep b1.P S fun i hi => by have := d5 i hi; simp; omega,ownX_keep b1.T S fun i hi => by have := d6 i hi; simp; omega,b.lt,b.l2,b.l3⟩
theorem B2.mono {k' : Nat} (b : B2 h H ns k pr p1 pt t sv pv tv o o2 o3) (hk : k ≤ k') : B2 h H ns k' pr p1 pt t sv pv tv o o2 o3 :=
 ⟨⟨b.b.a.mono hk,b.b.r,b.b.j,b.b.O,b.b.lr,b.b.l1,b.b.ne,b.b.lo⟩,b.c,b.P,b.T,b.lt,b.l2,b.l3⟩
structure R2 (f : RG) (hl pr p1 pt : Nat) (i : Nat) : Prop where
 ds : f.ds = []
 r0 : f.r 0 = ptr hl 0
 r2 : f.r 2 = vint 4
 r6 : f.r 6 = ptr p1 0
 r7 : f.r 7 = ptr pr 0
 r10 : f.r 10 = ptr pt 0
 r11 : f.r 11 = vint (i : Nat)
set_option maxHeartbeats 1000000 in
theorem payer6 (hJ : Closed prog main J) {f : RG} {nx0 : RG → List AObj → Prop} {i : Nat} (R : R2 f h.length pr p1 pt i) (hi : 0 < i) (b : B2 h H ns k pr p1 pt t sv pv tv o o2 o3) (T : SameX [h.length] Hs H) (hpt : Hs.length ≤ pt) (hos : ∀ j,o2 = some j → Hs.length ≤ j) (hl : t.payers.length < 100) (hk : k < 500000) (hi3 : i ≤ 100)
  (hnx : ∀ F' H' x pv' p,(0 ≤ x.heads ∧ x.heads ≤ 12) → (0 ≤ x.free ∧ x.free ≤ 5) → B2 h H' ns (k + 6) pr p1 pt { t with payers := t.payers ++ [x] } sv pv' tv o (some p) o3 → SameX [h.length] Hs H' → Hs.length ≤ p → R2 F' h.length pr p1 pt (i - 1) → nx0 F' H') :
  W prog J 199 n0 6 (subC [1,1,1,1,0,1,0,0] (codeOf f6)) f H (thenK nx0 (contX pl6 prog J 199 n0 6 ct6 [1,1,1,1,0,1,0] (codeOf f6) [] (RetQ prog [.cell 6 39] n0 K))) := by
 obtain ⟨ds,r0,r2,r6,r7,r10,r11⟩ := R
 rw [s6_3,r0,r10,r11]
 have kp := ownX_val b.P
 have lpt := lt_of_get b.c
 have nh : pt ∉ [h.length] := by have := b.lt.1; simp; omega
 refine gtrT (by omega) (cnd_true.2 ⟨[pt],offI (ldI (v := pv) b.c rfl kp.2.2 ⟨by simp [RdOk,ptrBlk],?_⟩)⟩)
 refine upX hJ b.b.a (by omega) (by omega) fun u4 H1 ua ub S1 l1 x1 => ⟨sbT S1 lpt nh,?_⟩
 have b1 := b.hand S1 x1
 refine upX hJ b1.b.a (by omega) (by omega) fun u12 H2 va vb S2 l2 x2 => ⟨sbT (S1.trans S2) lpt nh,⟨⟨by decide,by decide,rfl⟩,?_⟩⟩
 have b2 := b1.hand S2 x2
 refine fillV rfl rfl (Nat.le_of_ble_eq_true rfl) (fillI (qNew fun H3 p3 e3 S3 c3 l3 => ?_))
 have c3 : H3[p3]? = some (.cells ([u12].map vint) true 0) := c3
 have b3 := b2.same S3
 have T3 := (S1.trans S2).trans S3.weak0
 have h2 := b2.b.a.lt
 refine ⟨sbT T3 lpt nh,ofT hJ b3.b.a (by omega) c3 (by omega) rfl (by simp) fun hd H4 m4 S4 l4 x4 => ⟨sbT (T3.trans S4) lpt nh,?_⟩⟩
 have b4 := b3.hand S4 x4
 have hhd : 0 ≤ hd ∧ hd ≤ 12 := by
  rcases m4 with rfl | m4
  ·omega
  ·simp at m4
   omega
 have T4 := T3.trans S4
 refine upX hJ b4.b.a (by omega) (by omega) fun u5 H5 wa wb S5 l5 x5 => ⟨sbT (T4.trans S5) lpt nh,⟨⟨by decide,by decide,rfl⟩,?_⟩⟩
 have b5 := b4.hand S5 x5
 have T5 := T4.trans S5
 refine fillV rfl rfl (Nat.le_of_ble_eq_true rfl) (fillV rfl rfl (Nat.le_of_ble_eq_true rfl) (fillI (qNew fun H6 p6 e6 S6 c6 l6 => ?_)))
 have c6 : H6[p6]? = some (.cells ([0,u5].map vint) true 0) := c6
 have b6 := b5.same S6
 have T6 := T5.trans S6.weak0
 have h5 := b5.b.a.lt
 refine ⟨sbT T6 lpt nh,ofT hJ b6.b.a (by omega) c6 (by omega) rfl (by simp) fun fr H7 m7 S7 l7 x7 => ⟨sbT (T6.trans S7) lpt nh,?_⟩⟩
 have b7 := b6.hand S7 x7
 have hfr : 0 ≤ fr ∧ fr ≤ 5 := by
  rcases m7 with rfl | m7
  ·omega
  ·simp at m7
   omega
 have T7 := T6.trans S7
 refine oddX hJ b7.b.a (by omega) (by omega) fun hf H8 S8 l8 x8 => ⟨sbT (T7.trans S8) lpt nh,?_⟩
 have b8 := b7.hand S8 x8
 have T8 := T7.trans S8
 refine fillV rfl rfl (Nat.le_of_ble_eq_true rfl) (fillV rfl rfl (Nat.le_of_ble_eq_true rfl) (fillV rfl rfl (Nat.le_of_ble_eq_true rfl) (fillI ⟨⟨by decide,by decide,rfl⟩,?_⟩)))
 refine fillA (l := (⟨hd,fr,hf⟩ : Payr).cells) rfl rfl (Nat.le_of_ble_eq_true rfl) (fillI (qNew fun H9 p9 e9 S9 c9 l9 => ?_))
 have c9 : H9[p9]? = some (.cells (⟨hd,fr,hf⟩ : Payr).cells true 0) := c9
 have b9 := b8.same S9
 have T9 := T8.trans S9.weak0
 refine ⟨sbT T9 lpt nh,⟨rfl,by decide,by decide,by decide⟩,ownX_more b9.P (by decide) (by omega) (ownX_sli (ownX_new (s := 3) (n := 1) (l := (⟨hd,fr,hf⟩ : Payr).cells) c9 rfl rfl)) fun pv' HA p eA OA SA => offI ?_⟩
 have cA := SA.get b9.c (by intro hm; exact (b9.l2 pt (Option.mem_toList.1 hm)).2.2.2.1 rfl)
 have kA := ownX_val OA
 refine qSt cA (by simp [tarCells]) kA.1 kA.2.1 fun HB SB cB lB => subI (by omega) ?_
 obtain ⟨d1,d2,d3,d4,d5,d6⟩ := b9.bd
 have hp := ownX_lt OA p rfl
 have hh9 := b9.b.a.lt
 have hos2 : ∀ j,o2 = some j → j ∉ ([pt] : List Nat) := fun j hj => by have := (b.l2 j hj).2.2.2.1; simpa using this
 have TT : SameX [h.length] Hs H9 := T.trans T9
 have hTT := TT.1
 refine hnx _ HB (⟨hd,fr,hf⟩ : Payr) pv' p hhd hfr ?_ ((TT.thru SA fun j hj => .inr (hos j (Option.mem_toList.1 hj))).thru SB (by simpa using .inr hpt)) (by omega) ⟨ds,r0,r2,r6,r7,r10,?_⟩
 ·refine ⟨⟨(b9.b.a.same SA fun j hj => (b9.l2 j (Option.mem_toList.1 hj)).1).same SB (by have := b.lt.1; simpa using this),SB.get (SA.get b9.b.r ?_) (by have := b.lt.2.1; simp; omega),?_,ownX_keep (ownX_keep b9.b.O SA ?_) SB ?_,b.b.lr,b.b.l1,b.b.ne,b.b.lo⟩,cB,?_,ownX_keep (ownX_keep b9.T SA ?_) SB ?_,b.lt,?_,b.l3⟩
  ·intro hm
   exact (b9.l2 pr (Option.mem_toList.1 hm)).2.1 rfl
  ·obtain ⟨cj,hc6,hcj⟩ := b9.b.j
   refine ⟨cj,hc6,SB.get (SA.get hcj ?_) (by have := b.lt.2.2.1; simp; omega)⟩
   intro hm
   exact (b9.l2 p1 (Option.mem_toList.1 hm)).2.2.1 rfl
  ·intro j hj hm
   exact (b9.l2 j (Option.mem_toList.1 hm)).2.2.2.2.1 hj
  ·intro j hj
   have := b.lt.2.2.2 j hj
   simpa using this
  ·show OwnX HB 3 ((t.payers ++ [(⟨hd,fr,hf⟩ : Payr)]).flatMap Payr.cells) (t.payers ++ [(⟨hd,fr,hf⟩ : Payr)]).length pv' (some p)
   rw [List.flatMap_append,List.length_append]
   have := ownX_keep OA SB (by intro j hj; cases hj; simp; omega)
   simpa using this
  ·intro j hj hm
   exact (b9.l2 j (Option.mem_toList.1 hm)).2.2.2.2.2 hj
  ·intro j hj
   have := (b.l3 j hj).2.2.2.1
   simpa using this
  ·intro j hj
   cases hj
   refine ⟨by omega,by omega,by omega,by omega,fun e => ?_,fun e => ?_⟩
   ·have := d4 _ e
    omega
   ·have := d6 _ e
    omega
 ·show vint _ = vint _
  congr 1
  omega
theorem foldl_add : ∀ (l : List Int) (a : Int),l.foldl (· + ·) a = a + l.foldl (· + ·) 0
 | [],a => by simp
 | x :: l,a => by
  rw [List.foldl_cons,List.foldl_cons,foldl_add l (a + x),foldl_add l (0 + x)]
  omega
theorem headSum_cons {p : Payr} {l : List Payr} : headSum (p :: l) = p.heads + headSum l := by
 unfold headSum
 rw [List.map_cons,List.foldl_cons,foldl_add]
 omega
theorem headSum_12 : ∀ {l : List Payr},(∀ p ∈ l,0 ≤ p.heads ∧ p.heads ≤ 12) → 0 ≤ headSum l ∧ headSum l ≤ 12 * (l.length : Int)
 | [],_ => by simp [headSum]
 | p :: l,h => by
  have ih := headSum_12 (l := l) fun q hq => h q (by simp [hq])
  have := h p (by simp)
  rw [headSum_cons,List.length_cons]
  omega
end
structure R3 (f : RG) (hl pr p1 pt : Nat) (i : Nat) : Prop where
 ds : f.ds = []
 r0 : f.r 0 = ptr hl 0
 r6 : f.r 6 = ptr p1 0
 r7 : f.r 7 = ptr pr 0
 r10 : f.r 10 = ptr pt 0
 r12 : f.r 12 = vint (i : Nat)
section
variable {main : Bool} {J : JT} {h H Hs : List AObj} {K : Value → List AObj → Prop} {n0 : Nat} {ns : List Int} {k pr p1 pt : Nat} {t : Tarf} {sv pv tv : Value} {o o2 o3 : Option Nat}
theorem first6 (hJ : Closed prog main J) {f : RG} {nx0 : RG → List AObj → Prop} (R : R2 f h.length pr p1 pt 0) (b : B2 h H ns k pr p1 pt t sv pv tv o o2 o3) (T : SameX [h.length] Hs H) (hos : ∀ j,o2 = some j → Hs.length ≤ j) {x : Payr} {rest : List Payr} (hx : t.payers = x :: rest) (hh : 0 ≤ x.heads ∧ x.heads ≤ 12) (hk : k < 500000)
  (hE : ∀ F' H' i,i ≤ 4 → B2 h H' ns (k + 1) pr p1 pt { t with payers := { x with heads := x.heads + 1 } :: rest } sv pv tv o o2 o3 → SameX [h.length] Hs H' → R3 F' h.length pr p1 pt i →
   Sem J 199 n0 6 (subC [1,1,1,1,1,1,0,1,0] (codeOf f6)) F' H' (contX pl6 prog J 199 n0 6 ct6 [1,1,1,1,1,1,0,1,0] (codeOf f6) [] (RetQ prog [.cell 6 39] n0 K))) :
  W prog J 199 n0 6 (subC [1,1,1,1,0,1,0,0] (codeOf f6)) f H (thenK nx0 (contX pl6 prog J 199 n0 6 ct6 [1,1,1,1,0,1,0] (codeOf f6) [] (RetQ prog [.cell 6 39] n0 K))) := by
 obtain ⟨ds,r0,r2,r6,r7,r10,r11⟩ := R
 rw [s6_3,r0,r2,r10,r11]
 have kp := ownX_val b.P
 refine gtrF (by decide) (cnd_false.2 (offI (ldI (v := pv) b.c rfl kp.2.2 ?_)))
 obtain ⟨q1,q2,⟨q3,_⟩ | ⟨i2,c,sz,ho,rfl,hb,hc⟩⟩ := b.P
 ·rw [hx] at q3
  cases q3
 have hlp : 0 < t.payers.length := by rw [hx]; simp
 have hcell : (t.payers.flatMap Payr.cells) = vint x.heads :: vint x.free :: .bool x.half :: rest.flatMap Payr.cells := by rw [hx]; rfl
 rw [hcell] at hb
 refine idxI ⟨by omega,by omega⟩ (offI (ldI (v := vint x.heads) hb rfl rfl (addI (by omega) (idxI ⟨by omega,by omega⟩ (offI (qSt hb (by simp) rfl rfl fun H1 S1 c1 l1 => minI ?_))))))
 have b1 : B2 h H1 ns k pr p1 pt { t with payers := { x with heads := x.heads + 1 } :: rest } sv (.slice (some ⟨i2,0,none⟩) t.payers.length c) tv o o2 o3 := by
  have l2 := b.l2 i2 ho
  refine ⟨⟨b.b.a.same S1 (by simpa using l2.1),S1.get b.b.r (by simpa using Ne.symm l2.2.1),?_,ownX_keep b.b.O S1 ?_,b.b.lr,b.b.l1,b.b.ne,b.b.lo⟩,S1.get b.c (by simpa using Ne.symm l2.2.2.2.1),?_,ownX_keep b.T S1 ?_,b.lt,b.l2,b.l3⟩
  ·obtain ⟨cj,hc6,hcj⟩ := b.b.j
   exact ⟨cj,hc6,S1.get hcj (by simpa using Ne.symm l2.2.2.1)⟩
  ·intro j hj hm
   have : j = i2 := by simpa using hm
   subst this
   exact l2.2.2.2.2.1 hj
  ·subst ho
   have hlen : ({ x with heads := x.heads + 1 } :: rest : List Payr).length = t.payers.length := by rw [hx]; rfl
   show OwnX H1 3 (({ x with heads := x.heads + 1 } :: rest : List Payr).flatMap Payr.cells) ({ x with heads := x.heads + 1 } :: rest : List Payr).length _ _
   rw [hlen]
   refine ⟨?_,?_,.inr ⟨i2,c,sz,rfl,rfl,c1,hc⟩⟩
   ·rw [← q1,hcell]
    rfl
   ·rw [hcell] at q2
    exact q2
  ·intro j hj hm
   have : j = i2 := by simpa using hm
   subst this
   exact l2.2.2.2.2.2 hj
 have T1 : SameX [h.length] Hs H1 := T.thru S1 (by simpa using .inr (hos i2 ho))
 refine upX hJ b1.b.a (by omega) (by omega) fun i H2 a1 a2 S2 _ x2 => ?_
 obtain ⟨m,rfl⟩ := Int.eq_ofNat_of_zero_le a1
 exact hE _ H2 m (by omega) (b1.hand S2 x2) (T1.trans S2) ⟨ds,r0,r6,r7,r10,rfl⟩
theorem done6 (hJ : Closed prog main J) {f : RG} {nx0 : RG → List AObj → Prop} (ds : f.ds = []) (r6 : f.r 6 = ptr p1 0) (r10 : f.r 10 = ptr pt 0) (r144 : f.r 144 = .bool false) (b : B2 h H ns k pr p1 pt t sv pv tv o o2 o3) (T : SameX [h.length] Hs H) (hp1 : Hs.length ≤ p1)
  (hK : ∀ H',SameX [h.length] Hs H' → HX h H' ns k → (∀ H'',SameX [h.length] H' H'' → TarAt H'' t sv pv tv) → K (.agg ⟨tarCells t sv pv tv⟩) H') :
  W prog J 199 n0 6 (subC [1,1,1,1,1,1,0,1,0,0,0,1] (codeOf f6)) f H (contX pl6 prog J 199 n0 6 ct6 [1,1,1,1,1,1,0,1,0,0,0,1] (codeOf f6) [nx0] (RetQ prog [.cell 6 39] n0 K)) := by
 rw [s6_5,r144]
 refine cnd_false.2 ?_
 rw [r6,r10]
 have k1 := ownX_val b.b.O
 have k2 := ownX_val b.P
 have k3 := ownX_val b.T
 have kn : kn (tarCells t sv pv tv) = true := by
  simp [Go.Proofs.Ytfljbanjmplcfaa.kn,tarCells,k1.2.2,k2.2.2,k3.2.2]
  exact ⟨rfl,rfl,rfl⟩
 have one : (tarCells t sv pv tv).all one = true := by
  simp [tarCells,k1.2.1,k2.2.1,k3.2.1]
  exact ⟨rfl,rfl,rfl⟩
 obtain ⟨cj,hc6,hcj⟩ := b.b.j
 refine load_part (c := tarCells t sv pv tv) b.c (by simp [tarCells]) rfl kn (qStA (c := tarCells t sv pv tv) hcj rfl hc6 one fun H1 S1 c1 l1 => ?_)
 refine retQ_same ds (resW_cell (gg := true) (s := 6) (by kernel_rfl) ?_)
 show aLoad true 6 (f.r 6) _ _
 rw [r6]
 refine load_part (c := tarCells t sv pv tv) c1 (by simp [tarCells]) rfl kn (resW_nil (hK H1 (T.thru S1 (by simpa using .inr hp1)) (b.b.a.same S1 (by have := b.b.l1; simpa using this)) fun H'' S'' => ⟨?_,?_,⟨o3,?_⟩⟩))
 ·exact ownX_sli (ownX_keep (ownX_keep b.b.O S1 fun j hj => by have := (b.b.lo j hj).2.2; simpa using this) S'' fun j hj => by have := (b.b.lo j hj).1; simp; omega)
 ·exact ownX_sli (ownX_keep (ownX_keep b.P S1 fun j hj => by have := (b.l2 j hj).2.2.1; simpa using this) S'' fun j hj => by have := (b.l2 j hj).1; simp; omega)
 ·exact ownX_keep (ownX_keep b.T S1 fun j hj => by have := (b.l3 j hj).2.2.1; simpa using this) S'' fun j hj => by have := (b.l3 j hj).1; simp; omega
set_option maxHeartbeats 1000000 in
theorem toll6 (hJ : Closed prog main J) {f : RG} {nx0 : RG → List AObj → Prop} {i : Nat} (R : R3 f h.length pr p1 pt i) (hi : 0 < i ∧ i ≤ 100) (b : B2 h H ns k pr p1 pt t sv pv tv o o2 o3) (T : SameX [h.length] Hs H) (hpt : Hs.length ≤ pt) (hos : ∀ j,o3 = some j → Hs.length ≤ j) (hl : t.tolls.length < 100) (hk : k < 500000) (hns : 0 < t.strips.length ∧ t.strips.length < 100)
  (hnx : ∀ F' H' ts tv' o',(ts = t.tolls ∨ ∃ x,ts = t.tolls ++ [x] ∧ TollOk t.strips.length x ∧ ∀ (j : Nat) y,t.tolls[j]? = some y → apartT x y) → B2 h H' ns (k + 4) pr p1 pt { t with tolls := ts } sv pv tv' o o2 o' → SameX [h.length] Hs H' → (∀ j,o' = some j → Hs.length ≤ j) → R3 F' h.length pr p1 pt (i - 1) → nx0 F' H') :
  W prog J 199 n0 6 (subC [1,1,1,1,1,1,0,1,0,0] (codeOf f6)) f H (thenK nx0 (contX pl6 prog J 199 n0 6 ct6 [1,1,1,1,1,1,0,1,0] (codeOf f6) [] (RetQ prog [.cell 6 39] n0 K))) := by
 obtain ⟨ds,r0,r6,r7,r10,r12⟩ := R
 rw [s6_4,r7,r12]
 have ks := ownX_val b.b.O
 have kt := ownX_val b.T
 refine gtrT (by omega) (cnd_true.2 (offI (ldI (v := sv) b.b.r rfl ks.2.2 ?_)))
 rw [sliE_len (ownX_sli b.b.O)]
 refine gtrT (by omega) (hold.2 ?_)
 rw [s6_5]
 refine cnd_true.2 ?_
 show aOff (f.r 7) _ _
 rw [r7]
 refine offI (ldI (v := sv) b.b.r rfl ks.2.2 ?_)
 rw [sliE_len (ownX_sli b.b.O)]
 refine subI (by omega) ?_
 show Good prog J _ [f.r 0,_] _ _
 rw [r0]
 refine upX hJ b.b.a (by omega) (by omega) fun st H1 sa sb S1 _ x1 => ?_
 have b1 := b.hand S1 x1
 show Good prog J _ [f.r 0,_] _ _
 rw [r0]
 refine upX hJ b1.b.a (by omega) (by omega) fun u H2 ua ub S2 _ x2 => ⟨⟨by decide,by decide,rfl⟩,?_⟩
 have b2 := b1.hand S2 x2
 refine fillV rfl rfl (Nat.le_of_ble_eq_true rfl) (fillV rfl rfl (Nat.le_of_ble_eq_true rfl) (fillV rfl rfl (Nat.le_of_ble_eq_true rfl) (fillI (qNew fun H3 p3 e3 S3 c3 l3 => ?_))))
 have c3 : H3[p3]? = some (.cells ([25,50,u].map vint) true 0) := c3
 have b3 := b2.same S3
 have h2 := b2.b.a.lt
 show Good prog J _ [f.r 0,_,_] _ _
 rw [r0]
 refine ofT hJ b3.b.a (by omega) c3 (by omega) rfl (by simp) fun rate H4 m4 S4 _ x4 => ?_
 have b4 := b3.hand S4 x4
 have hrate : 0 ≤ rate ∧ rate ≤ 500 := by
  rcases m4 with rfl | m4
  ·omega
  ·simp at m4
   omega
 show Good prog J _ [f.r 0,_,_] _ _
 rw [r0]
 refine amX hJ b4.b.a (by omega) (by omega) (by omega) fun fa H5 fa1 fa2 S5 _ x5 => ?_
 have b5 := b4.hand S5 x5
 have T5 : SameX [h.length] Hs H5 := (((T.trans S1).trans S2).trans S3.weak0).trans (S4.trans S5)
 refine fillV rfl rfl (Nat.le_of_ble_eq_true rfl) (fillV rfl rfl (Nat.le_of_ble_eq_true rfl) (fillV rfl rfl (Nat.le_of_ble_eq_true rfl) (fillI ?_)))
 refine qAl fun H6 q e6 S6 c6 l6 => qStA (c := (⟨st,rate,fa⟩ : Toll).cells) c6 rfl rfl rfl fun H7 S7 c7 l7 => ?_
 have hT5 := T5.1
 have b7 := b5.st (k := k + 4) S6 (by omega) S7
 have T7 : SameX [h.length] Hs H7 := (T5.trans S6.weak0).thru S7 (by simpa using .inr (by omega))
 have okx : TollOk t.strips.length ⟨st,rate,fa⟩ := ⟨by dsimp only; omega,hrate,by dsimp only; omega⟩
 have e8 : ((i : Nat) : Int) - 1 = ((i - 1 : Nat) : Int) := by omega
 clear S1 x1 b1 S2 x2 b2 S3 c3 b3 S4 x4 b4 S5 x5 b5 T5 S6 c6 S7 T b
 refine l6_6 hJ (fun j : Nat => t.tolls.length - j) (fun j F H' => H' = H7 ∧ j ≤ t.tolls.length ∧ (∃ fr : Bool,F.r 14 = .bool fr ∧ (fr = true → ∀ (m : Nat) y,m < j → t.tolls[m]? = some y → apartT ⟨st,rate,fa⟩ y)) ∧ F.ds = [] ∧ F.r 0 = ptr h.length 0 ∧ F.r 6 = ptr p1 0 ∧ F.r 7 = ptr pr 0 ∧ F.r 10 = ptr pt 0 ∧ F.r 12 = vint (i : Nat) ∧ F.r 13 = ptr q 0 ∧ F.r 15 = vint (j : Nat)) ?_ (s := 0)
  (.inl ⟨rfl,by omega,⟨true,rfl,fun _ m y hm => absurd hm (Nat.not_lt_zero _)⟩,ds,r0,r6,r7,r10,r12,rfl,rfl⟩)
 clear ds r0 r6 r7 r10 r12
 rintro j F H' ⟨rfl,hj,⟨fr,r14,hfr⟩,ds,r0,r6,r7,r10,r12,r13,r15⟩ okc hnc
 rw [s6_6,r10,r13,r14,r15]
 refine offI (ldI (v := tv) b7.c rfl kt.2.2 ?_)
 rw [sliE_len (ownX_sli b7.T)]
 refine lssI (cndI (fun hlt => ?_) fun hge => ?_)
 ·have hjl : j < t.tolls.length := by omega
  have hget : t.tolls[j]? = some t.tolls[j] := List.getElem?_eq_getElem hjl
  have step : ∀ (fr' : Bool),(fr' = true → fr = true ∧ apartT ⟨st,rate,fa⟩ t.tolls[j]) → (fr' = true → ∀ (m : Nat) y,m < j + 1 → t.tolls[m]? = some y → apartT ⟨st,rate,fa⟩ y) := fun fr' hf h1 m y hm hy => by
   obtain ⟨f1,f2⟩ := hf h1
   by_cases e : m = j
   ·subst e
    rw [hget] at hy
    cases hy
    exact f2
   ·exact hfr f1 m y (by omega) hy
  cases fr with
  | false =>
   refine cnd_false.2 (addI (by omega) ⟨j + 1,by dsimp only; omega,.inl ⟨rfl,by omega,⟨false,rfl,step false (fun e => by cases e)⟩,ds,r0,r6,r7,r10,r12,r13,by show vint _ = vint _; congr 1⟩⟩)
  | true =>
   refine cnd_true.2 (offI (ldI (v := tv) b7.c rfl kt.2.2 ?_))
   obtain ⟨bb,ob,cs,wr,sz,hidx,hb,hosb,htk,hkn⟩ := sliE_elem (s := 3) (enc := Toll.cells) (fun _ => rfl) (by decide) (ownX_sli b7.T) hjl
   refine hidx _ (offI (ldI (v := vint t.tolls[j].strip) hb (part_get htk rfl) rfl (offI (ldI (v := vint st) c7 rfl rfl (neqI (cndI (fun hne => ?_) fun heq => ?_))))))
   ·exact addI (by omega) ⟨j + 1,by dsimp only; omega,.inl ⟨rfl,by omega,⟨true,rfl,step true (fun _ => ⟨rfl,.inl (Ne.symm hne)⟩)⟩,ds,r0,r6,r7,r10,r12,r13,by show vint _ = vint _; congr 1⟩⟩
   ·refine offI (ldI (v := tv) b7.c rfl kt.2.2 (hidx _ (offI (ldI (v := vint t.tolls[j].farmer) hb (part_get htk rfl) rfl (offI (ldI (v := vint fa) c7 rfl rfl (neqI ?_)))))))
    exact addI (by omega) ⟨j + 1,by dsimp only; omega,.inl ⟨rfl,by omega,⟨decide (t.tolls[j].farmer ≠ fa),rfl,step _ (fun e => ⟨rfl,.inr (Ne.symm (of_decide_eq_true e))⟩)⟩,ds,r0,r6,r7,r10,r12,r13,by show vint _ = vint _; congr 1⟩⟩
 ·have hje : j = t.tolls.length := by omega
  subst hje
  rw [r12]
  cases fr with
  | false =>
   refine cnd_false.2 (subI (by omega) (hnx _ H' t.tolls tv o3 (.inl rfl) b7 T7 hos ⟨ds,r0,r6,r7,r10,?_⟩))
   show vint _ = vint _
   rw [e8]
  | true =>
   refine cnd_true.2 (offI (ldI (v := tv) b7.c rfl kt.2.2 (load_part (c := (⟨st,rate,fa⟩ : Toll).cells) c7 (by simp [Toll.cells]) rfl rfl ⟨⟨by decide,by decide,rfl⟩,?_⟩)))
   refine fillA (l := (⟨st,rate,fa⟩ : Toll).cells) rfl rfl (Nat.le_of_ble_eq_true rfl) (fillI (qNew fun H9 p9 e9 S9 c9 l9 => ?_))
   have c9 : H9[p9]? = some (.cells (⟨st,rate,fa⟩ : Toll).cells true 0) := c9
   have b9 := b7.same S9
   refine ⟨⟨rfl,by decide,by decide,by decide⟩,ownX_more b9.T (by decide) (by omega) (ownX_sli (ownX_new (s := 3) (n := 1) (l := (⟨st,rate,fa⟩ : Toll).cells) c9 rfl rfl)) fun tv' HA p eA OA SA => offI ?_⟩
   have cA := SA.get b9.c (by intro hm; exact (b9.l3 pt (Option.mem_toList.1 hm)).2.2.2.1 rfl)
   have kA := ownX_val OA
   refine qSt cA (by simp [tarCells]) kA.1 kA.2.1 fun HB SB cB lB => subI (by omega) ?_
   obtain ⟨d1,d2,d3,d4,d5,d6⟩ := b9.bd
   have hp := ownX_lt OA p rfl
   have hh9 := b9.b.a.lt
   have TT : SameX [h.length] Hs H9 := T7.trans S9.weak0
   have hTT := TT.1
   refine hnx _ HB (t.tolls ++ [⟨st,rate,fa⟩]) tv' (some p) (.inr ⟨_,rfl,okx,fun m y hy => hfr rfl m y (List.getElem?_eq_some_iff.1 hy).1 hy⟩) ?_ ((TT.thru SA fun j hj => .inr (hos j (Option.mem_toList.1 hj))).thru SB (by simpa using .inr hpt)) (by intro j hj; cases hj; omega) ⟨ds,r0,r6,r7,r10,?_⟩
   ·refine ⟨⟨(b9.b.a.same SA fun j hj => (b9.l3 j (Option.mem_toList.1 hj)).1).same SB (by have := b7.lt.1; simpa using this),SB.get (SA.get b9.b.r ?_) (by have := b7.lt.2.1; simp; omega),?_,ownX_keep (ownX_keep b9.b.O SA ?_) SB ?_,b7.b.lr,b7.b.l1,b7.b.ne,b7.b.lo⟩,cB,ownX_keep (ownX_keep b9.P SA ?_) SB ?_,?_,b7.lt,?_,?_⟩
    ·intro hm
     exact (b9.l3 pr (Option.mem_toList.1 hm)).2.1 rfl
    ·obtain ⟨cj,hc6,hcj⟩ := b9.b.j
     refine ⟨cj,hc6,SB.get (SA.get hcj ?_) (by have := b7.lt.2.2.1; simp; omega)⟩
     intro hm
     exact (b9.l3 p1 (Option.mem_toList.1 hm)).2.2.1 rfl
    ·intro j hj hm
     exact (b9.l3 j (Option.mem_toList.1 hm)).2.2.2.2 hj
    ·intro j hj
     have := b7.lt.2.2.2 j hj
     simpa using this
    ·intro j hj hm
     have h1 := (b9.l2 j hj).2.2.2.2.2
     exact h1 (Option.mem_toList.1 hm)
    ·intro j hj
     have := (b7.l2 j hj).2.2.2.1
     simpa using this
    ·show OwnX HB 3 ((t.tolls ++ [(⟨st,rate,fa⟩ : Toll)]).flatMap Toll.cells) (t.tolls ++ [(⟨st,rate,fa⟩ : Toll)]).length tv' (some p)
     rw [List.flatMap_append,List.length_append]
     have := ownX_keep OA SB (by intro j hj; cases hj; simp; omega)
     simpa using this
    ·intro j hj
     obtain ⟨a1,a2,a3,a4,a5,a6⟩ := b7.l2 j hj
     have := d5 j hj
     refine ⟨a1,a2,a3,a4,a5,fun e => ?_⟩
     cases e
     omega
    ·intro j hj
     cases hj
     refine ⟨by omega,by omega,by omega,by omega,fun e => ?_⟩
     have := d4 _ e
     omega
   ·show vint _ = vint _
    rw [e8]
end
section
variable {main : Bool} {J : JT} {h H : List AObj} {K : Value → List AObj → Prop} {n0 : Nat} {ns : List Int} {k : Nat}
set_option maxHeartbeats 2000000 in
theorem good6 (hJ : Closed prog main J) (a : HX h H ns k) (hk : k < 100000)
  (hK : ∀ t sv pv tv H',TarOk t → t.payers.length ≤ 3 → SameX [h.length] H H' → HX h H' ns (k + 200) → (∀ H'',SameX [h.length] H' H'' → TarAt H'' t sv pv tv) → K (.agg ⟨tarCells t sv pv tv⟩) H') : Good prog J 6 [ptr h.length 0,vint 4,vint 4] H K := by
 refine g6 hJ fun okh => ?_
 rw [e6]
 have hlt := a.lt
 refine qAl fun H1 p1 e1 S1 c1 l1 => ?_
 refine amX hJ (a.same S1 (by simp)) (by omega) (by omega) (by omega) fun days H2 d1 d2 S2 l2 x2 => amX hJ x2 (by omega) (by omega) (by omega) fun stages H3 s1 s2 S3 l3 x3 => ?_
 refine fillV rfl rfl (Nat.le_of_ble_eq_true rfl) (fillV rfl rfl (Nat.le_of_ble_eq_true rfl) (fillI (qAl fun H4 pr e4 S4 c4 l4 => qStA (c := [vint days,vint stages,.slice none 0 0]) c4 rfl rfl rfl fun H5 S5 c5 l5 => minI ?_)))
 have x5 := (x3.same S4 (by simp)).same S5 (by have := hlt; simp; omega)
 have t1 := S1.1
 have t2 := S2.1
 have t3 := S3.1
 have t4 := S4.1
 have T5 : SameX [h.length] H H5 := (((S1.weak0.trans S2).trans S3).trans S4.weak0).thru S5 (by simpa using .inr (by omega))
 have c1' := S5.get (S4.get (S3.get (S2.get c1 (by simp; omega)) (by simp; omega)) (by simp)) (by simp; omega)
 refine upX hJ x5 (by omega) (by omega) fun m0 H6 m1 m2 S6 l6 x6 => ?_
 obtain ⟨m,rfl⟩ := Int.eq_ofNat_of_zero_le m1
 have m4 : m ≤ 4 := by omega
 have T6 := T5.trans S6
 have b0 : B1 h H6 ns (k + 3) pr p1 days stages [] (.slice none 0 0) none := ⟨x6,S6.get c5 (by simp; omega),⟨_,rfl,S6.get c1' (by simp; omega)⟩,ownX_nil,by omega,by omega,by omega,(by simp)⟩
 refine l6_1 hJ (fun i : Nat => i) (fun i F H' => ∃ (l : List Strp) (sv : Value) (o : Option Nat),B1 h H' ns (k + 60 - 12 * i) pr p1 days stages l sv o ∧ SameX [h.length] H H' ∧ (∀ j,o = some j → H.length ≤ j) ∧ l.length + i = m ∧ (∀ s ∈ l,StrpOk days stages s) ∧ R1 F h.length pr p1 i) ?_ (s := m)
  (.inl ⟨[],_,none,⟨b0.a.mono (by omega),b0.r,b0.j,b0.O,b0.lr,b0.l1,b0.ne,b0.lo⟩,T6,(by simp),by simp,(by simp),⟨rfl,rfl,rfl,rfl,rfl,rfl⟩⟩)
 clear b0 T6 S6 x6 c1' T5 x5 S5 c5 S4 c4 S3 x3 S2 x2 S1 c1 l1 l2 l3 l4 l5 l6
 rintro i F H' ⟨l,sv,o,b,T,hos,hlm,hok,R⟩ okc hnc
 by_cases hi : 0 < i
 ·refine strip6 hJ R ⟨hi,by omega⟩ b T (by omega) (by omega) hos (by omega) (by omega) (by omega) (by omega) fun F' H2 x sv' p ox b2 T2 hp R' => ?_
  refine ⟨i - 1,by dsimp only; omega,.inl ⟨l ++ [x],sv',some p,⟨b2.a.mono (by omega),b2.r,b2.j,b2.O,b2.lr,b2.l1,b2.ne,b2.lo⟩,T2,(by intro j hj; cases hj; exact hp),by rw [List.length_append,List.length_singleton]; omega,fun s hs => ?_,R'⟩⟩
  rcases List.mem_append.1 hs with h1 | h1
  ·exact hok s h1
  ·rw [List.mem_singleton.1 h1]
   exact ox
 have hi0 : i = 0 := by omega
 subst hi0
 refine pace6 hJ R b T (by omega) (by omega) fun F2 H2 pt pace pc1 b2 T2 hpt l1 n1 n2 n3 c2 g0 g1 g2 g3 g4 g5 => ?_
 clear R okc hnc b T F H'
 rw [s6_2,g1]
 have bb : B2 h H2 ns (k + 62) pr p1 pt ⟨days,stages,l,pace,[],[]⟩ sv (.slice none 0 0) (.slice none 0 0) o none none := ⟨⟨b2.a.mono (by omega),b2.r,b2.j,b2.O,b2.lr,b2.l1,b2.ne,b2.lo⟩,c2,ownX_nil,ownX_nil,⟨l1,n1,n2,n3⟩,(by simp),(by simp)⟩
 refine amX hJ bb.b.a (by omega) (by omega) (by omega) fun q0 H3 q1 q2 S3 _ x3 => ?_
 obtain ⟨q,rfl⟩ := Int.eq_ofNat_of_zero_le (by omega : 0 ≤ q0)
 have b3 := bb.hand S3 x3
 refine l6_3 hJ (fun i : Nat => i) (fun i F H' => ∃ (ps : List Payr) (pv : Value) (o2 : Option Nat),B2 h H' ns (k + 120 - 12 * i) pr p1 pt ⟨days,stages,l,pace,ps,[]⟩ sv pv (.slice none 0 0) o o2 none ∧ SameX [h.length] H H' ∧ (∀ j,o2 = some j → H.length ≤ j) ∧ ps.length + i = q ∧ (∀ x ∈ ps,(0 ≤ x.heads ∧ x.heads ≤ 12) ∧ (0 ≤ x.free ∧ x.free ≤ 5)) ∧ R2 F h.length pr p1 pt i) ?_ (s := q)
  (.inl ⟨[],_,none,b3.mono (by omega),T2.trans S3,(by simp),by simp,(by simp),⟨g0,g1,g2,g3,g4,g5,rfl⟩⟩)
 clear b3 S3 x3 bb c2 b2 T2 g0 g1 g2 g3 g4 g5
 rintro i F H' ⟨ps,pv,o2,b,T,hos2,hpm,hpo,R⟩ okc hnc
 by_cases hi : 0 < i
 ·refine payer6 hJ R hi b T (by omega) hos2 (by show ps.length < 100; omega) (by omega) (by omega) fun F' H2 x pv' p hx1 hx2 b2 T2 hp R' => ?_
  refine ⟨i - 1,by dsimp only; omega,.inl ⟨ps ++ [x],pv',some p,b2.mono (by omega),T2,(by intro j hj; cases hj; exact hp),by rw [List.length_append,List.length_singleton]; omega,fun y hy => ?_,R'⟩⟩
  rcases List.mem_append.1 hy with h1 | h1
  ·exact hpo y h1
  ·rw [List.mem_singleton.1 h1]
   exact ⟨hx1,hx2⟩
 have hi0 : i = 0 := by omega
 subst hi0
 obtain ⟨x,rest,rfl⟩ : ∃ x rest,ps = x :: rest := by
  cases ps with
  | nil => simp at hpm; omega
  | cons x rest => exact ⟨x,rest,rfl⟩
 have hx := hpo x (by simp)
 refine first6 hJ R b T hos2 (x := x) (rest := rest) rfl hx.1 (by omega) fun F2 H2 i4 hi4 b2 T2 R2' => ?_
 clear R okc hnc b T F H'
 have hsum := headSum_12 (l := x :: rest) fun y hy => (hpo y hy).1
 have hsum2 : headSum ({ x with heads := x.heads + 1 } :: rest) = headSum (x :: rest) + 1 := by
  rw [headSum_cons,headSum_cons]
  dsimp only
  omega
 have hpay : ∀ p ∈ ({ x with heads := x.heads + 1 } :: rest : List Payr),PayrOk p := by
  intro p hp
  rcases List.mem_cons.1 hp with rfl | hp
  ·unfold PayrOk
   dsimp only
   omega
  ·have := hpo p (by simp [hp])
   unfold PayrOk
   omega
 refine l6_4 hJ (fun i : Nat => i) (fun i F H' => ∃ (ts : List Toll) (tv : Value) (o3 : Option Nat),B2 h H' ns (k + 190 - 12 * i) pr p1 pt ⟨days,stages,l,pace,{ x with heads := x.heads + 1 } :: rest,ts⟩ sv pv tv o o2 o3 ∧ SameX [h.length] H H' ∧ (∀ j,o3 = some j → H.length ≤ j) ∧ ts.length + i ≤ 4 ∧ (∀ y ∈ ts,TollOk l.length y) ∧ (∀ (a b : Nat) y z,b < a → ts[a]? = some y → ts[b]? = some z → apartT y z) ∧ R3 F h.length pr p1 pt i) ?_ (s := i4)
  (.inl ⟨[],_,none,b2.mono (by omega),T2,(by simp),by simp; omega,(by simp),(by simp),R2'⟩)
 clear b2 T2 R2' F2 H2
 rintro i F H' ⟨ts,tv,o3,b,T,hos3,htm,hto,hap,R⟩ okc hnc
 have fin : ∀ {F2 : RG} {nx0 : RG → List AObj → Prop},F2.ds = [] → F2.r 6 = ptr p1 0 → F2.r 10 = ptr pt 0 → F2.r 144 = .bool false →
   W prog J 199 H.length 6 (subC [1,1,1,1,1,1,0,1,0,0,0,1] (codeOf f6)) F2 H' (contX pl6 prog J 199 H.length 6 ct6 [1,1,1,1,1,1,0,1,0,0,0,1] (codeOf f6) [nx0] (RetQ prog [.cell 6 39] H.length K)) := by
  intro F2 nx0 f0 f6 f10 f144
  refine done6 hJ f0 f6 f10 f144 b T (by omega) fun HE TE xE tE => ?_
  refine hK _ sv pv tv HE ⟨by dsimp only; omega,by dsimp only; omega,by dsimp only; omega,hok,by dsimp only; omega,by dsimp only; simp at hpm ⊢; omega,hpay,by dsimp only; rw [hsum2]; simp at hpm; simp at hsum; omega,by dsimp only; omega,hto,hap⟩ (by dsimp only; simp at hpm ⊢; omega) TE (xE.mono (by omega)) tE
 by_cases hi : 0 < i
 ·by_cases hls : 0 < l.length
  ·refine toll6 hJ R ⟨hi,by omega⟩ b T (by omega) hos3 (by show ts.length < 100; omega) (by omega) ⟨hls,by show l.length < 100; omega⟩ fun F' H2 ts' tv' o' hts b2 T2 ho' R' => ?_
   rcases hts with rfl | ⟨y,rfl,oy,hy⟩
   ·exact ⟨i - 1,by dsimp only; omega,.inl ⟨_,tv',o',b2.mono (by omega),T2,ho',by omega,hto,hap,R'⟩⟩
   ·refine ⟨i - 1,by dsimp only; omega,.inl ⟨ts ++ [y],tv',o',b2.mono (by omega),T2,ho',by rw [List.length_append,List.length_singleton]; omega,fun z hz => ?_,fun a c u v hca hu hv => ?_,R'⟩⟩
    ·rcases List.mem_append.1 hz with h1 | h1
     ·exact hto z h1
     ·rw [List.mem_singleton.1 h1]
      exact oy
    ·have hal := (List.getElem?_eq_some_iff.1 hu).1
     rw [List.length_append,List.length_singleton] at hal
     rw [List.getElem?_append_left (by omega)] at hv
     by_cases e : a < ts.length
     ·rw [List.getElem?_append_left e] at hu
      exact hap a c u v hca hu hv
     ·have : a = ts.length := by omega
      subst this
      rw [List.getElem?_append_right (Nat.le_refl _),Nat.sub_self] at hu
      cases hu
      exact hy c v hv
  ·obtain ⟨ds,r0,r6,r7,r10,r12⟩ := R
   have hl0 : l.length = 0 := by omega
   rw [s6_4,r7,r12]
   have ks := ownX_val b.b.O
   refine gtrT (by omega) (cnd_true.2 (offI (ldI (v := sv) b.b.r rfl ks.2.2 ?_)))
   rw [sliE_len (ownX_sli b.b.O)]
   refine gtrF (by show ¬ ((l.length : Nat) : Int) > 0; omega) (hold.2 (fin (by exact ds) (by exact r6) (by exact r10) (by rfl)))
 ·have hi0 : i = 0 := by omega
  subst hi0
  obtain ⟨ds,r0,r6,r7,r10,r12⟩ := R
  rw [s6_4,r7,r12]
  exact gtrF (by decide) (cnd_false.2 (hold.2 (fin (by exact ds) (by exact r6) (by exact r10) (by rfl))))
end
theorem partR_step {p : Payr} {rate n : Int} (hp : PayrOk p) (hr : 0 ≤ rate) (_hn : 0 ≤ n) : partR p rate n ≤ partR p rate (n + 1) ∧ partR p rate (n + 1) ≤ partR p rate n + 2 * rate := by
 unfold PayrOk at hp
 have hm : max 0 (n + 1 - p.free) = max 0 (n - p.free) ∨ max 0 (n + 1 - p.free) = max 0 (n - p.free) + 1 := by omega
 unfold partR
 rcases hm with h | h
 ·rw [h]
  split <;> omega
 ·rw [h,Int.add_mul,Int.one_mul]
  split <;> omega
def rateR (t : Tarf) (at_ : Nat) : Int := (t.tolls.getD at_ ⟨0,0,0⟩).rate
theorem due_step {t : Tarf} (ok : TarOk t) {at_ : Nat} (ha : at_ < t.tolls.length) {n : Int} (hn : 0 ≤ n) : dueR t at_ n 0 ≤ dueR t at_ (n + 1) 0 ∧ dueR t at_ (n + 1) 0 ≤ dueR t at_ n 0 + rateR t at_ := by
 have h0 : 0 < t.payers.length := by have := ok.np; omega
 have hr := (ok.tolls _ (List.getElem_mem ha)).rate
 have e1 : t.tolls.getD at_ ⟨0,0,0⟩ = t.tolls[at_] := by rw [List.getD_eq_getElem?_getD,List.getElem?_eq_getElem ha]; rfl
 have e2 : t.payers.getD 0 ⟨0,0,false⟩ = t.payers[0] := by rw [List.getD_eq_getElem?_getD,List.getElem?_eq_getElem h0]; rfl
 have hs := partR_step (p := t.payers[0]) (rate := t.tolls[at_].rate) (ok.payers _ (List.getElem_mem h0)) hr.1 hn
 unfold dueR duePR rateR
 rw [if_pos rfl,if_pos rfl,e1,e2]
 omega
theorem due_mono {t : Tarf} (ok : TarOk t) {at_ : Nat} (ha : at_ < t.tolls.length) {n : Int} (hn : 0 ≤ n) : ∀ d : Nat,dueR t at_ n 0 ≤ dueR t at_ (n + d) 0
 | 0 => by simp
 | d + 1 => by
  have ih := due_mono ok ha hn d
  have := (due_step ok ha (n := n + d) (by omega)).1
  have e : n + ((d + 1 : Nat) : Int) = n + d + 1 := by omega
  rw [e]
  omega
def dueI (t : Tarf) (at_ : Nat) (N : Int) : List Int := (List.range t.payers.length).map fun o => dueR t at_ N o
theorem dueL_eq (t : Tarf) (at_ : Nat) (N : Int) : dueL t at_ N = (dueI t at_ N).map vint := by
 unfold dueL dueI
 rw [List.map_map]
 rfl
theorem dueI_len (t : Tarf) (at_ : Nat) (N : Int) : (dueI t at_ N).length = t.payers.length := by simp [dueI]
theorem dueI_get {t : Tarf} (ok : TarOk t) (at_ : Nat) (N : Int) : (dueI t at_ N)[0]? = some (dueR t at_ N 0) := by
 have := ok.np
 unfold dueI
 rw [List.getElem?_map,List.getElem?_range (by omega)]
 rfl
section
variable {t : Tal} {nums losses : List Int} {G C : Int}
theorem div_tru (T : TruthOk G C t nums losses) (hG : G ≤ 5) (fine : TalFine t) : Tru t (limA t 0) (fun g => nums.getD g 0) := by
 have hgt := T.gates
 have hchl := T.chl
 refine ⟨T.chain.zero,fun g hg => ?_,fun g hg => ?_⟩
 ·have hb := T.chain.bd g (by omega)
  refine (lim_iff fine).2 ⟨by omega,fun c hc he => ?_⟩
  have hco := T.co c hc
  have hn := T.num hG c hc
  have hnum := hco.num
  have herr := hco.err
  have eg : c.gate.toNat = g := by omega
  rw [eg] at hnum
  refine (poss_iff (by omega) herr).2 ⟨by omega,?_,?_⟩ <;>
  ·generalize c.err * nums.getD g 0 = X at *
   omega
 ·have hs := T.chain.step g (by omega)
  unfold stretchR Rng.plus Rng.has
  rw [List.getElem?_eq_getElem (show g < t.changes.length by omega)]
  dsimp only [Option.getD]
  omega
theorem tru_bd (T : TruthOk G C t nums losses) {L : Nat → Rng} {us : Nat → Int} (h : Tru t L us) : ∀ g : Nat,g < t.gates.toNat → 30 - 7 * (g : Int) ≤ us g ∧ us g ≤ 66 + 4 * (g : Int)
 | 0,hg => by
  have h1 := h.first
  have := T.chain.first
  unfold Rng.has at h1
  omega
 | g + 1,hg => by
  have ih := tru_bd T h g (by omega)
  have h1 := h.step g hg
  have hch := T.chl
  have hm := T.chain.most
  have hr := T.chain.ch _ (List.getElem_mem (show g < t.changes.length by omega))
  unfold stretchR Rng.plus Rng.has at h1
  rw [List.getElem?_eq_getElem (show g < t.changes.length by omega)] at h1
  dsimp only [Option.getD] at h1
  omega
theorem div_rng (T : TruthOk 3 5 t nums losses) : talErr t = 0 ∧ TruthIs t (limA t 0) ∧ ∀ g : Nat,g < t.gates.toNat → 0 ≤ (bkR t (limA t 0) g).lo ∧ (bkR t (limA t 0) g).hi ≤ 100 ∧ (bkR t (limA t 0) g).lo ≤ nums.getD g 0 ∧ nums.getD g 0 ≤ (bkR t (limA t 0) g).hi := by
 have hto := T.tal (by omega : (3 : Int) ≤ 5)
 have h0 := hto.err (by omega) (by omega)
 have fine := talErr_fine h0
 have tr := div_tru T (by omega) fine
 have hgt := T.gates
 refine ⟨h0,tr.truth,fun g hg => ?_⟩
 have hb := tr.bk (t.gates.toNat - 1 - g) g (by omega)
 have hb' := hb
 unfold Rng.has at hb'
 obtain ⟨u1,hu1,e1⟩ := ex_of_bk fine tr.truth hg (n := (bkR t (limA t 0) g).lo) ⟨Int.le_refl _,by omega⟩
 obtain ⟨u2,hu2,e2⟩ := ex_of_bk fine tr.truth hg (n := (bkR t (limA t 0) g).hi) ⟨by omega,Int.le_refl _⟩
 have b1 := tru_bd T hu1 g hg
 have b2 := tru_bd T hu2 g hg
 rw [e1] at b1
 rw [e2] at b2
 omega
end
def KeepU (h H : List AObj) : Prop := h.length ≤ H.length ∧ ∀ (i : Nat) c wr sz,h[i]? = some (.cells c wr sz) → H[i]? = some (.cells c wr sz)
theorem KeepU.refl {h : List AObj} : KeepU h h := ⟨Nat.le_refl _,fun _ _ _ _ e => e⟩
theorem KeepU.trans {h1 h2 h3 : List AObj} (a : KeepU h1 h2) (b : KeepU h2 h3) : KeepU h1 h3 := ⟨Nat.le_trans a.1 b.1,fun i c wr sz e => b.2 i c wr sz (a.2 i c wr sz e)⟩
theorem keepU_same {h H : List AObj} (S : SameX [] h H) : KeepU h H := ⟨S.1,fun i c wr sz e => S.get e (by simp)⟩
theorem keepU_unch {h H : List AObj} (S : SameX [] (unch h) H) : KeepU h H := ⟨by have := S.1; rw [unch_len] at this; exact this,fun i c wr sz e => S.get (unch_at e) (by simp)⟩
theorem KeepU.sli {h H : List AObj} (a : KeepU h H) {v : Value} {s n : Nat} {cs : List Value} (hs : Sli h v s n cs) : Sli H v s n cs := by
 obtain ⟨base,c,rfl,hk,hh⟩ := hs
 refine ⟨base,c,rfl,hk,hh.imp id ?_⟩
 rintro ⟨b,o,e,h0⟩
 exact ⟨b,o,e,h0.imp id fun ⟨cs,wr,sz,hb,ht⟩ => ⟨cs,wr,sz,a.2 _ _ _ _ hb,ht⟩⟩
theorem KeepU.own {h H : List AObj} (a : KeepU h H) {s len : Nat} {cs : List Value} {v : Value} {o : Option Nat} (O : OwnX h s cs len v o) : OwnX H s cs len v o := by
 obtain ⟨h1,h2,h3⟩ := O
 refine ⟨h1,h2,h3.imp id ?_⟩
 rintro ⟨i,c,sz,e1,e2,e3,e4⟩
 exact ⟨i,c,sz,e1,e2,a.2 i _ _ _ e3,e4⟩
theorem KeepU.tar {h H : List AObj} (a : KeepU h H) {t : Tarf} {sv pv tv : Value} (ht : TarAt h t sv pv tv) : TarAt H t sv pv tv := ⟨a.sli ht.s,a.sli ht.p,ht.o.imp fun _ O => a.own O⟩
theorem numT {H : List AObj} {v : Value} {xs : List Int} {n : Nat} (hs : Sli H v 1 n (xs.map vint)) {i : Nat} {x : Int} (hi : i < n) (hx : xs[i]? = some x) {K2 : Value → Value → Prop} (hK : ∀ p,K2 p (vint x)) : aIdx 1 v (vint (i : Nat)) fun p => aLoad false 1 p H (K2 p) :=
 idx_load hs ⟨by omega,by omega⟩ (by rw [Int.toNat_natCast,List.getElem?_map,hx]; rfl) hK
structure WD (H : List AObj) (p8 p13 : Nat) (tl : Tal) (cl cn nuv lv : Value) (nums : List Int) (t : Tarf) (sv pv tv : Value) : Prop where
 c8 : H[p8]? = some (.cells (talCells tl cl cn) true 0)
 ta : TalAt H (.agg ⟨talCells tl cl cn⟩) tl cl cn
 nu : Sli H nuv 1 nums.length (nums.map vint)
 c13 : H[p13]? = some (.cells (tarCells t sv pv tv) true 0)
 tt : TarAt H t sv pv tv
 li : SliE H lv 2 Rng.cells (trulyL tl)
theorem WD.keep {H H' : List AObj} {p8 p13 : Nat} {tl : Tal} {cl cn nuv lv : Value} {nums : List Int} {t : Tarf} {sv pv tv : Value} (a : WD H p8 p13 tl cl cn nuv lv nums t sv pv tv) (C : KeepU H H') : WD H' p8 p13 tl cl cn nuv lv nums t sv pv tv :=
 ⟨C.2 _ _ _ _ a.c8,⟨a.ta.val,C.sli a.ta.ch,C.sli a.ta.co⟩,C.sli a.nu,C.2 _ _ _ _ a.c13,C.tar a.tt,C.sli a.li⟩
structure FD (tl : Tal) (nums losses : List Int) (t : Tarf) (g at_ : Nat) (most : Int) : Prop where
 T : TruthOk 3 5 tl nums losses
 ok : TarOk t
 hg : g < tl.gates.toNat
 ha : at_ < t.tolls.length
 hm : 8 ≤ most ∧ most ≤ 40
structure RD (f : RG) (p8 p13 : Nat) (nuv lv : Value) (g at_ : Nat) (most before owed n : Int) : Prop where
 ds : f.ds = []
 r4 : f.r 4 = ptr p8 0
 r5 : f.r 5 = nuv
 r7 : f.r 7 = ptr p13 0
 r8 : f.r 8 = vint (g : Nat)
 r9 : f.r 9 = vint (at_ : Nat)
 r10 : f.r 10 = vint most
 r11 : f.r 11 = lv
 r13 : f.r 13 = vint before
 r14 : f.r 14 = vint owed
 r15 : f.r 15 = vint n
section
variable {W0 : World} {Post : Value → World → Prop} {K : Value → List AObj → Prop} {n0 : Nat} {H : List AObj} {f : RG} {p8 p13 g at_ : Nat} {tl : Tal} {cl cn nuv lv : Value} {nums losses : List Int} {t : Tarf} {sv pv tv : Value} {most : Int}
theorem rngT (A : WD H p8 p13 tl cl cn nuv lv nums t sv pv tv) (hg : g < tl.gates.toNat) : ∃ b,b < H.length ∧ (∃ cs wr sz,H[b]? = some (.cells cs wr sz)) ∧ (∀ {K2 : Value → Value → Value → Prop},(∀ o,K2 (ptr b o) (ptr b (o + 0)) (vint (bkR tl (limA tl 0) g).lo)) → aIdx 2 lv (vint (g : Nat)) fun v1 => aOff v1 0 fun v2 => aLoad false 1 v2 H (K2 v1 v2)) ∧ (∀ {K2 : Value → Value → Value → Prop},(∀ o,K2 (ptr b o) (ptr b (o + 1)) (vint (bkR tl (limA tl 0) g).hi)) → aIdx 2 lv (vint (g : Nat)) fun v1 => aOff v1 1 fun v2 => aLoad false 1 v2 H (K2 v1 v2)) := by
 have hgl : g < (trulyL tl).length := by rw [trulyL_len]; exact hg
 obtain ⟨b,o,cs,wr,sz,hidx,hb,hos,htk,hkn⟩ := sliE_elem (s := 2) (enc := Rng.cells) (fun _ => rfl) (by decide) A.li hgl
 rw [trulyL_get] at htk
 refine ⟨b,lt_of_get hb,⟨_,_,_,hb⟩,fun hK => hidx _ (offI (ldI (v := vint (bkR tl (limA tl 0) g).lo) hb (part_get htk rfl) rfl (hK o))),fun hK => hidx _ (offI (ldI (v := vint (bkR tl (limA tl 0) g).hi) hb (part_get htk rfl) rfl (hK o)))⟩
theorem end3 (F : FD tl nums losses t g at_ most) (A : WD H p8 p13 tl cl cn nuv lv nums t sv pv tv) {low : Value} (r204 : f.r 204 = .bool false) (ds : f.ds = []) (r4 : f.r 4 = ptr p8 0) (r5 : f.r 5 = nuv) (r8 : f.r 8 = vint (g : Nat)) (r13 : f.r 13 = vint (dueR t at_ (bkR tl (limA tl 0) g).hi 0)) (r14 : f.r 14 = vint (dueR t at_ (nums.getD g 0) 0)) (r20 : f.r 20 = low) (hlow : Sli H low 1 t.payers.length ((dueI t at_ (bkR tl (limA tl 0) g).lo).map vint)) (hK : ∀ H',K (.bool true) H') :
  W prog (J1 prog W0 Post) 238 n0 3 (subC [1,1,1,1,1,1,1,1,1,1,1,0,1] (codeOf f3)) f H (contX pl3 prog (J1 prog W0 Post) 238 n0 3 ct3 [1,1,1,1,1,1,1,1,1,1,1,0,1] (codeOf f3) [] (RetQ prog [.tmp 2] n0 K)) := by
 have hJ := J1.closed prog W0 Post
 obtain ⟨h0,hT,hb⟩ := div_rng F.T
 have hbg := hb g F.hg
 have hgt := F.T.gates
 have hnl := F.T.chain.numl
 have hcl := F.T.chl
 have hg := F.hg
 have np := F.ok.np
 rw [s3_4,r204,r13,r14,r20,r4,r5,r8,ds]
 refine cnd_false.2 (load_part (c := talCells tl cl cn) A.c8 (by simp [talCells]) rfl (talAt_kc A.ta) ?_)
 have hget : nums[g]? = some (nums.getD g 0) := by rw [List.getD_eq_getElem?_getD,List.getElem?_eq_getElem (by omega)]; rfl
 refine numT A.nu (by omega) hget fun q => ?_
 have htold : toldP tl (g : Nat) (nums.getD g 0) = (verdict (bkR tl (limA tl 0) g) (nums.getD g 0),0) := by
  unfold toldP
  rw [if_neg (not_not_intro h0),if_neg (by omega),if_neg (by omega),if_neg (not_not_intro hT),Int.toNat_natCast]
 refine good14' hJ A.ta ?_
 rw [htold]
 refine ext0 (ext1 (eqlT rfl (cnd_true.2 (neqI (cndI (fun h1 => ?_) fun h1 => ?_)))))
 ·exact good7 fun H' => retL_same (by simp [unk]) (hK H')
 ·have hv : verdict (bkR tl (limA tl 0) g) (nums.getD g 0) = 1 := Classical.not_not.1 h1
  have he : (bkR tl (limA tl 0) g).lo = (bkR tl (limA tl 0) g).hi := by
   unfold verdict at hv
   rw [if_neg (by omega)] at hv
   split at hv
   ·assumption
   ·cases hv
  have hn : nums.getD g 0 = (bkR tl (limA tl 0) g).lo := by omega
  have g0 := dueI_get F.ok at_ (bkR tl (limA tl 0) g).lo
  refine numT (i := 0) hlow (by omega) g0 fun q1 => eqlT (by rw [he]) (cnd_true.2 (numT (i := 0) hlow (by omega) g0 fun q2 => eqlT (by rw [hn]) (cnd_true.2 ?_)))
  exact good7 fun H' => retL_same (by simp [unk]) (hK H')
def befR (t : Tarf) (at_ : Nat) (lo : Int) (d : Nat) : Int := if d = 0 then 0 else dueR t at_ (lo + d - 1) 0
def oweR (t : Tarf) (at_ : Nat) (lo x : Int) (d : Nat) : Int := if x < lo + d then dueR t at_ x 0 else -1
set_option maxHeartbeats 2000000 in
theorem loop3 (F : FD tl nums losses t g at_ most) (A : WD H p8 p13 tl cl cn nuv lv nums t sv pv tv) (R : RD f p8 p13 nuv lv g at_ most 0 (-1) (bkR tl (limA tl 0) g).lo) (hK : ∀ H',K (.bool true) H') :
  Sem (J1 prog W0 Post) 238 n0 3 (subC [1,1,1,1,1,1,1,1,1,0,1,0] (codeOf f3)) f H (contX pl3 prog (J1 prog W0 Post) 238 n0 3 ct3 [1,1,1,1,1,1,1,1,1,0,1,0] (codeOf f3) [] (RetQ prog [.tmp 2] n0 K)) := by
 have hJ := J1.closed prog W0 Post
 obtain ⟨h0,hT,hbd⟩ := div_rng F.T
 have hbg := hbd g F.hg
 have hgt := F.T.gates
 have hnl := F.T.chain.numl
 have hcl := F.T.chl
 have hg := F.hg
 have np := F.ok.np
 have nt := F.ok.nt
 have ha := F.ha
 have hm := F.hm
 have hget : nums[g]? = some (nums.getD g 0) := by rw [List.getD_eq_getElem?_getD,List.getElem?_eq_getElem (by omega)]; rfl
 generalize hlo : (bkR tl (limA tl 0) g).lo = lo at *
 generalize hhi : (bkR tl (limA tl 0) g).hi = hi at *
 generalize hx : nums.getD g 0 = x at *
 refine l3_2 hJ (fun d : Nat => (hi - lo + 1).toNat - d) (fun d F' H' => (d : Int) ≤ hi - lo + 1 ∧ WD H' p8 p13 tl cl cn nuv lv nums t sv pv tv ∧ RD F' p8 p13 nuv lv g at_ most (befR t at_ lo d) (oweR t at_ lo x d) (lo + d)) ?_ (s := 0)
  (.inl ⟨by omega,A,⟨R.ds,R.r4,R.r5,R.r7,R.r8,R.r9,R.r10,R.r11,R.r13,by rw [R.r14]; unfold oweR; rw [if_neg (by omega)],by rw [R.r15]; simp⟩⟩)
 clear R A
 rintro d F' H' ⟨hd,A,⟨ds,r4,r5,r7,r8,r9,r10,r11,r13,r14,r15⟩⟩ okc hnc
 have hgA := rngT A hg
 rw [hlo,hhi] at hgA
 obtain ⟨bl,hbl,hbc,glo,ghi⟩ := hgA
 have lp13 := lt_of_get A.c13
 have hnn : (0 : Int) ≤ lo + d := by omega
 rw [s3_2,r7,r8,r9,r10,r11,r15]
 refine ghi fun o => leqI (cndI (fun hle => ?_) fun hgt' => ?_)
 ·refine ⟨[p13],load_part (c := tarCells t sv pv tv) A.c13 (by simp [tarCells]) rfl A.tt.kn ⟨by simp [RdOk,ptrBlk],?_⟩⟩
  refine good12 hJ (n := lo + d) (most := 40) (toll := at_) (by omega) (by omega) fun H1 v1 ns1 S1 sl1 sum1 in1 len1 => ⟨sbT S1 lp13 (by simp),?_⟩
  have A1 := A.keep (keepU_same S1)
  refine good11 A1.tt F.ok ha sl1 len1 in1 fun H2 w1 S2 sw1 => ext0 (ext1 ?_)
  rw [sum1,dueL_eq] at sw1
  have C2 := keepU_unch S2
  have A2 := A1.keep C2
  have lp2 := lt_of_get A2.c13
  refine ⟨[p13],load_part (c := tarCells t sv pv tv) A2.c13 (by simp [tarCells]) rfl A2.tt.kn ⟨by simp [RdOk,ptrBlk],?_⟩⟩
  refine good12 hJ (n := lo + d) (most := most) (toll := at_) (by omega) hm fun H3 v3 ns3 S3 sl3 sum3 in3 len3 => ⟨sbT S3 lp2 (by simp),?_⟩
  have A3 := A2.keep (keepU_same S3)
  refine good11 A3.tt F.ok ha sl3 len3 in3 fun H4 w2 S4 sw2 => ext0 (ext1 ?_)
  rw [sum3,dueL_eq] at sw2
  have C4 := keepU_unch S4
  have A4 := A3.keep C4
  have sw1' := C4.sli ((keepU_same S3).sli sw1)
  have kp := sli_one A4.tt.p
  have kt := sli_one A4.tt.t
  refine neqF rfl (cnd_false.2 (neqF rfl (cnd_false.2 ?_)))
  refine lenI sw1' (offI (ldI (v := pv) A4.c13 rfl kp.2.2 ?_))
  rw [sliE_len A4.tt.p]
  have hdl := dueI_len t at_ (lo + d)
  refine neqF rfl (cnd_false.2 (good13 hJ (xs := dueI t at_ (lo + d)) (ys := dueI t at_ (lo + d)) (by rw [hdl]; exact sw1') (by rw [hdl]; exact sw2) (by omega) ?_))
  rw [decide_eq_true rfl]
  refine notI (hold.2 ?_)
  have g0 := dueI_get F.ok at_ (lo + d)
  have hgA4 := rngT A4 hg
  rw [hlo,hhi] at hgA4
  obtain ⟨_,_,_,glo4,_⟩ := hgA4
  -- behind the comparison with the number before
  have next : ∀ {F2 : RG} (nx0 : RG → List AObj → Prop),F2.ds = [] → F2.r 4 = ptr p8 0 → F2.r 5 = nuv → F2.r 7 = ptr p13 0 → F2.r 8 = vint (g : Nat) → F2.r 9 = vint (at_ : Nat) → F2.r 10 = vint most → F2.r 11 = lv → F2.r 14 = vint (oweR t at_ lo x d) → F2.r 15 = vint (lo + d) → F2.r 16 = w1 → F2.r 158 = .bool false →
    (∀ F3,RD F3 p8 p13 nuv lv g at_ most (befR t at_ lo (d + 1)) (oweR t at_ lo x (d + 1)) (lo + (d + 1 : Nat)) → nx0 F3 H4) →
    W prog (J1 prog W0 Post) 238 n0 3 (subC [1,1,1,1,1,1,1,1,1,0,1,0,0,1,0,0,1,1,1,0,1] (codeOf f3)) F2 H4 (contX pl3 prog (J1 prog W0 Post) 238 n0 3 ct3 [1,1,1,1,1,1,1,1,1,0,1,0,0,1,0,0,1,1,1,0,1] (codeOf f3) [nx0] (RetQ prog [.tmp 2] n0 K)) := by
   intro F2 nx0 ds r4 r5 r7 r8 r9 r10 r11 r14 r15 r16 r158 hnx
   rw [s3_5,r158]
   refine cnd_false.2 ?_
   rw [r16,r5,r8,r15]
   have hbef : befR t at_ lo (d + 1) = dueR t at_ (lo + d) 0 := by
    unfold befR
    rw [if_neg (by omega)]
    congr 1
    omega
   refine numT (i := 0) sw1' (by omega) g0 fun q1 => numT A4.nu (by omega) hget fun q2 => eqlI (cndI (fun heq => ?_) fun hne => ?_)
   ·refine numT (i := 0) sw1' (by omega) g0 fun q3 => addI (by omega) (hnx _ ⟨ds,r4,r5,r7,r8,r9,r10,r11,?_,?_,?_⟩)
    ·rw [hbef]; rfl
    ·show vint _ = vint _
     unfold oweR
     rw [if_pos (by omega),heq]
    ·show vint _ = vint _
     congr 1
     omega
   ·refine addI (by omega) (hnx _ ⟨ds,r4,r5,r7,r8,r9,r10,r11,?_,?_,?_⟩)
    ·rw [hbef]; rfl
    ·show F2.r 14 = _
     rw [r14]
     unfold oweR
     by_cases h : x < lo + d
     ·rw [if_pos h,if_pos (by omega)]
     ·rw [if_neg h,if_neg (by omega)]
    ·show vint _ = vint _
     congr 1
     omega
  have fin : ∀ F3,RD F3 p8 p13 nuv lv g at_ most (befR t at_ lo (d + 1)) (oweR t at_ lo x (d + 1)) (lo + (d + 1 : Nat)) → Nx n0 (fun d : Nat => (hi - lo + 1).toNat - d) (fun d F' H' => (d : Int) ≤ hi - lo + 1 ∧ WD H' p8 p13 tl cl cn nuv lv nums t sv pv tv ∧ RD F' p8 p13 nuv lv g at_ most (befR t at_ lo d) (oweR t at_ lo x d) (lo + d)) d F3 H4 := fun F3 R3 =>
   ⟨d + 1,by dsimp only; omega,.inl ⟨by omega,A4,R3⟩⟩
  rw [s3_3]
  refine cnd_false.2 ?_
  show aIdx 2 (F'.r 11) (F'.r 8) _
  rw [r11,r8]
  refine glo4 fun o2 => ?_
  show aBin prog .gtr _ (F'.r 15) _ _
  rw [r15]
  refine gtrI (cndI (fun hgt2 => ?_) fun hle2 => ?_)
  ·have hb0 : befR t at_ lo d = dueR t at_ (lo + d - 1) 0 := by
    unfold befR
    rw [if_neg (by omega)]
   have hst := due_step F.ok ha (n := lo + d - 1) (by omega)
   rw [show lo + d - 1 + 1 = lo + d by omega] at hst
   refine numT (i := 0) sw1' (by omega) g0 fun q1 => ?_
   show aBin prog .lss _ _ (F'.r 13) _
   rw [r13,hb0]
   refine lssF (by omega) (cnd_false.2 (numT (i := 0) sw1' (by omega) g0 fun q2 => ?_))
   show aOff (F'.r 7) _ _
   rw [r7]
   refine offI (ldI (v := tv) A4.c13 rfl kt.2.2 ?_)
   obtain ⟨bt,ob,cs,wr,sz,hidx,hb,hosb,htk,hkn⟩ := sliE_elem (s := 3) (enc := Toll.cells) (fun _ => rfl) (by decide) A4.tt.t ha
   show aIdx 3 tv (F'.r 9) _
   rw [r9]
   refine hidx _ (offI (ldI (v := vint t.tolls[at_].rate) hb (part_get htk rfl) rfl ?_))
   have hr := (F.ok.tolls _ (List.getElem_mem ha)).rate
   have er : rateR t at_ = t.tolls[at_].rate := by unfold rateR; rw [List.getD_eq_getElem?_getD,List.getElem?_eq_getElem ha]; rfl
   rw [er] at hst
   have bd := duePR_bd F.ok ha (N := lo + d - 1) (by omega) 0
   have bd2 : 0 ≤ dueR t at_ (lo + d - 1) 0 ∧ dueR t at_ (lo + d - 1) 0 ≤ 1000000 := by unfold dueR; omega
   show aBin prog .add _ (F'.r 13) _ _
   rw [r13,hb0]
   refine addI (by omega) (gtrF (by omega) (hold.2 ?_))
   exact next _ (by exact ds) (by exact r4) (by exact r5) (by exact r7) (by exact r8) (by exact r9) (by exact r10) (by exact r11) (by exact r14) (by exact r15) (by rfl) (by rfl) fin
  ·refine hold.2 ?_
   exact next _ (by exact ds) (by exact r4) (by exact r5) (by exact r7) (by exact r8) (by exact r9) (by exact r10) (by exact r11) (by exact r14) (by exact r15) (by rfl) (by rfl) fin
 ·have hde : (d : Int) = hi - lo + 1 := by omega
  have hbef : befR t at_ lo d = dueR t at_ hi 0 := by
   unfold befR
   rw [if_neg (by omega)]
   congr 1
   omega
  have howe : oweR t at_ lo x d = dueR t at_ x 0 := by
   unfold oweR
   rw [if_pos (by omega)]
  rw [hbef] at r13
  rw [howe] at r14
  refine ⟨[p13,bl],load_part (c := tarCells t sv pv tv) A.c13 (by simp [tarCells]) rfl A.tt.kn ⟨by simp [RdOk,ptrBlk],?_⟩⟩
  refine glo fun o2 => ⟨by simp [RdOk,ptrBlk],?_⟩
  refine good12 hJ (n := lo) (most := 40) (toll := at_) (by omega) (by omega) fun H1 v1 ns1 S1 sl1 sum1 in1 len1 => ?_
  obtain ⟨cs,wr,sz,hbc⟩ := hbc
  have C1 := keepU_same S1
  have sb : ∀ {H2 : List AObj},KeepU H' H2 → SameB (some [p13,bl]) H' H2 := fun C y hy => by
   simp at hy
   rcases hy with rfl | rfl
   ·rw [A.c13,C.2 _ _ _ _ A.c13]
   ·rw [hbc,C.2 _ _ _ _ hbc]
  refine ⟨sb C1,?_⟩
  have A1 := A.keep C1
  refine good11 A1.tt F.ok ha sl1 len1 in1 fun H2 w1 S2 sw1 => ?_
  rw [sum1,dueL_eq] at sw1
  have C2 := C1.trans (keepU_unch S2)
  have A2 := A.keep C2
  have kp := sli_one A2.tt.p
  refine ⟨sb C2,ext0 (ext1 (neqF rfl (cnd_false.2 ?_)))⟩
  refine lenI sw1 (offI (ldI (v := pv) A2.c13 rfl kp.2.2 ?_))
  rw [sliE_len A2.tt.p]
  have g0 := dueI_get F.ok at_ lo
  have m1 := due_mono F.ok ha (n := lo) (by omega) (x - lo).toNat
  have m2 := due_mono F.ok ha (n := x) (by omega) (hi - x).toNat
  rw [show lo + (((x - lo).toNat : Nat) : Int) = x by omega] at m1
  rw [show x + (((hi - x).toNat : Nat) : Int) = hi by omega] at m2
  refine neqF rfl (cnd_false.2 (numT (i := 0) sw1 (by omega) g0 fun q1 => ?_))
  rw [r13,r14]
  refine lssF (by omega) (cnd_false.2 (gtrF (by omega) (hold.2 ?_)))
  refine end3 F A2 (low := w1) (by rfl) (by exact ds) (by exact r4) (by exact r5) (by exact r8) ?_ ?_ (by rfl) (by rw [hlo]; exact sw1) hK
  ·rw [hhi]
   exact r13
  ·rw [hx]
   exact r14
end
section
variable {main : Bool} {J : JT} {h H : List AObj} {K : Value → List AObj → Prop} {ns : List Int} {k : Nat}
def OwnB (hl : Nat) (H : List AObj) (s : Nat) (cs : List Value) (len : Nat) (v : Value) : Prop := ∃ o,OwnX H s cs len v o ∧ ∀ i,o = some i → hl < i
theorem OwnB.hand {hl : Nat} {H H' : List AObj} {s : Nat} {cs : List Value} {len : Nat} {v : Value} (a : OwnB hl H s cs len v) (S : SameX [hl] H H') : OwnB hl H' s cs len v :=
 a.imp fun o ⟨O,hi⟩ => ⟨ownX_keep O S fun i e => by have := hi i e; simp; omega,hi⟩
theorem OwnB.same {hl : Nat} {H H' : List AObj} {s : Nat} {cs : List Value} {len : Nat} {v : Value} (a : OwnB hl H s cs len v) (S : SameX [] H H') : OwnB hl H' s cs len v :=
 a.imp fun o ⟨O,hi⟩ => ⟨ownX_keep O S (by simp),hi⟩
theorem OwnB.sli {hl : Nat} {H : List AObj} {s : Nat} {cs : List Value} {len : Nat} {v : Value} (a : OwnB hl H s cs len v) : Sli H v s len cs := a.elim fun _ O => ownX_sli O.1
theorem ownB_of {nv : Value} {k' : Nat} {s' : Int} {rest g : List AObj} {s len : Nat} {cs : List Value} {v : Value} {o : Option Nat} (O : OwnE (h.length + 1 + rest.length) g s cs len v o) : OwnB h.length (HF h nv k' s' rest ++ g) s cs len v := by
 obtain ⟨h1,h2,⟨a,b,rfl⟩ | ⟨i,c,sz,rfl,rfl,h5,h6⟩⟩ := O
 ·exact ⟨none,⟨h1,h2,.inl ⟨a,b,rfl⟩⟩,by simp⟩
 ·refine ⟨some (h.length + 1 + rest.length + i),⟨h1,h2,.inr ⟨_,c,sz,rfl,rfl,by rw [ng]; exact h5,h6⟩⟩,?_⟩
  intro j hj
  cases hj
  omega
theorem truY (hJ : Closed prog main J) (a : HX h H ns k) (hk : k < 50000)
  (hK : ∀ t nums losses cv co nuv lov H',TruthOk 3 5 t nums losses → SameX [h.length] H H' → HX h H' ns (k + 120) → OwnB h.length H' 2 (t.changes.flatMap Rng.cells) t.changes.length cv → OwnB h.length H' 4 (t.counts.flatMap Cnt.cells) t.counts.length co → OwnB h.length H' 1 (nums.map vint) nums.length nuv → K (.tuple ⟨[.agg ⟨talCells t cv co⟩,nuv,lov]⟩) H') : Good prog J 5 [ptr h.length 0,vint 3,vint 5] H K := by
 obtain ⟨nv,k1,s,rest,rfl,b1,b2,b3⟩ := a
 refine good5 hJ b3 b2 (by omega) (by omega) (by omega) fun t nums losses cv co nuv lov o1 o2 o3 o4 g k' s' T O1 O2 O3 O4 _ hk' hs' => hK t nums losses cv co nuv lov _ T hf_same ⟨nv,k',s',rest ++ g,by rw [hf_app],by omega,hs',b3⟩ (ownB_of O1) (ownB_of O2) (ownB_of O3)
end
section
variable {W0 : World} {Post : Value → World → Prop} {h : List AObj} {K : Value → List AObj → Prop}
set_option maxHeartbeats 2000000 in
theorem walk3 {nv : Value} {ns : List Int} (sn : Sli h nv 1 ns.length (ns.map vint)) (hln : ns.length < 4611686018427387904) (hK : ∀ H',K (.bool true) H') :
  W prog (J1 prog W0 Post) 238 h.length 3 (codeOf f3) (RG.mk (regs [nv]) []) h (RetQ prog [.tmp 2] h.length K) := by
 have hJ := J1.closed prog W0 Post
 rw [e3]
 refine newX hJ sn hln fun H1 a1 => ?_
 refine truY hJ a1 (by omega) fun tl nums losses cl cn nuv lov H2 T S2 x2 oc on onu => ext30 (ext31 (ext32 ?_))
 have h2 := x2.lt
 have ta2 : TalAt H2 (.agg ⟨talCells tl cl cn⟩) tl cl cn := ⟨rfl,oc.sli,on.sli⟩
 refine qAl fun H3 p8 e3 S3 c3 l3 => qStA (c := talCells tl cl cn) c3 rfl rfl (tal_one ta2) fun H4 S4 c4 l4 => ?_
 have x4 := (x2.same S3 (by simp)).same S4 (by simp; omega)
 have T4 : SameX [] H2 H4 := S3.thru S4 (by simp; omega)
 refine good6 hJ x4 (by omega) fun t sv pv tv H5 ok np3 S5 x5 ttX => ?_
 have tt5 := ttX H5 SameX.refl
 have h5 := x5.lt
 refine qAl fun H6 p13 e6 S6 c6 l6 => qStA (c := tarCells t sv pv tv) c6 rfl rfl tt5.one fun H7 S7 c7 l7 => ?_
 have x7 := (x5.same S6 (by simp)).same S7 (by simp; omega)
 have T7 : SameX [] H5 H7 := S6.thru S7 (by simp; omega)
 have h3 := S3.1
 have tt7 := tt5.same T7 (by simp)
 have h4 : h.length < p8 := by omega
 have c4' := T7.get (S5.get c4 (by simp; omega)) (by simp)
 have oc7 := ((oc.same T4).hand S5).same T7
 have on7 := ((on.same T4).hand S5).same T7
 have onu7 := ((onu.same T4).hand S5).same T7
 have kt := sli_one tt7.t
 have nt := ok.nt
 have hgt := T.gates
 refine offI (ldI (v := tv) c7 rfl kt.2.2 ?_)
 rw [sliE_len tt7.t]
 refine eqlI (cndI (fun hz => good7 fun H' => retL_same (by simp [unk]) (hK H')) fun hnz => ?_)
 have h6 := S6.1
 have p13n : h.length < p13 := by omega
 have l8 := lt_of_get c4'
 have l13 := lt_of_get c7
 have sb : ∀ {X : List Nat} {H' : List AObj},SameX X H7 H' → p8 ∉ X → p13 ∉ X → SameB (some [p8,p13]) H7 H' := fun S a b y hy => by
  simp at hy
  rcases hy with rfl | rfl
  ·exact S.2 _ l8 a
  ·exact S.2 _ l13 b
 have nh : p8 ∉ [h.length] ∧ p13 ∉ [h.length] := by simp; omega
 have mb : mapBlk tv = none := by
  obtain ⟨o,O⟩ := tt7.o
  obtain ⟨_,_,⟨_,rfl,_⟩ | ⟨_,_,_,_,rfl,_⟩⟩ := O <;> rfl
 refine ⟨[p8,p13],offI (ldI (v := vint tl.gates) c4' rfl rfl ⟨by simp [RdOk,ptrBlk],subI (by omega) (offI (ldI (v := tv) c7 rfl kt.2.2 ⟨by simp [RdOk,ptrBlk],?_⟩))⟩)⟩
 rw [sliE_len tt7.t,mb]
 refine ⟨trivial,subI (by omega) ?_⟩
 refine upX hJ x7 (by omega) (by omega) fun g0 H8 ga gb S8 _ x8 => ⟨sb S8 nh.1 nh.2,?_⟩
 obtain ⟨g,rfl⟩ := Int.eq_ofNat_of_zero_le ga
 refine upX hJ x8 (by omega) (by omega) fun a0 H9 aa ab S9 _ x9 => ⟨sb (S8.trans S9) nh.1 nh.2,?_⟩
 obtain ⟨at_,rfl⟩ := Int.eq_ofNat_of_zero_le aa
 refine amX hJ x9 (by omega) (by omega) (by omega) fun most HA ma mb2 SA _ xA => ⟨sb ((S8.trans S9).trans SA) nh.1 nh.2,?_⟩
 have TA : SameX [h.length] H7 HA := (S8.trans S9).trans SA
 have ocA := oc7.hand TA
 have onA := on7.hand TA
 have onuA := onu7.hand TA
 have c8A := TA.get c4' nh.1
 have c13A := TA.get c7 nh.2
 have taA : TalAt HA (.agg ⟨talCells tl cl cn⟩) tl cl cn := ⟨rfl,ocA.sli,onA.sli⟩
 have ttA := ttX HA ((S6.weak0.thru S7 (by simp; omega)).trans TA)
 have ha : at_ < t.tolls.length := by omega
 have hg : g < tl.gates.toNat := by omega
 obtain ⟨h0,hT,hbd⟩ := div_rng T
 have hbg := hbd g hg
 have hE : trulyE tl = 0 := by unfold trulyE; rw [if_neg (not_not_intro h0),if_neg (not_not_intro hT)]
 have hO : trulyO tl = trulyL tl := by unfold trulyO; rw [if_neg (not_not_intro h0),if_neg (not_not_intro hT)]
 refine load_part (c := talCells tl cl cn) c8A (by simp [talCells]) rfl (talAt_kc taA) ?_
 refine good10' hJ taA fun lv HB SB hl => ext0 (ext1 ?_)
 rw [hE]
 rw [hO] at hl
 have F : FD tl nums losses t g at_ most := ⟨T,ok,hg,ha,by omega⟩
 have A : WD HB p8 p13 tl cl cn nuv lv nums t sv pv tv := ⟨SB.get c8A (by simp),⟨rfl,SB.sli ocA.sli (by simp),SB.sli onA.sli (by simp)⟩,SB.sli onuA.sli (by simp),SB.get c13A (by simp),ttA.same SB (by simp),hl⟩
 refine neqF rfl (cnd_false.2 ?_)
 rw [sliE_len hl,trulyL_len]
 refine offI (ldI (v := vint tl.gates) A.c8 rfl rfl (neqF (by omega) (cnd_false.2 ?_)))
 obtain ⟨bl,hbl,hbc,glo,ghi⟩ := rngT A hg
 refine glo fun o1 => lssF (by omega) (cnd_false.2 (ghi fun o2 => gtrF (by omega) (hold.2 ?_)))
 rw [s3_1]
 refine cnd_false.2 ?_
 refine glo fun o3 => ?_
 exact loop3 F A (by exact ⟨rfl,rfl,rfl,rfl,rfl,rfl,rfl,rfl,rfl,rfl,rfl⟩) hK
end
end Go.Proofs.Ytfljbanjmplcfaa
namespace Go.Proofs.Ytfljbanjmplcfaa
open Go.Conc Go.ChangeShapes Go.WideShapes Go.ChangeAt Go.RowKit Go.Proofs.Try
set_option maxRecDepth 100000
theorem lifted3 (os : Os) (started : os.Started) (H : Type) (enc : TypeId × Value → H) :
  ReturnsInLeavingWide {} checked os 3 .any (Rows.topDividedSpec.pre6 enc prog f3 Rows.topDividedRow.domain false) (Rows.topDividedSpec.post enc prog f3 false true false false) := by
 refine returnsInLeavingWide_of_change_sized (C := checked) own started at3
  (ChangeSpec.witness6 (enc := enc) (C := checked) false ⟨#[],#[.slice none 0 0],[]⟩ 8 (by kernel_rfl) (by kernel_rfl) (by kernel_rfl) (by kernel_rfl)) ?_
 intro W base args ds gs before hval0 hW _ hsz0 _
 have hsz : (DataW.weightsEach prog (f3.params.toList ++ Rows.topDividedSpec.plain.varTypes prog) (ds ++ gs)).all (· ≤ reachBytes) = true := hsz0
 clear hsz0
 have hval : ∀ (j : Nat) t v,f3.params[j]? = some t → args[j]? = some v → Value.okWide prog W .any base t v := hval0
 have hW' := hW
 obtain ⟨p,q,hA0,hV,rfl,_,_⟩ := hW
 have hA : DataW.TrodAll enc prog W 0 (fun _ => true) true f3.params.toList args.toList ds p := hA0
 have hps : f3.params = #[22] := by kernel_rfl
 rw [hps] at hA hval hsz
 obtain ⟨v0,d0,rfl,rfl,h0⟩ := trodAll_one hA
 obtain ⟨rfl,rfl⟩ := trodVars_none hV
 have u3 : prog.underlying 3 = some (.int .i64) := by kernel_rfl
 have u22 : prog.underlying 22 = some (.slice 3) := by kernel_rfl
 have u4 : prog.underlying 4 = some .bool := by kernel_rfl
 have c3 : prog.cellsOf 3 = 1 := by kernel_rfl
 have b3 : prog.bytesOf 3 = 8 := by kernel_rfl
 have hlt : ∀ x ∈ p,x.block < W.heap.size := fun x hx => by simpa using hW'.lt x (by simpa using hx)
 have hargs : ∀ (W' : World),Below W.heap.size W W' → DataW.TrodAll enc prog W' 0 (fun b => decide (b < W.heap.size)) true [22] [v0] [d0] p := fun W' hn =>
  trodAll_mk1 (Below.trod laidOut (by kernel_rfl) (of_decide_eq_true (by kernel_rfl)) h0 hn hlt)
 obtain ⟨ns,sn,ok2,hbig⟩ := arg_ints u22 u3 c3 (hval 0 22 v0 rfl rfl) h0
 have hln : ns.length < 4611686018427387904 := by
  rcases hbig with rfl | ⟨es,sp,rfl,hle⟩
  ·simp
  ·have := sized_slice hsz (j := 0) (t := 22) (e := 3) rfl rfl u22
   rw [b3] at this
   simp only [reachBytes] at this
   omega
 obtain ⟨M,last,o,w',t',r1,r2,r3,r4⟩ := law_run1 (g := 3) (fn := f3) at3 body3 (by kernel_rfl) W [v0] (Nat.le_of_ble_eq_true (by kernel_rfl : Nat.ble 1 f3.ntmps = true))
  (by
   intro v hv
   simp only [List.mem_cons,List.not_mem_nil,or_false] at hv
   subst hv
   exact ok2)
  (fun Post => walk3 (K := fun v _ => v = .bool true) sn hln fun _ => rfl)
 refine ⟨M,last,o,w',t',r1,r2,r3,r4.mono fun v hF => ?_⟩
 obtain ⟨rfl,hbelow⟩ := hF
 refine ⟨_,_,_,[],_,[],hW',?_,hargs _ hbelow,by rfl,hbelow.frame _,fun h => by cases h⟩
 exact trodAll_mk1 (shut_bool u4 true)
theorem topDivided_holds : Rows.TopDividedSaid :=
 OpenClaim.holds_of_wide_leaving 3 f3 rfl rfl rfl rfl rfl rfl rfl ⟨rfl,rfl,rfl,rfl,rfl⟩ rfl rfl rfl rfl rfl (by kernel_rfl) at3 (by kernel_rfl)
  (of_decide_eq_true (by kernel_rfl)) (by unfold Func.isWrapper; first | (rw [if_pos (by decide +kernel)]; kernel_rfl) | (rw [if_neg (by decide +kernel)]; exact ⟨rfl,rfl⟩))
  (fun os started H enc _ => lifted3 os started H enc)
#print axioms topDivided_holds
end Go.Proofs.Ytfljbanjmplcfaa
