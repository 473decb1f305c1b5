/- TopTurns answers true at every input, and its argument reads behind the call as it read before. No conditions. -/
import Derived.Test.YteoenhhmcpipoaaK6
import Derived.Test.YteoenhhmcpipoaaK2
import Derived.Test.YteoenhhmcpipoaaK3
import Derived.Test.YteoenhhmcpipoaaK5
namespace Go.Proofs.Yteoenhhmcpipoaa
open Go.Conc Go.Proofs.Try
set_option maxRecDepth 100000
def lvF (w : Wel) : Nat → Int
 | 0 => w.now
 | k + 1 => min w.holds (lvF w k + w.fill)
def lvS (w : Wel) (m : Int) (fr : Nat) : Nat → Int
 | 0 => lvF w fr
 | k + 1 => min w.holds (lvS w m fr k - m + w.fill)
def watB (w : Wel) (m : Int) (fr dy : Nat) : Bool := (List.range dy).all fun k => decide (m ≤ lvS w m fr k)
def bearE (w : Wel) (p : Pas) (s : SkyR) (fr dy : Int) : Int := if welE w ≠ 0 then welE w else headE p s fr dy
def bearN (w : Wel) (p : Pas) (s : SkyR) (fr dy : Int) : Int := if bearE w p s fr dy = 0 then min (headN p s fr dy) (topH (fun m => watB w m fr.toNat dy.toNat) 40) else 0
theorem welE_zero {w : Wel} (h : welE w = 0) : (1 ≤ w.holds ∧ w.holds ≤ 40) ∧ (0 ≤ w.now ∧ w.now ≤ w.holds) ∧ (0 ≤ w.fill ∧ w.fill ≤ 20) := by
 unfold welE at h
 split at h
 ·assumption
 ·cases h
section
variable {w : Wel} {m : Int} {fr dy : Nat}
theorem lvF_bd (h : welE w = 0) : ∀ k,0 ≤ lvF w k ∧ lvF w k ≤ w.holds
 | 0 => (welE_zero h).2.1
 | k + 1 => by
  have := lvF_bd h k
  obtain ⟨a,b,c⟩ := welE_zero h
  unfold lvF
  omega
theorem lvS_bd (h : welE w = 0) (hm : 0 ≤ m ∧ m ≤ 40) : ∀ k : Nat,-400 * (k : Int) ≤ lvS w m fr k ∧ lvS w m fr k ≤ w.holds
 | 0 => by
  have := lvF_bd h fr
  unfold lvS
  omega
 | k + 1 => by
  have := lvS_bd h hm k
  obtain ⟨a,b,c⟩ := welE_zero h
  unfold lvS
  omega
theorem watB_zero (h : welE w = 0) : watB w 0 fr dy = true := by
 unfold watB
 rw [List.all_eq_true]
 intro k hk
 clear hk
 refine decide_eq_true ?_
 obtain ⟨a,b,c⟩ := welE_zero h
 induction k with
 | zero => exact (lvF_bd h fr).1
 | succ k ih =>
  unfold lvS
  omega
theorem watB_yes (h : ∀ k,k < dy → m ≤ lvS w m fr k) : watB w m fr dy = true := by
 unfold watB
 rw [List.all_eq_true]
 exact fun k hk => decide_eq_true (h k (List.mem_range.1 hk))
theorem watB_no {k : Nat} (hk : k < dy) (h : ¬ m ≤ lvS w m fr k) : watB w m fr dy = false := by
 unfold watB
 rw [List.all_eq_false]
 exact ⟨k,List.mem_range.2 hk,by rw [decide_eq_false h]; decide⟩
theorem topW_bd {q : Int → Bool} : ∀ {N : Nat},0 ≤ topH q N ∧ topH q N ≤ N
 | 0 => ⟨Int.le_refl _,Int.le_refl _⟩
 | N + 1 => by
  have := topW_bd (q := q) (N := N)
  unfold topH
  split <;> omega
theorem topW_is {q : Int → Bool} (h0 : q 0 = true) : ∀ {N : Nat},q (topH q N) = true ∧ ∀ k : Nat,topH q N < k → k ≤ N → q k = false
 | 0 => ⟨h0,fun k h1 h2 => by
   have h1 : (0 : Int) < k := h1
   omega⟩
 | N + 1 => by
  unfold topH
  by_cases h : q ((N + 1 : Nat) : Int) = true
  ·rw [if_pos h]
   exact ⟨h,fun k h1 h2 => by omega⟩
  ·rw [if_neg h]
   obtain ⟨a,b⟩ := topW_is (q := q) h0 (N := N)
   refine ⟨a,fun k h1 h2 => ?_⟩
   by_cases e : k = N + 1
   ·rw [e]
    simpa using h
   ·exact b k h1 (by omega)
theorem least_top {q : Int → Bool} (h0 : q 0 = true) : leastR (fun n => q (40 - n)) 0 40 = some (40 - topH q 40) := by
 obtain ⟨a,b⟩ := topW_is (q := q) h0 (N := 40)
 have bd := topW_bd (q := q) (N := 40)
 refine leastR_some (by omega) (by omega) (by rw [show (40 : Int) - (40 - topH q 40) = topH q 40 by omega]; exact a) fun j h1 h2 => ?_
 obtain ⟨t,ht⟩ := Int.eq_ofNat_of_zero_le (by omega : (0 : Int) ≤ 40 - j)
 rw [ht]
 exact b t (by omega) (by omega)
end
section
variable {main : Bool} {J : JT} {h H : List AObj} {K : Value → List AObj → Prop} {KV : Value → Prop} {HL : List AObj → Prop} {n0 : Nat}
theorem good21 (hJ : Closed prog main J) {w : Wel} {n : Int} {fr dy pb pd : Nat} (hw : welE w = 0) (hn : 0 ≤ n ∧ n ≤ 40) (hd : dy ≤ 100) (cb : H[pb]? = some (.cells ({ w with now := lvF w fr } : Wel).cells true 0)) (cd : H[pd]? = some (.cells [vint (dy : Nat)] true 0))
  (hK : ∀ H',SameX [] H H' → K (.bool (watB w (40 - n) fr dy)) H') : Good prog J 21 [vint n,ptr pb 0,ptr pd 0] H K := by
 refine g21 hJ fun ok => ?_
 rw [e21]
 obtain ⟨w1,w2,w3⟩ := welE_zero hw
 refine load_part (c := ({ w with now := lvF w fr } : Wel).cells) cb (by simp [Wel.cells]) rfl rfl ?_
 refine qAl fun H1 p5 e1 S1 c1 l1 => qStA (c := ({ w with now := lvS w (40 - n) fr 0 } : Wel).cells) c1 rfl rfl rfl fun H2 S2 c2 l2 => ?_
 have T2 : SameX [] H H2 := S1.thru S2 (by simp; omega)
 refine ldI (v := vint (dy : Nat)) (T2.get cd (by simp)) rfl rfl ?_
 refine l21_1 hJ (fun k : Nat => dy - k) (fun k F H' => k ≤ dy ∧ SameX [] H H' ∧ H'[p5]? = some (.cells ({ w with now := lvS w (40 - n) fr k } : Wel).cells true 0) ∧ (∀ j,j < k → 40 - n ≤ lvS w (40 - n) fr j) ∧ F.ds = [] ∧ F.r 0 = vint n ∧ F.r 5 = ptr p5 0 ∧ F.r 8 = vint (dy : Nat) ∧ F.r 9 = vint (k : Nat)) ?_ (s := 0)
  (.inl ⟨by omega,T2,c2,fun j hj => absurd hj (Nat.not_lt_zero _),rfl,rfl,rfl,rfl,rfl⟩)
 rintro k F H' ⟨hk,S,cx,hno,ds,r0,r5,r8,r9⟩ okc hnc
 rw [s21_1,r0,r5,r8,r9,ds]
 refine lssI (cndI (fun hlt => ?_) fun hge => ?_)
 rotate_left
 ·have : k = dy := by omega
  subst this
  have := hK H' S
  rw [watB_yes hno] at this
  exact retL_same (by simp [unk]) this
 have hkd : k < dy := by omega
 have hb := lvS_bd (fr := fr) (m := 40 - n) hw (by omega) k
 have hsm : ({ w with now := lvS w (40 - n) fr k } : Wel).sm := ⟨by show -1000000 ≤ lvS w (40 - n) fr k ∧ lvS w (40 - n) fr k ≤ 1000000; omega,by show -1000000 ≤ w.holds ∧ w.holds ≤ 1000000; omega,by show -1000000 ≤ w.fill ∧ w.fill ≤ 1000000; omega⟩
 refine load_part (c := ({ w with now := lvS w (40 - n) fr k } : Wel).cells) cx (by simp [Wel.cells]) rfl rfl (subI (by omega) ?_)
 refine good22 hJ (w := { w with now := lvS w (40 - n) fr k }) hsm (by omega) (ext0 (ext1 ?_))
 refine qStA (c := (({ w with now := lvS w (40 - n) fr k } : Wel).drunk (40 - n)).cells) cx rfl rfl rfl fun H3 S3 c3 l3 => ?_
 show cnd (.bool (decide (lvS w (40 - n) fr k < 40 - n))) _ _
 refine cndI (fun hdry => ?_) fun hwet => ?_
 ·have := hK H3 (S.thru S3 (by simp; omega))
  rw [watB_no hkd (by omega)] at this
  exact retL_same (by simp [unk]) this
 ·have e1 : (({ w with now := lvS w (40 - n) fr k } : Wel).drunk (40 - n)).filled = { w with now := lvS w (40 - n) fr (k + 1) } := by
   unfold Wel.drunk Wel.filled
   simp only [Wel.mk.injEq,and_true]
   show min w.holds (lvS w (40 - n) fr k - min (lvS w (40 - n) fr k) (40 - n) + w.fill) = min w.holds (lvS w (40 - n) fr k - (40 - n) + w.fill)
   omega
  refine load_part (c := (({ w with now := lvS w (40 - n) fr k } : Wel).drunk (40 - n)).cells) c3 (by simp [Wel.cells]) rfl rfl ?_
  refine good19 hJ (w := ({ w with now := lvS w (40 - n) fr k } : Wel).drunk (40 - n)) ⟨by show -1000000 ≤ lvS w (40 - n) fr k - min (lvS w (40 - n) fr k) (40 - n) ∧ lvS w (40 - n) fr k - min (lvS w (40 - n) fr k) (40 - n) ≤ 1000000; omega,hsm.2⟩ ?_
  rw [e1]
  refine qStA (c := ({ w with now := lvS w (40 - n) fr (k + 1) } : Wel).cells) c3 rfl rfl rfl fun H4 S4 c4 l4 => addI (by omega) ⟨k + 1,by dsimp only; omega,.inl ⟨by omega,(S.thru S3 (by simp; omega)).thru S4 (by simp; omega),c4,fun j hj => ?_,ds,r0,r5,r8,by show vint _ = vint _; congr 1⟩⟩
  by_cases e : j = k
  ·rw [e]
   omega
  ·exact hno j (by omega)
theorem headE_zero {p : Pas} {s : SkyR} {fr dy : Int} (h : headE p s fr dy = 0) : (0 ≤ fr ∧ fr ≤ 7) ∧ (1 ≤ dy ∧ dy ≤ 8) := by
 unfold headE at h
 split at h
 ·contradiction
 ·rename_i h1
  have g : skyOk s := by
   have h1 := Classical.not_not.1 h1
   unfold fst2 at h1
   split at h1
   ·contradiction
   ·unfold skyE at h1
    split at h1
    ·assumption
    ·cases h1
  split at h
  ·cases h
  ·rename_i h2
   split at h
   ·cases h
   ·rename_i h3
    obtain ⟨g1,g2,g3⟩ := g
    have h2 := Classical.not_not.1 h2
    have h3 := Classical.not_not.1 h3
    omega
theorem good10 (hJ : Closed prog main J) {w : Wel} {p : Pas} {s : SkyR} {fr dy : Int} (hK : ∀ H',SameX [] H H' → K (.tuple ⟨[vint (bearN w p s fr dy),vint (bearE w p s fr dy)]⟩) H') : Good prog J 10 [w.val,.agg ⟨p.cells⟩,.agg ⟨s.cells⟩,vint fr,vint dy] H K := by
 refine g10 hJ fun ok => ?_
 rw [e10]
 refine qBox (l := w.cells) rfl fun H1 p5 e1 S1 c5 l1 => qBox (l := p.cells) rfl fun H2 p6 e2 S2 c6 l2 => qBox (l := s.cells) rfl fun H3 p7 e3 S3 c7 l3 => qBox1 rfl rfl fun H4 p9 e4 S4 c9 l4 => ?_
 have d5 := S4.get (S3.get (S2.get c5 (by simp)) (by simp)) (by simp)
 have d6 := S4.get (S3.get c6 (by simp)) (by simp)
 have d7 := S4.get c7 (by simp)
 have T4 := ((S1.trans S2).trans S3).trans S4
 have fin : ∀ {e : Int} {H' : List AObj},bearE w p s fr dy = e → e ≠ 0 → SameX [] H H' → retL H.length K [] [vint 0,vint e] H' := fun he h0 S => by
  have := hK _ S
  unfold bearN at this
  rw [if_neg (by omega),he] at this
  exact retL_same (nu2 (by simp [unk]) (by simp [unk])) this
 refine load_part (c := w.cells) d5 (by simp [Wel.cells]) rfl rfl (good17 hJ (neqI (cndI (fun h1 => fin ?_ h1 T4) fun h1 => ?_)))
 ·unfold bearE; rw [if_pos h1]
 have hw : welE w = 0 := by omega
 obtain ⟨w1,w2,w3⟩ := welE_zero hw
 refine load_part (c := p.cells) d6 (by simp [Pas.cells]) rfl rfl (load_part (c := s.cells) d7 (by simp [SkyR.cells]) rfl rfl (ldI (v := vint dy) c9 rfl rfl ?_))
 refine good18 hJ fun H5 S5 => ext0 (ext1 (neqI (cndI (fun h2 => fin ?_ h2 (T4.trans S5)) fun h2 => ?_)))
 ·unfold bearE; rw [if_neg h1]
 have hh : headE p s fr dy = 0 := by omega
 have h0 : bearE w p s fr dy = 0 := by unfold bearE; rw [if_neg h1,hh]
 obtain ⟨b1,b2⟩ := headE_zero hh
 obtain ⟨a,rfl⟩ := Int.eq_ofNat_of_zero_le b1.1
 obtain ⟨b,rfl⟩ := Int.eq_ofNat_of_zero_le (by omega : (0 : Int) ≤ dy)
 have T5 := T4.trans S5
 refine load_part (c := w.cells) (S5.get d5 (by simp)) (by simp [Wel.cells]) rfl rfl (fillO (l := w.cells) rfl rfl rfl (by simp) (fillI ?_))
 refine qAl fun H6 p15 e6 S6 c15 l6 => qStA (c := ({ w with now := lvF w 0 } : Wel).cells) c15 rfl rfl rfl fun H7 S7 c15' l7 => ?_
 have S57 : SameX [] H5 H7 := S6.thru S7 (by simp; omega)
 have x9 := S57.get (S5.get c9 (by simp)) (by simp)
 have T7 := T5.trans S57
 refine l10_1 hJ (fun k : Nat => a - k) (fun k F H' => k ≤ a ∧ SameX [p15] H7 H' ∧ H'[p15]? = some (.cells ({ w with now := lvF w k } : Wel).cells true 0) ∧ F.ds = [] ∧ F.r 9 = ptr p9 0 ∧ F.r 13 = vint (headN p s (a : Nat) (b : Nat)) ∧ F.r 15 = ptr p15 0 ∧ F.r 36 = vint (a : Nat) ∧ F.r 37 = vint (k : Nat)) ?_ (s := 0)
  (.inl ⟨by omega,SameX.refl,c15',rfl,rfl,rfl,rfl,rfl,rfl⟩)
 rintro k F H' ⟨hk,S,cx,ds,r9,r13,r15,r36,r37⟩ okc hnc
 rw [s10_1,r9,r13,r15,r36,r37,ds]
 have hlk := lvF_bd hw k
 refine lssI (cndI (fun hlt => ?_) fun hge => ?_)
 ·refine load_part (c := ({ w with now := lvF w k } : Wel).cells) cx (by simp [Wel.cells]) rfl rfl ?_
  refine good19 hJ (w := { w with now := lvF w k }) ⟨by show -1000000 ≤ lvF w k ∧ lvF w k ≤ 1000000; omega,by show -1000000 ≤ w.holds ∧ w.holds ≤ 1000000; omega,by show -1000000 ≤ w.fill ∧ w.fill ≤ 1000000; omega⟩ ?_
  refine qStA (c := ({ w with now := lvF w (k + 1) } : Wel).cells) cx rfl rfl rfl fun H8 S8 c8 l8 => addI (by omega) ⟨k + 1,by dsimp only; omega,.inl ⟨by omega,S.trans S8,c8,ds,r9,r13,r15,r36,by show vint _ = vint _; congr 1⟩⟩
 have hka : k = a := by omega
 subst hka
 have b9 := lt_of_get x9
 have lp9 := lt_of_get c9
 have hS5 := S5.1
 have n95 : p9 ≠ p15 := by omega
 have y9 := S.get x9 (by simpa using n95)
 refine ⟨rfl,?_⟩
 have hz := watB_zero (fr := k) (dy := b) hw
 refine good20 hJ (P := fun n => watB w (40 - n) k b) (by decide) (fun {H8} {n} {Kf} S8 h1 h2 hk8 => callCz (by kernel_rfl) ?_) fun H8 S8 => ext0 (ext1 ?_)
 ·exact good21 hJ hw ⟨h1,h2⟩ (by omega) (S8.get cx (by simp)) (S8.get y9 (by simp)) hk8
 ·rw [least_top (q := fun m => watB w m k b) hz]
  have bd := topW_bd (q := fun m => watB w m k b) (N := 40)
  refine subI (by show -9223372036854775808 ≤ 40 - (40 - topH (fun m => watB w m k b) 40) ∧ 40 - (40 - topH (fun m => watB w m k b) 40) < 9223372036854775808; omega) (minI ?_)
  have := hK H8 ((T7.thru S (by simp; have := T5.1; omega)).trans S8)
  unfold bearN at this
  rw [if_pos h0,h0] at this
  refine retL_same (nu2 (by simp [unk]) (by simp [unk])) ?_
  rw [Int.toNat_natCast,Int.toNat_natCast] at this
  have e2 : (40 : Int) - (some (40 - topH (fun m => watB w m k b) 40)).getD 0 = topH (fun m => watB w m k b) 40 := by
   show 40 - (40 - topH (fun m => watB w m k b) 40) = _
   omega
  rw [e2]
  exact this
end
def better (a b : Std) : Prop := b.1 ≤ a.1 ∧ a.2 ≤ b.2
structure MoreG (q p : Pas) : Prop where
 grass : p.grass ≤ q.grass
 bears : q.bears = p.bears
 dry : q.dry = p.dry
 wet : q.wet = p.wet
 stubble : q.stubble = p.stubble
 sleep : q.sleep = p.sleep
theorem MoreG.refl {p : Pas} : MoreG p p := ⟨Int.le_refl _,rfl,rfl,rfl,rfl,rfl⟩
theorem stdR_sleep {p : Pas} {heads : List Int} {w : List UInt8} (f : pasOk p) : ∀ k,(stdR p heads w k).2 ≤ p.sleep
 | 0 => by
  show (0 : Int) ≤ p.sleep
  exact f.2.2.2.2.2.1
 | k + 1 => by
  have ih := stdR_sleep (heads := heads) (w := w) f k
  have := f.2.2.2.2.2.1
  show (dayR p (stdR p heads w k) (heads.getD k 0) (wetB (w.getD k 0))).2 ≤ p.sleep
  unfold dayR
  split
  ·exact Int.le_refl _
  ·split
   ·dsimp only; omega
   ·dsimp only; omega
theorem dayR_better {q p : Pas} (G : MoreG q p) (fp : pasOk p) {a b : Std} {m n : Int} {w : Bool} (h : better a b) (o : StdOk p b) (hs : a.2 ≤ p.sleep) (hm : 0 ≤ m) (hmn : m ≤ n) : better (dayR q a m w) (dayR p b n w) := by
 obtain ⟨h1,h2⟩ := h
 obtain ⟨g1,g2,g3,g4,g5,g6⟩ := G
 obtain ⟨f1,f2,f3,f4,f5,f6⟩ := fp
 have hl : leftR b n ≤ leftR a m := by unfold leftR; omega
 have hb := leftR_bd o (by omega : 0 ≤ n)
 have ho := o.g
 have hsh : shortR q a m = true → shortR p b n = true := by
  unfold shortR
  rw [Bool.and_eq_true,Bool.and_eq_true,decide_eq_true_eq,decide_eq_true_eq,decide_eq_true_eq,decide_eq_true_eq]
  rintro ⟨x,y⟩
  exact ⟨by omega,by omega⟩
 have hg : 0 ≤ (if w = true then p.wet else p.dry) := by split <;> omega
 have hgq : (if w = true then q.wet else q.dry) = (if w = true then p.wet else p.dry) := by rw [g4,g3]
 unfold better dayR
 rw [hgq,g2]
 generalize (if w = true then p.wet else p.dry) = gr at *
 by_cases s1 : shortR q a m = true
 ·rw [if_pos s1,if_pos (hsh s1)]
  dsimp only
  omega
 ·rw [if_neg s1]
  by_cases s2 : shortR p b n = true
  ·rw [if_pos s2]
   split
   ·dsimp only; exact ⟨hl,by omega⟩
   ·dsimp only
    exact ⟨by omega,hs⟩
  ·rw [if_neg s2]
   by_cases ha : a.2 > 0
   ·rw [if_pos ha,if_pos (by omega)]
    exact ⟨hl,by dsimp only; omega⟩
   ·rw [if_neg ha]
    split
    ·exact ⟨by dsimp only; omega,by dsimp only; omega⟩
    ·exact ⟨by dsimp only; omega,h2⟩
theorem stdR_better {q p : Pas} (G : MoreG q p) (fp : pasOk p) (fq : pasOk q) {hs' hs : List Int} {w : List UInt8} (hh : headsOk hs) (h : ∀ i,0 ≤ hs'.getD i 0 ∧ hs'.getD i 0 ≤ hs.getD i 0) : ∀ k,better (stdR q hs' w k) (stdR p hs w k)
 | 0 => ⟨G.grass,Int.le_refl _⟩
 | k + 1 => dayR_better G fp (stdR_better G fp fq hh h k) (stdR_ok fp hh k) (by rw [← G.sleep]; exact stdR_sleep fq k) (h k).1 (h k).2
theorem hung_less {q p : Pas} (G : MoreG q p) (fp : pasOk p) (fq : pasOk q) {hs' hs : List Int} {w : List UInt8} (hh : headsOk hs) (h : ∀ i,0 ≤ hs'.getD i 0 ∧ hs'.getD i 0 ≤ hs.getD i 0) (k : Nat) (hx : hungAt q hs' w k = true) : hungAt p hs w k = true := by
 have b := (stdR_better G fp fq (w := w) hh h k).1
 have := (h k).2
 unfold hungAt hungR at *
 rw [decide_eq_true_eq] at *
 omega
theorem starv_less {q p : Pas} (G : MoreG q p) (fp : pasOk p) (fq : pasOk q) {hs' hs : List Int} {w : List UInt8} (hh : headsOk hs) (h : ∀ i,0 ≤ hs'.getD i 0 ∧ hs'.getD i 0 ≤ hs.getD i 0) (hx : starvR p hs w < 0) : starvR q hs' w < 0 := by
 by_cases e : starvR q hs' w < 0
 ·exact e
 ·unfold starvR at *
  obtain ⟨h1,h2,_⟩ := fstH_iff (show 0 ≤ fstH (hungAt q hs' w) w.length by omega)
  have := fstH_pos (hung_less G fp fq hh h _ h2) h1
  omega
theorem fed_less {q p : Pas} (G : MoreG q p) (fp : pasOk p) (fq : pasOk q) {hs' hs : List Int} {s : SkyR} (hh : headsOk hs) (h : ∀ i,0 ≤ hs'.getD i 0 ∧ hs'.getD i 0 ≤ hs.getD i 0) (hx : fedB p hs s = true) : fedB q hs' s = true := by
 unfold fedB at *
 rw [List.all_eq_true] at *
 intro w hw
 have := hx w hw
 rw [decide_eq_true_eq] at *
 exact starv_less G fp fq hh h this
theorem topH_over {q : Int → Bool} : ∀ {N : Nat} {k : Int},topH q N < k → k ≤ N → q k = false
 | 0,k,h1,h2 => by
  have : topH q 0 = 0 := rfl
  omega
 | N + 1,k,h1,h2 => by
  unfold topH at h1
  split at h1
  ·omega
  ·rename_i h
   by_cases e : k = ((N + 1 : Nat) : Int)
   ·rw [e]
    simpa using h
   ·exact topH_over h1 (by omega)
section
variable {w : Wel} {m m' : Int} {fr : Nat}
theorem lvS_le (hm : m' ≤ m) : ∀ k,lvS w m fr k ≤ lvS w m' fr k
 | 0 => Int.le_refl _
 | k + 1 => by
  have := lvS_le hm k
  unfold lvS
  omega
theorem lvF_over (hm : 0 ≤ m) : ∀ k,lvS w m 0 k ≤ lvF w k
 | 0 => Int.le_refl _
 | k + 1 => by
  have := lvF_over hm k
  unfold lvS lvF
  omega
theorem lvS_shift (hm : 0 ≤ m) : ∀ k,lvS w m 0 (fr + k) ≤ lvS w m fr k
 | 0 => lvF_over hm fr
 | k + 1 => by
  have := lvS_shift hm k
  show lvS w m 0 (fr + k + 1) ≤ _
  unfold lvS
  omega
theorem watB_less {dy : Nat} (hm : m' ≤ m) (h : watB w m fr dy = true) : watB w m' fr dy = true := by
 unfold watB at h ⊢
 rw [List.all_eq_true] at h ⊢
 intro k hk
 have h1 := of_decide_eq_true (h k hk)
 have h2 := lvS_le (w := w) (fr := fr) hm k
 exact decide_eq_true (by omega)
theorem watB_stay {dy : Nat} (hm : 0 ≤ m) (h : ∀ k,k < fr + dy → m ≤ lvS w m 0 k) : watB w m fr dy = true := by
 unfold watB
 rw [List.all_eq_true]
 intro k hk
 have hk := List.mem_range.1 hk
 have h1 := h (fr + k) (by omega)
 have h2 := lvS_shift (w := w) (fr := fr) hm k
 exact decide_eq_true (by omega)
end
def oneT (w : Wel) (m : Int) : Tro := ⟨w,[⟨m,1⟩]⟩
theorem one_turn {h : Nat} : turnOf [0] h = 0 := by
 unfold turnOf
 simp [Nat.mod_one]
theorem one_drink {w : Wel} {m : Int} : drinkOf (oneT w m) 0 = m := by
 unfold drinkOf
 rw [if_pos (Int.le_refl _)]
 rfl
theorem one_lvl {w : Wel} {m : Int} : ∀ k : Nat,(∀ j,j < k → m ≤ lvS w m 0 j) → lvl (oneT w m) [0] k = lvS w m 0 k
 | 0,_ => rfl
 | k + 1,h => by
  have ih := one_lvl k fun j hj => h j (by omega)
  have hk := h k (by omega)
  show nextL (oneT w m) (turnOf [0] k) (lvl (oneT w m) [0] k) = _
  rw [one_turn,ih]
  unfold nextL
  rw [one_drink]
  show min w.holds (lvS w m 0 k - min (lvS w m 0 k) m + w.fill) = min w.holds (lvS w m 0 k - m + w.fill)
  rw [Int.min_eq_right hk]
theorem one_dry {w : Wel} {m : Int} {k : Nat} (h : ∀ j,j < k → m ≤ lvS w m 0 j) : dry (oneT w m) [0] k ↔ lvS w m 0 k < m := by
 unfold dry
 rw [one_turn,one_drink,one_lvl k h]
theorem one_wet {w : Wel} {m : Int} : ∀ n : Nat,(∀ k,k < n → ¬ dry (oneT w m) [0] k) → ∀ k,k < n → m ≤ lvS w m 0 k
 | 0,_,k,hk => absurd hk (Nat.not_lt_zero _)
 | n + 1,h,k,hk => by
  have ih := one_wet n fun j hj => h j (by omega)
  by_cases e : k = n
  ·subst e
   have := (not_congr (one_dry ih)).1 (h k (by omega))
   omega
  ·exact ih k (by omega)
theorem run_fed {ls : List Pas} {s : SkyR} {heads : Int} {u : List Int} {i fr dy : Nat} (L : LsOk ls) (hh : 0 ≤ heads ∧ heads ≤ 40) (hu : (u.length : Int) = s.days) (hi : i < ls.length) (ht : turnsB ls s heads u = true) (hr : ∀ k,fr ≤ k → k < fr + dy → u.getD k 0 = (i : Int)) (hfd : fr + dy ≤ u.length) : stayB (ls.getD i pas0) s heads fr dy = true := by
 unfold turnsB at ht
 rw [List.all_eq_true] at ht
 have h1 := ht i (List.mem_range.2 hi)
 have fp := L.get hi
 have ho : headsOk (ownW u i heads) := by
  intro n hn
  unfold ownW at hn
  obtain ⟨a,_,rfl⟩ := List.mem_map.1 hn
  split
  ·exact hh
  ·exact ⟨Int.le_refl _,by decide⟩
 unfold stayB
 refine fed_less MoreG.refl fp fp ho (fun k => ?_) h1
 have ed : s.days.toNat = u.length := by omega
 rw [ed,Int.toNat_natCast,Int.toNat_natCast]
 by_cases hk : k < u.length
 ·rw [stayH_getD hk]
  have hg : (ownW u i heads).getD k 0 = if u.getD k 0 = (i : Int) then heads else 0 := by
   unfold ownW
   rw [List.getD_eq_getElem?_getD,List.getElem?_map,List.getD_eq_getElem?_getD,List.getElem?_eq_getElem hk]
   rfl
  rw [hg]
  by_cases hin : fr ≤ k ∧ k < fr + dy
  ·rw [if_pos hin,if_pos (hr k hin.1 hin.2)]
   exact ⟨hh.1,Int.le_refl _⟩
  ·rw [if_neg hin]
   refine ⟨Int.le_refl _,?_⟩
   split
   ·exact hh.1
   ·exact Int.le_refl _
 ·have e1 : (stayH u.length fr dy heads).getD k 0 = 0 := by
   rw [List.getD_eq_getElem?_getD,List.getElem?_eq_none (by rw [stayH_len]; omega)]
   rfl
  rw [e1]
  refine ⟨Int.le_refl _,?_⟩
  exact (headsOk_getD ho k).1
def turnE (ls : List Pas) (s : SkyR) (heads : Int) : Int := if cntE ls.length 1 3 ≠ 0 then cntE ls.length 1 3 else if (∀ p ∈ ls,pasOk p) ∧ skyOk s ∧ (0 ≤ heads ∧ heads ≤ 40) then 0 else 1
theorem turnE_ok {ls : List Pas} {s : SkyR} {heads : Int} (h : turnE ls s heads = 0) : LsOk ls ∧ skyOk s ∧ (0 ≤ heads ∧ heads ≤ 40) := by
 unfold turnE at h
 split at h
 ·rename_i hc
  exact absurd h hc
 ·rename_i hc
  have hc : cntE ls.length 1 3 = 0 := by simpa using hc
  split at h
  ·rename_i ho
   refine ⟨⟨?_,ho.1⟩,ho.2.1,ho.2.2⟩
   unfold cntE at hc
   split at hc
   ·cases hc
   ·split at hc
    ·cases hc
    ·constructor <;> omega
  ·cases h
theorem turnE_cnt {ls : List Pas} {s : SkyR} {heads : Int} (h : cntE ls.length 1 3 ≠ 0) : turnE ls s heads = cntE ls.length 1 3 := by
 unfold turnE
 rw [if_pos h]
theorem turnE_val {ls : List Pas} {s : SkyR} {heads : Int} (h : cntE ls.length 1 3 = 0) (hn : ¬ ((∀ p ∈ ls,pasOk p) ∧ skyOk s ∧ (0 ≤ heads ∧ heads ≤ 40))) : turnE ls s heads = 1 := by
 unfold turnE
 rw [if_neg (by simpa using h),if_neg hn]
theorem turnE_zero {ls : List Pas} {s : SkyR} {heads : Int} (h : cntE ls.length 1 3 = 0) (hn : (∀ p ∈ ls,pasOk p) ∧ skyOk s ∧ (0 ≤ heads ∧ heads ≤ 40)) : turnE ls s heads = 0 := by
 unfold turnE
 rw [if_neg (by simpa using h),if_pos hn]
section
variable {main : Bool} {J : JT} {h : List AObj} {K : Value → List AObj → Prop} {Sx : RG → List AObj → Prop}
theorem frontE12 (hJ : Closed prog main J) {ls : List Pas} {lv : Value} {s : SkyR} {heads : Int} (hlen : ls.length < 1000000) (hl : SliE h lv 6 Pas.cells ls)
  (hE : turnE ls s heads ≠ 0 → ∀ H',SameX [] h H' → K (.tuple ⟨[.slice none 0 0,vint (turnE ls s heads)]⟩) H')
  (hS : turnE ls s heads = 0 → ∀ F H,Sx F H) :
  W prog J 75 h.length 12 (trunc 6 (codeOf f12)) (RG.mk (regs [lv,.agg ⟨s.cells⟩,vint heads]) []) h (thenK Sx (RetQ prog [.tmp 6,.tmp 7] h.length K)) := by
 rw [e12]
 have kk := sliK hl
 refine qBox1 kk.1 kk.2.1 fun H1 pl e1 S1 c1 l1 => qBox (l := s.cells) rfl fun H2 ps e2 S2 c2 l2 => qBox1 rfl rfl fun H3 ph e3 S3 c3 l3 => ?_
 have c1' := S3.get (S2.get c1 (by simp)) (by simp)
 have c2' := S3.get c2 (by simp)
 have T := (S1.trans S2).trans S3
 refine ldI (v := lv) c1' rfl kk.2.2 ?_
 rw [sliE_len (T.sli hl (by simp))]
 refine good26 hJ (neqI (cndI (fun h1 => ?_) fun h1 => ldI (v := lv) c1' rfl kk.2.2 ?_))
 ·have e := turnE_cnt (s := s) (heads := heads) h1
  refine retL_same (by simp [unk]) ?_
  have := hE (by rw [e]; exact h1) H3 T
  rw [e] at this
  exact this
 have hc : cntE ls.length 1 3 = 0 := by simpa using h1
 rw [sliE_len (T.sli hl (by simp))]
 have bad : ¬ ((∀ p ∈ ls,pasOk p) ∧ skyOk s ∧ (0 ≤ heads ∧ heads ≤ 40)) → ∀ H',SameX [] h H' → K (.tuple ⟨[.slice none 0 0,vint 1]⟩) H' := fun hn H' S' => by
  have e := turnE_val hc hn
  have := hE (by rw [e]; decide) H' S'
  rw [e] at this
  exact this
 refine l12_1 hJ (fun k : Nat => ls.length - k) (fun k F H' => k ≤ ls.length ∧ SameX [] h H' ∧ H'[pl]? = some (.cells [lv] true 0) ∧ H'[ps]? = some (.cells s.cells true 0) ∧ H'[ph]? = some (.cells [vint heads] true 0) ∧ (∀ j,j < k → pasOk (ls.getD j pas0)) ∧ F.ds = [] ∧ F.r 3 = ptr pl 0 ∧ F.r 4 = ptr ps 0 ∧ F.r 5 = ptr ph 0 ∧ F.r 24 = lv ∧ F.r 25 = vint (ls.length : Nat) ∧ F.r 26 = vint (k : Nat)) ?_ (s := 0)
  (.inl ⟨by omega,T,c1',c2',c3,fun j hj => absurd hj (Nat.not_lt_zero _),rfl,rfl,rfl,rfl,rfl,rfl,rfl⟩)
 rintro k F H' ⟨hk,S,d1,d2,d3,hok,ds,r3,r4,r5,r24,r25,r26⟩ okc hnc
 rw [s12_1,r4,r5,r24,r25,r26,ds]
 refine lssI (cndI (fun hlt => ?_) fun hge => ?_)
 ·have hkl : k < ls.length := by omega
  have hl' := S.sli hl (by simp)
  obtain ⟨b,o,cs,wr,sz,hidx,hb,hos,htk,hkn⟩ := sliE_elem (s := 6) (fun _ => rfl) (by decide) hl' hkl
  have hg : ls[k] = ls.getD k pas0 := by
   rw [List.getD_eq_getElem?_getD,List.getElem?_eq_getElem hkl]
   rfl
  have hmem : ls.getD k pas0 ∈ ls := hg ▸ List.getElem_mem hkl
  rw [hg] at htk
  generalize hpk : ls.getD k pas0 = p at htk hmem
  have q1 := lt_of_get d1
  have q2 := lt_of_get d2
  have q3 := lt_of_get d3
  refine hidx _ (load_part (c := p.cells) hb hos htk rfl (qAl fun H4 p4 e4 S4 c4 l4 => qStA (c := p.cells) c4 rfl rfl rfl fun H5 S5 c5 l5 => load_part (c := p.cells) c5 (by simp [Pas.cells]) rfl rfl ?_))
  have T5 : SameX [] h H5 := (S.trans S4).thru S5 (by have := S.1; simp; omega)
  refine good27 hJ (neqI (cndI (fun h1 => ?_) fun h1 => ?_))
  ·have hnp : ¬ pasOk p := fun fp => h1 (by unfold pasE; rw [if_pos fp])
   have e : pasE p = 1 := by unfold pasE; rw [if_neg hnp]
   rw [e]
   exact retL_same (by simp [unk]) (bad (fun hh => hnp (hh.1 p hmem)) H5 T5)
  have fp : pasOk p := by
   by_cases hp : pasOk p
   ·exact hp
   ·exact absurd (by unfold pasE; rw [if_neg hp]; decide) h1
  refine addI (by omega) ⟨k + 1,by dsimp only; omega,.inl ⟨by omega,T5,S5.get (S4.get d1 (by simp)) (by simp; omega),S5.get (S4.get d2 (by simp)) (by simp; omega),S5.get (S4.get d3 (by simp)) (by simp; omega),fun j hj => ?_,ds,r3,r4,r5,r24,r25,by show vint _ = vint _; congr 1⟩⟩
  by_cases e : j = k
  ·rw [e,hpk]
   exact fp
  ·exact hok j (by omega)
 ·have hall : ∀ p ∈ ls,pasOk p := fun p hp => by
   obtain ⟨j,hj,rfl⟩ := List.getElem_of_mem hp
   have := hok j (by omega)
   rwa [List.getD_eq_getElem?_getD,List.getElem?_eq_getElem hj] at this
  refine load_part (c := s.cells) d2 (by simp [SkyR.cells]) rfl rfl ?_
  refine good28 hJ (neqI (cndI (fun h1 => ?_) fun h1 => ldI (v := vint heads) d3 rfl rfl (good29 hJ (notI (cndN (fun h2 => ?_) fun h2 => ?_)))))
  ·have hns : ¬ skyOk s := fun fs => h1 (by unfold skyE; rw [if_pos fs])
   have e : skyE s = 1 := by unfold skyE; rw [if_neg hns]
   rw [e]
   exact retL_same (by simp [unk]) (bad (fun hh => hns hh.2.1) H' S)
  ·exact retL_same (by simp [unk]) (bad (fun hh => h2 hh.2.2) H' S)
  ·have fs : skyOk s := by
    by_cases hp : skyOk s
    ·exact hp
    ·exact absurd (by unfold skyE; rw [if_neg hp]; decide) h1
   exact qAl fun H4 fI e4 S4 c4 l4 => hS (turnE_zero hc ⟨hall,fs,h2⟩) _ _
end
section
variable {W0 : World} {Post : Value → World → Prop} {h : List AObj} {K : Value → List AObj → Prop}
def KeepC (h H : List AObj) : Prop := h.length ≤ H.length ∧ ∀ (i : Nat) c wr sz,h[i]? = some (.cells c wr sz) → H[i]? = some (.cells c wr sz)
theorem KeepC.refl : KeepC h h := ⟨Nat.le_refl _,fun _ _ _ _ e => e⟩
theorem KeepC.trans {h1 h2 h3 : List AObj} (a : KeepC h1 h2) (b : KeepC h2 h3) : KeepC h1 h3 := ⟨Nat.le_trans a.1 b.1,fun i c wr sz e => b.2 i c wr sz (a.2 i c wr sz e)⟩
theorem keepC_same {h H : List AObj} (S : SameX [] h H) : KeepC h H := ⟨S.1,fun i c wr sz e => S.get e (by simp)⟩
theorem keepC_unch {h H : List AObj} (S : SameX [] (unch h) H) : KeepC h H := ⟨by have := S.1; rw [unch_len] at this; exact this,fun i c wr sz e => S.get (unchC e) (by simp)⟩
theorem KeepC.sli {h H : List AObj} (a : KeepC h H) {v : Value} {s n : Nat} {cs : List Value} (hs : Sli h v s n cs) : Sli H v s n cs := sli_frz hs fun i c wr sz hi => ⟨wr,a.2 i c wr sz hi⟩
def AnsA (h : List AObj) (K : Value → List AObj → Prop) (ls : List Pas) (s : SkyR) (heads : Int) : Prop :=
 (turnE ls s heads ≠ 0 → ∀ H',SameX [] h H' → K (.tuple ⟨[.slice none 0 0,vint (turnE ls s heads)]⟩) H') ∧
 (turnE ls s heads = 0 → AnsF (unch h) K ((wordsR ls.length s.days.toNat).find? (turnsB ls s heads)))
theorem goodA12 {ls : List Pas} {lv : Value} {s : SkyR} {heads : Int} (hlen : ls.length < 1000000) (hl : SliE h lv 6 Pas.cells ls) (hA : AnsA h K ls s heads) : Good prog (J2 prog W0 Post) 12 [lv,.agg ⟨s.cells⟩,vint heads] h K := by
 by_cases he : turnE ls s heads = 0
 ·obtain ⟨L,fs,hh⟩ := turnE_ok he
  have h8 := fs.1
  have hd : s.days = ((s.days.toNat - 1 : Nat) : Int) + 1 := by omega
  have hT := hA.2 he
  refine goodT12 L fs hh (s.days.toNat - 1) hd hl ?_
  rw [turnT_find L.few.2 hd]
  have : s.days.toNat - 1 + 1 = s.days.toNat := by omega
  rw [this]
  exact hT
 ·have hJ2 := J2.closed prog W0 Post
  refine good_of_sem hJ2 at12 body12 (by kernel_rfl) (Nat.le_of_ble_eq_true rfl) fun ok => ?_
  rw [show f12.ntmps = 75 from by kernel_rfl,show f12.results.toList = [.tmp 6,.tmp 7] from by kernel_rfl]
  refine trunc_sound hJ2 mixed 6 (codeOf f12) (by kernel_rfl) (frontE12 hJ2 hlen hl hA.1 fun h0 => absurd h0 he)
end
end Go.Proofs.Yteoenhhmcpipoaa
namespace Go.Proofs.Yteoenhhmcpipoaa
open Go.Conc Go.Proofs.Try
set_option maxRecDepth 100000
set_option maxHeartbeats 4000000
set_option linter.unusedVariables false
section
variable {main : Bool} {J : JT} {n0 : Nat} {h : List AObj} {K : Value → List AObj → Prop}
theorem at6 : prog.funcs[6]? = some f6 := by kernel_rfl
theorem body6 : f6.body = some (codeOf f6) := by kernel_rfl
def pl6 : Plans := [(2,false,.take 0 (.take 1 (.take 2 (.take 3 (.take 4 (.take 5 (.take 7 (.take 8 (.take 9 (.take 10 (.take 11 (.take 12 (.last 6 true (.last 13 true (.last 14 true (.last 15 true (.take 16 (.last 17 false (.fin))))))))))))))))))),
 (4,false,.take 0 (.take 1 (.take 2 (.take 3 (.take 4 (.take 6 (.take 7 (.take 8 (.last 5 true (.last 9 true (.last 10 true (.last 11 true (.take 12 (.last 13 false (.fin)))))))))))))))]
def ct6 : Cuts := .go
theorem pok6 : plansOk prog pl6 (codeOf f6) = true := by kernel_rfl
theorem e6 {a0 : Value} : W prog J 55 h.length 6 (codeOf f6) (RG.mk (regs [a0]) []) h (RetQ prog [.cell 2 28] h.length K) =
(aAlloc [(vint 0),(vint 0),(vint 0),(vint 0),(vint 0),(vint 0)] h fun v1 h2 =>
Good prog J 5 [a0,(vint 3),(vint 30)] h2 fun v3 h4 =>
(((3 * 1 : Nat) ≤ 16777216 ∧ (3 : Nat) ≤ 16777216 ∧ List.length [(vint 0)] = 1) ∧ aFill (zrep [(vint 0)] 3) [(0,1,(vint 1)),(1,1,(vint 1)),(2,1,(vint 2))] fun c5 =>
aNewS 3 c5 h4 fun v6 h7 =>
Good prog J 14 [a0,(vint 0),v6] h7 fun v8 h9 =>
Good prog J 13 [a0,(vint 5)] h9 fun v10 h11 =>
(((3 * 1 : Nat) ≤ 16777216 ∧ (3 : Nat) ≤ 16777216 ∧ List.length [(vint 0)] = 1) ∧ aFill (zrep [(vint 0)] 3) [(0,1,(vint 1)),(1,1,(vint 2)),(2,1,v10)] fun c12 =>
aNewS 3 c12 h11 fun v13 h14 =>
Good prog J 14 [a0,(vint 0),v13] h14 fun v15 h16 =>
aFill [(vint 0),(vint 0),(vint 0),(vint 0),(vint 0),(vint 0)] [(1,1,v3),(2,1,v8),(5,1,v15)] fun c17 =>
aAlloc [(vint 0),(vint 0),(vint 0),(vint 0),(vint 0),(vint 0)] h16 fun v18 h19 =>
aStore 6 v18 (Value.agg ⟨c17⟩) h19 fun h20 =>
(∃ B,aOff v18 1 fun v21 =>
aLoad false 1 v21 h20 fun v22 =>
RdOk (some B) (ptrBlk v21) ∧ (aOff v18 1 fun v23 =>
aLoad false 1 v23 h20 fun v24 =>
RdOk (some B) (ptrBlk v23) ∧ (aOff v18 1 fun v25 =>
aLoad false 1 v25 h20 fun v26 =>
RdOk (some B) (ptrBlk v25) ∧ (aBin prog .quo 3 v26 (vint 2) fun v27 =>
aOff v18 1 fun v28 =>
aLoad false 1 v28 h20 fun v29 =>
RdOk (some B) (ptrBlk v28) ∧ (Good prog J 13 [a0,v24] h20 fun v30 h31 =>
SameB (some B) h20 h31 ∧ (Good prog J 5 [a0,v27,v29] h31 fun v32 h33 =>
SameB (some B) h20 h33 ∧ ((((2 * 1 : Nat) ≤ 16777216 ∧ (2 : Nat) ≤ 16777216 ∧ List.length [(vint 0)] = 1) ∧ aFill (zrep [(vint 0)] 2) [(0,1,v30),(1,1,v32)] fun c34 =>
aNewS 2 c34 h33 fun v35 h36 =>
SameB (some B) h20 h36 ∧ (Good prog J 14 [a0,v22,v35] h36 fun v37 h38 =>
SameB (some B) h20 h38 ∧ (aOff v18 0 fun v39 =>
aStore 1 v39 v37 h38 fun h40 =>
aOff v18 2 fun v41 =>
aLoad false 1 v41 h40 fun v42 =>
aOff v18 2 fun v43 =>
aLoad false 1 v43 h40 fun v44 =>
aBin prog .add 3 v44 (vint 5) fun v45 =>
aMin (vint 9) [v45] fun v46 =>
Good prog J 5 [a0,v42,v46] h40 fun v47 h48 =>
aOff v18 3 fun v49 =>
aStore 1 v49 v47 h48 fun h50 =>
(∃ B,aOff v18 1 fun v51 =>
aLoad false 1 v51 h50 fun v52 =>
RdOk (some B) (ptrBlk v51) ∧ (aBin prog .quo 3 v52 (vint 2) fun v53 =>
aOff v18 1 fun v54 =>
aLoad false 1 v54 h50 fun v55 =>
RdOk (some B) (ptrBlk v54) ∧ (Good prog J 13 [a0,v53] h50 fun v56 h57 =>
SameB (some B) h50 h57 ∧ (Good prog J 13 [a0,v55] h57 fun v58 h59 =>
SameB (some B) h50 h59 ∧ ((((4 * 1 : Nat) ≤ 16777216 ∧ (4 : Nat) ≤ 16777216 ∧ List.length [(vint 0)] = 1) ∧ aFill (zrep [(vint 0)] 4) [(0,1,(vint 1)),(1,1,(vint 2)),(2,1,v56),(3,1,v58)] fun c60 =>
aNewS 4 c60 h59 fun v61 h62 =>
SameB (some B) h50 h62 ∧ (Good prog J 14 [a0,(vint 0),v61] h62 fun v63 h64 =>
SameB (some B) h50 h64 ∧ (aOff v18 4 fun v65 =>
aStore 1 v65 v63 h64 fun h66 =>
aLoad true 6 v18 h66 fun v67 =>
aStore 6 v1 v67 h66 fun h68 =>
RetQ prog [.cell 2 28] h.length K .ret (RG.p (RG.p (RG.p (RG.p (RG.p (RG.p (RG.p (RG.p (RG.p (RG.p (RG.p (RG.p (RG.p (RG.p (RG.p (RG.p (RG.p (RG.p (RG.p (RG.p (RG.p (RG.p (RG.p (RG.p (RG.p (RG.p (RG.p (RG.p (RG.p (RG.p (RG.p (RG.p (RG.p (RG.p (RG.p (RG.p (RG.p (RG.p (RG.p (RG.p (RG.p (RG.p (RG.p (RG.p (RG.p (RG.p (RG.p (RG.p (RG.p (RG.p (RG.p (RG.p (RG.p (RG.mk (regs [a0]) []) 2 v1) 4 a0) 5 v3) 6 a0) 7 v6) 8 v8) 9 a0) 10 a0) 11 v10) 12 v13) 13 v15) 14 (Value.agg ⟨c17⟩)) 3 v18) 15 a0) 16 v21) 17 v22) 18 a0) 19 v23) 20 v24) 22 a0) 23 v25) 24 v26) 25 v27) 26 v28) 27 v29) 21 v30) 28 v32) 29 v35) 30 v37) 31 v39) 32 a0) 33 v41) 34 v42) 35 v43) 36 v44) 37 v45) 38 v46) 39 v47) 40 v49) 41 a0) 42 a0) 43 v51) 44 v52) 45 v53) 47 a0) 48 v54) 49 v55) 46 v56) 50 v58) 51 v61) 52 v63) 53 v65) 54 v67) h68))))))))))))))))))))) := top_eq pok6 ct6 (by kernel_rfl)
theorem g6 (hJ : Closed prog main J) {a0 : Value} (hs : heapOk h → W prog J 55 h.length 6 (codeOf f6) (RG.mk (regs [a0]) []) h (RetQ prog [.cell 2 28] h.length K)) : Good prog J 6 [a0] h K :=
 good_of_W hJ mixed at6 body6 (by kernel_rfl) (Nat.le_of_ble_eq_true rfl) hs
theorem at7 : prog.funcs[7]? = some f7 := by kernel_rfl
theorem body7 : f7.body = some (codeOf f7) := by kernel_rfl
def pl7 : Plans := [(2,false,.take 0 (.take 1 (.take 2 (.take 4 (.take 5 (.take 6 (.last 3 true (.take 8 (.last 7 true (.last 9 false (.take 10 (.last 11 false (.fin)))))))))))))]
def ct7 : Cuts := .go
theorem pok7 : plansOk prog pl7 (codeOf f7) = true := by kernel_rfl
theorem e7 {a0 a1 : Value} : W prog J 21 h.length 7 (codeOf f7) (RG.mk (regs [a0,a1]) []) h (RetQ prog [.cell 4 31] h.length K) =
(aAlloc [(vint 0),(vint 0),(vint 0)] h fun v1 h2 =>
Good prog J 5 [a0,(vint 1),a1] h2 fun v3 h4 =>
aFill [(vint 0),(vint 0),(vint 0)] [(0,1,v3)] fun c5 =>
aAlloc [(vint 0),(vint 0),(vint 0)] h4 fun v6 h7 =>
aStore 3 v6 (Value.agg ⟨c5⟩) h7 fun h8 =>
(∃ B,aOff v6 0 fun v9 =>
aLoad false 1 v9 h8 fun v10 =>
RdOk (some B) (ptrBlk v9) ∧ (aOff v6 0 fun v11 =>
aLoad false 1 v11 h8 fun v12 =>
RdOk (some B) (ptrBlk v11) ∧ (Good prog J 5 [a0,(vint 1),v10] h8 fun v13 h14 =>
SameB (some B) h8 h14 ∧ (aOff v6 1 fun v15 =>
Good prog J 5 [a0,(vint 1),v12] h14 fun v16 h17 =>
SameB (some B) h8 h17 ∧ (aStore 1 v15 v13 h17 fun h18 =>
aOff v6 2 fun v19 =>
aStore 1 v19 v16 h18 fun h20 =>
aLoad true 3 v6 h20 fun v21 =>
aStore 3 v1 v21 h20 fun h22 =>
RetQ prog [.cell 4 31] h.length K .ret (RG.p (RG.p (RG.p (RG.p (RG.p (RG.p (RG.p (RG.p (RG.p (RG.p (RG.p (RG.p (RG.p (RG.p (RG.p (RG.p (RG.p (RG.mk (regs [a0,a1]) []) 4 v1) 6 a0) 7 a1) 8 v3) 9 (Value.agg ⟨c5⟩)) 5 v6) 10 a0) 11 v9) 12 v10) 14 a0) 15 v11) 16 v12) 13 v13) 18 v15) 17 v16) 19 v19) 20 v21) h22)))))) := top_eq pok7 ct7 (by kernel_rfl)
theorem g7 (hJ : Closed prog main J) {a0 a1 : Value} (hs : heapOk h → W prog J 21 h.length 7 (codeOf f7) (RG.mk (regs [a0,a1]) []) h (RetQ prog [.cell 4 31] h.length K)) : Good prog J 7 [a0,a1] h K :=
 good_of_W hJ mixed at7 body7 (by kernel_rfl) (Nat.le_of_ble_eq_true rfl) hs
end
end Go.Proofs.Yteoenhhmcpipoaa
namespace Go.Proofs.Yteoenhhmcpipoaa
open Go.Conc Go.Proofs.Try
set_option maxRecDepth 100000
section
variable {main : Bool} {J : JT} {h H : List AObj} {K : Value → List AObj → Prop} {KV : Value → Prop} {HL : List AObj → Prop} {n0 : Nat} {ns : List Int} {k : Nat}
theorem quoZ {t : TypeId} {a b : Int} (ha : 0 ≤ a ∧ a ≤ 1000000) (hb : 0 < b) (hk : KV (vint (a / b))) : aBin prog .quo t (vint a) (vint b) KV := by
 have h1 : Int.tdiv a b = a / b := Int.tdiv_eq_ediv_of_nonneg ha.1
 have h2 : 0 ≤ a / b := Int.ediv_nonneg ha.1 (by omega)
 have h3 : a / b ≤ a := Int.ediv_le_self _ ha.1
 simp only [aBin,aInt,true_and]
 rw [h1,wrap64 (by omega) (by omega)]
 exact ⟨by omega,hk⟩
theorem hxLt (a : HX h H ns k) : h.length < H.length := by
 obtain ⟨nv,k1,s,rest,rfl,_⟩ := a
 rw [hf_len]
 omega
theorem ofZ (hJ : Closed prog main J) (a : HX h H ns k) (hk : k < 1000000) {x : Int} {others : List Int} {p n c : Nat} (hp : H[p]? = some (.cells (others.map vint) true 0)) (hne : p ≠ h.length) (hn : others.length = n) (hl : n < 1000)
  (hK : ∀ y H',(y = x ∨ y ∈ others) → SameX [h.length] H H' → H'.length = H.length → HX h H' ns (k + 1) → K (vint y) H') : Good prog J 14 [ptr h.length 0,vint x,.slice (some ⟨p,0,none⟩) n c] H K := by
 subst hn
 obtain ⟨nv,k1,s,rest,rfl,b1,b2,b3⟩ := a
 refine good14 hJ (hf_hand b3.list b3.sane (by omega) b2.1 b2.2) (others := others) (fun h' hd => ?_) (by omega) fun y h1 hy hd => ?_
 ·obtain ⟨k',s',c1,c2,c3,rfl⟩ := hf_dealt hd
  have S := hf_same (h := h) (nv := nv) (k1 := k1) (k2 := k') (s1 := s) (s2 := s') (rest := rest) (g := [])
  rw [List.append_nil] at S
  exact sli_new (wr := true) (sz := 0) (S.get hp (by simpa using hne)) (by simp) (kn_ints _)
 ·obtain ⟨k',s',c1,c2,c3,rfl⟩ := hf_dealt hd
  have S := hf_same (h := h) (nv := nv) (k1 := k1) (k2 := k') (s1 := s) (s2 := s') (rest := rest) (g := [])
  rw [List.append_nil] at S
  exact hK y _ hy S (by simp [hf_len]) ⟨nv,k',s',rest,rfl,by omega,⟨c2,c3⟩,b3⟩
theorem good7 (hJ : Closed prog main J) (a : HX h H ns k) (hk : k < 400000) {D : Int} (hD : 1 ≤ D ∧ D ≤ 8)
  (hK : ∀ s H',skyOk s → s.days ≤ D → SameX [h.length] H H' → HX h H' ns (k + 3) → K (.agg ⟨s.cells⟩) H') : Good prog J 7 [ptr h.length 0,vint D] H K := by
 refine g7 hJ fun ok => ?_
 rw [e7]
 have hlt := hxLt a
 refine qAl fun H1 p1 e1 S1 c1 l1 => ?_
 have a1 := a.same S1 (by simp)
 refine amX hJ a1 (by omega) (by omega) (by omega) fun d H2 b1 b2 S2 l2 a2 => ?_
 refine fillO (l := [vint d]) rfl rfl rfl (Nat.le_of_ble_eq_true rfl) (fillI ?_)
 refine qAl fun H3 p3 e3 S3 c3 l3 => qStA (c := [vint d,vint 0,vint 0]) c3 rfl rfl rfl fun H4 S4 c4 l4 => ?_
 have a4 := (a2.same S3 (by simp)).same S4 (by simp; omega)
 have hp4 : p3 < H4.length := lt_of_get c4
 refine ⟨[p3],offI (ldI (v := vint d) c4 rfl rfl ⟨by simp [RdOk,ptrBlk],offI (ldI (v := vint d) c4 rfl rfl ⟨by simp [RdOk,ptrBlk],?_⟩)⟩)⟩
 refine amX hJ a4 (by omega) (by omega) (by omega) fun u H5 d1 d2 S5 l5 a5 => ⟨sbOne S5 hp4 (by simp; omega),offI ?_⟩
 refine amX hJ a5 (by omega) (by omega) (by omega) fun w H6 f1 f2 S6 l6 a6 => ⟨sbOne (S5.trans S6) hp4 (by simp; omega),?_⟩
 have T6 : SameX [h.length] H4 H6 := S5.trans S6
 refine qSt (T6.get c4 (by simp; omega)) (by simp) rfl rfl fun H7 S7 c7 l7 => offI (qSt c7 (by simp) rfl rfl fun H8 S8 c8 l8 => ?_)
 refine load_part (c := (⟨d,u,w⟩ : SkyR).cells) c8 (by simp) rfl rfl ?_
 have T4 : SameX [h.length] H H4 := (((S1.weak0).trans S2).trans S3.weak0).thru S4 (by simp; omega)
 have T8 : SameX [h.length] H H8 := ((T4.trans T6).thru S7 (by simp; omega)).thru S8 (by simp; omega)
 have c1' := S8.get (S7.get (T6.get (S4.get (S3.get (S2.get c1 (by simp; omega)) (by simp)) (by simp; omega)) (by simp; omega)) (by simp; omega)) (by simp; omega)
 refine qStA (c := (⟨d,u,w⟩ : SkyR).cells) c1' rfl rfl rfl fun H9 S9 c9 l9 => ?_
 refine retQs rfl (resW_cell (gg := true) (s := 3) (by kernel_rfl) (load_part (c := (⟨d,u,w⟩ : SkyR).cells) c9 (by simp [SkyR.cells]) rfl rfl (resW_nil ?_)))
 refine hK ⟨d,u,w⟩ H9 ⟨by show 1 ≤ d ∧ d ≤ 8; omega,by show 1 ≤ u ∧ u ≤ d; omega,by show 1 ≤ w ∧ w ≤ d; omega⟩ (by show d ≤ D; omega) (T8.thru S9 (by simp; omega)) (((a6.same S7 (by simp; omega)).same S8 (by simp; omega)).same S9 (by simp; omega))
set_option maxHeartbeats 800000 in
theorem good6 (hJ : Closed prog main J) (a : HX h H ns k) (hk : k < 400000)
  (hK : ∀ p H',pasOk p → 3 ≤ p.bears ∧ p.bears ≤ 30 → SameX [h.length] H H' → HX h H' ns (k + 12) → K (.agg ⟨p.cells⟩) H') : Good prog J 6 [ptr h.length 0] H K := by
 refine g6 hJ fun ok => ?_
 rw [e6]
 have hlt := hxLt a
 refine qAl fun H1 p1 e1 S1 c1 l1 => ?_
 have a1 := a.same S1 (by simp)
 refine amX hJ a1 (by omega) (by omega) (by omega) fun b H2 b1 b2 S2 l2 a2 => ?_
 refine ⟨by decide,fillO (l := [vint 1]) rfl rfl rfl (Nat.le_of_ble_eq_true rfl) (fillO (l := [vint 1]) rfl rfl rfl (Nat.le_of_ble_eq_true rfl) (fillO (l := [vint 2]) rfl rfl rfl (Nat.le_of_ble_eq_true rfl) (fillI (qNew fun H3 p3 e3 S3 c3 l3 => ?_))))⟩
 have c3 : H3[p3]? = some (.cells (([1,1,2] : List Int).map vint) true 0) := c3
 refine ofZ hJ (a2.same S3 (by simp)) (by omega) c3 (by omega) rfl (by simp) fun dr H4 m4 S4 l4 a4 => ?_
 refine upX hJ a4 (by omega) (by omega) fun u5 H5 d1 d2 S5 l5 a5 => ?_
 refine ⟨by decide,fillO (l := [vint 1]) rfl rfl rfl (Nat.le_of_ble_eq_true rfl) (fillO (l := [vint 2]) rfl rfl rfl (Nat.le_of_ble_eq_true rfl) (fillO (l := [vint u5]) rfl rfl rfl (Nat.le_of_ble_eq_true rfl) (fillI (qNew fun H6 p6 e6 S6 c6 l6 => ?_))))⟩
 have c6 : H6[p6]? = some (.cells (([1,2,u5] : List Int).map vint) true 0) := c6
 refine ofZ hJ (a5.same S6 (by simp)) (by omega) c6 (by omega) rfl (by simp) fun sl H7 m7 S7 l7 a7 => ?_
 refine fillO (l := [vint b]) rfl rfl rfl (Nat.le_of_ble_eq_true rfl) (fillO (l := [vint dr]) rfl rfl rfl (Nat.le_of_ble_eq_true rfl) (fillO (l := [vint sl]) rfl rfl rfl (Nat.le_of_ble_eq_true rfl) (fillI ?_)))
 refine qAl fun H8 p8 e8 S8 c8 l8 => qStA (c := [vint 0,vint b,vint dr,vint 0,vint 0,vint sl]) c8 rfl rfl rfl fun H9 S9 c9 l9 => ?_
 have a9 := (a7.same S8 (by simp)).same S9 (by simp; omega)
 have hp9 : p8 < H9.length := lt_of_get c9
 have hdr : 0 ≤ dr ∧ dr ≤ 2 := by
  rcases m4 with h | h
  ·omega
  ·simp only [List.mem_cons,List.not_mem_nil,or_false] at h
   omega
 have hsl : 0 ≤ sl ∧ sl ≤ 5 := by
  rcases m7 with h | h
  ·omega
  ·simp only [List.mem_cons,List.not_mem_nil,or_false] at h
   omega
 refine ⟨[p8],offI (ldI (v := vint b) c9 rfl rfl ⟨by simp [RdOk,ptrBlk],offI (ldI (v := vint b) c9 rfl rfl ⟨by simp [RdOk,ptrBlk],offI (ldI (v := vint b) c9 rfl rfl ⟨by simp [RdOk,ptrBlk],quoZ (by omega) (by decide) (offI (ldI (v := vint b) c9 rfl rfl ⟨by simp [RdOk,ptrBlk],?_⟩))⟩)⟩)⟩)⟩
 have T9 : ∀ {H'},SameX [h.length] H9 H' → SameB (some [p8]) H9 H' := fun S => sbOne S hp9 (by simp; omega)
 refine upX hJ a9 (by omega) (by omega) fun u10 H10 f1 f2 S10 l10 a10 => ⟨T9 S10,?_⟩
 refine amX hJ a10 (by omega) (by omega) (by omega) fun u11 H11 g1 g2 S11 l11 a11 => ⟨T9 (S10.trans S11),?_⟩
 have Q11 : SameX [h.length] H9 H11 := S10.trans S11
 refine ⟨by decide,fillO (l := [vint u10]) rfl rfl rfl (Nat.le_of_ble_eq_true rfl) (fillO (l := [vint u11]) rfl rfl rfl (Nat.le_of_ble_eq_true rfl) (fillI (qNew fun H12 p12 e12 S12 c12 l12 => ⟨T9 (Q11.trans S12.weak0),?_⟩)))⟩
 have c12 : H12[p12]? = some (.cells (([u10,u11] : List Int).map vint) true 0) := c12
 have hl11 := hxLt a11
 refine ofZ hJ (a11.same S12 (by simp)) (by omega) c12 (by omega) rfl (by simp) fun gr H13 m13 S13 l13 a13 => ?_
 have Q13 : SameX [h.length] H9 H13 := (Q11.trans S12.weak0).trans S13
 refine ⟨T9 Q13,offI ?_⟩
 have hgr : 0 ≤ gr ∧ gr ≤ b := by
  rcases m13 with h | h
  ·omega
  ·simp only [List.mem_cons,List.not_mem_nil,or_false] at h
   omega
 refine qSt (Q13.get c9 (by simp; omega)) (by simp) rfl rfl fun H14 S14 c14 l14 => ?_
 have c14 : H14[p8]? = some (.cells [vint gr,vint b,vint dr,vint 0,vint 0,vint sl] true 0) := c14
 have a14 := a13.same S14 (by simp; omega)
 refine offI (ldI (v := vint dr) c14 rfl rfl (offI (ldI (v := vint dr) c14 rfl rfl (addI (by omega) (minI ?_)))))
 refine amX hJ a14 (by omega) (by omega) (by omega) fun wt H15 h1 h2 S15 l15 a15 => offI ?_
 refine qSt (S15.get c14 (by simp; omega)) (by simp) rfl rfl fun H16 S16 c16 l16 => ?_
 have c16 : H16[p8]? = some (.cells [vint gr,vint b,vint dr,vint wt,vint 0,vint sl] true 0) := c16
 have a16 := a15.same S16 (by simp; omega)
 have hp16 : p8 < H16.length := lt_of_get c16
 have T16 : ∀ {H'},SameX [h.length] H16 H' → SameB (some [p8]) H16 H' := fun S => sbOne S hp16 (by simp; omega)
 refine ⟨[p8],offI (ldI (v := vint b) c16 rfl rfl ⟨by simp [RdOk,ptrBlk],quoZ (by omega) (by decide) (offI (ldI (v := vint b) c16 rfl rfl ⟨by simp [RdOk,ptrBlk],?_⟩))⟩)⟩
 refine upX hJ a16 (by omega) (by omega) fun u17 H17 q1 q2 S17 l17 a17 => ⟨T16 S17,?_⟩
 refine upX hJ a17 (by omega) (by omega) fun u18 H18 q3 q4 S18 l18 a18 => ⟨T16 (S17.trans S18),?_⟩
 have Q18 : SameX [h.length] H16 H18 := S17.trans S18
 refine ⟨by decide,fillO (l := [vint 1]) rfl rfl rfl (Nat.le_of_ble_eq_true rfl) (fillO (l := [vint 2]) rfl rfl rfl (Nat.le_of_ble_eq_true rfl) (fillO (l := [vint u17]) rfl rfl rfl (Nat.le_of_ble_eq_true rfl) (fillO (l := [vint u18]) rfl rfl rfl (Nat.le_of_ble_eq_true rfl) (fillI (qNew fun H19 p19 e19 S19 c19 l19 => ⟨T16 (Q18.trans S19.weak0),?_⟩)))))⟩
 have c19 : H19[p19]? = some (.cells (([1,2,u17,u18] : List Int).map vint) true 0) := c19
 have hl18 := hxLt a18
 refine ofZ hJ (a18.same S19 (by simp)) (by omega) c19 (by omega) rfl (by simp) fun st H20 m20 S20 l20 a20 => ?_
 have Q20 : SameX [h.length] H16 H20 := (Q18.trans S19.weak0).trans S20
 have hst : 0 ≤ st ∧ st ≤ b := by
  rcases m20 with h | h
  ·omega
  ·simp only [List.mem_cons,List.not_mem_nil,or_false] at h
   omega
 refine ⟨T16 Q20,offI (qSt (Q20.get c16 (by simp; omega)) (by simp) rfl rfl fun H21 S21 c21 l21 => ?_)⟩
 have c21 : H21[p8]? = some (.cells (⟨gr,b,dr,wt,st,sl⟩ : Pas).cells true 0) := c21
 refine load_part (c := (⟨gr,b,dr,wt,st,sl⟩ : Pas).cells) c21 (by simp [Pas.cells]) rfl rfl ?_
 have U7 : SameX [h.length] H H7 := ((((((S1.weak0).trans S2).trans S3.weak0).trans S4).trans S5).trans S6.weak0).trans S7
 have U9 : SameX [h.length] H H9 := (U7.trans S8.weak0).thru S9 (by have := U7.1; simp; omega)
 have U21 : SameX [h.length] H H21 := ((((U9.trans Q13).thru S14 (by have := U7.1; simp; omega)).trans S15).thru S16 (by have := U7.1; simp; omega)).trans Q20 |>.thru S21 (by have := U7.1; simp; omega)
 have V1 : SameX [h.length] H1 H7 := ((((S2.trans S3.weak0).trans S4).trans S5).trans S6.weak0).trans S7
 have hv1 := V1.1
 have V9 : SameX [h.length,p8] H1 H9 := ((V1.trans S8.weak0).weak (by simp)).trans (S9.weak (by simp))
 have V21 : SameX [h.length,p8] H1 H21 := (((((V9.trans (Q13.weak (by simp))).trans (S14.weak (by simp))).trans (S15.weak (by simp))).trans (S16.weak (by simp))).trans (Q20.weak (by simp))).trans (S21.weak (by simp))
 have c1' := V21.get c1 (by simp; omega)
 refine qStA (c := (⟨gr,b,dr,wt,st,sl⟩ : Pas).cells) c1' rfl rfl rfl fun H22 S22 c22 l22 => ?_
 refine retQs rfl (resW_cell (gg := true) (s := 6) (by kernel_rfl) (load_part (c := (⟨gr,b,dr,wt,st,sl⟩ : Pas).cells) c22 (by simp [Pas.cells]) rfl rfl (resW_nil ?_)))
 refine hK ⟨gr,b,dr,wt,st,sl⟩ H22 ⟨by show 1 ≤ b ∧ b ≤ 99; omega,hgr,by show 0 ≤ dr ∧ dr ≤ 9; omega,by show dr ≤ wt ∧ wt ≤ 9; omega,hst,hsl⟩ (by show 3 ≤ b ∧ b ≤ 30; omega) (U21.thru S22 (by simp; omega)) ?_
 have z21 := a20.same S21 (by simp; omega)
 have z22 := z21.same S22 (by simp; omega)
 exact z22.mono (by omega)
end
section
variable {h H H' : List AObj} {ns : List Int} {k : Nat}
theorem HX.unch (a : HX h H ns k) : HX (unch h) (unch H) ns k := by
 obtain ⟨nv,k',s,rest,rfl,h1,h2,h3⟩ := a
 exact ⟨nv,k',s,Go.Proofs.Yteoenhhmcpipoaa.unch rest,by simp [HF,Go.Proofs.Yteoenhhmcpipoaa.unch,unchO],h1,h2,⟨unch_sli h3.1,h3.2⟩⟩
def AnsV (X : Option (List Int)) (lo : Nat) (H : List AObj) (tv : Value) (e : Int) : Prop := match X with
 | none => tv = .slice none 0 0 ∧ e = 11
 | some l => e = 0 ∧ ∃ b,tv = .slice (some ⟨b,0,none⟩) l.length fz ∧ lo ≤ b ∧ H[b]? = some (.cells (l.map vint) false 1)
theorem ansF_to {K : Value → List AObj → Prop} {X : Option (List Int)} (hK : ∀ H' tv e,SameX [] h H' → AnsV X h.length H' tv e → K (.tuple ⟨[tv,vint e]⟩) H') : AnsF h K X := by
 cases X with
 | none => exact fun H' S => hK H' _ 11 S ⟨rfl,rfl⟩
 | some l => exact fun H' b S hb hc => hK H' _ 0 S ⟨rfl,b,rfl,hb,hc⟩
theorem AnsV.more {X : Option (List Int)} {lo : Nat} {tv : Value} {e : Int} {Y : List Nat} (S : SameX Y H H') (hY : ∀ y ∈ Y,y < lo) (a : AnsV X lo H tv e) : AnsV X lo H' tv e := by
 cases X with
 | none => exact a
 | some l =>
  obtain ⟨h1,b,h2,h3,h4⟩ := a
  exact ⟨h1,b,h2,h3,S.get h4 fun hm => by have := hY b hm; omega⟩
theorem AnsV.sli {l : List Int} {lo : Nat} {tv : Value} {e : Int} (a : AnsV (some l) lo H tv e) : Sli H tv 1 l.length (l.map vint) := by
 obtain ⟨h1,b,rfl,h3,h4⟩ := a
 exact sliF h4
end
end Go.Proofs.Yteoenhhmcpipoaa
namespace Go.Proofs.Yteoenhhmcpipoaa
open Go.Conc Go.Proofs.Try
set_option maxRecDepth 100000
set_option maxHeartbeats 4000000
set_option linter.unusedVariables false
section
variable {main : Bool} {J : JT} {n0 : Nat} {h : List AObj} {K : Value → List AObj → Prop}
theorem at23 : prog.funcs[23]? = some f23 := by kernel_rfl
theorem body23 : f23.body = some (codeOf f23) := by kernel_rfl
def pl23 : Plans := []
def ct23 : Cuts := .go
theorem pok23 : plansOk prog pl23 (codeOf f23) = true := by kernel_rfl
theorem e23 : W prog J 2 h.length 23 (codeOf f23) (RG.mk (regs []) []) h (RetQ prog [.cell 0 28] h.length K) =
(aAlloc [(vint 0),(vint 0),(vint 0),(vint 0),(vint 0),(vint 0)] h fun v1 h2 =>
aFill [(vint 0),(vint 0),(vint 0),(vint 0),(vint 0),(vint 0)] [(0,1,(vint 12)),(1,1,(vint 20)),(2,1,(vint 1)),(3,1,(vint 4)),(4,1,(vint 3)),(5,1,(vint 2))] fun c3 =>
aStore 6 v1 (Value.agg ⟨c3⟩) h2 fun h4 =>
RetQ prog [.cell 0 28] h.length K .ret (RG.p (RG.p (RG.mk (regs []) []) 0 v1) 1 (Value.agg ⟨c3⟩)) h4) := top_eq pok23 ct23 (by kernel_rfl)
theorem g23 (hJ : Closed prog main J) (hs : heapOk h → W prog J 2 h.length 23 (codeOf f23) (RG.mk (regs []) []) h (RetQ prog [.cell 0 28] h.length K)) : Good prog J 23 [] h K :=
 good_of_W hJ mixed at23 body23 (by kernel_rfl) (Nat.le_of_ble_eq_true rfl) hs
theorem at24 : prog.funcs[24]? = some f24 := by kernel_rfl
theorem body24 : f24.body = some (codeOf f24) := by kernel_rfl
def pl24 : Plans := []
def ct24 : Cuts := .go
theorem pok24 : plansOk prog pl24 (codeOf f24) = true := by kernel_rfl
theorem e24 : W prog J 2 h.length 24 (codeOf f24) (RG.mk (regs []) []) h (RetQ prog [.cell 0 34] h.length K) =
(aAlloc [(vint 0),(vint 0),(vint 0)] h fun v1 h2 =>
aFill [(vint 0),(vint 0),(vint 0)] [(0,1,(vint 8)),(1,1,(vint 10)),(2,1,(vint 3))] fun c3 =>
aStore 3 v1 (Value.agg ⟨c3⟩) h2 fun h4 =>
RetQ prog [.cell 0 34] h.length K .ret (RG.p (RG.p (RG.mk (regs []) []) 0 v1) 1 (Value.agg ⟨c3⟩)) h4) := top_eq pok24 ct24 (by kernel_rfl)
theorem g24 (hJ : Closed prog main J) (hs : heapOk h → W prog J 2 h.length 24 (codeOf f24) (RG.mk (regs []) []) h (RetQ prog [.cell 0 34] h.length K)) : Good prog J 24 [] h K :=
 good_of_W hJ mixed at24 body24 (by kernel_rfl) (Nat.le_of_ble_eq_true rfl) hs
theorem at11 : prog.funcs[11]? = some f11 := by kernel_rfl
theorem body11 : f11.body = some (codeOf f11) := by kernel_rfl
def pl11 : Plans := [(2,false,.take 3 (.last 0 true (.last 1 true (.last 2 true (.last 4 false (.take 5 (.take 6 (.take 7 (.take 8 (.take 9 (.fin))))))))))),
 (4,false,.take 2 (.last 0 true (.last 1 true (.last 3 false (.take 4 (.take 5 (.take 6 (.take 7 (.take 8 (.fin))))))))))]
def ct11 : Cuts := .go
theorem pok11 : plansOk prog pl11 (codeOf f11) = true := by kernel_rfl
theorem e11 : W prog J 56 h.length 11 (codeOf f11) (RG.mk (regs []) []) h (RetQ prog [.tmp 0] h.length K) =
(aFill [(vint 0),(vint 0),(vint 0)] [(0,1,(vint 3)),(1,1,(vint 2)),(2,1,(vint 2))] fun c1 =>
aAlloc [(vint 0),(vint 0),(vint 0)] h fun v2 h3 =>
aStore 3 v2 (Value.agg ⟨c1⟩) h3 fun h4 =>
(∃ B,aLoad true 3 v2 h4 fun v5 =>
RdOk (some B) (ptrBlk v2) ∧ (Good prog J 23 [] h4 fun v6 h7 =>
SameB (some B) h4 h7 ∧ (Good prog J 23 [] h7 fun v8 h9 =>
SameB (some B) h4 h9 ∧ ((((2 * 6 : Nat) ≤ 16777216 ∧ (2 : Nat) ≤ 16777216 ∧ List.length [(vint 0),(vint 0),(vint 0),(vint 0),(vint 0),(vint 0)] = 6) ∧ aFill (zrep [(vint 0),(vint 0),(vint 0),(vint 0),(vint 0),(vint 0)] 2) [(0,6,v6),(6,6,v8)] fun c10 =>
aNewS 2 c10 h9 fun v11 h12 =>
SameB (some B) h4 h12 ∧ (Good prog J 12 [v11,v5,(vint 6)] h12 fun v13 h14 =>
aExt v13 0 fun v15 =>
aExt v13 1 fun v16 =>
Good prog J 24 [] h14 fun v17 h18 =>
aFill [(vint 0),(vint 0)] [(0,1,(vint 5)),(1,1,(vint 1))] fun c19 =>
(((1 * 2 : Nat) ≤ 16777216 ∧ (1 : Nat) ≤ 16777216 ∧ List.length [(vint 0),(vint 0)] = 2) ∧ aFill (zrep [(vint 0),(vint 0)] 1) [(0,2,(Value.agg ⟨c19⟩))] fun c20 =>
aNewS 1 c20 h18 fun v21 h22 =>
aFill [(vint 0),(vint 0),(vint 0),(Value.slice none 0 0)] [(0,3,v17),(3,1,v21)] fun c23 =>
(((1 * 1 : Nat) ≤ 16777216 ∧ (1 : Nat) ≤ 16777216 ∧ List.length [(vint 0)] = 1) ∧ aFill (zrep [(vint 0)] 1) [(0,1,(vint 0))] fun c24 =>
aNewS 1 c24 h22 fun v25 h26 =>
Good prog J 9 [(Value.agg ⟨c23⟩),v25] h26 fun v27 h28 =>
aExt v27 0 fun v29 =>
aExt v27 1 fun v30 =>
(∃ B,aLoad true 3 v2 h28 fun v31 =>
RdOk (some B) (ptrBlk v2) ∧ (Good prog J 24 [] h28 fun v32 h33 =>
SameB (some B) h28 h33 ∧ (Good prog J 23 [] h33 fun v34 h35 =>
SameB (some B) h28 h35 ∧ (Good prog J 10 [v32,v34,v31,(vint 0),(vint 2)] h35 fun v36 h37 =>
aExt v36 0 fun v38 =>
aExt v36 1 fun v39 =>
aBin prog .eql 36 v16 (vint 0) fun v40 =>
cnd v40
(aBin prog .eql 36 v30 (vint 0) fun v41 =>
cnd v41
(aBin prog .eql 36 v39 (vint 0) fun v42 =>
cnd v42
(aBin prog .eql 3 v29 (vint 2) fun v43 =>
cnd v43
(aBin prog .eql 3 v38 (vint 5) fun v44 =>
cnd v44
((((3 * 1 : Nat) ≤ 16777216 ∧ (3 : Nat) ≤ 16777216 ∧ List.length [(vint 0)] = 1) ∧ aFill (zrep [(vint 0)] 3) [(0,1,(vint 0)),(1,1,(vint 0)),(2,1,(vint 1))] fun c45 =>
aNewS 3 c45 h37 fun v46 h47 =>
Good prog J 25 [v15,v46] h47 fun v48 h49 =>
retL h.length K [] [v48] h49))
(retL h.length K [] [(Value.bool false)] h37))
(retL h.length K [] [(Value.bool false)] h37))
(retL h.length K [] [(Value.bool false)] h37))
(retL h.length K [] [(Value.bool false)] h37))
(retL h.length K [] [(Value.bool false)] h37)))))))))))))) := top_eq pok11 ct11 (by kernel_rfl)
theorem g11 (hJ : Closed prog main J) (hs : heapOk h → W prog J 56 h.length 11 (codeOf f11) (RG.mk (regs []) []) h (RetQ prog [.tmp 0] h.length K)) : Good prog J 11 [] h K :=
 good_of_W hJ mixed at11 body11 (by kernel_rfl) (Nat.le_of_ble_eq_true rfl) hs
end
end Go.Proofs.Yteoenhhmcpipoaa
namespace Go.Proofs.Yteoenhhmcpipoaa
open Go.Conc Go.Proofs.Try
set_option maxRecDepth 100000
def topP : Pas := ⟨12,20,1,4,3,2⟩
def topS : SkyR := ⟨3,2,2⟩
def topW : Wel := ⟨8,10,3⟩
theorem y_turn : foundR [topP,topP] topS 6 2 0 = some [0,0,1] := by decide +kernel
theorem y_last : lastA (oneT topW 5) [0] = 2 ∧ lastE (oneT topW 5) [0] = 0 := by decide +kernel
theorem y_bear : bearN topW topP topS 0 2 = 5 ∧ bearE topW topP topS 0 2 = 0 := by decide +kernel
section
variable {main : Bool} {J : JT} {h H : List AObj} {K : Value → List AObj → Prop} {KV : Value → Prop} {HL : List AObj → Prop} {n0 : Nat}
theorem good23 (hJ : Closed prog main J) (hK : ∀ H',SameX [] H H' → K (.agg ⟨topP.cells⟩) H') : Good prog J 23 [] H K := by
 refine g23 hJ fun ok => ?_
 rw [e23]
 refine qAl fun H1 p1 e1 S1 c1 l1 => ?_
 refine fillO (l := [vint 12]) rfl rfl rfl (by decide) (fillO (l := [vint 20]) rfl rfl rfl (by simp [wrAt_length]) (fillO (l := [vint 1]) rfl rfl rfl (by simp [wrAt_length]) (fillO (l := [vint 4]) rfl rfl rfl (by simp [wrAt_length]) (fillO (l := [vint 3]) rfl rfl rfl (by simp [wrAt_length]) (fillO (l := [vint 2]) rfl rfl rfl (by simp [wrAt_length]) (fillI ?_))))))
 refine qStA (c := topP.cells) c1 rfl rfl rfl fun H2 S2 c2 l2 => retQs rfl (resW_cell (gg := true) (s := 6) (by kernel_rfl) ?_)
 exact load_part (c := topP.cells) c2 (by simp [Pas.cells]) rfl rfl (resW_nil (hK H2 (S1.thru S2 (by simp; omega))))
theorem good24 (hJ : Closed prog main J) (hK : ∀ H',SameX [] H H' → K topW.val H') : Good prog J 24 [] H K := by
 refine g24 hJ fun ok => ?_
 rw [e24]
 refine qAl fun H1 p1 e1 S1 c1 l1 => ?_
 refine fillO (l := [vint 8]) rfl rfl rfl (by decide) (fillO (l := [vint 10]) rfl rfl rfl (by simp [wrAt_length]) (fillO (l := [vint 3]) rfl rfl rfl (by simp [wrAt_length]) (fillI ?_)))
 refine qStA (c := topW.cells) c1 rfl rfl rfl fun H2 S2 c2 l2 => retQs rfl (resW_cell (gg := true) (s := 3) (by kernel_rfl) ?_)
 exact load_part (c := topW.cells) c2 (by simp [Wel.cells]) rfl rfl (resW_nil (hK H2 (S1.thru S2 (by simp; omega))))
theorem fillDro {m : Int} {KL : List Value → Prop} (hk : KL [vint m,vint 1]) : aFill [vint 0,vint 0] [(0,1,vint m),(1,1,vint 1)] KL :=
 fillO (l := [vint m]) rfl rfl rfl (by decide) (fillO (l := [vint 1]) rfl rfl rfl (by simp [wrAt_length]) (fillI hk))
theorem fillTro {w : Wel} {m : Int} {p n c : Nat} {KL : List Value → Prop} (hk : KL (troCells (oneT w m) (.slice (some ⟨p,0,none⟩) n c))) : aFill [vint 0,vint 0,vint 0,.slice none 0 0] [(0,3,w.val),(3,1,.slice (some ⟨p,0,none⟩) n c)] KL :=
 fillO (l := w.cells) rfl rfl rfl (by decide) (fillO (l := [.slice (some ⟨p,0,none⟩) n c]) rfl rfl rfl (by simp [wrAt_length]) (fillI hk))
theorem oneAt {w : Wel} {m : Int} {p : Nat} (hc : H[p]? = some (.cells [vint m,vint 1] true 0)) : TroAt H (.agg ⟨troCells (oneT w m) (.slice (some ⟨p,0,none⟩) 1 1)⟩) (oneT w m) (.slice (some ⟨p,0,none⟩) 1 1) :=
 ⟨rfl,ownX_sli (ownX_new (s := 2) (n := 1) (l := [vint m,vint 1]) hc rfl rfl)⟩
theorem sli1 {p : Nat} {a : Int} (hc : H[p]? = some (.cells [vint a] true 0)) : Sli H (.slice (some ⟨p,0,none⟩) 1 1) 1 ([a] : List Int).length (([a] : List Int).map vint) := ownX_sli (ownX_new (s := 1) (n := 1) hc rfl rfl)
theorem fillT3 {a b c : Int} {KL : List Value → Prop} (hk : KL [vint a,vint b,vint c]) : aFill (zrep [vint 0] 3) [(0,1,vint a),(1,1,vint b),(2,1,vint c)] KL :=
 fillO (l := [vint a]) rfl rfl rfl (by decide) (fillO (l := [vint b]) rfl rfl rfl (by rw [wrAt_length]; decide) (fillO (l := [vint c]) rfl rfl rfl (by rw [wrAt_length,wrAt_length]; decide) (fillI hk)))
theorem sliT3 {p : Nat} {a b c : Int} (hc : H[p]? = some (.cells [vint a,vint b,vint c] true 0)) : Sli H (.slice (some ⟨p,0,none⟩) 3 3) 1 ([a,b,c] : List Int).length (([a,b,c] : List Int).map vint) := ownX_sli (ownX_new (s := 1) (n := 3) hc rfl rfl)
theorem good11 {W0 : World} {Post : Value → World → Prop} (hK : ∀ H',K (.bool true) H') : Good prog (J2 prog W0 Post) 11 [] H K := by
 have hJ := J2.closed prog W0 Post
 refine g11 hJ fun ok => ?_
 rw [e11]
 refine fillO (l := [vint 3]) rfl rfl rfl (by decide) (fillO (l := [vint 2]) rfl rfl rfl (by simp [wrAt_length]) (fillO (l := [vint 2]) rfl rfl rfl (by simp [wrAt_length]) (fillI ?_)))
 refine qAl fun H1 p1 e1 S1 c1 l1 => qStA (c := topS.cells) c1 rfl rfl rfl fun H2 S2 c2 l2 => ?_
 have hp := lt_of_get c2
 refine ⟨[p1],load_part (c := topS.cells) c2 (by simp [SkyR.cells]) rfl rfl ⟨by simp [RdOk,ptrBlk],?_⟩⟩
 refine good23 hJ fun H3 S3 => ⟨sbOne S3 hp (by simp),good23 hJ fun H4 S4 => ⟨sbOne (S3.trans S4) hp (by simp),⟨by decide,by decide,rfl⟩,?_⟩⟩
 refine fillO (l := topP.cells) rfl rfl rfl (by decide) (fillO (l := topP.cells) rfl rfl rfl (by rw [wrAt_length]; decide) (fillI (qNew fun H5 p5 e5 S5 c5 l5 => ⟨sbOne ((S3.trans S4).trans S5) hp (by simp),?_⟩)))
 have c5 : H5[p5]? = some (.cells ([topP,topP].flatMap Pas.cells) true 0) := c5
 have hl : SliE H5 (.slice (some ⟨p5,0,none⟩) 2 2) 6 Pas.cells [topP,topP] := ownX_sli (ownX_new (s := 6) (n := 2) c5 rfl rfl)
 refine good12 (q := topP) (s := topS) (heads := 6) (by decide) (by decide) (by decide) 2 rfl hl ?_
 rw [y_turn]
 intro H6 v6 S6 s6
 have c6 := (keepC_unch S6).2 _ _ _ _ (((S3.trans S4).trans S5).get c2 (by simp))
 refine ext0 (ext1 (good24 hJ fun H7 S7 => fillDro ⟨⟨by decide,by decide,rfl⟩,?_⟩))
 refine fillO (l := [vint 5,vint 1]) rfl rfl rfl (by decide) (fillI (qNew fun H8 p8 e8 S8 c8 l8 => fillTro (m := 5) ⟨⟨by decide,by decide,rfl⟩,?_⟩))
 refine fillO (l := [vint 0]) rfl rfl rfl (by decide) (fillI (qNew fun H9 p9 e9 S9 c9 l9 => ?_))
 have c8 : H8[p8]? = some (.cells [vint 5,vint 1] true 0) := c8
 have c9 : H9[p9]? = some (.cells [vint 0] true 0) := c9
 refine good9 hJ (t := oneT topW 5) (r := [0]) (oneAt (S9.get c8 (by simp))) (sli1 c9) (by decide) fun H10 S10 => ?_
 rw [y_last.1,y_last.2]
 have T10 := ((S7.trans S8).trans S9).trans S10
 have c10 := T10.get c6 (by simp)
 have hp10 := lt_of_get c10
 refine ext0 (ext1 ⟨[p1],load_part (c := topS.cells) c10 (by simp [SkyR.cells]) rfl rfl ⟨by simp [RdOk,ptrBlk],?_⟩⟩)
 refine good24 hJ fun H11 S11 => ⟨sbOne S11 hp10 (by simp),good23 hJ fun H12 S12 => ⟨sbOne (S11.trans S12) hp10 (by simp),?_⟩⟩
 refine good10 hJ (w := topW) (p := topP) (s := topS) (fr := 0) (dy := 2) fun H13 S13 => ?_
 rw [y_bear.1,y_bear.2]
 refine ext0 (ext1 ?_)
 refine eqlI (cndI (fun _ => ?_) fun h => absurd rfl h)
 refine eqlI (cndI (fun _ => ?_) fun h => absurd rfl h)
 refine eqlI (cndI (fun _ => ?_) fun h => absurd rfl h)
 refine eqlI (cndI (fun _ => ?_) fun h => absurd rfl h)
 refine eqlI (cndI (fun _ => ?_) fun h => absurd rfl h)
 refine ⟨⟨by decide,by decide,rfl⟩,fillT3 (qNew fun H14 p14 e14 S14 c14 l14 => ?_)⟩
 have T14 := ((T10.trans S11).trans S12).trans (S13.trans S14)
 refine good25 hJ (xs := [0,0,1]) (ys := [0,0,1]) (T14.sli s6 (by simp)) (sliT3 c14) (by decide) (retL_same (by simp [unk]) ?_)
 have := hK H14
 simpa [pack] using this
end
section
variable {w : Wel} {m : Int} {p : Pas} {s : SkyR}
theorem one_rota (o : WelOk 30 w) (hm : 1 ≤ m ∧ m ≤ 10) : rotaE (oneT w m) [0] = 0 := by
 obtain ⟨a,b,c⟩ := o
 have hw : welE w = 0 := by
  unfold welE
  rw [if_pos ⟨by omega,b,by omega⟩]
 have ht : troE (oneT w m) = 0 := by
  have e : (oneT w m).well = w := rfl
  unfold troE
  rw [e,if_neg (by omega),if_neg (by show ¬ fewE (1 : Nat) 1 3 ≠ 0; decide),if_pos]
  intro d hd
  have : d = ⟨m,1⟩ := by simpa [oneT] using hd
  subst this
  exact ⟨by show 1 ≤ m ∧ m ≤ 40; omega,by show (1 : Int) ≤ 1 ∧ (1 : Int) ≤ 8; omega⟩
 unfold rotaE
 rw [if_neg (by omega),if_neg (by show ¬ fewE (1 : Nat) 1 5 ≠ 0; decide),if_pos]
 intro r hr
 have : r = 0 := by simpa using hr
 subst this
 show (-1 : Int) ≤ 0 ∧ (0 : Int) ≤ ((1 : Nat) : Int) - 1
 omega
theorem one_lasts (o : WelOk 30 w) (hm : 1 ≤ m ∧ m ≤ 10) : (lastE (oneT w m) [0] = 11 ∧ ∀ k,m ≤ lvS w m 0 k) ∨ (lastE (oneT w m) [0] = 0 ∧ ∃ k : Nat,lastA (oneT w m) [0] = k ∧ lvS w m 0 k < m ∧ ∀ j,j < k → m ≤ lvS w m 0 j) := by
 have hr := one_rota o hm
 obtain ⟨f,g⟩ := rotaE_fine hr
 by_cases hn : lastsR (oneT w m) [0] < 0
 ·obtain ⟨_,h2⟩ := lasts_neg f (by simp) hn
  refine .inl ⟨?_,fun k => one_wet (k + 1) (fun j _ => h2 j) k (by omega)⟩
  unfold lastE
  rw [if_neg (by omega),if_pos hn]
 ·obtain ⟨k,h1,_,h2,h3⟩ := lasts_pos (by omega : 0 ≤ lastsR (oneT w m) [0])
  have hw := one_wet k h3
  refine .inr ⟨?_,k,?_,(one_dry hw).1 h2,hw⟩
  ·unfold lastE
   rw [if_neg (by omega),if_neg hn]
  ·unfold lastA
   rw [if_pos ⟨hr,by omega⟩,h1]
theorem wel_fine (o : WelOk 30 w) : welE w = 0 := by
 obtain ⟨a,b,c⟩ := o
 unfold welE
 rw [if_pos ⟨by omega,b,by omega⟩]
theorem bear_ok (o : WelOk 30 w) (fp : pasOk p) (fs : skyOk s) {fr dy : Int} (h1 : 0 ≤ fr) (h2 : 1 ≤ dy) (h3 : fr + dy ≤ s.days) : bearE w p s fr dy = 0 ∧ headE p s fr dy = 0 := by
 have hh : headE p s fr dy = 0 := by
  unfold headE fst2 pasE skyE
  rw [if_pos fp,if_pos fs,if_neg (by decide),if_neg (by omega),if_neg (by omega)]
 refine ⟨?_,hh⟩
 unfold bearE
 rw [if_neg (by rw [wel_fine o]; decide),hh]
theorem bear_less (o : WelOk 30 w) (fp : pasOk p) (fs : skyOk s) (hm : 1 ≤ m ∧ m ≤ 10) {k : Nat} (hk : (k : Int) + 1 ≤ s.days) (hd : lvS w m 0 k < m) : bearN w p s 0 ((k : Int) + 1) < m := by
 obtain ⟨h1,h2⟩ := bear_ok (fr := 0) (dy := (k : Int) + 1) o fp fs (by omega) (by omega) (by omega)
 unfold bearN
 rw [if_pos h1]
 have hb := topW_bd (q := fun m => watB w m (0 : Int).toNat ((k : Int) + 1).toNat) (N := 40)
 have h0 : watB w m (0 : Int).toNat ((k : Int) + 1).toNat = false := by
  rw [show (0 : Int).toNat = 0 from rfl,show ((k : Int) + 1).toNat = k + 1 by omega]
  exact watB_no (k := k) (by omega) (by omega)
 have hq := (topW_is (q := fun m => watB w m (0 : Int).toNat ((k : Int) + 1).toNat) (watB_zero (wel_fine o)) (N := 40)).1
 by_cases hlt : topH (fun m => watB w m (0 : Int).toNat ((k : Int) + 1).toNat) 40 < m
 ·omega
 ·have := watB_less (w := w) (fr := (0 : Int).toNat) (dy := ((k : Int) + 1).toNat) (by omega : m ≤ topH (fun m => watB w m (0 : Int).toNat ((k : Int) + 1).toNat) 40) hq
  rw [h0] at this
  cases this
theorem top_ge {q : Int → Bool} {N : Nat} (hm : 0 ≤ m ∧ m ≤ N) (hq : q m = true) : m ≤ topH q N := by
 by_cases h : topH q N < m
 ·have := topH_over h hm.2
  rw [hq] at this
  cases this
 ·omega
theorem bear_more (o : WelOk 30 w) (fp : pasOk p) (fs : skyOk s) (hm : 1 ≤ m ∧ m ≤ 10) {fr dy : Nat} (h2 : 1 ≤ dy) (h3 : ((fr : Int) + dy) ≤ s.days) (hf : stayB p s m fr dy = true) (hw : watB w m fr dy = true) : bearE w p s fr dy = 0 ∧ m ≤ bearN w p s fr dy := by
 obtain ⟨b1,b2⟩ := bear_ok (fr := fr) (dy := dy) o fp fs (by omega) (by omega) h3
 refine ⟨b1,?_⟩
 unfold bearN headN
 rw [if_pos b1,if_pos b2,Int.toNat_natCast,Int.toNat_natCast]
 have t1 := top_ge (q := fun n => stayB p s n fr dy) (N := 40) (by omega) hf
 have t2 := top_ge (q := fun n => watB w n fr dy) (N := 40) (by omega) hw
 omega
end
structure TopR (f : RG) (lv : Value) (p6 p8 : Nat) (heads : Int) : Prop where
 ds : f.ds = []
 r4 : f.r 4 = lv
 r6 : f.r 6 = ptr p6 0
 r7 : f.r 7 = vint heads
 r8 : f.r 8 = ptr p8 0
structure TopH (H : List AObj) (lv : Value) (ls : List Pas) (s : SkyR) (w : Wel) (p6 p8 : Nat) : Prop where
 c6 : H[p6]? = some (.cells s.cells true 0)
 c8 : H[p8]? = some (.cells w.cells true 0)
 sl : SliE H lv 6 Pas.cells ls
theorem TopH.keep {H H' : List AObj} {lv : Value} {ls : List Pas} {s : SkyR} {w : Wel} {p6 p8 : Nat} (a : TopH H lv ls s w p6 p8) (C : KeepC H H') : TopH H' lv ls s w p6 p8 := ⟨C.2 _ _ _ _ a.c6,C.2 _ _ _ _ a.c8,C.sli a.sl⟩
structure TopF (ls : List Pas) (s : SkyR) (w : Wel) (heads : Int) : Prop where
 L : LsOk ls
 gs : skyOk s
 o : WelOk 30 w
 hm : 1 ≤ heads ∧ heads ≤ 10
section
variable {W0 : World} {Post : Value → World → Prop} {K : Value → List AObj → Prop} {n0 : Nat} {H : List AObj} {f : RG} {lv : Value} {ls : List Pas} {s : SkyR} {w : Wel} {p6 p8 : Nat} {heads : Int}
theorem getP {i : Nat} (hi : i < ls.length) : ls[i] = ls.getD i pas0 := by
 rw [List.getD_eq_getElem?_getD,List.getElem?_eq_getElem hi]
 rfl
theorem getU {u : List Int} {i : Nat} (hi : i < u.length) : u[i]? = some (u.getD i 0) := by
 rw [List.getD_eq_getElem?_getD,List.getElem?_eq_getElem hi]
 rfl
theorem dry3 (F : TopF ls s w heads) (A : TopH H lv ls s w p6 p8) (R : TopR f lv p6 p8 heads) {k : Nat} (r61 : f.r 61 = .bool true) (r9 : f.r 9 = vint (k : Nat)) (hk : (k : Int) < s.days) (hd : lvS w heads 0 k < heads) (hK : ∀ H',K (.bool true) H') :
  W prog (J2 prog W0 Post) 174 n0 3 (subC [1,1,1,1,1,1,1,0,1] (codeOf f3)) f H (contX pl3 prog (J2 prog W0 Post) 174 n0 3 ct3 [1,1,1,1,1,1,1,0,1] (codeOf f3) [] (RetQ prog [.tmp 2] n0 K)) := by
 have hJ := J2.closed prog W0 Post
 obtain ⟨L,gs,o,hm⟩ := F
 have Lf := L.few
 have g1 := gs.1
 obtain ⟨ds,r4,r6,r7,r8⟩ := R
 rw [s3_3,r61]
 refine cnd_true.2 ?_
 rw [r9,ds]
 refine lssI (cndI (fun hneg => absurd hneg (by omega)) fun _ => ?_)
 refine l3_4 hJ (fun i : Nat => ls.length - i) (fun i F H' => i ≤ ls.length ∧ TopH H' lv ls s w p6 p8 ∧ TopR F lv p6 p8 heads ∧ F.r 9 = vint (k : Nat) ∧ F.r 11 = vint (i : Nat)) ?_ (s := 0)
  (.inl ⟨by omega,A,⟨ds,r4,r6,r7,r8⟩,r9,rfl⟩)
 clear ds r4 r6 r7 r8 r9 r61
 rintro i F H' ⟨hi,A,⟨ds,r4,r6,r7,r8⟩,r9,r11⟩ okc hnc
 rw [s3_4,r4,r6,r7,r8,r9,r11,ds,sliE_len A.sl]
 refine lssI (cndI (fun hlt => ?_) fun hge => good11 fun H' => retL_same (by simp [unk]) (hK H'))
 have hil : i < ls.length := by omega
 obtain ⟨b,o1,cs,wr,sz,hidx,hb,hos,htk,hkn⟩ := sliE_elem (s := 6) (fun _ => rfl) (by decide) A.sl hil
 have fp := L.get hil
 rw [getP hil] at htk
 refine load_part (c := w.cells) A.c8 (by simp [Wel.cells]) rfl rfl (hidx _ (load_part (c := (ls.getD i pas0).cells) hb hos htk rfl (load_part (c := s.cells) A.c6 (by simp [SkyR.cells]) rfl rfl (addI (by omega) ?_))))
 refine good10 hJ (w := w) (p := ls.getD i pas0) (s := s) (fr := 0) (dy := (k : Int) + 1) fun H9 S9 => ?_
 have hE := (bear_ok (fr := 0) (dy := (k : Int) + 1) o fp gs (by omega) (by omega) (by omega)).1
 have hN := bear_less o fp gs hm (by omega : (k : Int) + 1 ≤ s.days) hd
 rw [hE]
 refine ext0 (ext1 (neqI (cndI (fun h => absurd rfl h) fun _ => geqI (hold.2 ?_))))
 rw [decide_eq_false (show ¬ bearN w (ls.getD i pas0) s 0 ((k : Int) + 1) ≥ heads by omega),s3_6]
 refine cnd_false.2 ?_
 show aBin prog .add 3 (F.r 11) _ _
 rw [r11]
 exact addI (by omega) ⟨i + 1,by dsimp only; omega,.inl ⟨by omega,A.keep (keepC_same S9),⟨ds,r4,r6,r7,r8⟩,r9,by show vint _ = vint _; congr 1⟩⟩
theorem runs3 (F : TopF ls s w heads) (A : TopH H lv ls s w p6 p8) (R : TopR f lv p6 p8 heads) {tv : Value} {u : List Int} (r14 : f.r 14 = tv) (r15 : f.r 15 = vint 0) (hu : Sli H tv 1 u.length (u.map vint)) (hlu : (u.length : Int) = s.days) (hux : ∀ x ∈ u,0 ≤ x ∧ x < (ls.length : Nat)) (ht : turnsB ls s heads u = true) (hw : ∀ k : Nat,(k : Int) < s.days → heads ≤ lvS w heads 0 k) (hK : ∀ H',K (.bool true) H') :
  Sem (J2 prog W0 Post) 174 n0 3 (subC [1,1,1,1,1,1,1,1,1,1,1,0,1,0] (codeOf f3)) f H (contX pl3 prog (J2 prog W0 Post) 174 n0 3 ct3 [1,1,1,1,1,1,1,1,1,1,1,0,1,0] (codeOf f3) [] (RetQ prog [.tmp 2] n0 K)) := by
 have hJ := J2.closed prog W0 Post
 obtain ⟨L,gs,o,hm⟩ := F
 have g1 := gs.1
 obtain ⟨ds,r4,r6,r7,r8⟩ := R
 refine l3_5 hJ (fun i : Nat => u.length - i) (fun i F H' => i ≤ u.length ∧ TopH H' lv ls s w p6 p8 ∧ Sli H' tv 1 u.length (u.map vint) ∧ TopR F lv p6 p8 heads ∧ F.r 14 = tv ∧ F.r 15 = vint (i : Nat)) ?_ (s := 0)
  (.inl ⟨by omega,A,hu,⟨ds,r4,r6,r7,r8⟩,r14,r15⟩)
 clear ds r4 r6 r7 r8 r14 r15 hu A
 rintro i F H' ⟨hi,A,hu,⟨ds,r4,r6,r7,r8⟩,r14,r15⟩ okc hnc
 rw [s3_5,r6,r15,ds]
 refine offI (ldI (v := vint s.days) A.c6 rfl rfl (lssI (cndI (fun hlt => ?_) fun hge => good11 fun H' => retL_same (by simp [unk]) (hK H'))))
 refine l3_7 hJ (fun d : Nat => u.length - i - d) (fun d F H'' => H'' = H' ∧ 1 ≤ d ∧ i + d ≤ u.length ∧ (∀ k,i ≤ k → k < i + d → u.getD k 0 = u.getD i 0) ∧ TopR F lv p6 p8 heads ∧ F.r 14 = tv ∧ F.r 15 = vint (i : Nat) ∧ F.r 16 = vint (d : Nat)) ?_ (s := 1)
  (.inl ⟨rfl,by omega,by omega,fun k h1 h2 => by rw [show k = i by omega],⟨ds,r4,r6,r7,r8⟩,r14,r15,rfl⟩)
 clear ds r4 r6 r7 r8 r14 r15
 rintro d F H'' ⟨rfl,hd1,hd2,hrun,⟨ds,r4,r6,r7,r8⟩,r14,r15,r16⟩ okc hnc
 obtain ⟨bu,hbu,hget⟩ := sliBlk hu (by omega)
 have hx := hux (u.getD i 0) (List.mem_of_getElem? (getU (by omega)))
 obtain ⟨a,ha⟩ := Int.eq_ofNat_of_zero_le hx.1
 have hal : a < ls.length := by omega
 have hui := getU (u := u) (i := i) (by omega)
 rw [ha] at hui
 have ten : ∀ {F : RG} {H9 : List AObj},SameX [] H'' H9 → TopR F lv p6 p8 heads → F.r 14 = tv → F.r 15 = vint (i : Nat) → F.r 16 = vint (d : Nat) → F.r 169 = .bool false →
   W prog (J2 prog W0 Post) 174 n0 3 (subC [1,1,1,1,1,1,1,1,1,1,1,0,1,0,0,1,0,1,1,1,0,1,1] (codeOf f3)) F H9 (contX pl3 prog (J2 prog W0 Post) 174 n0 3 ct3 [1,1,1,1,1,1,1,1,1,1,1,0,1,0,0,1,0,1,1,1,0,1,1] (codeOf f3) [Nx n0 (fun i : Nat => u.length - i) (fun i F H' => i ≤ u.length ∧ TopH H' lv ls s w p6 p8 ∧ Sli H' tv 1 u.length (u.map vint) ∧ TopR F lv p6 p8 heads ∧ F.r 14 = tv ∧ F.r 15 = vint (i : Nat)) i] (RetQ prog [.tmp 2] n0 K)) := by
  intro F H9 S9 R r14 r15 r16 r169
  obtain ⟨ds,r4,r6,r7,r8⟩ := R
  rw [s3_10,r169]
  refine cnd_false.2 ?_
  rw [r15,r16]
  exact addI (by omega) ⟨i + d,by dsimp only; omega,.inl ⟨by omega,A.keep (keepC_same S9),S9.sli hu (by simp),⟨ds,r4,r6,r7,r8⟩,r14,by show vint _ = vint _; congr 1⟩⟩
 have nine : ∀ {F : RG},TopR F lv p6 p8 heads → F.r 14 = tv → F.r 15 = vint (i : Nat) → F.r 16 = vint (d : Nat) → F.r 147 = .bool false →
   W prog (J2 prog W0 Post) 174 n0 3 (subC [1,1,1,1,1,1,1,1,1,1,1,0,1,0,0,1,0,1,1,0,1] (codeOf f3)) F H'' (contX pl3 prog (J2 prog W0 Post) 174 n0 3 ct3 [1,1,1,1,1,1,1,1,1,1,1,0,1,0,0,1,0,1,1,0,1] (codeOf f3) [Nx n0 (fun i : Nat => u.length - i) (fun i F H' => i ≤ u.length ∧ TopH H' lv ls s w p6 p8 ∧ Sli H' tv 1 u.length (u.map vint) ∧ TopR F lv p6 p8 heads ∧ F.r 14 = tv ∧ F.r 15 = vint (i : Nat)) i] (RetQ prog [.tmp 2] n0 K)) := by
  intro F R r14 r15 r16 r147
  obtain ⟨ds,r4,r6,r7,r8⟩ := R
  rw [s3_9,r147]
  refine cnd_false.2 ?_
  rw [r14,r15,r4,r6,r8,r16]
  obtain ⟨b,o1,cs,wr,sz,hidx,hb,hos,htk,hkn⟩ := sliE_elem (s := 6) (fun _ => rfl) (by decide) A.sl hal
  have fp := L.get hal
  rw [getP hal] at htk
  have b6 := lt_of_get A.c6
  have b8 := lt_of_get A.c8
  have bb := lt_of_get hb
  refine ⟨[p6,p8,bu,b],load_part (c := w.cells) A.c8 (by simp [Wel.cells]) rfl rfl ⟨by simp [RdOk,ptrBlk],?_⟩⟩
  refine hget SameX.refl hui fun o3 => ⟨by simp [RdOk,ptrBlk],hidx _ (load_part (c := (ls.getD a pas0).cells) hb hos htk rfl ⟨by simp [RdOk,ptrBlk],load_part (c := s.cells) A.c6 (by simp [SkyR.cells]) rfl rfl ⟨by simp [RdOk,ptrBlk],?_⟩⟩)⟩
  refine good10 hJ (w := w) (p := ls.getD a pas0) (s := s) (fr := (i : Nat)) (dy := (d : Nat)) fun H9 S9 => ⟨fun x hx => S9.2 x (by simp at hx; rcases hx with rfl | rfl | rfl | rfl <;> assumption) (by simp),?_⟩
  have hfed := run_fed (fr := i) (dy := d) L (by omega) hlu hal ht (fun k h1 h2 => (hrun k h1 h2).trans ha) hd2
  obtain ⟨hE,hN⟩ := bear_more o fp gs hm hd1 (by omega) hfed (watB_stay (by omega) fun k hk => hw k (by omega))
  rw [hE]
  refine ext0 (ext1 (neqI (cndI (fun h => absurd rfl h) fun _ => ?_)))
  rw [r7]
  refine lssI (hold.2 ?_)
  rw [decide_eq_false (show ¬ bearN w (ls.getD a pas0) s (i : Nat) (d : Nat) < heads by omega)]
  exact ten S9 (by exact ⟨ds,r4,r6,r7,r8⟩) (by exact r14) (by exact r15) (by exact r16) (by rfl)
 have behind : ∀ {F : RG},TopR F lv p6 p8 heads → F.r 14 = tv → F.r 15 = vint (i : Nat) → F.r 16 = vint (d : Nat) → F.r 131 = .bool false →
   W prog (J2 prog W0 Post) 174 n0 3 (subC [1,1,1,1,1,1,1,1,1,1,1,0,1,0,0,1,0,1,0,0,0,0,1] (codeOf f3)) F H'' (contX pl3 prog (J2 prog W0 Post) 174 n0 3 ct3 [1,1,1,1,1,1,1,1,1,1,1,0,1,0,0,1,0,1,0,0,0,0,1] (codeOf f3) [Nx n0 (fun i : Nat => u.length - i) (fun i F H' => i ≤ u.length ∧ TopH H' lv ls s w p6 p8 ∧ Sli H' tv 1 u.length (u.map vint) ∧ TopR F lv p6 p8 heads ∧ F.r 14 = tv ∧ F.r 15 = vint (i : Nat)) i,Nx n0 (fun d : Nat => u.length - i - d) (fun d F H''' => H''' = H'' ∧ 1 ≤ d ∧ i + d ≤ u.length ∧ (∀ k,i ≤ k → k < i + d → u.getD k 0 = u.getD i 0) ∧ TopR F lv p6 p8 heads ∧ F.r 14 = tv ∧ F.r 15 = vint (i : Nat) ∧ F.r 16 = vint (d : Nat)) d] (RetQ prog [.tmp 2] n0 K)) := by
  intro F R r14 r15 r16 r131
  obtain ⟨ds,r4,r6,r7,r8⟩ := R
  rw [s3_8,r131]
  refine cnd_false.2 ?_
  rw [r14,r15,r4]
  refine hget SameX.refl hui fun o1 => lssI (cndI (fun h => absurd h (by omega)) fun _ => hget SameX.refl hui fun o2 => ?_)
  rw [sliE_len A.sl]
  refine geqI (hold.2 ?_)
  rw [decide_eq_false (show ¬ ((a : Nat) : Int) ≥ ((ls.length : Nat) : Int) by omega)]
  exact nine (by exact ⟨ds,r4,r6,r7,r8⟩) (by exact r14) (by exact r15) (by exact r16) (by rfl)
 rw [s3_7,r6,r14,r15,r16]
 refine addI (by omega) (offI (ldI (v := vint s.days) A.c6 rfl rfl (lssI (cndI (fun hlt2 => ?_) fun hge => hold.2 (behind ⟨ds,r4,r6,r7,r8⟩ r14 r15 r16 rfl)))))
 have e1 : (i : Int) + (d : Int) = ((i + d : Nat) : Int) := by omega
 rw [e1]
 refine addI (by omega) ?_
 rw [e1]
 refine hget SameX.refl (getU (u := u) (i := i + d) (by omega)) fun o1 => hget SameX.refl (getU (u := u) (i := i) (by omega)) fun o2 => eqlI (hold.2 ?_)
 by_cases he : u.getD (i + d) 0 = u.getD i 0
 ·rw [decide_eq_true he,s3_8]
  refine cnd_true.2 ?_
  show aBin prog .add 3 (F.r 16) _ _
  rw [r16]
  refine addI (by omega) ⟨d + 1,by dsimp only; omega,.inl ⟨rfl,by omega,by omega,fun k h1 h2 => ?_,⟨ds,r4,r6,r7,r8⟩,r14,r15,by show vint _ = vint _; congr 1⟩⟩
  by_cases e : k = i + d
  ·rw [e,he]
  ·exact hrun k h1 (by omega)
 ·rw [decide_eq_false he]
  exact behind ⟨ds,r4,r6,r7,r8⟩ r14 r15 r16 rfl
theorem wet3 (F : TopF ls s w heads) (A : TopH H lv ls s w p6 p8) (R : TopR f lv p6 p8 heads) (r61 : f.r 61 = .bool false) (hw : ∀ k : Nat,(k : Int) < s.days → heads ≤ lvS w heads 0 k) (hK : ∀ H',K (.bool true) H') :
  W prog (J2 prog W0 Post) 174 n0 3 (subC [1,1,1,1,1,1,1,0,1] (codeOf f3)) f H (contX pl3 prog (J2 prog W0 Post) 174 n0 3 ct3 [1,1,1,1,1,1,1,0,1] (codeOf f3) [] (RetQ prog [.tmp 2] n0 K)) := by
 have hJ := J2.closed prog W0 Post
 obtain ⟨L,gs,o,hm⟩ := F
 have Lf := L.few
 have g1 := gs.1
 obtain ⟨ds,r4,r6,r7,r8⟩ := R
 rw [s3_3,r61]
 refine cnd_false.2 ?_
 rw [r4,r6,r7,ds]
 refine load_part (c := s.cells) A.c6 (by simp [SkyR.cells]) rfl rfl ?_
 have hc' : cntE ls.length 1 3 = 0 := by
  unfold cntE
  rw [if_neg (by omega),if_neg (by omega)]
 have hE : turnE ls s heads = 0 := turnE_zero hc' ⟨L.2,gs,by omega⟩
 refine goodA12 (by omega) A.sl ⟨fun hn => absurd hE hn,fun _ => ansF_to fun H7 tv e S7 hv => ext0 (ext1 ?_)⟩
 have C7 := keepC_unch S7
 cases hX : (wordsR ls.length s.days.toNat).find? (turnsB ls s heads) with
 | none =>
  rw [hX] at hv
  obtain ⟨rfl,rfl⟩ := hv
  refine neqI (cndI (fun _ => ?_) fun h => absurd h (by decide))
  exact eqlI (cndI (fun _ => good11 fun H' => retL_same (by simp [unk]) (hK H')) fun h => absurd rfl h)
 | some u =>
  rw [hX] at hv
  have hu := hv.sli
  obtain ⟨he,b,etv,_,_⟩ := hv
  have hmem := List.mem_of_find?_eq_some hX
  have htu := List.find?_some hX
  obtain ⟨hul,hux⟩ := words_of hmem
  subst he
  refine neqI (cndI (fun h => absurd rfl h) fun _ => ?_)
  have A7 := A.keep C7
  rw [show aLenS tv = fun Kx => Kx (vint (u.length : Nat)) from by subst etv; rfl]
  refine offI (ldI (v := vint s.days) A7.c6 rfl rfl (neqI (cndI (fun h => absurd (by omega) h) fun _ => ?_)))
  exact runs3 ⟨L,gs,o,hm⟩ A7 ⟨ds,r4,r6,r7,r8⟩ rfl rfl hu (by omega) hux htu hw hK
end
section
variable {W0 : World} {Post : Value → World → Prop} {h : List AObj} {K : Value → List AObj → Prop}
set_option maxHeartbeats 1000000 in
theorem walk3 {nv : Value} {ns : List Int} (sn : Sli h nv 1 ns.length (ns.map vint)) (hln : ns.length < 4611686018427387904) (hK : ∀ H',K (.bool true) H') :
  W prog (J2 prog W0 Post) 174 h.length 3 (codeOf f3) (RG.mk (regs [nv]) []) h (RetQ prog [.tmp 2] h.length K) := by
 have hJ := J2.closed prog W0 Post
 rw [e3]
 refine newX hJ sn hln fun H1 a1 => amX hJ a1 (by omega) (by omega) (by omega) fun n H2 n0 n1 S2 l2 a2 => ?_
 obtain ⟨m,rfl⟩ : ∃ m : Nat,n = (m : Int) := ⟨n.toNat,by omega⟩
 have hm : 1 ≤ m ∧ m ≤ 2 := by omega
 refine l3_1 hJ (fun i : Nat => i) (fun i F H' => ∃ (ls : List Pas) (v : Value) (o : Option Nat),HX h H' ns (30 - 12 * i) ∧ i + ls.length = m ∧ (∀ p ∈ ls,pasOk p) ∧ OwnX H' 6 (ls.flatMap Pas.cells) ls.length v o ∧ (∀ j,o = some j → h.length < j) ∧ F.ds = [] ∧ F.r 3 = ptr h.length 0 ∧ F.r 4 = v ∧ F.r 5 = vint (i : Nat)) ?_ (s := m)
  (.inl ⟨[],.slice none 0 0,none,a2.mono (by omega),by simp,(by simp),⟨rfl,rfl,.inl ⟨rfl,rfl,rfl⟩⟩,(by simp),rfl,rfl,rfl,rfl⟩)
 rintro i F H' ⟨ls,v,o,hx,hi,hok,O,ho,ds,r3,r4,r5⟩ okc hnc
 have lx := hxLt hx
 rw [s3_1,r3,r4,r5]
 refine gtrI (cndI (fun hlt => ?_) fun hge => ?_)
 ·-- a pasture
  refine good6 hJ hx (by omega) fun p H3 fp _ S3 hx3 => ⟨⟨by decide,by decide,rfl⟩,fillO (l := p.cells) rfl rfl rfl (by decide) (fillI (qNew fun H4 p4 e4 S4 c4 l4 => ?_))⟩
  have c4 : H4[p4]? = some (.cells p.cells true 0) := c4
  have O4 := ownX_keep (ownX_keep O S3 (fun j hj => by have := ho j hj; simp; omega)) S4 (by simp)
  refine ⟨⟨rfl,by decide,by decide,by decide⟩,ownX_more O4 (by decide) (by omega) (ownX_sli (ownX_new (s := 6) (n := 1) (l := p.cells) c4 rfl rfl)) fun v5 H5 p6 e5 O5 S5 => subI (by omega) ?_⟩
  have hx4 := hx3.same S4 (by simp)
  have l4x := hxLt hx4
  refine ⟨i - 1,by dsimp only; omega,.inl ⟨ls ++ [p],v5,some p6,(hx4.same S5 (fun x hxo => ?_)).mono (by omega),by rw [List.length_append,List.length_singleton]; omega,fun q hq => ?_,?_,fun j hj => ?_,ds,r3,rfl,?_⟩⟩
  ·have := ho x (Option.mem_toList.1 hxo)
   omega
  ·rcases List.mem_append.1 hq with hq | hq
   ·exact hok q hq
   ·rw [List.mem_singleton.1 hq]
    exact fp
  ·have e1 : (ls ++ [p]).flatMap Pas.cells = ls.flatMap Pas.cells ++ p.cells := by simp [List.flatMap_append]
   rw [e1,List.length_append]
   exact O5
  ·cases hj
   omega
  ·show vint _ = vint _
   congr 1
   omega
 ·have hi0 : i = 0 := by omega
  subst hi0
  have hlm : ls.length = m := by omega
  have L : LsOk ls := ⟨⟨by omega,by omega⟩,hok⟩
  refine good7 hJ hx (by omega) (D := 5) (by decide) fun s H3 gs hs4 S3 hx3 => amX hJ hx3 (by omega) (by omega) (by omega) fun heads H4 h0 h1 S4 l4 hx4 => good8 hJ hx4 (by omega) (by omega) fun w H5 ow S5 hx5 => ?_
  have g1 := gs.1
  have lx5 := hxLt hx5
  refine qAl fun H6 p6 e6 S6 c6 l6 => qAl fun H7 p7 e7 S7 c7 l7 => ?_
  refine qStA (c := s.cells) (S7.get c6 (by simp)) rfl rfl rfl fun H8 S8 c8 l8 => qStA (c := w.cells) (S8.get c7 (by simp; omega)) rfl rfl rfl fun H9 S9 c9 l9 => ?_
  have d6 := S9.get c8 (by simp; omega)
  refine load_part (c := w.cells) c9 (by simp [Wel.cells]) rfl rfl (fillDro ⟨⟨by decide,by decide,rfl⟩,?_⟩)
  refine fillO (l := [vint heads,vint 1]) rfl rfl rfl (by decide) (fillI (qNew fun H10 p10 e10 S10 c10 l10 => fillTro (w := w) (m := heads) ⟨⟨by decide,by decide,rfl⟩,?_⟩))
  refine fillO (l := [vint 0]) rfl rfl rfl (by decide) (fillI (qNew fun H11 p11 e11 S11 c11 l11 => ?_))
  have c10 : H10[p10]? = some (.cells [vint heads,vint 1] true 0) := c10
  have c11 : H11[p11]? = some (.cells [vint 0] true 0) := c11
  refine good9 hJ (t := oneT w heads) (r := [0]) (oneAt (S11.get c10 (by simp))) (sli1 c11) (by simp [oneT]) fun H12 S12 => ext0 (ext1 ?_)
  have T12 := (S10.trans S11).trans S12
  have nho : ∀ j,o = some j → j ∉ [h.length] := fun j hj => by have := ho j hj; simp; omega
  have hol : ∀ j,o = some j → j < H'.length := fun j hj => ownX_lt O j hj
  have T59 : SameX [] H5 H9 := ((S6.trans S7).thru S8 (by simp; omega)).thru S9 (by simp; omega)
  have O12 := ownX_keep (ownX_keep (ownX_keep (ownX_keep (ownX_keep O S3 nho) S4 nho) S5 nho) T59 (by simp)) T12 (by simp)
  have A : TopH H12 v ls s w p6 p7 := ⟨T12.get d6 (by simp),T12.get c9 (by simp),ownX_sli O12⟩
  have FF : TopF ls s w heads := ⟨L,gs,ow,by omega⟩
  rcases one_lasts ow (by omega : 1 ≤ heads ∧ heads ≤ 10) with ⟨he,hall⟩ | ⟨he,k,ha,hd,hbefore⟩
  ·rw [he]
   refine neqI (cndI (fun _ => neqI (hold.2 ?_)) fun h => absurd h (by decide))
   rw [s3_2]
   refine cnd_false.2 ?_
   refine eqlI (cndI (fun h => absurd h (by decide)) fun _ => hold.2 ?_)
   exact wet3 FF A (by exact ⟨ds,r4,rfl,rfl,rfl⟩) (by rfl) (fun k _ => hall k) hK
  ·rw [he,ha]
   refine neqI (cndI (fun h => absurd rfl h) fun _ => hold.2 ?_)
   rw [s3_2]
   refine cnd_false.2 ?_
   refine eqlI (cndI (fun _ => ?_) fun h => absurd rfl h)
   refine offI (ldI (v := vint s.days) A.c6 rfl rfl (lssI (hold.2 ?_)))
   by_cases hks : (k : Int) < s.days
   ·rw [decide_eq_true hks]
    exact dry3 FF A (by exact ⟨ds,r4,rfl,rfl,rfl⟩) (by rfl) (by rfl) hks hd hK
   ·rw [decide_eq_false hks]
    exact wet3 FF A (by exact ⟨ds,r4,rfl,rfl,rfl⟩) (by rfl) (fun j hj => hbefore j (by omega)) hK
end
end Go.Proofs.Yteoenhhmcpipoaa
namespace Go.Proofs.Yteoenhhmcpipoaa
open Go.Conc Go.ChangeShapes Go.WideShapes Go.ChangeAt Go.RowKit Go.Proofs.Try
set_option maxRecDepth 100000
theorem lifted3 (os : Os) (started : os.Started) (H : Type) (enc : TypeId × Value → H) :
  ReturnsInLeavingWide {} checked os 3 .any (Rows.topTurnsSpec.pre6 enc prog f3 Rows.topTurnsRow.domain false) (Rows.topTurnsSpec.post enc prog f3 false true false false) := by
 refine returnsInLeavingWide_of_change_sized (C := checked) own started at3
  (ChangeSpec.witness6 (enc := enc) (C := checked) false ⟨#[],#[.slice none 0 0],[]⟩ 8 (by kernel_rfl) (by kernel_rfl) (by kernel_rfl) (by kernel_rfl)) ?_
 intro W base args ds gs before hval0 hW _ hsz0 _
 have hsz : (DataW.weightsEach prog (f3.params.toList ++ Rows.topTurnsSpec.plain.varTypes prog) (ds ++ gs)).all (· ≤ reachBytes) = true := hsz0
 clear hsz0
 have hval : ∀ (j : Nat) t v,f3.params[j]? = some t → args[j]? = some v → Value.okWide prog W .any base t v := hval0
 have hW' := hW
 obtain ⟨p,q,hA0,hV,rfl,_,_⟩ := hW
 have hA : DataW.TrodAll enc prog W 0 (fun _ => true) true f3.params.toList args.toList ds p := hA0
 have hps : f3.params = #[22] := by kernel_rfl
 rw [hps] at hA hval hsz
 obtain ⟨v0,d0,rfl,rfl,h0⟩ := trodAll_one hA
 obtain ⟨rfl,rfl⟩ := trodVars_none hV
 have u3 : prog.underlying 3 = some (.int .i64) := by kernel_rfl
 have u22 : prog.underlying 22 = some (.slice 3) := by kernel_rfl
 have u4 : prog.underlying 4 = some .bool := by kernel_rfl
 have c3 : prog.cellsOf 3 = 1 := by kernel_rfl
 have b3 : prog.bytesOf 3 = 8 := by kernel_rfl
 have hlt : ∀ x ∈ p,x.block < W.heap.size := fun x hx => by simpa using hW'.lt x (by simpa using hx)
 have hargs : ∀ (W' : World),Below W.heap.size W W' → DataW.TrodAll enc prog W' 0 (fun b => decide (b < W.heap.size)) true [22] [v0] [d0] p := fun W' hn =>
  trodAll_mk1 (Below.trod laidOut (by kernel_rfl) (of_decide_eq_true (by kernel_rfl)) h0 hn hlt)
 obtain ⟨ns,sn,ok2,hbig⟩ := arg_ints u22 u3 c3 (hval 0 22 v0 rfl rfl) h0
 have hln : ns.length < 4611686018427387904 := by
  rcases hbig with rfl | ⟨es,sp,rfl,hle⟩
  ·simp
  ·have := sized_slice hsz (j := 0) (t := 22) (e := 3) rfl rfl u22
   rw [b3] at this
   simp only [reachBytes] at this
   omega
 obtain ⟨M,last,o,w',t',r1,r2,r3,r4⟩ := law_run2 (g := 3) (fn := f3) at3 body3 (by kernel_rfl) W [v0] (Nat.le_of_ble_eq_true (by kernel_rfl : Nat.ble 1 f3.ntmps = true))
  (by
   intro v hv
   simp only [List.mem_cons,List.not_mem_nil,or_false] at hv
   subst hv
   exact ok2)
  (fun Post => walk3 (K := fun v _ => v = .bool true) sn hln fun _ => rfl)
 refine ⟨M,last,o,w',t',r1,r2,r3,r4.mono fun v hF => ?_⟩
 obtain ⟨rfl,hbelow⟩ := hF
 refine ⟨_,_,_,[],_,[],hW',?_,hargs _ hbelow,by rfl,hbelow.frame _,fun h => by cases h⟩
 exact trodAll_mk1 (shut_bool u4 true)
theorem topTurns_holds : Rows.TopTurnsSaid :=
 OpenClaim.holds_of_wide_leaving 3 f3 rfl rfl rfl rfl rfl rfl rfl ⟨rfl,rfl,rfl,rfl,rfl⟩ rfl rfl rfl rfl rfl (by kernel_rfl) at3 (by kernel_rfl)
  (of_decide_eq_true (by kernel_rfl)) (by unfold Func.isWrapper; first | (rw [if_pos (by decide +kernel)]; kernel_rfl) | (rw [if_neg (by decide +kernel)]; exact ⟨rfl,rfl⟩))
  (fun os started H enc _ => lifted3 os started H enc)
#print axioms topTurns_holds
end Go.Proofs.Yteoenhhmcpipoaa
