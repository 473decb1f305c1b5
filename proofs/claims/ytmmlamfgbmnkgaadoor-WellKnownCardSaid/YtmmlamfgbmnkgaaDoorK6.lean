/- Parts of the proof, 6. No conditions. -/
import Derived.Test.YtmmlamfgbmnkgaaDoorK5
import Derived.Test.YtmmlamfgbmnkgaaDoorK2
import Derived.Test.YtmmlamfgbmnkgaaDoorK4
namespace Go.Proofs.YtmmlamfgbmnkgaaDoor
open Go.Conc Go.Proofs.Tryd
set_option maxRecDepth 100000
def welAt (t : Tro) (r : List Int) (k : Nat) : Wel := { t.well with now := lvl t r k }
def hourC (t : Tro) (r : List Int) (k : Nat) : List Value := [vint (lvl t r k), vint (lvl t r (k + 1)), .bool (decide (dry t r k))]
def hourV (t : Tro) (r : List Int) (k : Nat) : Value := .agg ⟨hourC t r k⟩
def Till (n : Nat) (O : List Nat) (h H : List AObj) : Prop := h.length ≤ H.length ∧ ∀ i, i < n ∨ i ∈ O → H[i]? = h[i]?
section
variable {main : Bool} {J : JT} {h H : List AObj} {K : Value → List AObj → Prop} {KV : Value → Prop} {HL : List AObj → Prop} {n0 : Nat}
theorem callF {g : FuncId} {args : List Value} (hg : Nat.blt g prog.funcs.size = true) (hk : Good prog J g args H K) : callV prog (Good prog J) (.func (.func g) #[] #[]) args H K := by
 show (bif Nat.blt g prog.funcs.size then Good prog J g ([] ++ args ++ []) H K else False)
 rw [hg, cond_true, List.nil_append, List.append_nil]
 exact hk
theorem callC {g : FuncId} {args cap : List Value} (hg : Nat.blt g prog.funcs.size = true) (hk : Good prog J g (args ++ cap) H K) : callV prog (Good prog J) (.func (.func g) ⟨[]⟩ ⟨cap⟩) args H K := by
 show (bif Nat.blt g prog.funcs.size then Good prog J g ([] ++ args ++ cap) H K else False)
 rw [hg, cond_true, List.nil_append]
 exact hk
theorem remI {t : TypeId} {a b : Nat} (ha : a < 1000000) (hb : 0 < b) (hk : KV (vint (a % b : Nat))) : aBin prog .rem t (vint (a : Nat)) (vint (b : Nat)) KV := by
 have h1 : Int.tmod (a : Int) (b : Int) = ((a % b : Nat) : Int) := by
  rw [Int.tmod_eq_emod_of_nonneg (by omega)]
  rfl
 simp only [aBin, aInt, true_and]
 rw [h1]
 exact ⟨by omega, hk⟩
theorem good47 (hJ : Closed prog main J) {t : Tro} {fv rv : Value} (ho : (troCells t fv).all one = true) (hr : rv.cells = #[rv] ∧ one rv = true)
  (hK : ∀ H' pt pr, SameX [] H H' → H'[pt]? = some (.cells (troCells t fv) true 0) → H'[pr]? = some (.cells [rv] true 0) → H.length ≤ pt → H.length ≤ pr → K (.func (.func 58) ⟨[]⟩ ⟨[ptr pt 0, ptr pr 0]⟩) H') : Good prog J 47 [.agg ⟨troCells t fv⟩, rv] H K := by
 refine g47 hJ fun ok => ?_
 rw [e47]
 refine qBox ho fun H1 p1 e1 S1 c1 l1 => qBox1 hr.1 hr.2 fun H2 p2 e2 S2 c2 l2 => ?_
 refine ⟨rfl, retL_same (by simp [unk]) (hK H2 p1 p2 (S1.trans S2) (S2.get c1 (by simp)) c2 (by omega) (by omega))⟩
theorem welAt_sm {t : Tro} {r : List Int} (f : TroFine t) (k : Nat) : (welAt t r k).sm := by
 have := lvl_bd (r := r) f k
 have := f.holds
 have := f.fill
 exact ⟨by show -1000000 ≤ lvl t r k ∧ lvl t r k ≤ 1000000; omega, by show -1000000 ≤ t.well.holds ∧ t.well.holds ≤ 1000000; omega, by show -1000000 ≤ t.well.fill ∧ t.well.fill ≤ 1000000; omega⟩
theorem welAt_step {t : Tro} {r : List Int} (k : Nat) : ((welAt t r k).drunk (drinkOf t (turnOf r k))).filled = welAt t r (k + 1) := by
 unfold Wel.drunk Wel.filled welAt
 simp only [Wel.mk.injEq, and_true]
 rfl
theorem good58 (hJ : Closed prog main J) {pt pr : Nat} {t : Tro} {r : List Int} {fv rv y : Value} (X : List Nat) (hX : ∀ x ∈ X, x < H.length) (ct : H[pt]? = some (.cells (troCells t fv) true 0)) (cr : H[pr]? = some (.cells [rv] true 0)) (nt : pt ∉ X) (nr : pr ∉ X)
  (hF : ∀ {H'}, SameX X H H' → SliE H' fv 2 Dro.cells t.flocks) (hR : ∀ {H'}, SameX X H H' → Sli H' rv 1 r.length (r.map vint)) (f : TroFine t) (g : RotaFine t r)
  {I : Nat → List Nat → List AObj → Prop} {St : List AObj → Prop} {N : Nat} (hN : N < 1000) (hlt : ∀ {k O H'}, I k O H' → k < N) (hO : ∀ {k O H'}, I k O H' → ∀ x ∈ O, x < H'.length) (hI : ∀ {k O H1 H2}, Till H.length O H1 H2 → I k O H1 → I k O H2) (h0 : I 0 [] H)
  (round : ∀ (k : Nat) (O : List Nat) (H1 : List AObj) (Q : Value → List AObj → Prop), SameX X H H1 → (∀ x ∈ O, H.length ≤ x) → I k O H1 → (∀ O' H2, SameX (X ++ O) H1 H2 → (∀ x ∈ O', x ∈ O ∨ H1.length ≤ x) → I (k + 1) O' H2 → Q (.bool true) H2) → (∀ H2, SameX (X ++ O) H1 H2 → St H2 → Q (.bool false) H2) → callV prog (Good prog J) y [vint (k : Nat), hourV t r k] H1 Q)
  (hK : ∀ H2, SameX X H H2 → St H2 → K (.tuple ⟨[]⟩) H2) : Good prog J 58 [y, ptr pt 0, ptr pr 0] H K := by
 refine g58 hJ fun ok => ?_
 rw [e58]
 have kn4 : kn1 fv = true := (sli_val (hF SameX.refl)).2.2
 have knr : kn1 rv = true := (sli_val (hR SameX.refl)).2.2
 refine offI (load_part (c := t.well.cells) ct (by simp [troCells]) rfl rfl ?_)
 refine fill_one (l := t.well.cells) rfl rfl rfl (by simp) (fillI ?_)
 refine qAl fun H1 p4 e4 S1 c1 l1 => qStA (c := (welAt t r 0).cells) c1 rfl rfl rfl fun H2 S2 c2 l2 => ?_
 have T2 : SameX X H H2 := S1.weak0.thru S2 (by simp; omega)
 have hlen := g.len
 have hrne : r ≠ [] := by intro e; rw [e] at hlen; simp at hlen
 refine l58_1 hJ (fun k : Nat => N - k) (fun k F H' => ∃ O, SameX X H H' ∧ I k O H' ∧ (∀ x ∈ O, H.length ≤ x ∧ x < H'.length ∧ x ≠ p4) ∧ H'[p4]? = some (.cells (welAt t r k).cells true 0) ∧ F.ds = [] ∧ F.r 0 = y ∧ F.r 1 = ptr pt 0 ∧ F.r 2 = ptr pr 0 ∧ F.r 4 = ptr p4 0 ∧ F.r 5 = .func (.func 45) #[] #[] ∧ F.r 6 = .func (.func 43) #[] #[] ∧ F.r 7 = vint (k : Nat)) ?_ (s := 0)
  (.inl ⟨[], T2, hI ⟨T2.1, fun i hi => by have hi : i < H.length := hi.resolve_right (by simp); rw [S2.2 i (by omega) (by simp; omega), S1.2 i hi (by simp)]⟩ h0, by simp, c2, rfl, rfl, rfl, rfl, rfl, rfl, rfl, rfl⟩)
 rintro k F Hc ⟨O, Sc, ik, iO, cp, ds, r0, r1, r2, r4, r5, r6, r7⟩ okc hnc
 have hkN := hlt ik
 have cpt := Sc.get ct nt
 have cpr := Sc.get cr nr
 have hlc := Sc.1
 have hpc := lt_of_get cp
 rw [s58_1, r1, r2, r7]
 have hmod := Nat.mod_lt k (by omega : 0 < r.length)
 have hturn : r[k % r.length]? = some (turnOf r k) := by
  unfold turnOf
  rw [List.getD_eq_getElem?_getD, List.getElem?_eq_getElem hmod]
  rfl
 have hw := g.who _ (turnOf_mem hrne k)
 -- behind the drinking
 have post : ∀ {F' : RG}, F'.ds = [] → F'.r 0 = y → F'.r 1 = ptr pt 0 → F'.r 2 = ptr pr 0 → F'.r 4 = ptr p4 0 → F'.r 5 = .func (.func 45) #[] #[] → F'.r 6 = .func (.func 43) #[] #[] → F'.r 7 = vint (k : Nat) → F'.r 8 = vint (drinkOf t (turnOf r k)) →
   W prog J 55 H.length 58 (subC [1, 1, 0, 0, 0, 0, 1, 1] (codeOf f58)) F' Hc (contX pl58 prog J 55 H.length 58 ct58 [1, 1, 0, 0, 0, 0, 1, 1] (codeOf f58) [Nx H.length (fun k : Nat => N - k) (fun k F H' => ∃ O, SameX X H H' ∧ I k O H' ∧ (∀ x ∈ O, H.length ≤ x ∧ x < H'.length ∧ x ≠ p4) ∧ H'[p4]? = some (.cells (welAt t r k).cells true 0) ∧ F.ds = [] ∧ F.r 0 = y ∧ F.r 1 = ptr pt 0 ∧ F.r 2 = ptr pr 0 ∧ F.r 4 = ptr p4 0 ∧ F.r 5 = .func (.func 45) #[] #[] ∧ F.r 6 = .func (.func 43) #[] #[] ∧ F.r 7 = vint (k : Nat)) k] (RetQ prog [] H.length K)) := by
  intro F' ds r0 r1 r2 r4 r5 r6 r7 r8
  rw [s58_2, r0, r4, r5, r6, r7, r8]
  refine offI (offI (ldI (v := vint (lvl t r k)) cp rfl rfl ?_))
  refine fill_one rfl rfl rfl (by decide) (fillI ?_)
  refine qAl fun H3 p5 e5 S3 c3 l3 => qStA (c := [vint (lvl t r k), vint 0, .bool false]) c3 rfl rfl rfl fun H4 S4 c4 l4 => ?_
  have cp4 := S4.get (S3.get cp (by simp)) (by simp; omega)
  refine load_part (c := (welAt t r k).cells) cp4 (by simp [Wel.cells]) rfl rfl ?_
  have hdb := drink_bd f (turnOf r k)
  refine callF (by kernel_rfl) (good45 hJ (w := welAt t r k) (welAt_sm f k) (by omega) (vext0 (vext1 ?_)))
  refine qStA (c := ((welAt t r k).drunk (drinkOf t (turnOf r k))).cells) cp4 rfl rfl rfl fun H5 S5 c5 l5 => offI ?_
  have hdry : Value.bool (decide ((welAt t r k).now < drinkOf t (turnOf r k))) = Value.bool (decide (dry t r k)) := rfl
  rw [hdry]
  refine qSt (S5.get c4 (by simp; omega)) (by simp) rfl rfl fun H6 S6 c6 l6 => ?_
  have c56 := S6.get c5 (by simp; omega)
  refine load_part (c := ((welAt t r k).drunk (drinkOf t (turnOf r k))).cells) c56 (by simp [Wel.cells]) rfl rfl ?_
  refine callF (by kernel_rfl) (good43 hJ (w := (welAt t r k).drunk (drinkOf t (turnOf r k))) ?_ ?_)
  ·obtain ⟨a, b, c⟩ := welAt_sm (r := r) f k
   have := lvl_bd (r := r) f k
   refine ⟨?_, b, c⟩
   show -1000000 ≤ lvl t r k - min (lvl t r k) (drinkOf t (turnOf r k)) ∧ lvl t r k - min (lvl t r k) (drinkOf t (turnOf r k)) ≤ 1000000
   have := f.holds
   omega
  rw [welAt_step]
  refine qStA (c := (welAt t r (k + 1)).cells) c56 rfl rfl rfl fun H7 S7 c7 l7 => offI (offI (ldI (v := vint (lvl t r (k + 1))) c7 rfl rfl (offI ?_)))
  refine qSt (S7.get c6 (by simp; omega)) (by simp) rfl rfl fun H8 S8 c8 l8 => ?_
  refine load_part (c := hourC t r k) c8 (by simp [hourC]) rfl rfl ?_
  have T8 : SameX [p4] Hc H8 := (((((SameX.refl (X := [p4])).trans S3.weak0).thru S4 (by simp; omega)).trans S5).thru S6 (by simp; omega)).trans S7 |>.thru S8 (by simp; omega)
  have S8' : SameX X H H8 := Sc.thru T8 (by simp; omega)
  have c78 := S8.get c7 (by simp; omega)
  have nO : p4 ∉ X ++ O := by
   intro hm
   rcases List.mem_append.1 hm with hm | hm
   ·have := hX _ hm
    omega
   ·exact (iO _ hm).2.2 rfl
  have hY : ∀ y ∈ X ++ O, y ∈ X ∨ H.length ≤ y := fun y hm => (List.mem_append.1 hm).imp id fun hm => (iO y hm).1
  have hl8 := T8.1
  refine round k O H8 _ S8' (fun x hx => (iO x hx).1) (hI ⟨T8.1, fun i hi => T8.2 i (by rcases hi with hi | hi; omega; exact (iO i hi).2.1) (by
   rcases hi with hi | hi
   ·simp
    omega
   ·simpa using (iO i hi).2.2)⟩ ik) (fun O' H9 S9 hO' i9 => notI (cnd_false.2 (addI (by omega) ?_))) fun H9 S9 st => notI (cnd_true.2 ?_)
  ·refine ⟨k + 1, by dsimp only; omega, .inl ⟨O', S8'.thru S9 hY, i9, fun x hx => ?_, S9.get c78 nO, ds, r0, r1, r2, r4, r5, r6, by show vint _ = vint _; congr 1⟩⟩
   have h9 := hO i9 x hx
   rcases hO' x hx with hm | hm
   ·exact ⟨(iO x hm).1, h9, (iO x hm).2.2⟩
   ·exact ⟨by omega, h9, by omega⟩
  ·rw [ds]
   exact retL_same (by simp) (hK H9 (S8'.thru S9 hY) st)
 refine ldI (v := rv) cpr rfl knr (ldI (v := rv) cpr rfl knr (lenI (hR Sc) (remI (by omega) (by omega) ?_)))
 refine sli_num' (hR Sc) hturn fun q => geqI (cndI (fun hge => ?_) fun hlt0 => hold.2 ?_)
 ·have hwl : (turnOf r k).toNat < t.flocks.length := by omega
  refine offI (ldI (v := fv) cpt rfl kn4 ?_)
  obtain ⟨b, o, cs, wr, sz, hidx, hb, hol, hft, hkn⟩ := sliE_elem dro_len (by omega) (hF Sc) hwl
  have e : vint (turnOf r k) = vint ((turnOf r k).toNat : Nat) := by congr 1; omega
  rw [e]
  have hd : drinkOf t (turnOf r k) = t.flocks[(turnOf r k).toNat].drinks := by
   unfold drinkOf
   rw [if_pos hge, droAt_mem hwl]
  refine hidx _ (offI (ldI (v := vint (drinkOf t (turnOf r k))) hb (part_get hft (by rw [hd]; rfl)) rfl (hold.2 ?_)))
  exact post ds r0 r1 r2 r4 r5 r6 r7 rfl
 ·refine post ds r0 r1 r2 r4 r5 r6 r7 ?_
  show vint 0 = vint _
  unfold drinkOf
  rw [if_neg hlt0]
theorem hour_one {t : Tro} {r : List Int} {k : Nat} : (hourC t r k).all one = true ∧ kn (hourC t r k) = true := ⟨rfl, rfl⟩
noncomputable abbrev lp27 (st : LoopState) (pend : Option Code) (r : Nat → Value) (d : Nat) : AObj := .loop st pend 27 r 22 #[13, 14] (subC [1, 1, 0, 0] (codeOf f27)) (subC [1, 1, 0, 1] (codeOf f27)) d
theorem round87 (hJ : Closed prog main J) {l p6 p7 d k : Nat} {R : Nat → Value} {many : Int} {tell : Value} {t : Tro} {r : List Int} {Q : Value → List AObj → Prop} (hl : H[l]? = some (lp27 .ready none R d))
  (r6 : R 6 = ptr p6 0) (r7 : R 7 = ptr p7 0) (c6 : H[p6]? = some (.cells [vint many] true 0)) (c7 : H[p7]? = some (.cells [tell] true 0)) (kt : kn1 tell = true) (n6 : p6 ≠ l) (n7 : p7 ≠ l)
  (call : ∀ (H1 : List AObj) (Q1 : Value → List AObj → Prop), (k : Int) ≠ many → SameX [l] H H1 → H1[l]? = some (lp27 .busy none R d) → (∀ u H2, H2[l]? = some (lp27 .busy none R d) → Q (.bool true) (H2.set l (lp27 .ready none R d)) → Q1 u H2) → callV prog (Good prog J) tell [vint (k : Nat), hourV t r k] H1 Q1)
  (stop : ∀ H1, (k : Int) = many → SameX [l] H H1 → H1[l]? = some (lp27 .done (some .ret) R d) → Q (.bool false) H1) :
  callV prog (Good prog J) (.func (.yield l) ⟨[]⟩ ⟨[]⟩) [vint (k : Nat), hourV t r k] H Q := by
 show Good prog J (yid prog l) [vint (k : Nat), hourV t r k] H Q
 have hll := lt_of_get hl
 refine good_round hJ hl rfl (by decide) fun ok => W_sound hJ mixed _ ?_
 rw [a27_1]
 refine qAl fun H1 p1 e1 S1 c1 l1 => qStA (c := hourC t r k) c1 rfl rfl hour_one.1 fun H2 S2 c2 l2 => ?_
 have hl2 : H2[l]? = some (lp27 .ready none R d) := S2.get (S1.get hl (by simp)) (by simp; omega)
 refine ⟨rfl, none, _, _, _, _, _, _, _, hl2, W_sound hJ mixed _ ?_⟩
 rw [b27_1]
 have S02 : SameX [] H H2 := S1.thru S2 (by simp; omega)
 have hl3 : (H2.set l (lp27 .busy none R d))[l]? = some (lp27 .busy none R d) := List.getElem?_set_self (lt_of_get hl2)
 have S3 : SameX [l] H (H2.set l (lp27 .busy none R d)) := (S02.weak0).set (.inl (by simp))
 show aLoad false 1 (R 6) _ _
 rw [r6]
 refine ldI (v := vint many) (S3.get c6 (by simpa using n6)) rfl rfl ?_
 show aBin prog .eql 3 (vint (k : Nat)) (vint many) _
 refine eqlI (cndI (fun he => ?_) fun hne => ?_)
 ·refine ⟨.busy, none, _, _, _, _, _, _, _, hl3, .inl (stop _ he (S3.set (.inl (by simp))) (List.getElem?_set_self (lt_of_get hl3)))⟩
 ·show aLoad false 1 (R 7) _ _
  rw [r7]
  refine ldI (v := tell) (S3.get c7 (by simpa using n7)) rfl kt ?_
  refine load_part (c := hourC t r k) (get_set c2 (by omega)) (by simp [hourC]) rfl hour_one.2 ?_
  refine call _ _ hne S3 hl3 fun u H4 hl4 hq => ?_
  exact ⟨.busy, none, _, _, _, _, _, _, _, hl4, .inl hq⟩
theorem endQ_ret {n : Nat} {f : RG} {Q : QT} {v : Value} {st : LoopState} {fn : FuncId} {r : Nat → Value} {size : Nat} {params : Array Tmp} {assign body : Code} {dfr : Nat} (hl : h[n + 1]? = some (.loop st (some .ret) fn r size params assign body dfr)) (hs : st ≠ .busy) (hq : Q .ret ⟨f.r, n :: f.ds⟩ (h.set (n + 1) .dead)) : endQ n f Q v h :=
 ⟨st, some .ret, _, _, _, _, _, _, _, hl, hs, hq⟩
theorem retL_def {n0 n : Nat} {vs : List Value} (hd : h[n]? = some .deferred) (hv : ∀ v ∈ vs, v ≠ unk) (hk : K (pack vs) (h.set n .dead)) : retL n0 K [n] vs h := by
 have := retL_same (n0 := n0) (H := K) hv hk
 unfold retL at *
 exact ⟨hd, this⟩
theorem good27 (hJ : Closed prog main J) {t : Tro} {r : List Int} {fv rv tell : Value} {many : Int} (X : List Nat) (hX : ∀ x ∈ X, x < H.length)
  (hF : ∀ {H'}, SameX X H H' → SliE H' fv 2 Dro.cells t.flocks) (hR : ∀ {H'}, SameX X H H' → Sli H' rv 1 r.length (r.map vint)) (f : TroFine t) (g : RotaFine t r) (hm : 0 ≤ many ∧ many ≤ 100)
  (htell : tell.cells = #[tell] ∧ one tell = true ∧ kn1 tell = true)
  {I : Nat → List Nat → List AObj → Prop} (hO : ∀ {k O H'}, I k O H' → ∀ x ∈ O, x < H'.length) (hI : ∀ {k O H1 H2}, Till H.length O H1 H2 → I k O H1 → I k O H2) (h0 : I 0 [] H)
  (call : ∀ (k : Nat) (O : List Nat) (H1 : List AObj) (Q : Value → List AObj → Prop), (k : Int) < many → SameX X H H1 → (∀ x ∈ O, H.length ≤ x) → I k O H1 → (∀ u O' H2, SameX (X ++ O) H1 H2 → (∀ x ∈ O', x ∈ O ∨ H1.length ≤ x) → I (k + 1) O' H2 → Q u H2) → callV prog (Good prog J) tell [vint (k : Nat), hourV t r k] H1 Q)
  (hK : ∀ O H2, SameX X H H2 → (∀ x ∈ O, H.length ≤ x) → I many.toNat O H2 → K (.tuple ⟨[]⟩) H2) : Good prog J 27 [.agg ⟨troCells t fv⟩, rv, vint many, tell] H K := by
 have tA : TroAt H (.agg ⟨troCells t fv⟩) t fv := ⟨rfl, hF SameX.refl⟩
 refine g27 hJ fun ok => ?_
 rw [e27]
 have rvo := sli_val (hR SameX.refl)
 refine qBox (tro_one tA) fun H1 p4 e4 S1 c1 l1 => qBox1 (v := vint many) rfl rfl fun H2 p6 e6 S2 c2 l2 => qBox1 htell.1 htell.2.1 fun H3 p7 e7 S3 c3 l3 => ?_
 refine load_part (c := troCells t fv) (S3.get (S2.get c1 (by simp)) (by simp)) (by simp [troCells]) rfl (tro_kn tA) ?_
 refine good47 hJ (tro_one tA) ⟨rvo.1, rvo.2.1⟩ fun H4 pt pr S4 ct cr gt gr => ?_
 have T4 : SameX [] H H4 := ((S1.trans S2).trans S3).trans S4
 have hT4 := T4.1
 have hS4 := S4.1
 refine l27_1 hJ (first := []) (cap := [ptr pt 0, ptr pr 0]) rfl (by decide) ?_
 -- the heap with the loop
 obtain ⟨R, hRe⟩ : ∃ R : Nat → Value, R = (RG.p (RG.p (RG.p (RG.p (RG.p (RG.p (RG.mk (regs [Value.agg ⟨troCells t fv⟩, rv, vint many, tell]) []) 4 (ptr p4 0)) 6 (ptr p6 0)) 7 (ptr p7 0)) 10 (Value.agg ⟨troCells t fv⟩)) 11 rv) 12 (Value.func (.func 58) ⟨[]⟩ ⟨[ptr pt 0, ptr pr 0]⟩)).r := ⟨_, rfl⟩
 have hl5 : (H4 ++ [AObj.deferred] ++ [lp27 .ready none R H4.length])[H4.length + 1]? = some (lp27 .ready none R H4.length) := by
  rw [List.append_assoc]
  simp
 have hd5 : (H4 ++ [AObj.deferred] ++ [lp27 .ready none R H4.length])[H4.length]? = some .deferred := by
  rw [List.append_assoc]
  simp
 have hln : (H4 ++ [AObj.deferred] ++ [lp27 .ready none R H4.length]).length = H4.length + 2 := by simp
 have S5 : SameX [] H4 (H4 ++ [AObj.deferred] ++ [lp27 .ready none R H4.length]) := SameX.refl.app.app
 have c7 : H4[p7]? = some (.cells [tell] true 0) := S4.get c3 (by simp)
 have c6 : H4[p6]? = some (.cells [vint many] true 0) := S4.get (S3.get c2 (by simp)) (by simp)
 have r6 : R 6 = ptr p6 0 := by subst hRe; rfl
 have r7 : R 7 = ptr p7 0 := by subst hRe; rfl
 generalize hH5 : H4 ++ [AObj.deferred] ++ [lp27 .ready none R H4.length] = H5 at hl5 hd5 hln S5
 have T5 : SameX [] H H5 := T4.trans S5
 have hXn : ∀ x ∈ X, x < H5.length := fun x hx => by have := hX x hx; omega
 have nX : ∀ {p : Nat}, H.length ≤ p → p ∉ X := fun hp hx => by have := hX _ hx; omega
 have hY : ∀ {H'}, SameX ((H4.length + 1) :: X) H5 H' → SameX X H H' := fun S => (T5.weak0).thru S (by
  intro y hy
  rcases List.mem_cons.1 hy with rfl | hy
  ·exact .inr (by omega)
  ·exact .inl hy)
 have fin : ∀ {O H'}, SameX ((H4.length + 1) :: X) H5 H' → (∀ x ∈ O, H5.length ≤ x) → I many.toNat O H' → H'[H4.length + 1]? = some (lp27 .done (some .ret) R H4.length) → ∀ v, endQ H4.length ⟨R, []⟩ (contX pl27 prog J 22 H.length 27 ct27 [1, 1, 0] (codeOf f27) [] (RetQ prog [] H.length K)) v H' := by
  intro O H' S hO5 i hl v
  refine endQ_ret hl (by simp) ?_
  rw [c27_1r]
  have hd' := S.get hd5 (by simp only [List.mem_cons, not_or]; exact ⟨by omega, nX (by omega)⟩)
  refine retL_def (get_set hd' (by omega)) (by simp) ?_
  have hs := hY S
  have hs2 : SameX X H ((H'.set (H4.length + 1) .dead).set H4.length .dead) := (hs.set (.inr (by omega))).set (.inr (by omega))
  refine hK O _ hs2 (fun x hx => by have := hO5 x hx; omega) (hI ⟨by simp, fun j hj => ?_⟩ i)
  have : j ≠ H4.length ∧ j ≠ H4.length + 1 := by
   rcases hj with hj | hj
   ·omega
   ·have := hO5 j hj
    omega
  rw [List.getElem?_set, if_neg (by omega), List.getElem?_set, if_neg (by omega)]
 have main131 : Good prog J 58 [.func (.yield (H4.length + 1)) ⟨[]⟩ ⟨[]⟩, ptr pt 0, ptr pr 0] H5 (endQ H4.length ⟨R, []⟩ (contX pl27 prog J 22 H.length 27 ct27 [1, 1, 0] (codeOf f27) [] (RetQ prog [] H.length K))) := by
  refine good58 hJ ((H4.length + 1) :: X) (fun x hx => ?_) (S5.get ct (by simp)) (S5.get cr (by simp)) ?_ ?_ (fun S => hF (hY S)) (fun S => hR (hY S)) f g
   (I := fun k O H' => (k : Int) ≤ many ∧ I k O H' ∧ H'[H4.length + 1]? = some (lp27 .ready none R H4.length)) (St := fun H' => ∃ O, (∀ x ∈ O, H5.length ≤ x) ∧ I many.toNat O H' ∧ H'[H4.length + 1]? = some (lp27 .done (some .ret) R H4.length)) (N := many.toNat + 1) (by omega) (fun hi => by omega) (fun hi => hO hi.2.1)
   (fun ht hi => ⟨hi.1, hI ⟨ht.1, fun j hj => ht.2 j (hj.imp (fun hj => by omega) id)⟩ hi.2.1, by rw [ht.2 _ (.inl (by omega))]; exact hi.2.2⟩) ⟨by omega, hI ⟨T5.1, fun j hj => T5.2 j (hj.resolve_right (by simp)) (by simp)⟩ h0, hl5⟩ (fun k O H1 Q S1 hOn hi k1 k2 => ?_) fun H2 S2 st => by obtain ⟨O, s1, s2, s3⟩ := st; exact fin S2 s1 s2 s3 _
  ·rcases List.mem_cons.1 hx with rfl | hx
   ·omega
   ·exact hXn x hx
  ·have := lt_of_get ct
   simp only [List.mem_cons, not_or]
   exact ⟨by omega, nX (by omega)⟩
  ·have := lt_of_get cr
   simp only [List.mem_cons, not_or]
   exact ⟨by omega, nX (by omega)⟩
  ·obtain ⟨i1, i2, i3⟩ := hi
   have m6 := lt_of_get c6
   have m7 := lt_of_get c7
   have c6' := S1.get (S5.get c6 (by simp)) (by simp only [List.mem_cons, not_or]; exact ⟨by omega, nX (by omega)⟩)
   have c7' := S1.get (S5.get c7 (by simp)) (by simp only [List.mem_cons, not_or]; exact ⟨by omega, nX (by omega)⟩)
   have hl1 := S1.1
   have nO : ∀ {p : Nat}, H.length ≤ p → p < H5.length → p ∉ X ++ O := fun hp hp5 hx => by
    rcases List.mem_append.1 hx with hx | hx
    ·exact nX hp hx
    ·have := hOn _ hx
     omega
   have hO1 := hO i2
   refine round87 hJ i3 r6 r7 c6' c7' htell.2.2 (by omega) (by omega) (fun H6 Q1 hne S6 hl6 kq => ?_) fun H6 he S6 hl6 => ?_
   ·have T6 : Till H.length O H1 H6 := ⟨S6.1, fun j hj => S6.2 j (by rcases hj with hj | hj; omega; exact hO1 j hj) (by
     rcases hj with hj | hj
     ·simp
      omega
     ·have := hOn j hj
      simp
      omega)⟩
    refine call k O H6 _ (by omega) ((hY S1).thru S6 (by simp; omega)) (fun x hx => by have := hOn x hx; omega) (hI T6 i2) fun u O' H7 S7 hO' i7 => kq u H7 (S7.get hl6 (nO (by omega) (by omega))) ?_
    have hl7 := S7.1
    have hl66 := S6.1
    have hOn' : ∀ x ∈ O', H5.length ≤ x := fun x hx => by
     rcases hO' x hx with h | h
     ·exact hOn x h
     ·omega
    refine k1 O' _ ?_ (fun x hx => (hO' x hx).imp id fun h => by omega) ⟨by omega, hI ⟨by simp, fun j hj => ?_⟩ i7, List.getElem?_set_self (by omega)⟩
    ·refine (((S6.weak (Y := ((H4.length + 1) :: X) ++ O) (by simp)).trans (S7.weak fun x hx => by rw [List.cons_append]; exact List.mem_cons_of_mem _ hx))).set (.inl (by simp))
    ·have : j ≠ H4.length + 1 := by
      rcases hj with hj | hj
      ·omega
      ·have := hOn' j hj
       omega
     rw [List.getElem?_set, if_neg (by omega)]
   ·have T6 : Till H.length O H1 H6 := ⟨S6.1, fun j hj => S6.2 j (by rcases hj with hj | hj; omega; exact hO1 j hj) (by
     rcases hj with hj | hj
     ·simp
      omega
     ·have := hOn j hj
      simp
      omega)⟩
    have hk : k = many.toNat := by omega
    subst hk
    exact k2 _ (S6.weak (by simp)) ⟨O, hOn, hI T6 i2, hl6⟩
 subst hRe
 rw [← hH5] at main131
 exact main131
end
theorem rotaE_fine {t : Tro} {r : List Int} (h : rotaE t r = 0) : TroFine t ∧ RotaFine t r := by
 unfold rotaE at h
 split at h
 ·rename_i x
  exact absurd h x
 ·rename_i x
  split at h
  ·rename_i y
   exact absurd h y
  ·rename_i y
   split at h
   ·rename_i z
    refine ⟨troE_fine (by omega), ?_, fun k hk => by have := z k hk; omega⟩
    unfold fewE at y
    split at y
    ·exact absurd (by decide) y
    ·split at y
     ·exact absurd (by decide) y
     ·omega
   ·cases h
def hrsE (t : Tro) (r : List Int) (n : Int) : Int := if rotaE t r ≠ 0 then rotaE t r else if 1 ≤ n ∧ n ≤ 48 then 0 else 1
def levelsR (t : Tro) (r : List Int) (n : Nat) : List Int := (List.range n).map fun i => lvl t r (i + 1)
def dryR (t : Tro) (r : List Int) (n : Nat) : List Int := ((List.range n).filter fun i => decide (dry t r i)).map Int.ofNat
def levelsA (t : Tro) (r : List Int) (n : Int) : List Int := if hrsE t r n = 0 then levelsR t r n.toNat else []
def dryA (t : Tro) (r : List Int) (n : Int) : List Int := if hrsE t r n = 0 then dryR t r n.toNat else []
theorem levelsR_succ {t : Tro} {r : List Int} {n : Nat} : levelsR t r (n + 1) = levelsR t r n ++ [lvl t r (n + 1)] := by
 simp [levelsR, List.range_succ]
theorem dryR_succ {t : Tro} {r : List Int} {n : Nat} : dryR t r (n + 1) = if dry t r n then dryR t r n ++ [(n : Int)] else dryR t r n := by
 unfold dryR
 rw [List.range_succ, List.filter_append]
 by_cases h : dry t r n
 ·simp [h]
 ·simp [h]
theorem dryR_len {t : Tro} {r : List Int} (n : Nat) : (dryR t r n).length ≤ n := by
 unfold dryR
 rw [List.length_map]
 have := List.length_filter_le (fun i => decide (dry t r i)) (List.range n)
 simpa using this
section
variable {main : Bool} {J : JT} {h H : List AObj} {K : Value → List AObj → Prop} {KV : Value → Prop} {n0 : Nat}
theorem ownX_to {H' : List AObj} {s len : Nat} {cs : List Value} {v : Value} {o : Option Nat} (ho : OwnX H s cs len v o) (e : ∀ i, o = some i → H'[i]? = H[i]?) : OwnX H' s cs len v o := by
 obtain ⟨h1, h2, h3 | ⟨i, c, sz, rfl, h4, h5, h6⟩⟩ := ho
 ·exact ⟨h1, h2, .inl h3⟩
 ·exact ⟨h1, h2, .inr ⟨i, c, sz, rfl, h4, by rw [e i rfl]; exact h5, h6⟩⟩
theorem putMore {po : Nat} {cs : List Value} {x lv : Value} {len : Nat} {o : Option Nat} {C : Prop} (hC : C) (h1 : x.cells = #[x]) (h2 : one x = true) (h3 : kn1 x = true) (cp : H[po]? = some (.cells [lv] true 0)) (A : OwnX H 1 cs len lv o) (ho : ∀ i, o = some i → i ≠ po) (hl : len < 1000)
  {HL : List AObj → Prop} (hK : ∀ lv' H' p', SameX (po :: o.toList) H H' → H'[po]? = some (.cells [lv'] true 0) → OwnX H' 1 (cs ++ [x]) (len + 1) lv' (some p') → H.length ≤ p' → HL H') :
  aNewS 1 [x] H fun v h => (C ∧ aApp 1 lv v h fun v9 h10 => aStore 1 (ptr po 0) v9 h10 HL) := by
 refine qNew fun H1 p1 e1 S1 c1 l1 => ⟨hC, ?_⟩
 have A1 := ownX_keep A S1 (by simp)
 refine ownX_more A1 (by omega) (by omega) (ownX_sli (ownX_new (s := 1) (n := 1) (l := [x]) c1 rfl (by simp [kn, h3]))) fun v' H2 p2 e2 A2 S2 => ?_
 have hpo := lt_of_get cp
 have c2 := S2.get (S1.get cp (by simp)) (fun hm => ho po (by simpa using hm) rfl)
 refine qSt c2 (by simp) (ownX_val A2).1 (ownX_val A2).2.1 fun H3 S3 c3 l3 => ?_
 have hl1 := S1.1
 refine hK v' H3 p2 ?_ c3 (ownX_keep A2 S3 fun i hi => by cases hi; simp; omega) (by omega)
 exact (((S1.weak0 (Y := po :: o.toList)).trans (S2.weak fun x hx => List.mem_cons_of_mem _ hx))).trans (S3.weak (by simp))
theorem good28 (hJ : Closed prog main J) {po k : Nat} {t : Tro} {r : List Int} {cs : List Value} {lv : Value} {len : Nat} {o : Option Nat} (cp : H[po]? = some (.cells [lv] true 0)) (A : OwnX H 1 cs len lv o) (ho : ∀ i, o = some i → i ≠ po) (hl : len < 1000)
  (hK : ∀ lv' H' p', SameX (po :: o.toList) H H' → H'[po]? = some (.cells [lv'] true 0) → OwnX H' 1 (cs ++ [vint (lvl t r (k + 1))]) (len + 1) lv' (some p') → H.length ≤ p' → K (.tuple ⟨[]⟩) H') :
  Good prog J 28 [vint (k : Nat), hourV t r k, ptr po 0] H K := by
 refine g28 hJ fun ok => ?_
 rw [e28]
 refine qBox hour_one.1 fun H1 p1 e1 S1 c1 l1 => ?_
 refine ldI (v := lv) (S1.get cp (by simp)) rfl (ownX_val A).2.2 (offI (ldI (v := vint (lvl t r (k + 1))) c1 rfl rfl ?_))
 have hl1 := S1.1
 refine ⟨by decide, fill_one rfl rfl rfl (by decide) (fillI ?_)⟩
 refine putMore (x := vint (lvl t r (k + 1))) (by decide) rfl rfl rfl (S1.get cp (by simp)) (ownX_keep A S1 (by simp)) ho hl fun lv' H' p' S' c' A' g' => retL_same (by simp) (hK lv' H' p' ?_ c' A' (by omega))
 exact (S1.weak0).trans S'
theorem good29 (hJ : Closed prog main J) {po k : Nat} {t : Tro} {r : List Int} {cs : List Value} {lv : Value} {len : Nat} {o : Option Nat} (cp : H[po]? = some (.cells [lv] true 0)) (A : OwnX H 1 cs len lv o) (ho : ∀ i, o = some i → i ≠ po) (hl : len < 1000)
  (hK : ∀ lv' H' p', dry t r k → SameX (po :: o.toList) H H' → H'[po]? = some (.cells [lv'] true 0) → OwnX H' 1 (cs ++ [vint (k : Nat)]) (len + 1) lv' (some p') → H.length ≤ p' → K (.tuple ⟨[]⟩) H')
  (hN : ∀ H', ¬ dry t r k → SameX [] H H' → K (.tuple ⟨[]⟩) H') :
  Good prog J 29 [vint (k : Nat), hourV t r k, ptr po 0] H K := by
 refine g29 hJ fun ok => ?_
 rw [e29]
 refine qBox hour_one.1 fun H1 p1 e1 S1 c1 l1 => ?_
 refine offI (ldI (v := .bool (decide (dry t r k))) c1 rfl rfl ?_)
 have hl1 := S1.1
 refine cndI (fun hd => ?_) fun hd => retL_same (by simp) (hN H1 hd S1)
 refine ldI (v := lv) (S1.get cp (by simp)) rfl (ownX_val A).2.2 ?_
 refine ⟨by decide, fill_one rfl rfl rfl (by decide) (fillI ?_)⟩
 refine putMore (x := vint (k : Nat)) (by decide) rfl rfl rfl (S1.get cp (by simp)) (ownX_keep A S1 (by simp)) ho hl fun lv' H' p' S' c' A' g' => retL_same (by simp) (hK lv' H' p' hd ?_ c' A' (by omega))
 exact (S1.weak0).trans S'
def GrowI (po : Nat) (L : Nat → List Int) (k : Nat) (O : List Nat) (H : List AObj) : Prop :=
 ∃ lv o, O = Option.toList o ∧ H[po]? = some (.cells [lv] true 0) ∧ OwnX H 1 ((L k).map vint) (L k).length lv o ∧ (∀ i, o = some i → i ≠ po) ∧ (L k).length ≤ k
theorem GrowI.lt {po k : Nat} {L : Nat → List Int} {O : List Nat} (a : GrowI po L k O H) : ∀ x ∈ O, x < H.length := by
 obtain ⟨lv, o, rfl, c, A, ho, hl⟩ := a
 intro x hx
 exact ownX_lt A x (by simpa using hx)
theorem GrowI.to {po k n : Nat} {L : Nat → List Int} {O : List Nat} {H1 H2 : List AObj} (hp : po < n) (T : Till n O H1 H2) (a : GrowI po L k O H1) : GrowI po L k O H2 := by
 obtain ⟨lv, o, rfl, c, A, ho, hl⟩ := a
 exact ⟨lv, o, rfl, by rw [T.2 po (.inl hp)]; exact c, ownX_to A fun i hi => T.2 i (.inr (by simpa using hi)), ho, hl⟩
theorem good7 (hJ : Closed prog main J) {v fv rv : Value} {t : Tro} {r : List Int} {n : Int} (ht : TroAt H v t fv) (hr : Sli H rv 1 r.length (r.map vint)) (hl : t.flocks.length ≤ 1000000)
  (hK : ∀ H' lv, SameX [] H H' → Sli H' lv 1 (levelsA t r n).length ((levelsA t r n).map vint) → K (.tuple ⟨[lv, vint (hrsE t r n)]⟩) H') : Good prog J 7 [v, rv, vint n] H K := by
 refine g7 hJ fun ok => ?_
 rw [e7, ht.val]
 refine qBox (tro_one ht) fun H1 p1 e1 S1 c1 l1 => ?_
 have tk := tro_kn ht
 refine load_part (c := troCells t fv) c1 (by simp [troCells]) rfl tk (good26 hJ ⟨rfl, S1.sli ht.fl (by simp)⟩ (S1.sli hr (by simp)) hl (neqI (cndI (fun g1 => ?_) fun g1 => ?_)))
 ·have e : hrsE t r n = rotaE t r := by unfold hrsE; rw [if_pos g1]
  refine retL_same (by simp [unk]) ?_
  have := hK H1 (.slice none 0 0) S1 (by unfold levelsA; rw [if_neg (by omega)]; exact sli_nil)
  rw [e] at this
  exact this
 ·obtain ⟨f, g⟩ := rotaE_fine (by omega : rotaE t r = 0)
  refine good25 hJ (notI (cndN (fun g2 => ?_) fun g2 => ?_))
  ·have e : hrsE t r n = 1 := by unfold hrsE; rw [if_neg g1, if_neg g2]
   refine retL_same (by simp [unk]) ?_
   have := hK H1 (.slice none 0 0) S1 (by unfold levelsA; rw [if_neg (by omega)]; exact sli_nil)
   rw [e] at this
   exact this
  ·have e : hrsE t r n = 0 := by unfold hrsE; rw [if_neg g1, if_pos g2]
   have eA : levelsA t r n = levelsR t r n.toNat := by unfold levelsA; rw [if_pos e]
   refine qAl fun H2 p2 e2 S2 c2 l2 => load_part (c := troCells t fv) (S2.get c1 (by simp)) (by simp [troCells]) rfl tk ⟨rfl, ?_⟩
   have T2 : SameX [] H H2 := S1.trans S2
   refine good27 hJ [p2] (by simp; omega) (fun S => (T2.weak0.trans S).sli ht.fl (by simp; omega)) (fun S => (T2.weak0.trans S).sli hr (by simp; omega)) f g (by omega) ⟨rfl, rfl, rfl⟩
    (I := GrowI p2 (levelsR t r)) (fun i => i.lt) (fun T i => i.to (by omega) T) ⟨.slice none 0 0, none, rfl, c2, ⟨rfl, rfl, .inl ⟨rfl, rfl, rfl⟩⟩, by simp, by simp [levelsR]⟩ (fun k O H3 Q hk S3 hO i3 kq => ?_) fun O H3 S3 hO i3 => ?_
   ·obtain ⟨lv, o, rfl, c3, A3, ho, hll⟩ := i3
    refine callC (by kernel_rfl) (good28 hJ (t := t) (r := r) c3 A3 ho (by omega) fun lv' H4 p4 S4 c4 A4 g4 => kq _ [p4] H4 (by simpa using S4) (fun x hx => ?_) ⟨lv', some p4, rfl, c4, ?_, fun i hi => by cases hi; have := lt_of_get c3; omega, by simp [levelsR]⟩)
    ·have : x = p4 := by simpa using hx
     exact .inr (by omega)
    ·have e1 : levelsR t r (k + 1) = levelsR t r k ++ [lvl t r (k + 1)] := levelsR_succ
     rw [e1, List.map_append, List.length_append]
     exact A4
   ·obtain ⟨lv, o, rfl, c3, A3, ho, hll⟩ := i3
    refine ldI (v := lv) c3 rfl (ownX_val A3).2.2 (retL_same ?_ ?_)
    ·intro v hv
     rcases List.mem_cons.1 hv with rfl | hv
     ·intro e
      have := (ownX_val A3).2.2
      rw [e] at this
      cases this
     ·have : v = vint 0 := by simpa using hv
      subst this
      simp [unk]
    ·have := hK H3 lv (T2.thru S3 (by simp; omega)) (by rw [eA]; exact ownX_sli A3)
     rw [e] at this
     exact this
theorem good8 (hJ : Closed prog main J) {v fv rv : Value} {t : Tro} {r : List Int} {n : Int} (ht : TroAt H v t fv) (hr : Sli H rv 1 r.length (r.map vint)) (hl : t.flocks.length ≤ 1000000)
  (hK : ∀ H' lv, SameX [] H H' → Sli H' lv 1 (dryA t r n).length ((dryA t r n).map vint) → K (.tuple ⟨[lv, vint (hrsE t r n)]⟩) H') : Good prog J 8 [v, rv, vint n] H K := by
 refine g8 hJ fun ok => ?_
 rw [e8, ht.val]
 refine qBox (tro_one ht) fun H1 p1 e1 S1 c1 l1 => ?_
 have tk := tro_kn ht
 refine load_part (c := troCells t fv) c1 (by simp [troCells]) rfl tk (good26 hJ ⟨rfl, S1.sli ht.fl (by simp)⟩ (S1.sli hr (by simp)) hl (neqI (cndI (fun g1 => ?_) fun g1 => ?_)))
 ·have e : hrsE t r n = rotaE t r := by unfold hrsE; rw [if_pos g1]
  refine retL_same (by simp [unk]) ?_
  have := hK H1 (.slice none 0 0) S1 (by unfold dryA; rw [if_neg (by omega)]; exact sli_nil)
  rw [e] at this
  exact this
 ·obtain ⟨f, g⟩ := rotaE_fine (by omega : rotaE t r = 0)
  refine good25 hJ (notI (cndN (fun g2 => ?_) fun g2 => ?_))
  ·have e : hrsE t r n = 1 := by unfold hrsE; rw [if_neg g1, if_neg g2]
   refine retL_same (by simp [unk]) ?_
   have := hK H1 (.slice none 0 0) S1 (by unfold dryA; rw [if_neg (by omega)]; exact sli_nil)
   rw [e] at this
   exact this
  ·have e : hrsE t r n = 0 := by unfold hrsE; rw [if_neg g1, if_pos g2]
   have eA : dryA t r n = dryR t r n.toNat := by unfold dryA; rw [if_pos e]
   refine qAl fun H2 p2 e2 S2 c2 l2 => load_part (c := troCells t fv) (S2.get c1 (by simp)) (by simp [troCells]) rfl tk ⟨rfl, ?_⟩
   have T2 : SameX [] H H2 := S1.trans S2
   refine good27 hJ [p2] (by simp; omega) (fun S => (T2.weak0.trans S).sli ht.fl (by simp; omega)) (fun S => (T2.weak0.trans S).sli hr (by simp; omega)) f g (by omega) ⟨rfl, rfl, rfl⟩
    (I := GrowI p2 (dryR t r)) (fun i => i.lt) (fun T i => i.to (by omega) T) ⟨.slice none 0 0, none, rfl, c2, ⟨rfl, rfl, .inl ⟨rfl, rfl, rfl⟩⟩, by simp, by simp [dryR]⟩ (fun k O H3 Q hk S3 hO i3 kq => ?_) fun O H3 S3 hO i3 => ?_
   ·obtain ⟨lv, o, rfl, c3, A3, ho, hll⟩ := i3
    have hsucc := dryR_succ (t := t) (r := r) (n := k)
    refine callC (by kernel_rfl) (good29 hJ (t := t) (r := r) c3 A3 ho (by omega) (fun lv' H4 p4 hd S4 c4 A4 g4 => kq _ [p4] H4 (by simpa using S4) (fun x hx => ?_) ⟨lv', some p4, rfl, c4, ?_, fun i hi => by cases hi; have := lt_of_get c3; omega, dryR_len _⟩) fun H4 hd S4 => kq _ o.toList H4 S4.weak0 (fun x hx => .inl hx) ⟨lv, o, rfl, S4.get c3 (by simp), ?_, ho, dryR_len _⟩)
    ·have : x = p4 := by simpa using hx
     exact .inr (by omega)
    ·rw [if_pos hd] at hsucc
     rw [hsucc, List.map_append, List.length_append]
     exact A4
    ·rw [if_neg hd] at hsucc
     rw [hsucc]
     exact ownX_keep A3 S4 (by simp)
   ·obtain ⟨lv, o, rfl, c3, A3, ho, hll⟩ := i3
    refine ldI (v := lv) c3 rfl (ownX_val A3).2.2 (retL_same ?_ ?_)
    ·intro v hv
     rcases List.mem_cons.1 hv with rfl | hv
     ·intro e
      have := (ownX_val A3).2.2
      rw [e] at this
      cases this
     ·have : v = vint 0 := by simpa using hv
      subst this
      simp [unk]
    ·have := hK H3 lv (T2.thru S3 (by simp; omega)) (by rw [eA]; exact ownX_sli A3)
     rw [e] at this
     exact this
end
def droT (d : Dro) : List UInt8 := [102, 108, 111, 99, 107, 32, 45] ++ num2 d.drinks.toNat ++ [32, 64] ++ num2 d.every.toNat ++ [10]
def welT (w : Wel) : List UInt8 := [119, 101, 108, 108, 32] ++ num2 w.now.toNat ++ [47] ++ num2 w.holds.toNat ++ [32, 43] ++ num2 w.fill.toNat ++ [10]
def troT (t : Tro) : List UInt8 := welT t.well ++ t.flocks.flatMap droT ++ [116, 114, 111, 117, 103, 104, 10]
theorem droT_len (d : Dro) : (droT d).length ≤ 14 := by
 have := num2_len d.drinks.toNat
 have := num2_len d.every.toNat
 simp only [droT, List.length_append, List.length_cons, List.length_nil]
 omega
theorem welT_len (w : Wel) : (welT w).length ≤ 15 := by
 have := num2_len w.now.toNat
 have := num2_len w.holds.toNat
 have := num2_len w.fill.toNat
 simp only [welT, List.length_append, List.length_cons, List.length_nil]
 omega
theorem flT_len (l : List Dro) : (l.flatMap droT).length ≤ 14 * l.length := by
 induction l with
 | nil => simp
 | cons d l ih =>
  have := droT_len d
  rw [List.flatMap_cons, List.length_append, List.length_cons]
  omega
section
variable {main : Bool} {J : JT} {h H : List AObj} {K : Value → List AObj → Prop} {KV : Value → Prop}
theorem callN (hJ : Closed prog main J) {n : Int} (hn : 0 ≤ n ∧ n < 100) (hK : K (strV (num2 n.toNat)) H) : callV prog (Good prog J) (.func (.func 46) ⟨[]⟩ ⟨[]⟩) [vint n] H K := by
 have := callI hJ (n := n.toNat) (H := H) (K := K) (by omega) hK
 rw [show ((n.toNat : Nat) : Int) = n by omega] at this
 exact this
theorem good21 (hJ : Closed prog main J) {v fv : Value} {t : Tro} (ht : TroAt H v t fv) (hz : troE t = 0) (hK : ∀ H', SameX [] H H' → K (.tuple ⟨[strV (troT t), vint 0]⟩) H') : Good prog J 21 [v] H K := by
 have f := troE_fine hz
 obtain ⟨f1, f2, f3, f4, f5⟩ := id f
 refine g21 hJ fun ok => ?_
 rw [e21, ht.val]
 refine qBox (tro_one ht) fun H1 p1 e1 S1 c1 l1 => ?_
 have tk := tro_kn ht
 have b1 := lt_of_get c1
 refine load_part (c := troCells t fv) c1 (by simp [troCells]) rfl tk ?_
 refine good6 hJ ⟨rfl, S1.sli ht.fl (by simp)⟩ (neqI (cndI (fun g1 => absurd hz g1) fun _ => ?_))
 have r0 : SameB (some [p1]) H1 H1 := fun _ _ => rfl
 have rd : ∀ {o : Nat}, RdOk (some [p1]) (ptrBlk (ptr p1 o)) := by simp [RdOk, ptrBlk]
 have fk : kn1 fv = true := (sli_val ht.fl).2.2
 have wl := welT_len t.well
 refine ⟨[p1], offI (offI (ldI (v := vint t.well.now) c1 rfl rfl ⟨rd, offI (offI (ldI (v := vint t.well.holds) c1 rfl rfl ⟨rd, offI (offI (ldI (v := vint t.well.fill) c1 rfl rfl ⟨rd, ?_⟩))⟩))⟩))⟩
 have l2 := num2_len t.well.now.toNat
 have l3 := num2_len t.well.holds.toNat
 have l4 := num2_len t.well.fill.toNat
 refine callN hJ (by omega) ⟨r0, catC (u := [119, 101, 108, 108, 32]) (by simp; omega) (catC (v := [47]) (by simp; omega) ?_)⟩
 refine callN hJ (by omega) ⟨r0, catC (by simp; omega) (catC (v := [32, 43]) (by simp; omega) ?_)⟩
 refine callN hJ (by omega) ⟨r0, catC (by simp; omega) (catC (v := [10]) (by simp; omega) ?_)⟩
 refine offI (ldI (v := fv) c1 rfl fk ?_)
 have hl1 : SliE H1 fv 2 Dro.cells t.flocks := S1.sli ht.fl (by simp)
 refine lenI hl1 ?_
 refine l21_1 hJ (fun i : Nat => t.flocks.length - i) (fun i F H' => i ≤ t.flocks.length ∧ SameX [] H1 H' ∧ F.ds = [] ∧ F.r 36 = fv ∧ F.r 37 = vint (t.flocks.length : Nat) ∧ F.r 38 = vint (i : Nat) ∧ F.r 5 = .func (.func 46) ⟨[]⟩ ⟨[]⟩ ∧ F.r 6 = strV (welT t.well ++ (t.flocks.take i).flatMap droT)) ?_ (s := 0)
  (.inl ⟨Nat.zero_le _, SameX.refl, rfl, rfl, rfl, rfl, rfl, by show strV _ = strV _; simp [welT]⟩)
 rintro i F H' ⟨hi, S, ds, r36, r37, r38, r5, r6⟩ okc hnc
 rw [s21_1, r36, r37, r38, r5, r6, ds]
 have hlT := flT_len (t.flocks.take i)
 have hlt' : (t.flocks.take i).length ≤ 3 := by rw [List.length_take]; omega
 refine lssI (cndI (fun hlt => ?_) fun hge => ?_)
 ·have hil : i < t.flocks.length := by omega
  obtain ⟨b, o, cs, wr, sz, hidx, hb, hos, htk, hkn⟩ := sliE_elem (s := 2) (fun _ => rfl) (by decide) (S.sli hl1 (by simp)) hil
  have hd := f5 _ (List.getElem_mem hil)
  have htake : (t.flocks.take (i + 1)).flatMap droT = (t.flocks.take i).flatMap droT ++ droT t.flocks[i] := by
   rw [List.take_succ_eq_append_getElem hil, List.flatMap_append]
   simp
  generalize t.flocks[i] = d at htk hd htake
  refine hidx _ (load_part (c := d.cells) hb hos htk rfl (qAl fun H4 p4 e4 S4 c4 l4 => qStA (c := d.cells) c4 rfl rfl rfl fun H5 S5 c5 l5 => ?_))
  have q0 : SameB (some [p4]) H5 H5 := fun _ _ => rfl
  have rq : ∀ {o : Nat}, RdOk (some [p4]) (ptrBlk (ptr p4 o)) := by simp [RdOk, ptrBlk]
  refine ⟨[p4], offI (ldI (v := vint d.drinks) c5 rfl rfl ⟨rq, offI (ldI (v := vint d.every) c5 rfl rfl ⟨rq, ?_⟩)⟩)⟩
  have l5 := num2_len d.drinks.toNat
  have l6 := num2_len d.every.toNat
  obtain ⟨d1, d2⟩ := hd
  refine callN hJ (by omega) ⟨q0, catC (u := [102, 108, 111, 99, 107, 32, 45]) (by simp; omega) (catC (v := [32, 64]) (by simp; omega) ?_)⟩
  refine callN hJ (by omega) ⟨q0, catC (by simp; omega) (catC (v := [10]) (by simp; omega) (catC (by simp only [List.length_append, List.length_cons, List.length_nil]; omega) (addI (by omega) ?_)))⟩
  refine ⟨i + 1, by dsimp only; omega, .inl ⟨by omega, (S.trans S4).thru S5 (by have := S.1; simp; omega), ds, r36, r37, by show vint _ = vint _; congr 1, r5, ?_⟩⟩
  show strV _ = strV _
  rw [htake]
  simp [droT]
 ·have : i = t.flocks.length := by omega
  subst this
  rw [List.take_length] at hlT ⊢
  refine catC (v := [116, 114, 111, 117, 103, 104, 10]) (by simp only [List.length_append, List.length_cons, List.length_nil]; omega) (retL_same (nu2 (by simp [unk, strV]) (by simp [unk])) (hK H' (S1.trans S)))
end
def metP (t : Tro) (r : List Int) (k : Nat) : Int × Int := (lvl t r k, ((k % r.length : Nat) : Int))
def metV (p : Int × Int) : Value := .agg ⟨[vint p.1, vint p.2]⟩
def metL (t : Tro) (r : List Int) (k : Nat) : List (Int × Int) := (List.range k).map (metP t r)
def metE (l : List (Int × Int)) : List (Value × Value) := l.map fun p => (metV p, .bool true)
theorem metL_succ {t : Tro} {r : List Int} {k : Nat} : metL t r (k + 1) = metL t r k ++ [metP t r k] := by simp [metL, List.range_succ]
theorem teqM (a b c d : Int) : teq prog 10000 94 (.agg ⟨[vint a, vint b]⟩) (.agg ⟨[vint c, vint d]⟩) =
 (match some (a == c) with
 | some true => (match some (b == d) with
  | some true => some true
  | some false => some false
  | none => none)
 | some false => some false
 | none => none) := by kernel_rfl
theorem teqM2 (p q : Int × Int) : teq prog 10000 94 (metV p) (metV q) = some (decide (p = q)) := by
 obtain ⟨a, b⟩ := p
 obtain ⟨c, d⟩ := q
 unfold metV
 rw [teqM]
 by_cases e1 : a = c
 ·by_cases e2 : b = d
  ·simp [e1, e2]
  ·rw [beq_eq_false_iff_ne.2 e2, beq_iff_eq.2 e1]
   simp [e2]
 ·rw [beq_eq_false_iff_ne.2 e1]
  simp [e1]
theorem met_find (p : Int × Int) : ∀ l : List (Int × Int), mfind prog 94 (metV p) (metE l) = if p ∈ l then some (some (.bool true)) else some none
 | [] => rfl
 | q :: l => by
  have ih := met_find p l
  show (match teq prog 10000 94 (metV p) (metV q) with
   | some true => some (some (Value.bool true))
   | some false => mfind prog 94 (metV p) (metE l)
   | none => none) = _
  rw [teqM2]
  by_cases h : p = q
  ·simp [h]
  ·rw [decide_eq_false h]
   simp only [ih, List.mem_cons, h, false_or]
theorem met_key (p : Int × Int) : kOk prog 10000 94 (metV p) = true := by kernel_rfl
section
variable {main : Bool} {J : JT} {h H : List AObj} {K : Value → List AObj → Prop} {KV : Value → Prop} {HL : List AObj → Prop} {n0 : Nat}
theorem met_look {b : Nat} {l : List (Int × Int)} {wr : Bool} {p : Int × Int} (hb : h[b]? = some (.map (metE l) wr)) (hk : KV (.bool (decide (p ∈ l)))) : aLook prog 92 false (.map (some b)) (metV p) h KV := by
 have e1 : prog.underlying 92 = some (.map 94 4) := by kernel_rfl
 have e2 : zv1 prog 4 = some (.bool false) := by kernel_rfl
 unfold aLook
 rw [e1]
 simp only
 rw [hb, e2]
 simp only
 rw [met_find]
 by_cases hm : p ∈ l
 ·rw [if_pos hm]
  rw [decide_eq_true hm] at hk
  exact ⟨met_key p, hk⟩
 ·rw [if_neg hm]
  rw [decide_eq_false hm] at hk
  exact ⟨met_key p, hk⟩
theorem met_ne {p : Int × Int} {l : List (Int × Int)} (hm : p ∉ l) : ∀ e ∈ metE l, metV p ≠ e.1 := fun e he h => by
 obtain ⟨q, hq, rfl⟩ := List.mem_map.1 he
 have h : metV p = metV q := h
 have : p = q := by
  obtain ⟨a, b⟩ := p
  obtain ⟨c, d⟩ := q
  simpa [metV, vint] using h
 exact hm (this ▸ hq)
theorem met_updL {p : Int × Int} : ∀ {l : List (Value × Value)}, (∀ e ∈ l, metV p ≠ e.1) → updL (metV p) (.bool true) l = l ++ [(metV p, .bool true)]
 | [], _ => rfl
 | (a, u) :: es, h => by
  have hk : metV p ≠ a := h (a, u) (by simp)
  simp only [updL, if_neg hk, List.cons_append]
  rw [met_updL fun e he => h e (by simp [he])]
theorem met_same (p : Int × Int) : Instr.sameBits 10000 (metV p) (metV p) = true := by simp [Instr.sameBits, metV, vint]
theorem met_upd {b : Nat} {l : List (Int × Int)} {p : Int × Int} (hb : h[b]? = some (.map (metE l) true)) (hm : p ∉ l) (hk : HL (h.set b (.map (metE (l ++ [p])) true))) : aUpdX prog 92 (.map (some b)) (metV p) (.bool true) h HL := by
 have e1 : prog.underlying 92 = some (.map 94 4) := by kernel_rfl
 unfold aUpdX
 rw [e1]
 simp only
 rw [hb]
 have e : metE (l ++ [p]) = metE l ++ [(metV p, .bool true)] := by simp [metE]
 rw [e] at hk
 have hne := met_ne hm
 refine ⟨met_key p, by simp [metV, VOk, AOk, LOk], met_same p, fun e he => ?_, ?_⟩
 ·obtain ⟨q, hq, rfl⟩ := List.mem_map.1 he
  show teq prog 10000 94 (metV p) (metV q) = _
  rw [teqM2]
  have h1 : p ≠ q := fun h => hm (h ▸ hq)
  rw [decide_eq_false h1]
  exact congrArg some (@decide_eq_false _ (Classical.propDecidable _) (hne _ he)).symm
 ·rw [met_updL hne]
  exact hk
theorem endQ_exit {n id : Nat} {f : RG} {Q : QT} {v : Value} {st : LoopState} {fn : FuncId} {r : Nat → Value} {size : Nat} {params : Array Tmp} {assign body : Code} {dfr : Nat} (hl : h[n + 1]? = some (.loop st (some (.exit id)) fn r size params assign body dfr)) (hs : st ≠ .busy) (hq : Q (.exit id) ⟨f.r, n :: f.ds⟩ (h.set (n + 1) .dead)) : endQ n f Q v h :=
 ⟨st, some (.exit id), _, _, _, _, _, _, _, hl, hs, hq⟩
noncomputable abbrev lp32 (st : LoopState) (pend : Option Code) (r : Nat → Value) (d : Nat) : AObj := .loop st pend 32 r 34 #[14, 15] (subC [1, 0, 1, 1, 1, 0, 1, 0, 0] (codeOf f32)) (subC [1, 0, 1, 1, 1, 0, 1, 0, 1] (codeOf f32)) d
theorem round89 (hJ : Closed prog main J) {l p3 p5 p6 pm d k : Nat} {R : Nat → Value} {rv : Value} {t : Tro} {r : List Int} {L : List (Int × Int)} {Q : Value → List AObj → Prop} (hl : H[l]? = some (lp32 .ready none R d))
  (r3 : R 3 = ptr p3 0) (r5 : R 5 = ptr p5 0) (r6 : R 6 = ptr p6 0) (c3 : H[p3]? = some (.cells [rv] true 0)) (c5 : H[p5]? = some (.cells [.map (some pm)] true 0)) (cm : H[pm]? = some (.map (metE L) true)) (c6 : H[p6]? = some (.cells [vint (-1)] true 0))
  (hr : Sli H rv 1 r.length (r.map vint)) (hlen : 0 < r.length) (hk : k < 1000000)
  (n3 : p3 ≠ l) (n5 : p5 ≠ l) (nm : pm ≠ l) (n6 : p6 ≠ l) (n36 : p3 ≠ p6) (nm6 : pm ≠ p6)
  (k1 : ∀ H', ¬ dry t r k → metP t r k ∉ L → SameX [l, pm] H H' → H'[l]? = some (lp32 .ready none R d) → H'[pm]? = some (.map (metE (L ++ [metP t r k])) true) → Q (.bool true) H')
  (k2 : ∀ H', ¬ dry t r k → metP t r k ∈ L → SameX [l] H H' → H'[l]? = some (lp32 .done (some (.exit 0)) R d) → Q (.bool false) H')
  (k3 : ∀ H', dry t r k → SameX [l, p6] H H' → H'[l]? = some (lp32 .done (some (.exit 0)) R d) → H'[p6]? = some (.cells [vint (k : Nat)] true 0) → Q (.bool false) H') :
  callV prog (Good prog J) (.func (.yield l) ⟨[]⟩ ⟨[]⟩) [vint (k : Nat), hourV t r k] H Q := by
 show Good prog J (yid prog l) [vint (k : Nat), hourV t r k] H Q
 have hll := lt_of_get hl
 have kr := (sli_val hr).2.2
 have hmb : mapBlk rv = none := by
  obtain ⟨base, c, hrv, _⟩ := id hr
  rw [hrv]
  rfl
 have h3l := lt_of_get c3
 have h5l := lt_of_get c5
 have h6l := lt_of_get c6
 have hml := lt_of_get cm
 refine good_round hJ hl rfl (by decide) fun ok => W_sound hJ mixed _ ?_
 rw [a32_1]
 refine qAl fun H1 p1 e1 S1 c1 l1 => qStA (c := hourC t r k) c1 rfl rfl hour_one.1 fun H2 S2 c2 l2 => ?_
 have hl2 : H2[l]? = some (lp32 .ready none R d) := S2.get (S1.get hl (by simp)) (by simp; omega)
 refine ⟨rfl, none, _, _, _, _, _, _, _, hl2, W_sound hJ mixed _ ?_⟩
 rw [b32_1]
 have S02 : SameX [] H H2 := S1.thru S2 (by simp; omega)
 have hl3 : (H2.set l (lp32 .busy none R d))[l]? = some (lp32 .busy none R d) := List.getElem?_set_self (lt_of_get hl2)
 have S3 : SameX [l] H (H2.set l (lp32 .busy none R d)) := (S02.weak0).set (.inl (by simp))
 have cx3 : (H2.set l (lp32 .busy none R d))[p1]? = some (.cells (hourC t r k) true 0) := get_set c2 (by omega)
 generalize H2.set l (lp32 .busy none R d) = H3 at hl3 S3 cx3
 have hs3 := S3.1
 have hx3 := lt_of_get cx3
 refine ⟨[p1, p3], ?_⟩
 show aOff (ptr p1 0) 0 _
 refine offI (ldI (v := vint (lvl t r k)) cx3 rfl rfl ⟨by simp [RdOk, ptrBlk, ptr], ?_⟩)
 show aLoad false 1 (R 3) _ _
 rw [r3]
 have hr3 : Sli H3 rv 1 r.length (r.map vint) := by
  obtain ⟨base, c, hrv, hc, hb⟩ := id hr
  refine ⟨base, c, hrv, hc, ?_⟩
  rcases hb with hb | ⟨b, o, hb, hb2 | ⟨cs, wr, sz, hb2, hb3⟩⟩
  ·exact .inl hb
  ·exact .inr ⟨b, o, hb, .inl hb2⟩
  ·refine .inr ⟨b, o, hb, .inr ⟨cs, wr, sz, S3.get hb2 ?_, hb3⟩⟩
   simp only [List.mem_singleton]
   intro e
   subst e
   rw [hl] at hb2
   cases hb2
 refine ldI (v := rv) (S3.get c3 (by simpa using n3)) rfl kr ⟨?_, lenI hr3 ⟨by rw [hmb]; trivial, ?_⟩⟩
 ·show RdOk (some [p1, p3]) (ptrBlk (R 3))
  rw [r3]
  simp [RdOk, ptrBlk, ptr]
 show aBin prog .rem 3 (vint (k : Nat)) (vint (r.length : Nat)) _
 refine remI hk hlen ?_
 refine fill_one rfl rfl rfl (by decide) (fill_one rfl rfl rfl (Nat.le_of_ble_eq_true rfl) (fillI ?_))
 refine qAl fun H4 p7 e7 S4 c4 l4 => ⟨fun b hb => S4.2 b (by simp at hb; omega) (by simp), ?_⟩
 refine qStA (c := [vint (metP t r k).1, vint (metP t r k).2]) c4 rfl rfl rfl fun H5 S5 c5' l5 => ?_
 have S35 : SameX [] H3 H5 := S4.thru S5 (by simp; omega)
 have S05 : SameX [l] H H5 := S3.trans S35.weak0
 have hl5 := S35.get hl3 (by simp)
 refine offI (ldI (v := .bool (decide (dry t r k))) (S35.get cx3 (by simp)) rfl rfl ?_)
 refine cndI (fun hd => ?_) fun hd => ?_
 ·show aStore 1 (R 6) (vint (k : Nat)) _ _
  rw [r6]
  refine qSt (S05.get c6 (by simpa using n6)) (by simp) rfl rfl fun H6 S6 c6' l6 => ?_
  have hl6 := S6.get hl5 (by simpa using n6.symm)
  have hl66 := lt_of_get hl6
  refine ⟨.busy, none, _, _, _, _, _, _, _, hl6, .inl (k3 _ hd ?_ (List.getElem?_set_self hl66) (get_set c6' n6))⟩
  exact ((S05.weak (by simp)).trans (S6.weak (by simp))).set (.inl (by simp))
 ·show aLoad false 1 (R 5) _ _
  rw [r5]
  refine ldI (v := .map (some pm)) (S05.get c5 (by simpa using n5)) rfl rfl ?_
  refine load_part (c := [vint (metP t r k).1, vint (metP t r k).2]) c5' (by simp) rfl rfl ?_
  have cm5 := S05.get cm (by simpa using nm)
  refine met_look (p := metP t r k) cm5 (cndI (fun hm => ?_) fun hm => ?_)
  ·have hl55 := lt_of_get hl5
   refine ⟨.busy, none, _, _, _, _, _, _, _, hl5, .inl (k2 _ hd hm (S05.set (.inl (by simp))) (List.getElem?_set_self hl55))⟩
  ·show aLoad false 1 (R 5) _ _
   rw [r5]
   refine ldI (v := .map (some pm)) (S05.get c5 (by simpa using n5)) rfl rfl ?_
   refine load_part (c := [vint (metP t r k).1, vint (metP t r k).2]) c5' (by simp) rfl rfl ⟨⟨by simp [VOk], rfl⟩, ?_⟩
   refine met_upd (p := metP t r k) cm5 hm ?_
   have hm5 := lt_of_get cm5
   have hl6 : (H5.set pm (.map (metE (L ++ [metP t r k])) true))[l]? = some (lp32 .busy none R d) := get_set hl5 nm.symm
   have hl66 := lt_of_get hl6
   refine ⟨.busy, none, _, _, _, _, _, _, _, hl6, .inl (k1 _ hd hm ?_ (List.getElem?_set_self hl66) (get_set (List.getElem?_set_self hm5) nm))⟩
   exact ((S05.weak (Y := [l, pm]) (by simp)).set (.inl (by simp))).set (.inl (by simp))
theorem met_bound {t : Tro} {r : List Int} (f : TroFine t) (hp : 0 < r.length) {k : Nat} (hd : ∀ i j, i < j → j < k → metP t r i ≠ metP t r j) : k ≤ bound t r := by
 rcases Nat.lt_or_ge (bound t r) k with hk | hk
 ·obtain ⟨i, j, hij, hj, e⟩ := pigeon (bound t r) (fun h => (lvl t r h).toNat * r.length + h % r.length) (fun h _ => by
   have := lvl_bd (r := r) f h
   exact code_lt (Nat.mod_lt h hp) (by omega))
  obtain ⟨e1, e2⟩ := code_inj (Nat.mod_lt i hp) (Nat.mod_lt j hp) e
  have b1 := lvl_bd (r := r) f i
  have b2 := lvl_bd (r := r) f j
  refine absurd ?_ (hd i j hij (by omega))
  unfold metP
  rw [e2, show lvl t r i = lvl t r j from by omega]
 ·exact hk
theorem met_mem {t : Tro} {r : List Int} {k : Nat} {p : Int × Int} : p ∈ metL t r k ↔ ∃ i, i < k ∧ metP t r i = p := by
 simp [metL]
theorem good32 (hJ : Closed prog main J) {v fv rv : Value} {t : Tro} {r : List Int} (ht : TroAt H v t fv) (hr : Sli H rv 1 r.length (r.map vint)) (f : TroFine t) (g : RotaFine t r)
  (hK : ∀ H', SameX [] H H' → K (vint (lastsR t r)) H') : Good prog J 32 [v, rv] H K := by
 refine g32 hJ fun ok => ?_
 rw [e32, ht.val]
 have rvo := sli_val hr
 have hlen := g.len
 have hrne : r ≠ [] := by intro e; rw [e] at hlen; simp at hlen
 refine qBox (tro_one ht) fun H1 p2 e2 S1 c2 l1 => qBox1 rvo.1 rvo.2.1 fun H2 p3 e3 S2 c3 l2 => qNewM fun H3 pm em S3 cm l3 => qAl fun H4 p5 e5 S4 c5 l4 => ?_
 refine qSt c5 (by simp) rfl rfl fun H5 S5 c5 l5 => qAl fun H6 p6 e6 S6 c6 l6 => qSt c6 (by simp) rfl rfl fun H7 S7 c6 l7 => ?_
 have c5 : H5[p5]? = some (.cells [.map (some pm)] true 0) := c5
 have c6 : H7[p6]? = some (.cells [vint (-1)] true 0) := c6
 have T4 : SameX [] H H4 := ((S1.trans S2).trans S3).trans S4
 have T7 : SameX [] H H7 := (((T4.thru S5 (by have := T4.1; simp; omega)).trans S6).thru S7 (by have := T4.1; simp; omega))
 have U7 : SameX [p5, p6] H4 H7 := ((S5.weak (by simp)).trans S6.weak0).trans (S7.weak (by simp))
 have c27 : H7[p2]? = some (.cells (troCells t fv) true 0) := U7.get (S4.get (S3.get (S2.get c2 (by simp)) (by simp)) (by simp)) (by simp; omega)
 have c37 : H7[p3]? = some (.cells [rv] true 0) := U7.get (S4.get (S3.get c3 (by simp)) (by simp)) (by simp; omega)
 have cm7 : H7[pm]? = some (.map [] true) := U7.get (S4.get cm (by simp)) (by simp; omega)
 have c57 : H7[p5]? = some (.cells [.map (some pm)] true 0) := S7.get (S6.get c5 (by simp)) (by simp; omega)
 have hS1 := S1.1
 refine load_part (c := troCells t fv) c27 (by simp [troCells]) rfl (tro_kn ht) (ldI (v := rv) c37 rfl rvo.2.2 ?_)
 refine good47 hJ (tro_one ht) ⟨rvo.1, rvo.2.1⟩ fun H8 pt pr S8 ct cr gt gr => ?_
 have T8 : SameX [] H H8 := T7.trans S8
 have hT8 := S8.1
 have hT7 := T7.1
 refine l32_1 hJ (first := []) (cap := [ptr pt 0, ptr pr 0]) rfl (by decide) ?_
 obtain ⟨R, hRe⟩ : ∃ R : Nat → Value, R = (RG.p (RG.p (RG.p (RG.p (RG.p (RG.p (RG.p (RG.p (RG.p (RG.mk (regs [Value.agg ⟨troCells t fv⟩, rv]) []) 2 (ptr p2 0)) 3 (ptr p3 0)) 4 (vint 0)) 10 (.map (some pm))) 5 (ptr p5 0)) 6 (ptr p6 0)) 11 (Value.agg ⟨troCells t fv⟩)) 12 rv) 13 (Value.func (.func 58) ⟨[]⟩ ⟨[ptr pt 0, ptr pr 0]⟩)).r := ⟨_, rfl⟩
 have hl9 : (H8 ++ [AObj.deferred] ++ [lp32 .ready none R H8.length])[H8.length + 1]? = some (lp32 .ready none R H8.length) := by
  rw [List.append_assoc]
  simp
 have hd9 : (H8 ++ [AObj.deferred] ++ [lp32 .ready none R H8.length])[H8.length]? = some .deferred := by
  rw [List.append_assoc]
  simp
 have hln : (H8 ++ [AObj.deferred] ++ [lp32 .ready none R H8.length]).length = H8.length + 2 := by simp
 have S9 : SameX [] H8 (H8 ++ [AObj.deferred] ++ [lp32 .ready none R H8.length]) := SameX.refl.app.app
 have r3 : R 3 = ptr p3 0 := by subst hRe; rfl
 have r5 : R 5 = ptr p5 0 := by subst hRe; rfl
 have r6 : R 6 = ptr p6 0 := by subst hRe; rfl
 generalize hH9 : H8 ++ [AObj.deferred] ++ [lp32 .ready none R H8.length] = H9 at hl9 hd9 hln S9
 have T9 : SameX [] H H9 := T8.trans S9
 have S79 : SameX [] H7 H9 := S8.trans S9
 have cx3 := S79.get c37 (by simp)
 have cx5 := S79.get c57 (by simp)
 have cx6 := S79.get c6 (by simp)
 have cxm := S79.get cm7 (by simp)
 have q2 := lt_of_get c2
 have q3 := lt_of_get c3
 have qm := lt_of_get cm
 have q6 := lt_of_get c6
 have q5 := lt_of_get c57
 have hlp : H.length ≤ p2 := by omega
 have hY : ∀ {H'}, SameX [H8.length + 1, pm, p6] H9 H' → SameX [] H H' := fun S => T9.thru S (by simp; omega)
 have fin : ∀ {H'}, SameX [H8.length + 1, pm, p6] H9 H' → H'[p6]? = some (.cells [vint (lastsR t r)] true 0) → H'[H8.length + 1]? = some (lp32 .done (some (.exit 0)) R H8.length) → ∀ v, endQ H8.length ⟨R, []⟩ (contX pl32 prog J 34 H.length 32 ct32 [1, 0, 1, 1, 1, 0, 1, 0] (codeOf f32) [] (RetQ prog [.tmp 4] H.length K)) v H' := by
  intro H' S h6 hl v
  refine endQ_exit hl (by simp) ?_
  rw [c32_1x0]
  show aLoad false 1 (R 6) _ _
  rw [r6]
  refine ldI (v := vint (lastsR t r)) (get_set h6 (by omega)) rfl rfl ?_
  have hd' := S.get hd9 (by simp; omega)
  refine retL_def (get_set hd' (by omega)) (by simp [unk]) ?_
  exact hK _ (((hY S).set (.inr (by omega))).set (.inr (by omega)))
 have main131 : Good prog J 58 [.func (.yield (H8.length + 1)) ⟨[]⟩ ⟨[]⟩, ptr pt 0, ptr pr 0] H9 (endQ H8.length ⟨R, []⟩ (contX pl32 prog J 34 H.length 32 ct32 [1, 0, 1, 1, 1, 0, 1, 0] (codeOf f32) [] (RetQ prog [.tmp 4] H.length K))) := by
  have lpt := lt_of_get ct
  have lpr := lt_of_get cr
  refine good58 hJ [H8.length + 1, pm, p6] (by simp; omega) (S9.get ct (by simp)) (S9.get cr (by simp)) (by simp; omega) (by simp; omega) (fun S => (hY S).sli ht.fl (by simp)) (fun S => (hY S).sli hr (by simp)) f g
   (I := fun k O H' => O = [] ∧ H'[H8.length + 1]? = some (lp32 .ready none R H8.length) ∧ H'[pm]? = some (.map (metE (metL t r k)) true) ∧ H'[p6]? = some (.cells [vint (-1)] true 0) ∧ (∀ i, i < k → ¬ dry t r i) ∧ (∀ i j, i < j → j < k → metP t r i ≠ metP t r j))
   (St := fun H' => H'[H8.length + 1]? = some (lp32 .done (some (.exit 0)) R H8.length) ∧ H'[p6]? = some (.cells [vint (lastsR t r)] true 0)) (N := bound t r + 1) (by have := bound_le f g.len.2; omega) (fun hi => Nat.lt_succ_of_le (met_bound f (by omega) hi.2.2.2.2.2)) (fun hi => by rw [hi.1]; simp)
   (fun T hi => ⟨hi.1, by rw [T.2 _ (.inl (by omega))]; exact hi.2.1, by rw [T.2 _ (.inl (by omega))]; exact hi.2.2.1, by rw [T.2 _ (.inl (by omega))]; exact hi.2.2.2.1, hi.2.2.2.2⟩)
   ⟨rfl, hl9, cxm, cx6, by simp, by simp⟩ (fun k O Ha Q Sa _ hi k1 k2 => ?_) fun H' S' st => fin S' st.2 st.1 _
  obtain ⟨rfl, i1, i2, i3, i4, i5⟩ := hi
  have hkb := met_bound f (by omega) i5
  have hbl := bound_le f g.len.2
  refine round89 hJ (t := t) i1 r3 r5 r6 (Sa.get cx3 (by simp; omega)) (Sa.get cx5 (by simp; omega)) i2 i3 ((hY Sa).sli hr (by simp)) (by omega) (by omega) (by omega) (by omega) (by omega) (by omega) (by omega) (by omega) (fun Hb nd nm Sb hb1 hb2 => ?_) (fun Hb nd hm Sb hb1 => ?_) fun Hb hd Sb hb1 hb2 => ?_
  ·refine k1 [] Hb (Sb.weak (by simp)) (by simp) ⟨rfl, hb1, by rw [metL_succ]; exact hb2, Sb.get i3 (by simp; omega), fun i hi => ?_, fun i j hij hj => ?_⟩
   ·rcases Nat.lt_or_ge i k with x | x
    ·exact i4 i x
    ·rwa [show i = k from by omega]
   ·rcases Nat.lt_or_ge j k with x | x
    ·exact i5 i j hij x
    ·have : j = k := by omega
     subst this
     intro e
     exact nm (met_mem.2 ⟨i, hij, e⟩)
  ·obtain ⟨i, hik, e⟩ := met_mem.1 hm
   have hlst : lastsR t r = -1 := by
    refine lasts_none (dry_back hik ?_ ?_ i4)
    ·have := congrArg Prod.fst e
     exact this
    ·have := congrArg Prod.snd e
     have : ((i % r.length : Nat) : Int) = ((k % r.length : Nat) : Int) := this
     omega
   exact k2 Hb (Sb.weak (by simp)) ⟨hb1, by rw [hlst]; exact Sb.get i3 (by simp; omega)⟩
  ·have hlst : lastsR t r = k := lasts_at f hrne hd i4
   exact k2 Hb (Sb.weak (by simp)) ⟨hb1, by rw [hlst]; exact hb2⟩
 subst hRe
 rw [← hH9] at main131
 exact main131
def lastA (t : Tro) (r : List Int) : Int := if rotaE t r = 0 ∧ 0 ≤ lastsR t r then lastsR t r else 0
def lastE (t : Tro) (r : List Int) : Int := if rotaE t r ≠ 0 then rotaE t r else if lastsR t r < 0 then 11 else 0
theorem good12 (hJ : Closed prog main J) {v fv rv : Value} {t : Tro} {r : List Int} (ht : TroAt H v t fv) (hr : Sli H rv 1 r.length (r.map vint)) (hl : t.flocks.length ≤ 1000000)
  (hK : ∀ H', SameX [] H H' → K (.tuple ⟨[vint (lastA t r), vint (lastE t r)]⟩) H') : Good prog J 12 [v, rv] H K := by
 refine g12 hJ fun ok => ?_
 rw [e12, ht.val]
 refine qBox (tro_one ht) fun H1 p1 e1 S1 c1 l1 => ?_
 have tk := tro_kn ht
 refine load_part (c := troCells t fv) c1 (by simp [troCells]) rfl tk (good26 hJ ⟨rfl, S1.sli ht.fl (by simp)⟩ (S1.sli hr (by simp)) hl (neqI (cndI (fun g1 => ?_) fun g1 => ?_)))
 ·have e : lastE t r = rotaE t r := by unfold lastE; rw [if_pos g1]
  have e' : lastA t r = 0 := by unfold lastA; rw [if_neg fun x => g1 x.1]
  refine retL_same (by simp [unk]) ?_
  have := hK H1 S1
  rw [e, e'] at this
  exact this
 ·obtain ⟨f, g⟩ := rotaE_fine (by omega : rotaE t r = 0)
  refine load_part (c := troCells t fv) c1 (by simp [troCells]) rfl tk (good32 hJ ⟨rfl, S1.sli ht.fl (by simp)⟩ (S1.sli hr (by simp)) f g fun H2 S2 => ?_)
  have T2 := S1.trans S2
  refine lssI (cndI (fun g2 => ?_) fun g2 => ?_)
  ·have e : lastE t r = 11 := by unfold lastE; rw [if_neg g1, if_pos g2]
   have e' : lastA t r = 0 := by unfold lastA; rw [if_neg fun x => by have := x.2; omega]
   refine retL_same (by simp [unk]) ?_
   have := hK H2 T2
   rw [e, e'] at this
   exact this
  ·have e : lastE t r = 0 := by unfold lastE; rw [if_neg g1, if_neg g2]
   have e' : lastA t r = lastsR t r := by unfold lastA; rw [if_pos ⟨by omega, by omega⟩]
   refine retL_same (by simp [unk]) ?_
   have := hK H2 T2
   rw [e, e'] at this
   exact this
end
end Go.Proofs.YtmmlamfgbmnkgaaDoor
namespace Go.Proofs.YtmmlamfgbmnkgaaDoor
open Go.Conc Go.Proofs.Tryd
set_option maxRecDepth 100000
set_option maxHeartbeats 4000000
set_option linter.unusedVariables false
section
variable {main : Bool} {J : JT} {n0 : Nat} {h : List AObj} {K : Value → List AObj → Prop}
theorem at34 : prog.funcs[34]? = some f34 := by kernel_rfl
theorem body34 : f34.body = some (codeOf f34) := by kernel_rfl
def pl34 : Plans := []
def ct34 : Cuts := .go
theorem pok34 : plansOk prog pl34 (codeOf f34) = true := by kernel_rfl
theorem e34 {a0 a1 a2 : Value} : W prog J 19 h.length 34 (codeOf f34) (RG.mk (regs [a0, a1, a2]) []) h (RetQ prog [.tmp 6, .tmp 7] h.length K) =
(Sem J 19 h.length 34 (subC [1, 0, 1, 0] (codeOf f34)) (RG.p (RG.p (RG.p (RG.p (RG.mk (regs [a0, a1, a2]) []) 6 (vint 0)) 7 (Value.bool false)) 9 a0) 8 a0) h (contX pl34 prog J 19 h.length 34 ct34 [1, 0, 1, 0] (codeOf f34) [] (RetQ prog [.tmp 6, .tmp 7] h.length K))) := top_eq pok34 ct34 (by kernel_rfl)
theorem g34 (hJ : Closed prog main J) {a0 a1 a2 : Value} (hs : heapOk h → W prog J 19 h.length 34 (codeOf f34) (RG.mk (regs [a0, a1, a2]) []) h (RetQ prog [.tmp 6, .tmp 7] h.length K)) : Good prog J 34 [a0, a1, a2] h K :=
 good_of_W hJ mixed at34 body34 (by kernel_rfl) (Nat.le_of_ble_eq_true rfl) hs
theorem s34_1 {f : RG} {nx0 : RG → List AObj → Prop} : W prog J 19 n0 34 (subC [1, 0, 1, 0, 0] (codeOf f34)) f h (thenK nx0 (contX pl34 prog J 19 n0 34 ct34 [1, 0, 1, 0] (codeOf f34) [] (RetQ prog [.tmp 6, .tmp 7] n0 K))) =
(aBin prog .leq 3 (f.r 8) (f.r 1) fun v1 =>
cnd v1
(callV prog (Good prog J) (f.r 2) [(f.r 8)] h fun v2 h3 =>
cnd v2
(retL n0 K f.ds [(f.r 8), (Value.bool true)] h3)
(aBin prog .add 3 (f.r 8) (vint 1) fun v4 =>
nx0 (RG.p (RG.p (RG.p (RG.p (RG.p (RG.p (RG.p (RG.p (RG.p f 10 (f.r 8)) 11 (f.r 1)) 12 v1) 15 (f.r 2)) 16 (f.r 8)) 17 v2) 13 (f.r 8)) 14 v4) 8 v4) h3))
(retL n0 K f.ds [(vint 0), (Value.bool false)] h)) := sub_eq pok34 ct34 (by kernel_rfl)
theorem l34_1 (hJ : Closed prog main J) {S : Type} (μ : S → Nat) (I : S → RG → List AObj → Prop) (hI : ∀ s f h, I s f h → heapOk h → n0 ≤ h.length → W prog J 19 n0 34 (subC [1, 0, 1, 0, 0] (codeOf f34)) f h (thenK (Nx n0 μ I s) (contX pl34 prog J 19 n0 34 ct34 [1, 0, 1, 0] (codeOf f34) [] (RetQ prog [.tmp 6, .tmp 7] n0 K))))
 {s : S} {f : RG} (hi : Gets n0 I s f h) : Sem J 19 n0 34 (subC [1, 0, 1, 0] (codeOf f34)) f h (contX pl34 prog J 19 n0 34 ct34 [1, 0, 1, 0] (codeOf f34) [] (RetQ prog [.tmp 6, .tmp 7] n0 K)) :=
 loop_rule hJ mixed (b := subC [1, 0, 1, 0, 0] (codeOf f34)) (by kernel_rfl) μ I hI hi
theorem at35 : prog.funcs[35]? = some f35 := by kernel_rfl
theorem body35 : f35.body = some (codeOf f35) := by kernel_rfl
def pl35 : Plans := []
def ct35 : Cuts := .go
theorem pok35 : plansOk prog pl35 (codeOf f35) = true := by kernel_rfl
theorem e35 {a0 a1 : Value} : W prog J 12 h.length 35 (codeOf f35) (RG.mk (regs [a0, a1]) []) h (RetQ prog [.tmp 3] h.length K) =
(aLoad true 4 a1 h fun v1 =>
aAlloc [(vint 0), (vint 0), (vint 0), (Value.slice none 0 0)] h fun v2 h3 =>
aStore 4 v2 v1 h3 fun h4 =>
aOff v2 0 fun v5 =>
aOff v5 2 fun v6 =>
aStore 1 v6 a0 h4 fun h7 =>
aLoad true 4 v2 h7 fun v8 =>
Good prog J 33 [v8] h7 fun v9 h10 =>
aBin prog .neq 33 v9 (Value.slice none 0 0) fun v11 =>
retL h.length K [] [v11] h10) := top_eq pok35 ct35 (by kernel_rfl)
theorem g35 (hJ : Closed prog main J) {a0 a1 : Value} (hs : heapOk h → W prog J 12 h.length 35 (codeOf f35) (RG.mk (regs [a0, a1]) []) h (RetQ prog [.tmp 3] h.length K)) : Good prog J 35 [a0, a1] h K :=
 good_of_W hJ mixed at35 body35 (by kernel_rfl) (Nat.le_of_ble_eq_true rfl) hs
theorem at36 : prog.funcs[36]? = some f36 := by kernel_rfl
theorem body36 : f36.body = some (codeOf f36) := by kernel_rfl
def pl36 : Plans := []
def ct36 : Cuts := .go
theorem pok36 : plansOk prog pl36 (codeOf f36) = true := by kernel_rfl
theorem e36 {a0 a1 : Value} : W prog J 12 h.length 36 (codeOf f36) (RG.mk (regs [a0, a1]) []) h (RetQ prog [.tmp 3] h.length K) =
(aLoad true 4 a1 h fun v1 =>
aAlloc [(vint 0), (vint 0), (vint 0), (Value.slice none 0 0)] h fun v2 h3 =>
aStore 4 v2 v1 h3 fun h4 =>
aOff v2 0 fun v5 =>
aOff v5 1 fun v6 =>
aStore 1 v6 a0 h4 fun h7 =>
aLoad true 4 v2 h7 fun v8 =>
Good prog J 33 [v8] h7 fun v9 h10 =>
aBin prog .neq 33 v9 (Value.slice none 0 0) fun v11 =>
retL h.length K [] [v11] h10) := top_eq pok36 ct36 (by kernel_rfl)
theorem g36 (hJ : Closed prog main J) {a0 a1 : Value} (hs : heapOk h → W prog J 12 h.length 36 (codeOf f36) (RG.mk (regs [a0, a1]) []) h (RetQ prog [.tmp 3] h.length K)) : Good prog J 36 [a0, a1] h K :=
 good_of_W hJ mixed at36 body36 (by kernel_rfl) (Nat.le_of_ble_eq_true rfl) hs
theorem at14 : prog.funcs[14]? = some f14 := by kernel_rfl
theorem body14 : f14.body = some (codeOf f14) := by kernel_rfl
def pl14 : Plans := []
def ct14 : Cuts := .go
theorem pok14 : plansOk prog pl14 (codeOf f14) = true := by kernel_rfl
theorem e14 {a0 : Value} : W prog J 20 h.length 14 (codeOf f14) (RG.mk (regs [a0]) []) h (RetQ prog [.tmp 2, .tmp 3] h.length K) =
(aBox a0 h fun v1 h2 =>
aLoad true 4 v1 h2 fun v3 =>
Good prog J 6 [v3] h2 fun v4 h5 =>
aBin prog .neq 31 v4 (vint 0) fun v6 =>
cnd v6
(retL h.length K [] [(vint 0), v4] h5)
(aMkF 35 [] [v1] fun v7 =>
Good prog J 34 [(vint 0), (vint 20), v7] h5 fun v8 h9 =>
aExt v8 0 fun v10 =>
aExt v8 1 fun v11 =>
aUn .not v11 fun v12 =>
cnd v12
(retL h.length K [] [(vint 0), (vint 11)] h9)
(retL h.length K [] [v10, (vint 0)] h9))) := top_eq pok14 ct14 (by kernel_rfl)
theorem g14 (hJ : Closed prog main J) {a0 : Value} (hs : heapOk h → W prog J 20 h.length 14 (codeOf f14) (RG.mk (regs [a0]) []) h (RetQ prog [.tmp 2, .tmp 3] h.length K)) : Good prog J 14 [a0] h K :=
 good_of_W hJ mixed at14 body14 (by kernel_rfl) (Nat.le_of_ble_eq_true rfl) hs
theorem at15 : prog.funcs[15]? = some f15 := by kernel_rfl
theorem body15 : f15.body = some (codeOf f15) := by kernel_rfl
def pl15 : Plans := []
def ct15 : Cuts := .go
theorem pok15 : plansOk prog pl15 (codeOf f15) = true := by kernel_rfl
theorem e15 {a0 : Value} : W prog J 24 h.length 15 (codeOf f15) (RG.mk (regs [a0]) []) h (RetQ prog [.tmp 2, .tmp 3] h.length K) =
(aBox a0 h fun v1 h2 =>
aLoad true 4 v1 h2 fun v3 =>
Good prog J 6 [v3] h2 fun v4 h5 =>
aBin prog .neq 31 v4 (vint 0) fun v6 =>
cnd v6
(retL h.length K [] [(vint 0), v4] h5)
(aOff v1 0 fun v7 =>
aOff v7 0 fun v8 =>
aLoad false 1 v8 h5 fun v9 =>
aMax (vint 1) [v9] fun v10 =>
aMkF 36 [] [v1] fun v11 =>
Good prog J 34 [v10, (vint 40), v11] h5 fun v12 h13 =>
aExt v12 0 fun v14 =>
aExt v12 1 fun v15 =>
aUn .not v15 fun v16 =>
cnd v16
(retL h.length K [] [(vint 0), (vint 11)] h13)
(retL h.length K [] [v14, (vint 0)] h13))) := top_eq pok15 ct15 (by kernel_rfl)
theorem g15 (hJ : Closed prog main J) {a0 : Value} (hs : heapOk h → W prog J 24 h.length 15 (codeOf f15) (RG.mk (regs [a0]) []) h (RetQ prog [.tmp 2, .tmp 3] h.length K)) : Good prog J 15 [a0] h K :=
 good_of_W hJ mixed at15 body15 (by kernel_rfl) (Nat.le_of_ble_eq_true rfl) hs
end
section
variable {main : Bool} {J : JT} {n0 : Nat} {h : List AObj} {K : Value → List AObj → Prop}
theorem at49 : prog.funcs[49]? = some f49 := by kernel_rfl
theorem body49 : f49.body = some (codeOf f49) := by kernel_rfl
def pl49 : Plans := [(8, false, .take 0 (.take 1 (.take 2 (.take 5 (.take 6 (.last 3 true (.last 4 true (.last 7 false (.take 8 (.fin))))))))))]
def ct49 : Cuts := .go
theorem pok49 : plansOk prog pl49 (codeOf f49) = true := by kernel_rfl
theorem e49 {a0 a1 a2 a3 : Value} : W prog J 34 h.length 49 (codeOf f49) (RG.mk (regs [a0, a1, a2, a3]) []) h (RetQ prog [.tmp 6] h.length K) =
(aBin prog .eql 3 a1 (vint 0) fun v1 =>
cnd v1
(aLoad true 4 a2 h fun v2 =>
Good prog J 37 [v2, a0] h fun v3 h4 =>
cnd v3
(Good prog J 50 [a0] h4 fun v5 h6 =>
retL h.length K [] [v5] h6)
(retL h.length K [] [(Value.slice none 0 0)] h4))
(Sem J 34 h.length 49 (subC [1, 1, 0, 1, 0] (codeOf f49)) (RG.p (RG.p (RG.p (RG.p (RG.mk (regs [a0, a1, a2, a3]) []) 6 (Value.slice none 0 0)) 9 a1) 10 v1) 7 (vint (-1))) h (contX pl49 prog J 34 h.length 49 ct49 [1, 1, 0, 1, 0] (codeOf f49) [] (RetQ prog [.tmp 6] h.length K)))) := top_eq pok49 ct49 (by kernel_rfl)
theorem g49 (hJ : Closed prog main J) {a0 a1 a2 a3 : Value} (hs : heapOk h → W prog J 34 h.length 49 (codeOf f49) (RG.mk (regs [a0, a1, a2, a3]) []) h (RetQ prog [.tmp 6] h.length K)) : Good prog J 49 [a0, a1, a2, a3] h K :=
 good_of_W hJ mixed at49 body49 (by kernel_rfl) (Nat.le_of_ble_eq_true rfl) hs
theorem s49_1 {f : RG} {nx0 : RG → List AObj → Prop} : W prog J 34 n0 49 (subC [1, 1, 0, 1, 0, 0] (codeOf f49)) f h (thenK nx0 (contX pl49 prog J 34 n0 49 ct49 [1, 1, 0, 1, 0] (codeOf f49) [] (RetQ prog [.tmp 6] n0 K))) =
(aOff (f.r 2) 3 fun v1 =>
aLoad false 1 v1 h fun v2 =>
aLenS v2 fun v3 =>
aBin prog .lss 3 (f.r 7) v3 fun v4 =>
cnd v4
((∃ B, aLoad false 1 (f.r 3) h fun v5 =>
RdOk (some B) (ptrBlk (f.r 3)) ∧ (aBin prog .sub 3 (f.r 1) (vint 1) fun v6 =>
(((1 * 1 : Nat) ≤ 16777216 ∧ (1 : Nat) ≤ 16777216 ∧ List.length [(vint 0)] = 1) ∧ aFill (zrep [(vint 0)] 1) [(0, 1, (f.r 7))] fun c7 =>
aNewS 1 c7 h fun v8 h9 =>
SameB (some B) h h9 ∧ (((List.length [(vint 0)] = 1 ∧ 0 < (1 : Nat) ∧ 0 < (8 : Nat) ∧ (8 : Nat) ≤ 1024) ∧ aApp 1 (f.r 0) v8 h9 fun v10 h11 =>
SameB (some B) h h11 ∧ (callV prog (Good prog J) v5 [v10, v6] h11 fun v12 h13 =>
aBin prog .neq 33 v12 (Value.slice none 0 0) fun v14 =>
cnd v14
(retL n0 K f.ds [v12] h13)
(aBin prog .add 3 (f.r 7) (vint 1) fun v15 =>
nx0 (RG.p (RG.p (RG.p (RG.p (RG.p (RG.p (RG.p (RG.p (RG.p (RG.p (RG.p (RG.p (RG.p (RG.p (RG.p (RG.p (RG.p (RG.p (RG.p f 16 (f.r 7)) 17 v1) 18 v2) 19 v3) 20 v4) 23 v5) 24 (f.r 0)) 25 (f.r 7)) 28 (f.r 1)) 29 v6) 26 v8) 27 v10) 30 v12) 8 v12) 31 v12) 32 v14) 21 (f.r 7)) 22 v15) 7 v15) h13))))))))
(retL n0 K f.ds [(Value.slice none 0 0)] h)) := sub_eq pok49 ct49 (by kernel_rfl)
theorem l49_1 (hJ : Closed prog main J) {S : Type} (μ : S → Nat) (I : S → RG → List AObj → Prop) (hI : ∀ s f h, I s f h → heapOk h → n0 ≤ h.length → W prog J 34 n0 49 (subC [1, 1, 0, 1, 0, 0] (codeOf f49)) f h (thenK (Nx n0 μ I s) (contX pl49 prog J 34 n0 49 ct49 [1, 1, 0, 1, 0] (codeOf f49) [] (RetQ prog [.tmp 6] n0 K))))
 {s : S} {f : RG} (hi : Gets n0 I s f h) : Sem J 34 n0 49 (subC [1, 1, 0, 1, 0] (codeOf f49)) f h (contX pl49 prog J 34 n0 49 ct49 [1, 1, 0, 1, 0] (codeOf f49) [] (RetQ prog [.tmp 6] n0 K)) :=
 loop_rule hJ mixed (b := subC [1, 1, 0, 1, 0, 0] (codeOf f49)) (by kernel_rfl) μ I hI hi
end
section
variable {main : Bool} {J : JT} {n0 : Nat} {h : List AObj} {K : Value → List AObj → Prop}
theorem at33 : prog.funcs[33]? = some f33 := by kernel_rfl
theorem body33 : f33.body = some (codeOf f33) := by kernel_rfl
def pl33 : Plans := [(6, false, .take 0 (.take 1 (.take 3 (.last 2 true (.last 4 false (.take 5 (.fin)))))))]
def ct33 : Cuts := .go
theorem pok33 : plansOk prog pl33 (codeOf f33) = true := by kernel_rfl
theorem e33 {a0 : Value} : W prog J 19 h.length 33 (codeOf f33) (RG.mk (regs [a0]) []) h (RetQ prog [.tmp 2] h.length K) =
(aBox a0 h fun v1 h2 =>
aAlloc [(Value.nilFunc)] h2 fun v3 h4 =>
aMkF 49 [] [v1, v3] fun v5 =>
aStore 1 v3 v5 h4 fun h6 =>
Sem J 19 h.length 33 (subC [1, 1, 1, 0, 1, 0] (codeOf f33)) (RG.p (RG.p (RG.p (RG.p (RG.p (RG.mk (regs [a0]) []) 1 v1) 2 (Value.slice none 0 0)) 3 v3) 6 v5) 4 (vint 1)) h6 (contX pl33 prog J 19 h.length 33 ct33 [1, 1, 1, 0, 1, 0] (codeOf f33) [] (RetQ prog [.tmp 2] h.length K))) := top_eq pok33 ct33 (by kernel_rfl)
theorem g33 (hJ : Closed prog main J) {a0 : Value} (hs : heapOk h → W prog J 19 h.length 33 (codeOf f33) (RG.mk (regs [a0]) []) h (RetQ prog [.tmp 2] h.length K)) : Good prog J 33 [a0] h K :=
 good_of_W hJ mixed at33 body33 (by kernel_rfl) (Nat.le_of_ble_eq_true rfl) hs
theorem s33_1 {f : RG} {nx0 : RG → List AObj → Prop} : W prog J 19 n0 33 (subC [1, 1, 1, 0, 1, 0, 0] (codeOf f33)) f h (thenK nx0 (contX pl33 prog J 19 n0 33 ct33 [1, 1, 1, 0, 1, 0] (codeOf f33) [] (RetQ prog [.tmp 2] n0 K))) =
(aBin prog .leq 3 (f.r 4) (vint 5) fun v1 =>
cnd v1
((∃ B, aLoad false 1 (f.r 3) h fun v2 =>
RdOk (some B) (ptrBlk (f.r 3)) ∧ (((List.length [(vint 0)] = 1 ∧ (8 : Nat) ≤ 1024) ∧ aMkS [(vint 0)] (vint 0) (f.r 4) h fun v3 h4 =>
SameB (some B) h h4 ∧ (callV prog (Good prog J) v2 [v3, (f.r 4)] h4 fun v5 h6 =>
aBin prog .neq 33 v5 (Value.slice none 0 0) fun v7 =>
cnd v7
(retL n0 K f.ds [v5] h6)
(aBin prog .add 3 (f.r 4) (vint 1) fun v8 =>
nx0 (RG.p (RG.p (RG.p (RG.p (RG.p (RG.p (RG.p (RG.p (RG.p (RG.p (RG.p (RG.p (RG.p f 7 (f.r 4)) 8 v1) 11 v2) 12 (f.r 4)) 14 (f.r 4)) 13 v3) 15 v5) 5 v5) 16 v5) 17 v7) 9 (f.r 4)) 10 v8) 4 v8) h6))))))
(retL n0 K f.ds [(Value.slice none 0 0)] h)) := sub_eq pok33 ct33 (by kernel_rfl)
theorem l33_1 (hJ : Closed prog main J) {S : Type} (μ : S → Nat) (I : S → RG → List AObj → Prop) (hI : ∀ s f h, I s f h → heapOk h → n0 ≤ h.length → W prog J 19 n0 33 (subC [1, 1, 1, 0, 1, 0, 0] (codeOf f33)) f h (thenK (Nx n0 μ I s) (contX pl33 prog J 19 n0 33 ct33 [1, 1, 1, 0, 1, 0] (codeOf f33) [] (RetQ prog [.tmp 2] n0 K))))
 {s : S} {f : RG} (hi : Gets n0 I s f h) : Sem J 19 n0 33 (subC [1, 1, 1, 0, 1, 0] (codeOf f33)) f h (contX pl33 prog J 19 n0 33 ct33 [1, 1, 1, 0, 1, 0] (codeOf f33) [] (RetQ prog [.tmp 2] n0 K)) :=
 loop_rule hJ mixed (b := subC [1, 1, 1, 0, 1, 0, 0] (codeOf f33)) (by kernel_rfl) μ I hI hi
end
section
variable {main : Bool} {J : JT} {n0 : Nat} {h : List AObj} {K : Value → List AObj → Prop}
theorem at13 : prog.funcs[13]? = some f13 := by kernel_rfl
theorem body13 : f13.body = some (codeOf f13) := by kernel_rfl
def pl13 : Plans := []
def ct13 : Cuts := .go
theorem pok13 : plansOk prog pl13 (codeOf f13) = true := by kernel_rfl
theorem e13 {a0 : Value} : W prog J 16 h.length 13 (codeOf f13) (RG.mk (regs [a0]) []) h (RetQ prog [.tmp 2, .tmp 3] h.length K) =
(aBox a0 h fun v1 h2 =>
aLoad true 4 v1 h2 fun v3 =>
Good prog J 6 [v3] h2 fun v4 h5 =>
aBin prog .neq 31 v4 (vint 0) fun v6 =>
cnd v6
(retL h.length K [] [(Value.slice none 0 0), v4] h5)
(aLoad true 4 v1 h5 fun v7 =>
Good prog J 33 [v7] h5 fun v8 h9 =>
aBin prog .eql 33 v8 (Value.slice none 0 0) fun v10 =>
cnd v10
(retL h.length K [] [(Value.slice none 0 0), (vint 11)] h9)
(retL h.length K [] [v8, (vint 0)] h9))) := top_eq pok13 ct13 (by kernel_rfl)
theorem g13 (hJ : Closed prog main J) {a0 : Value} (hs : heapOk h → W prog J 16 h.length 13 (codeOf f13) (RG.mk (regs [a0]) []) h (RetQ prog [.tmp 2, .tmp 3] h.length K)) : Good prog J 13 [a0] h K :=
 good_of_W hJ mixed at13 body13 (by kernel_rfl) (Nat.le_of_ble_eq_true rfl) hs
theorem at18 : prog.funcs[18]? = some f18 := by kernel_rfl
theorem body18 : f18.body = some (codeOf f18) := by kernel_rfl
def pl18 : Plans := []
def ct18 : Cuts := .go
theorem pok18 : plansOk prog pl18 (codeOf f18) = true := by kernel_rfl
theorem e18 {a0 a1 a2 a3 a4 : Value} : W prog J 51 h.length 18 (codeOf f18) (RG.mk (regs [a0, a1, a2, a3, a4]) []) h (RetQ prog [.tmp 10, .tmp 11] h.length K) =
(aBox a0 h fun v1 h2 =>
aBox a1 h2 fun v3 h4 =>
aBox a2 h4 fun v5 h6 =>
aBox a4 h6 fun v7 h8 =>
aLoad true 3 v1 h8 fun v9 =>
Good prog J 23 [v9] h8 fun v10 h11 =>
aBin prog .neq 31 v10 (vint 0) fun v12 =>
cnd v12
(retL h.length K [] [(vint 0), v10] h11)
(aLoad true 6 v3 h11 fun v13 =>
aLoad true 3 v5 h11 fun v14 =>
aLoad false 1 v7 h11 fun v15 =>
Good prog J 42 [v13, v14, a3, v15] h11 fun v16 h17 =>
aExt v16 0 fun v18 =>
aExt v16 1 fun v19 =>
aBin prog .neq 31 v19 (vint 0) fun v20 =>
cnd v20
(retL h.length K [] [(vint 0), v19] h17)
(aLoad true 3 v1 h17 fun v21 =>
aFill [(vint 0), (vint 0), (vint 0)] [(0, 3, v21)] fun c22 =>
aAlloc [(vint 0), (vint 0), (vint 0)] h17 fun v23 h24 =>
aStore 3 v23 (Value.agg ⟨c22⟩) h24 fun h25 =>
Sem J 51 h.length 18 (subC [1, 1, 1, 1, 1, 0, 1, 0] (codeOf f18)) (RG.p (RG.p (RG.p (RG.p (RG.p (RG.p (RG.p (RG.p (RG.p (RG.p (RG.p (RG.p (RG.p (RG.p (RG.p (RG.p (RG.p (RG.p (RG.p (RG.p (RG.p (RG.p (RG.p (RG.p (RG.p (RG.p (RG.p (RG.p (RG.mk (regs [a0, a1, a2, a3, a4]) []) 5 v1) 6 v3) 7 v5) 9 v7) 10 (vint 0)) 11 (vint 0)) 18 v9) 19 v10) 12 v10) 20 v10) 21 v12) 24 v13) 25 v14) 26 a3) 27 v15) 28 v16) 23 v16) 29 v18) 30 v19) 13 v18) 14 v19) 31 v19) 32 v20) 34 v21) 35 (Value.agg ⟨c22⟩)) 15 v23) 36 a3) 37 (vint 0)) h25 (contX pl18 prog J 51 h.length 18 ct18 [1, 1, 1, 1, 1, 0, 1, 0] (codeOf f18) [] (RetQ prog [.tmp 10, .tmp 11] h.length K))))) := top_eq pok18 ct18 (by kernel_rfl)
theorem g18 (hJ : Closed prog main J) {a0 a1 a2 a3 a4 : Value} (hs : heapOk h → W prog J 51 h.length 18 (codeOf f18) (RG.mk (regs [a0, a1, a2, a3, a4]) []) h (RetQ prog [.tmp 10, .tmp 11] h.length K)) : Good prog J 18 [a0, a1, a2, a3, a4] h K :=
 good_of_W hJ mixed at18 body18 (by kernel_rfl) (Nat.le_of_ble_eq_true rfl) hs
theorem s18_1 {f : RG} {nx0 : RG → List AObj → Prop} : W prog J 51 n0 18 (subC [1, 1, 1, 1, 1, 0, 1, 0, 0] (codeOf f18)) f h (thenK nx0 (contX pl18 prog J 51 n0 18 ct18 [1, 1, 1, 1, 1, 0, 1, 0] (codeOf f18) [] (RetQ prog [.tmp 10, .tmp 11] n0 K))) =
(aBin prog .lss 3 (f.r 37) (f.r 36) fun v1 =>
cnd v1
(aLoad true 3 (f.r 15) h fun v2 =>
Good prog J 43 [v2] h fun v3 h4 =>
aStore 3 (f.r 15) v3 h4 fun h5 =>
aBin prog .add 3 (f.r 37) (vint 1) fun v6 =>
nx0 (RG.p (RG.p (RG.p (RG.p (RG.p f 38 v1) 39 v2) 40 v3) 41 v6) 37 v6) h5)
(aMkF 44 [] [(f.r 15), (f.r 9)] fun v7 =>
Good prog J 34 [(vint 0), (vint 40), v7] h fun v8 h9 =>
aExt v8 0 fun v10 =>
aExt v8 1 fun v11 =>
aBin prog .sub 3 (vint 40) v10 fun v12 =>
aMin (f.r 13) [v12] fun v13 =>
retL n0 K f.ds [v13, (vint 0)] h9)) := sub_eq pok18 ct18 (by kernel_rfl)
theorem l18_1 (hJ : Closed prog main J) {S : Type} (μ : S → Nat) (I : S → RG → List AObj → Prop) (hI : ∀ s f h, I s f h → heapOk h → n0 ≤ h.length → W prog J 51 n0 18 (subC [1, 1, 1, 1, 1, 0, 1, 0, 0] (codeOf f18)) f h (thenK (Nx n0 μ I s) (contX pl18 prog J 51 n0 18 ct18 [1, 1, 1, 1, 1, 0, 1, 0] (codeOf f18) [] (RetQ prog [.tmp 10, .tmp 11] n0 K))))
 {s : S} {f : RG} (hi : Gets n0 I s f h) : Sem J 51 n0 18 (subC [1, 1, 1, 1, 1, 0, 1, 0] (codeOf f18)) f h (contX pl18 prog J 51 n0 18 ct18 [1, 1, 1, 1, 1, 0, 1, 0] (codeOf f18) [] (RetQ prog [.tmp 10, .tmp 11] n0 K)) :=
 loop_rule hJ mixed (b := subC [1, 1, 1, 1, 1, 0, 1, 0, 0] (codeOf f18)) (by kernel_rfl) μ I hI hi
end
section
variable {main : Bool} {J : JT} {n0 : Nat} {h : List AObj} {K : Value → List AObj → Prop}
theorem at31 : prog.funcs[31]? = some f31 := by kernel_rfl
theorem body31 : f31.body = some (codeOf f31) := by kernel_rfl
def pl31 : Plans := []
def ct31 : Cuts := .bin (.go) (.bin (.go) (.bin (.bin (.go) (.un (.un (.bin (.go) (.bin (.go) (.bin (.un (.bin (.go) (.bin (.go) (.bin (.go) (.cut (.go)))))) (.go))))))) (.go)))
theorem pok31 : plansOk prog pl31 (codeOf f31) = true := by kernel_rfl
theorem e31 {a0 a1 : Value} : W prog J 34 h.length 31 (codeOf f31) (RG.mk (regs [a0, a1]) []) h (RetQ prog [.tmp 4] h.length K) =
(aBox a0 h fun v1 h2 =>
aOff v1 3 fun v3 =>
aLoad false 1 v3 h2 fun v4 =>
aLenS v4 fun v5 =>
Sem J 34 h.length 31 (subC [1, 1, 0, 1, 0] (codeOf f31)) (RG.p (RG.p (RG.p (RG.p (RG.p (RG.p (RG.p (RG.mk (regs [a0, a1]) []) 2 v1) 4 (Value.slice none 0 0)) 5 (Value.slice none 0 0)) 9 v3) 10 v4) 11 v5) 12 (vint 0)) h2 (contX pl31 prog J 34 h.length 31 ct31 [1, 1, 0, 1, 0] (codeOf f31) [] (RetQ prog [.tmp 4] h.length K))) := top_eq pok31 ct31 (by kernel_rfl)
theorem g31 (hJ : Closed prog main J) {a0 a1 : Value} (hs : heapOk h → W prog J 34 h.length 31 (codeOf f31) (RG.mk (regs [a0, a1]) []) h (RetQ prog [.tmp 4] h.length K)) : Good prog J 31 [a0, a1] h K :=
 good_of_W hJ mixed at31 body31 (by kernel_rfl) (Nat.le_of_ble_eq_true rfl) hs
theorem s31_1 {f : RG} {nx0 : RG → List AObj → Prop} : W prog J 34 n0 31 (subC [1, 1, 0, 1, 0, 0] (codeOf f31)) f h (thenK nx0 (contX pl31 prog J 34 n0 31 ct31 [1, 1, 0, 1, 0] (codeOf f31) [] (RetQ prog [.tmp 4] n0 K))) =
(aBin prog .lss 3 (f.r 12) (f.r 11) fun v1 =>
cnd v1
(aIdx 2 (f.r 10) (f.r 12) fun v2 =>
aLoad true 2 v2 h fun v3 =>
aAlloc [(vint 0), (vint 0)] h fun v4 h5 =>
aStore 2 v4 v3 h5 fun h6 =>
Good prog J 30 [(f.r 1), (f.r 12)] h6 fun v7 h8 =>
aBin prog .eql 3 v7 (vint 0) fun v9 =>
cnd v9
(Hold (W prog J 34 n0 31 (subC [1, 1, 0, 1, 0, 0, 1, 1, 0, 0, 1, 1, 1] (codeOf f31)) (RG.p (RG.p (RG.p (RG.p (RG.p (RG.p (RG.p (RG.p (RG.p (RG.p (RG.p (RG.p (RG.p (RG.p (RG.p (RG.p (RG.p (RG.p (RG.p f 13 v1) 14 (f.r 12)) 15 v2) 16 v3) 7 v4) 6 (f.r 12)) 17 (f.r 1)) 18 (f.r 12)) 19 v7) 8 v7) 20 v7) 21 v9) 22 v9) 22 (Value.bool true)) 23 undef) 24 undef) 25 undef) 26 undef) 27 (Value.bool true)) h8 (contX pl31 prog J 34 n0 31 ct31 [1, 1, 0, 1, 0, 0, 1, 1, 0, 0, 1, 1, 1] (codeOf f31) [nx0] (RetQ prog [.tmp 4] n0 K))))
(aOff v4 1 fun v10 =>
aLoad false 1 v10 h8 fun v11 =>
aBin prog .gtr 3 v7 v11 fun v12 =>
Hold (W prog J 34 n0 31 (subC [1, 1, 0, 1, 0, 0, 1, 1, 0, 0, 1, 1, 1] (codeOf f31)) (RG.p (RG.p (RG.p (RG.p (RG.p (RG.p (RG.p (RG.p (RG.p (RG.p (RG.p (RG.p (RG.p (RG.p (RG.p (RG.p (RG.p (RG.p (RG.p f 13 v1) 14 (f.r 12)) 15 v2) 16 v3) 7 v4) 6 (f.r 12)) 17 (f.r 1)) 18 (f.r 12)) 19 v7) 8 v7) 20 v7) 21 v9) 22 v9) 22 (Value.bool false)) 23 v7) 24 v10) 25 v11) 26 v12) 27 v12) h8 (contX pl31 prog J 34 n0 31 ct31 [1, 1, 0, 1, 0, 0, 1, 1, 0, 0, 1, 1, 1] (codeOf f31) [nx0] (RetQ prog [.tmp 4] n0 K)))))
(retL n0 K f.ds [(f.r 5)] h)) := sub_eq pok31 ct31 (by kernel_rfl)
theorem l31_1 (hJ : Closed prog main J) {S : Type} (μ : S → Nat) (I : S → RG → List AObj → Prop) (hI : ∀ s f h, I s f h → heapOk h → n0 ≤ h.length → W prog J 34 n0 31 (subC [1, 1, 0, 1, 0, 0] (codeOf f31)) f h (thenK (Nx n0 μ I s) (contX pl31 prog J 34 n0 31 ct31 [1, 1, 0, 1, 0] (codeOf f31) [] (RetQ prog [.tmp 4] n0 K))))
 {s : S} {f : RG} (hi : Gets n0 I s f h) : Sem J 34 n0 31 (subC [1, 1, 0, 1, 0] (codeOf f31)) f h (contX pl31 prog J 34 n0 31 ct31 [1, 1, 0, 1, 0] (codeOf f31) [] (RetQ prog [.tmp 4] n0 K)) :=
 loop_rule hJ mixed (b := subC [1, 1, 0, 1, 0, 0] (codeOf f31)) (by kernel_rfl) μ I hI hi
theorem s31_2 {f : RG} {nx0 : RG → List AObj → Prop} : W prog J 34 n0 31 (subC [1, 1, 0, 1, 0, 0, 1, 1, 0, 0, 1, 1, 1] (codeOf f31)) f h (contX pl31 prog J 34 n0 31 ct31 [1, 1, 0, 1, 0, 0, 1, 1, 0, 0, 1, 1, 1] (codeOf f31) [nx0] (RetQ prog [.tmp 4] n0 K)) =
(cnd (f.r 27)
((((1 * 1 : Nat) ≤ 16777216 ∧ (1 : Nat) ≤ 16777216 ∧ List.length [(vint 0)] = 1) ∧ aFill (zrep [(vint 0)] 1) [(0, 1, (f.r 6))] fun c1 =>
aNewS 1 c1 h fun v2 h3 =>
((List.length [(vint 0)] = 1 ∧ 0 < (1 : Nat) ∧ 0 < (8 : Nat) ∧ (8 : Nat) ≤ 1024) ∧ aApp 1 (f.r 5) v2 h3 fun v4 h5 =>
aBin prog .add 3 (f.r 12) (vint 1) fun v6 =>
nx0 (RG.p (RG.p (RG.p (RG.p (RG.p (RG.p (RG.p f 28 (f.r 5)) 29 (f.r 6)) 30 v2) 31 v4) 5 v4) 32 v6) 12 v6) h5)))
(aBin prog .add 3 (f.r 12) (vint 1) fun v7 =>
nx0 (RG.p (RG.p f 32 v7) 12 v7) h)) := sub_eq pok31 ct31 (by kernel_rfl)
theorem at30 : prog.funcs[30]? = some f30 := by kernel_rfl
theorem body30 : f30.body = some (codeOf f30) := by kernel_rfl
def pl30 : Plans := []
def ct30 : Cuts := .go
theorem pok30 : plansOk prog pl30 (codeOf f30) = true := by kernel_rfl
theorem e30 {a0 a1 : Value} : W prog J 32 h.length 30 (codeOf f30) (RG.mk (regs [a0, a1]) []) h (RetQ prog [.tmp 4] h.length K) =
((((2 * 1 : Nat) ≤ 16777216 ∧ (2 : Nat) ≤ 16777216 ∧ List.length [(Value.slice none 0 0)] = 1) ∧ aFill (zrep [(Value.slice none 0 0)] 2) [(0, 1, a0), (1, 1, a0)] fun c1 =>
aNewS 2 c1 h fun v2 h3 =>
Good prog J 48 [v2] h3 fun v4 h5 =>
aLenS v4 fun v6 =>
Sem J 32 h.length 30 (subC [1, 1, 0, 1, 0] (codeOf f30)) (RG.p (RG.p (RG.p (RG.p (RG.p (RG.p (RG.p (RG.p (RG.p (RG.mk (regs [a0, a1]) []) 4 (vint 0)) 5 (vint (-1))) 6 (vint 0)) 9 a0) 10 a0) 11 v2) 12 v4) 13 v6) 14 (vint 0)) h5 (contX pl30 prog J 32 h.length 30 ct30 [1, 1, 0, 1, 0] (codeOf f30) [] (RetQ prog [.tmp 4] h.length K)))) := top_eq pok30 ct30 (by kernel_rfl)
theorem g30 (hJ : Closed prog main J) {a0 a1 : Value} (hs : heapOk h → W prog J 32 h.length 30 (codeOf f30) (RG.mk (regs [a0, a1]) []) h (RetQ prog [.tmp 4] h.length K)) : Good prog J 30 [a0, a1] h K :=
 good_of_W hJ mixed at30 body30 (by kernel_rfl) (Nat.le_of_ble_eq_true rfl) hs
theorem s30_1 {f : RG} {nx0 : RG → List AObj → Prop} : W prog J 32 n0 30 (subC [1, 1, 0, 1, 0, 0] (codeOf f30)) f h (thenK nx0 (contX pl30 prog J 32 n0 30 ct30 [1, 1, 0, 1, 0] (codeOf f30) [] (RetQ prog [.tmp 4] n0 K))) =
(aBin prog .lss 3 (f.r 14) (f.r 13) fun v1 =>
cnd v1
(aIdx 1 (f.r 12) (f.r 14) fun v2 =>
aLoad false 1 v2 h fun v3 =>
aBin prog .neq 3 v3 (f.r 1) fun v4 =>
cnd v4
(aBin prog .add 3 (f.r 14) (vint 1) fun v5 =>
nx0 (RG.p (RG.p (RG.p (RG.p (RG.p (RG.p (RG.p (RG.p (RG.p (RG.p (RG.p f 15 v1) 16 (f.r 14)) 17 v2) 18 v3) 7 (f.r 14)) 8 v3) 19 v3) 20 (f.r 1)) 21 v4) 30 v5) 14 v5) h)
(aBin prog .geq 3 (f.r 5) (vint 0) fun v6 =>
cnd v6
(aBin prog .sub 3 (f.r 14) (f.r 5) fun v7 =>
aMax (f.r 6) [v7] fun v8 =>
aBin prog .add 3 (f.r 14) (vint 1) fun v9 =>
nx0 (RG.p (RG.p (RG.p (RG.p (RG.p (RG.p (RG.p (RG.p (RG.p (RG.p (RG.p (RG.p (RG.p (RG.p (RG.p (RG.p (RG.p (RG.p (RG.p (RG.p (RG.p f 15 v1) 16 (f.r 14)) 17 v2) 18 v3) 7 (f.r 14)) 8 v3) 19 v3) 20 (f.r 1)) 21 v4) 22 (f.r 5)) 23 v6) 24 (f.r 6)) 25 (f.r 14)) 26 (f.r 5)) 27 v7) 28 v8) 6 v8) 29 (f.r 14)) 5 (f.r 14)) 30 v9) 14 v9) h)
(aBin prog .add 3 (f.r 14) (vint 1) fun v10 =>
nx0 (RG.p (RG.p (RG.p (RG.p (RG.p (RG.p (RG.p (RG.p (RG.p (RG.p (RG.p (RG.p (RG.p (RG.p (RG.p f 15 v1) 16 (f.r 14)) 17 v2) 18 v3) 7 (f.r 14)) 8 v3) 19 v3) 20 (f.r 1)) 21 v4) 22 (f.r 5)) 23 v6) 29 (f.r 14)) 5 (f.r 14)) 30 v10) 14 v10) h)))
(retL n0 K f.ds [(f.r 6)] h)) := sub_eq pok30 ct30 (by kernel_rfl)
theorem l30_1 (hJ : Closed prog main J) {S : Type} (μ : S → Nat) (I : S → RG → List AObj → Prop) (hI : ∀ s f h, I s f h → heapOk h → n0 ≤ h.length → W prog J 32 n0 30 (subC [1, 1, 0, 1, 0, 0] (codeOf f30)) f h (thenK (Nx n0 μ I s) (contX pl30 prog J 32 n0 30 ct30 [1, 1, 0, 1, 0] (codeOf f30) [] (RetQ prog [.tmp 4] n0 K))))
 {s : S} {f : RG} (hi : Gets n0 I s f h) : Sem J 32 n0 30 (subC [1, 1, 0, 1, 0] (codeOf f30)) f h (contX pl30 prog J 32 n0 30 ct30 [1, 1, 0, 1, 0] (codeOf f30) [] (RetQ prog [.tmp 4] n0 K)) :=
 loop_rule hJ mixed (b := subC [1, 1, 0, 1, 0, 0] (codeOf f30)) (by kernel_rfl) μ I hI hi
theorem at37 : prog.funcs[37]? = some f37 := by kernel_rfl
theorem body37 : f37.body = some (codeOf f37) := by kernel_rfl
def pl37 : Plans := []
def ct37 : Cuts := .go
theorem pok37 : plansOk prog pl37 (codeOf f37) = true := by kernel_rfl
theorem e37 {a0 a1 : Value} : W prog J 16 h.length 37 (codeOf f37) (RG.mk (regs [a0, a1]) []) h (RetQ prog [.tmp 4] h.length K) =
(aBox a0 h fun v1 h2 =>
aLoad true 4 v1 h2 fun v3 =>
Good prog J 31 [v3, a1] h2 fun v4 h5 =>
aLenS v4 fun v6 =>
aBin prog .eql 3 v6 (vint 0) fun v7 =>
cnd v7
(aLoad true 4 v1 h5 fun v8 =>
Good prog J 32 [v8, a1] h5 fun v9 h10 =>
aBin prog .lss 3 v9 (vint 0) fun v11 =>
retL h.length K [] [v11] h10)
(retL h.length K [] [(Value.bool false)] h5)) := top_eq pok37 ct37 (by kernel_rfl)
theorem g37 (hJ : Closed prog main J) {a0 a1 : Value} (hs : heapOk h → W prog J 16 h.length 37 (codeOf f37) (RG.mk (regs [a0, a1]) []) h (RetQ prog [.tmp 4] h.length K)) : Good prog J 37 [a0, a1] h K :=
 good_of_W hJ mixed at37 body37 (by kernel_rfl) (Nat.le_of_ble_eq_true rfl) hs
theorem at11 : prog.funcs[11]? = some f11 := by kernel_rfl
theorem body11 : f11.body = some (codeOf f11) := by kernel_rfl
def pl11 : Plans := []
def ct11 : Cuts := .go
theorem pok11 : plansOk prog pl11 (codeOf f11) = true := by kernel_rfl
theorem e11 {a0 a1 : Value} : W prog J 16 h.length 11 (codeOf f11) (RG.mk (regs [a0, a1]) []) h (RetQ prog [.tmp 4, .tmp 5] h.length K) =
(aBox a0 h fun v1 h2 =>
aLoad true 4 v1 h2 fun v3 =>
Good prog J 26 [v3, a1] h2 fun v4 h5 =>
aBin prog .neq 31 v4 (vint 0) fun v6 =>
cnd v6
(retL h.length K [] [(Value.slice none 0 0), v4] h5)
(aLoad true 4 v1 h5 fun v7 =>
Good prog J 31 [v7, a1] h5 fun v8 h9 =>
retL h.length K [] [v8, (vint 0)] h9)) := top_eq pok11 ct11 (by kernel_rfl)
theorem g11 (hJ : Closed prog main J) {a0 a1 : Value} (hs : heapOk h → W prog J 16 h.length 11 (codeOf f11) (RG.mk (regs [a0, a1]) []) h (RetQ prog [.tmp 4, .tmp 5] h.length K)) : Good prog J 11 [a0, a1] h K :=
 good_of_W hJ mixed at11 body11 (by kernel_rfl) (Nat.le_of_ble_eq_true rfl) hs
theorem at10 : prog.funcs[10]? = some f10 := by kernel_rfl
theorem body10 : f10.body = some (codeOf f10) := by kernel_rfl
def pl10 : Plans := []
def ct10 : Cuts := .go
theorem pok10 : plansOk prog pl10 (codeOf f10) = true := by kernel_rfl
theorem e10 {a0 a1 : Value} : W prog J 29 h.length 10 (codeOf f10) (RG.mk (regs [a0, a1]) []) h (RetQ prog [.tmp 4, .tmp 5] h.length K) =
(aBox a0 h fun v1 h2 =>
aLoad true 4 v1 h2 fun v3 =>
Good prog J 26 [v3, a1] h2 fun v4 h5 =>
aBin prog .neq 31 v4 (vint 0) fun v6 =>
cnd v6
(retL h.length K [] [(Value.slice none 0 0), v4] h5)
(aOff v1 3 fun v7 =>
aLoad false 1 v7 h5 fun v8 =>
aLenS v8 fun v9 =>
Sem J 29 h.length 10 (subC [1, 1, 1, 0, 1, 0] (codeOf f10)) (RG.p (RG.p (RG.p (RG.p (RG.p (RG.p (RG.p (RG.p (RG.p (RG.p (RG.p (RG.p (RG.p (RG.p (RG.mk (regs [a0, a1]) []) 2 v1) 4 (Value.slice none 0 0)) 5 (vint 0)) 9 v3) 10 a1) 11 v4) 6 v4) 12 v4) 13 v6) 7 (Value.slice none 0 0)) 15 v7) 16 v8) 17 v9) 18 (vint 0)) h5 (contX pl10 prog J 29 h.length 10 ct10 [1, 1, 1, 0, 1, 0] (codeOf f10) [] (RetQ prog [.tmp 4, .tmp 5] h.length K)))) := top_eq pok10 ct10 (by kernel_rfl)
theorem g10 (hJ : Closed prog main J) {a0 a1 : Value} (hs : heapOk h → W prog J 29 h.length 10 (codeOf f10) (RG.mk (regs [a0, a1]) []) h (RetQ prog [.tmp 4, .tmp 5] h.length K)) : Good prog J 10 [a0, a1] h K :=
 good_of_W hJ mixed at10 body10 (by kernel_rfl) (Nat.le_of_ble_eq_true rfl) hs
theorem s10_1 {f : RG} {nx0 : RG → List AObj → Prop} : W prog J 29 n0 10 (subC [1, 1, 1, 0, 1, 0, 0] (codeOf f10)) f h (thenK nx0 (contX pl10 prog J 29 n0 10 ct10 [1, 1, 1, 0, 1, 0] (codeOf f10) [] (RetQ prog [.tmp 4, .tmp 5] n0 K))) =
(aBin prog .lss 3 (f.r 18) (f.r 17) fun v1 =>
cnd v1
(Good prog J 30 [(f.r 1), (f.r 18)] h fun v2 h3 =>
(((1 * 1 : Nat) ≤ 16777216 ∧ (1 : Nat) ≤ 16777216 ∧ List.length [(vint 0)] = 1) ∧ aFill (zrep [(vint 0)] 1) [(0, 1, v2)] fun c4 =>
aNewS 1 c4 h3 fun v5 h6 =>
((List.length [(vint 0)] = 1 ∧ 0 < (1 : Nat) ∧ 0 < (8 : Nat) ∧ (8 : Nat) ≤ 1024) ∧ aApp 1 (f.r 7) v5 h6 fun v7 h8 =>
aBin prog .add 3 (f.r 18) (vint 1) fun v9 =>
nx0 (RG.p (RG.p (RG.p (RG.p (RG.p (RG.p (RG.p (RG.p (RG.p (RG.p (RG.p (RG.p f 19 v1) 20 (f.r 18)) 8 (f.r 18)) 21 (f.r 7)) 22 (f.r 1)) 23 (f.r 18)) 24 v2) 25 v5) 26 v7) 7 v7) 27 v9) 18 v9) h8)))
(retL n0 K f.ds [(f.r 7), (vint 0)] h)) := sub_eq pok10 ct10 (by kernel_rfl)
theorem l10_1 (hJ : Closed prog main J) {S : Type} (μ : S → Nat) (I : S → RG → List AObj → Prop) (hI : ∀ s f h, I s f h → heapOk h → n0 ≤ h.length → W prog J 29 n0 10 (subC [1, 1, 1, 0, 1, 0, 0] (codeOf f10)) f h (thenK (Nx n0 μ I s) (contX pl10 prog J 29 n0 10 ct10 [1, 1, 1, 0, 1, 0] (codeOf f10) [] (RetQ prog [.tmp 4, .tmp 5] n0 K))))
 {s : S} {f : RG} (hi : Gets n0 I s f h) : Sem J 29 n0 10 (subC [1, 1, 1, 0, 1, 0] (codeOf f10)) f h (contX pl10 prog J 29 n0 10 ct10 [1, 1, 1, 0, 1, 0] (codeOf f10) [] (RetQ prog [.tmp 4, .tmp 5] n0 K)) :=
 loop_rule hJ mixed (b := subC [1, 1, 1, 0, 1, 0, 0] (codeOf f10)) (by kernel_rfl) μ I hI hi
end
section
variable {main : Bool} {J : JT} {n0 : Nat} {h : List AObj} {K : Value → List AObj → Prop}
theorem at48 : prog.funcs[48]? = some f48 := by kernel_rfl
theorem body48 : f48.body = some (codeOf f48) := by kernel_rfl
def pl48 : Plans := []
def ct48 : Cuts := .go
theorem pok48 : plansOk prog pl48 (codeOf f48) = true := by kernel_rfl
theorem e48 {a0 : Value} : W prog J 36 h.length 48 (codeOf f48) (RG.mk (regs [a0]) []) h (RetQ prog [.tmp 2] h.length K) =
(aLenS a0 fun v1 =>
Sem J 36 h.length 48 (subC [1, 1, 0, 1, 0] (codeOf f48)) (RG.p (RG.p (RG.p (RG.p (RG.p (RG.mk (regs [a0]) []) 2 (Value.slice none 0 0)) 3 (vint 0)) 9 a0) 10 v1) 11 (vint 0)) h (contX pl48 prog J 36 h.length 48 ct48 [1, 1, 0, 1, 0] (codeOf f48) [] (RetQ prog [.tmp 2] h.length K))) := top_eq pok48 ct48 (by kernel_rfl)
theorem g48 (hJ : Closed prog main J) {a0 : Value} (hs : heapOk h → W prog J 36 h.length 48 (codeOf f48) (RG.mk (regs [a0]) []) h (RetQ prog [.tmp 2] h.length K)) : Good prog J 48 [a0] h K :=
 good_of_W hJ mixed at48 body48 (by kernel_rfl) (Nat.le_of_ble_eq_true rfl) hs
theorem s48_1 {f : RG} {nx0 : RG → List AObj → Prop} : W prog J 36 n0 48 (subC [1, 1, 0, 1, 0, 0] (codeOf f48)) f h (thenK nx0 (contX pl48 prog J 36 n0 48 ct48 [1, 1, 0, 1, 0] (codeOf f48) [] (RetQ prog [.tmp 2] n0 K))) =
(aBin prog .lss 3 (f.r 11) (f.r 10) fun v1 =>
cnd v1
(aIdx 1 (f.r 9) (f.r 11) fun v2 =>
aLoad false 1 v2 h fun v3 =>
aLenS v3 fun v4 =>
aBin prog .add 3 (f.r 3) v4 fun v5 =>
aBin prog .lss 3 v5 (vint 0) fun v6 =>
cnd v6
(False)
(aBin prog .add 3 (f.r 11) (vint 1) fun v7 =>
nx0 (RG.p (RG.p (RG.p (RG.p (RG.p (RG.p (RG.p (RG.p (RG.p (RG.p (RG.p (RG.p (RG.p f 12 v1) 13 v2) 14 v3) 5 v3) 15 (f.r 3)) 16 v3) 17 v4) 18 v5) 3 v5) 19 v5) 20 v6) 22 v7) 11 v7) h))
(Good prog J 59 [(Value.slice none 0 0), (f.r 3)] h fun v8 h9 =>
aLenS (f.r 0) fun v10 =>
Sem J 36 n0 48 (subC [1, 1, 1, 1, 0, 1, 0] (codeOf f48)) (RG.p (RG.p (RG.p (RG.p (RG.p (RG.p (RG.p f 12 v1) 23 (f.r 3)) 24 v8) 6 v8) 25 (f.r 0)) 26 v10) 27 (vint 0)) h9 (contX pl48 prog J 36 n0 48 ct48 [1, 1, 1, 1, 0, 1, 0] (codeOf f48) [] (RetQ prog [.tmp 2] n0 K)))) := sub_eq pok48 ct48 (by kernel_rfl)
theorem l48_1 (hJ : Closed prog main J) {S : Type} (μ : S → Nat) (I : S → RG → List AObj → Prop) (hI : ∀ s f h, I s f h → heapOk h → n0 ≤ h.length → W prog J 36 n0 48 (subC [1, 1, 0, 1, 0, 0] (codeOf f48)) f h (thenK (Nx n0 μ I s) (contX pl48 prog J 36 n0 48 ct48 [1, 1, 0, 1, 0] (codeOf f48) [] (RetQ prog [.tmp 2] n0 K))))
 {s : S} {f : RG} (hi : Gets n0 I s f h) : Sem J 36 n0 48 (subC [1, 1, 0, 1, 0] (codeOf f48)) f h (contX pl48 prog J 36 n0 48 ct48 [1, 1, 0, 1, 0] (codeOf f48) [] (RetQ prog [.tmp 2] n0 K)) :=
 loop_rule hJ mixed (b := subC [1, 1, 0, 1, 0, 0] (codeOf f48)) (by kernel_rfl) μ I hI hi
theorem s48_2 {f : RG} {nx0 : RG → List AObj → Prop} : W prog J 36 n0 48 (subC [1, 1, 1, 1, 0, 1, 0, 0] (codeOf f48)) f h (thenK nx0 (contX pl48 prog J 36 n0 48 ct48 [1, 1, 1, 1, 0, 1, 0] (codeOf f48) [] (RetQ prog [.tmp 2] n0 K))) =
(aBin prog .lss 3 (f.r 27) (f.r 26) fun v1 =>
cnd v1
(aIdx 1 (f.r 25) (f.r 27) fun v2 =>
aLoad false 1 v2 h fun v3 =>
((List.length [(vint 0)] = 1 ∧ 0 < (1 : Nat) ∧ 0 < (8 : Nat) ∧ (8 : Nat) ≤ 1024) ∧ aApp 1 (f.r 6) v3 h fun v4 h5 =>
aBin prog .add 3 (f.r 27) (vint 1) fun v6 =>
nx0 (RG.p (RG.p (RG.p (RG.p (RG.p (RG.p (RG.p (RG.p (RG.p (RG.p f 28 v1) 29 v2) 30 v3) 8 v3) 31 (f.r 6)) 32 v3) 33 v4) 6 v4) 34 v6) 27 v6) h5))
(retL n0 K f.ds [(f.r 6)] h)) := sub_eq pok48 ct48 (by kernel_rfl)
theorem l48_2 (hJ : Closed prog main J) {S : Type} (μ : S → Nat) (I : S → RG → List AObj → Prop) (hI : ∀ s f h, I s f h → heapOk h → n0 ≤ h.length → W prog J 36 n0 48 (subC [1, 1, 1, 1, 0, 1, 0, 0] (codeOf f48)) f h (thenK (Nx n0 μ I s) (contX pl48 prog J 36 n0 48 ct48 [1, 1, 1, 1, 0, 1, 0] (codeOf f48) [] (RetQ prog [.tmp 2] n0 K))))
 {s : S} {f : RG} (hi : Gets n0 I s f h) : Sem J 36 n0 48 (subC [1, 1, 1, 1, 0, 1, 0] (codeOf f48)) f h (contX pl48 prog J 36 n0 48 ct48 [1, 1, 1, 1, 0, 1, 0] (codeOf f48) [] (RetQ prog [.tmp 2] n0 K)) :=
 loop_rule hJ mixed (b := subC [1, 1, 1, 1, 0, 1, 0, 0] (codeOf f48)) (by kernel_rfl) μ I hI hi
theorem at59 : prog.funcs[59]? = some f59 := by kernel_rfl
theorem body59 : f59.body = some (codeOf f59) := by kernel_rfl
def pl59 : Plans := []
def ct59 : Cuts := .go
theorem pok59 : plansOk prog pl59 (codeOf f59) = true := by kernel_rfl
theorem e59 {a0 a1 : Value} : W prog J 27 h.length 59 (codeOf f59) (RG.mk (regs [a0, a1]) []) h (RetQ prog [.tmp 4] h.length K) =
(aBin prog .lss 3 a1 (vint 0) fun v1 =>
cnd v1
(False)
(aCapS a0 fun v2 =>
aLenS a0 fun v3 =>
aBin prog .sub 3 v2 v3 fun v4 =>
aBin prog .sub 3 a1 v4 fun v5 =>
aBin prog .gtr 3 v5 (vint 0) fun v6 =>
cnd v6
(aCapS a0 fun v7 =>
aSl2 1 a0 none (some v7) h fun v8 =>
((List.length [(vint 0)] = 1 ∧ 0 < (1 : Nat) ∧ 0 < (8 : Nat) ∧ (8 : Nat) ≤ 1024) ∧ aAppZ 1 [(vint 0)] v8 v5 h fun v9 h10 =>
aLenS a0 fun v11 =>
aSl2 1 v9 none (some v11) h10 fun v12 =>
retL h.length K [] [v12] h10))
(retL h.length K [] [a0] h))) := top_eq pok59 ct59 (by kernel_rfl)
theorem g59 (hJ : Closed prog main J) {a0 a1 : Value} (hs : heapOk h → W prog J 27 h.length 59 (codeOf f59) (RG.mk (regs [a0, a1]) []) h (RetQ prog [.tmp 4] h.length K)) : Good prog J 59 [a0, a1] h K :=
 good_of_W hJ mixed at59 body59 (by kernel_rfl) (Nat.le_of_ble_eq_true rfl) hs
end
end Go.Proofs.YtmmlamfgbmnkgaaDoor
namespace Go.Proofs.YtmmlamfgbmnkgaaDoor
open Go.Conc Go.Proofs.Tryd
set_option maxRecDepth 100000
theorem gapG_skip {r : List Int} {f : Int} {a : Nat} : ∀ {b : Nat}, a ≤ b → (∀ j, a ≤ j → j < b → ¬ occ r f j) → gapG r f b = gapG r f a
 | 0, h, _ => by rw [show a = 0 from by omega]
 | b + 1, h, hn => by
  rcases Nat.lt_or_ge b a with x | x
  ·rw [show b + 1 = a from by omega]
  ·have e : gapG r f (b + 1) = gapG r f b := by
    conv => lhs; unfold gapG
    rw [if_neg (hn b x (by omega))]
   rw [e]
   exact gapG_skip x fun j h1 h2 => hn j h1 (by omega)
theorem turn_twice {r : List Int} {i : Nat} (hr : 0 < r.length) (hi : i < r.length + r.length) : (r ++ r)[i]? = some (turnOf r i) := by
 unfold turnOf
 rw [List.getD_eq_getElem?_getD]
 rcases Nat.lt_or_ge i r.length with x | x
 ·rw [List.getElem?_append_left x, Nat.mod_eq_of_lt x, List.getElem?_eq_getElem x]
  rfl
 ·have e : i % r.length = i - r.length := by
   rw [Nat.mod_eq_sub_mod x, Nat.mod_eq_of_lt (by omega)]
  rw [List.getElem?_append_right x, e, List.getElem?_eq_getElem (by omega)]
  rfl
def unfTo (t : Tro) (r : List Int) (i : Nat) : List Int := ((List.range i).filter fun (i : Nat) => decide (gapR r i = 0 ∨ gapR r i > (droAt t i).every)).map Int.ofNat
def unfL (t : Tro) (r : List Int) : List Int := unfTo t r t.flocks.length
def gapsTo (r : List Int) (i : Nat) : List Int := (List.range i).map fun (i : Nat) => gapR r i
theorem unfTo_succ {t : Tro} {r : List Int} {i : Nat} : unfTo t r (i + 1) = if gapR r i = 0 ∨ gapR r i > (droAt t i).every then unfTo t r i ++ [(i : Int)] else unfTo t r i := by
 unfold unfTo
 rw [List.range_succ, List.filter_append]
 by_cases h : gapR r i = 0 ∨ gapR r i > (droAt t i).every
 ·simp [h]
 ·simp [h]
theorem gapsTo_succ {r : List Int} {i : Nat} : gapsTo r (i + 1) = gapsTo r i ++ [gapR r i] := by simp [gapsTo, List.range_succ]
theorem unfL_eq {t : Tro} {r : List Int} : unfL t r = (unfairR t r).map Int.ofNat := rfl
theorem unfTo_len {t : Tro} {r : List Int} (n : Nat) : (unfTo t r n).length ≤ n := by
 unfold unfTo
 rw [List.length_map]
 have := List.length_filter_le (fun (i : Nat) => decide (gapR r i = 0 ∨ gapR r i > (droAt t i).every)) (List.range n)
 simpa using this
theorem gapR_bd {r : List Int} (hr : r ≠ []) (f : Int) : 0 ≤ gapR r f ∧ gapR r f ≤ r.length := by
 refine ⟨gapR_nonneg, ?_⟩
 rw [gapR_le hr (by omega)]
 intro i ho
 have hp : 0 < r.length := by cases r <;> simp at hr ⊢
 exact ⟨r.length, hp, Int.le_refl _, (occ_mod f i).2 ho⟩
section
variable {main : Bool} {J : JT} {h H : List AObj} {K : Value → List AObj → Prop} {KV : Value → Prop} {n0 : Nat}
theorem capI {b : Option Addr} {n c : Nat} (h : c < fz) (hk : KV (vint c)) : aCapS (.slice b n c) KV := ⟨h, hk⟩
theorem len0 {K' : Value → Prop} (hk : K' (vint 0)) : aLenS (.slice none 0 0) K' := hk
theorem sl2nil {K' : Value → Prop} (hk : K' (.slice none 0 0)) : aSl2 1 (.slice none 0 0) none (some (vint 0)) h K' := ⟨Nat.le_refl _, ⟨rfl, rfl⟩, hk⟩
theorem sl2zero {b n : Nat} {cs : List Value} {wr : Bool} {K' : Value → Prop} (hb : h[b]? = some (.cells cs wr 1)) (hk : K' (.slice (some ⟨b, 0, none⟩) 0 fz)) : aSl2 1 (.slice (some ⟨b, 0, none⟩) n fz) none (some (vint 0)) h K' := by
 refine ⟨Nat.le_refl _, fun hx => absurd hx (Nat.lt_irrefl _), fun _ => ?_⟩
 rw [hb]
 exact ⟨⟨rfl, rfl, by decide, by simp, .inl rfl⟩, hk⟩
theorem good59 (hJ : Closed prog main J) {n : Nat} (hn : 0 < n ∧ n ≤ 1000) (hK : ∀ H' b cs, SameX [] H H' → H'[b]? = some (.cells cs true 1) → H.length ≤ b → K (.slice (some ⟨b, 0, none⟩) 0 fz) H') : Good prog J 59 [.slice none 0 0, vint (n : Nat)] H K := by
 have hz : (0 : Nat) < fz := by decide
 have hr : room = 1073741824 := rfl
 refine g59 hJ fun ok => ?_
 rw [e59]
 refine lssI (cndI (fun hx => absurd hx (by omega)) fun _ => capI hz ?_)
 show aBin prog .sub 3 (vint 0) (vint 0) _
 refine subI (by omega) (subI (by omega) (gtrI (cndI (fun _ => capI hz (sl2nil ⟨by decide, ?_⟩)) fun hx => absurd hx (by omega))))
 have e : vint ((n : Int) - (0 - 0)) = vint (n : Nat) := by congr 1
 rw [e]
 refine ⟨⟨rfl, rfl, by omega, by omega⟩, fun hx => absurd hx (by omega), fun _ => ?_⟩
 refine len0 (sl2zero (cs := zrep [vint 0] n) (wr := true) (by simp) (retL_same (by simp [unk]) ?_))
 exact hK _ H.length (zrep [vint 0] n) SameX.refl.app (by simp) (Nat.le_refl _)
theorem good48 (hJ : Closed prog main J) {av rv : Value} {r : List Int} (ha : Sli H av 1 2 [rv, rv]) (hr : Sli H rv 1 r.length (r.map vint)) (hl : 0 < r.length ∧ r.length ≤ 100)
  (hK : ∀ H' v, SameX [] H H' → Sli H' v 1 (r ++ r).length ((r ++ r).map vint) → K v H') : Good prog J 48 [av] H K := by
 have hroom : room = 1073741824 := rfl
 refine g48 hJ fun ok => ?_
 rw [e48]
 refine lenI ha ?_
 refine l48_1 hJ (fun i : Nat => 2 - i) (fun i F H' => H' = H ∧ i ≤ 2 ∧ F.ds = [] ∧ F.r 0 = av ∧ F.r 3 = vint ((i * r.length : Nat) : Int) ∧ F.r 9 = av ∧ F.r 10 = vint (2 : Nat) ∧ F.r 11 = vint (i : Nat)) ?_ (s := 0)
  (.inl ⟨rfl, by omega, rfl, rfl, by show vint 0 = vint _; congr 1; omega, rfl, rfl, rfl⟩)
 rintro i F H' ⟨rfl, hi, ds, r0, r3, r9, r10, r11⟩ okc hnc
 rw [s48_1, r0, r3, r9, r10, r11]
 refine lssI (cndI (fun hlt => ?_) fun hge => ?_)
 ·have hx : ([rv, rv] : List Value)[((i : Nat) : Int).toNat]? = some rv := by
   have : i = 0 ∨ i = 1 := by omega
   rcases this with rfl | rfl <;> rfl
  refine idx_load ha ⟨by omega, by omega⟩ hx fun p => lenI hr (addI ?_ (lssI (cndI (fun hx => ?_) fun _ => addI (by omega) ?_)))
  ·have : i = 0 ∨ i = 1 := by omega
   rcases this with rfl | rfl <;> omega
  ·have : 0 ≤ ((i * r.length : Nat) : Int) := Int.natCast_nonneg _
   omega
  ·refine ⟨i + 1, by dsimp only; omega, .inl ⟨rfl, by omega, ds, r0, ?_, r9, r10, by show vint _ = vint _; congr 1⟩⟩
   show vint _ = vint _
   congr 1
   rw [Nat.succ_mul]
   omega
 ·have hi2 : i = 2 := by omega
  subst hi2
  refine good59 hJ (n := 2 * r.length) (by omega) fun H2 b cs S2 cb gb => lenI (S2.sli ha (by simp)) ?_
  refine l48_2 hJ (fun i : Nat => 2 - i) (fun i F H3 => i ≤ 2 ∧ SameX [] H' H3 ∧ F.ds = [] ∧ F.r 25 = av ∧ F.r 26 = vint (2 : Nat) ∧ F.r 27 = vint (i : Nat) ∧ ∃ b cs, H'.length ≤ b ∧ H3[b]? = some (.cells cs true 1) ∧ F.r 6 = .slice (some ⟨b, 0, none⟩) (i * r.length) fz ∧ i * r.length ≤ cs.length ∧ cs.take (i * r.length) = ((r ++ r).take (i * r.length)).map vint) ?_ (s := 0)
   (.inl ⟨by omega, S2, ds, rfl, rfl, rfl, b, cs, gb, cb, by show Value.slice _ _ _ = _; rw [Nat.zero_mul], by omega, by rw [Nat.zero_mul]; rfl⟩)
  rintro j F3 H3 ⟨hj, S3, ds3, r25, r26, r27, b3, cs3, g3, c3, r6, hl3, ht3⟩ okc3 hnc3
  rw [s48_2, r25, r26, r27, r6, ds3]
  refine lssI (cndI (fun hlt => ?_) fun hge => ?_)
  ·have hj2 : j = 0 ∨ j = 1 := by omega
   have hx : ([rv, rv] : List Value)[((j : Nat) : Int).toNat]? = some rv := by
    rcases hj2 with rfl | rfl <;> rfl
   have hkn : kn (cs3.take (j * r.length * 1)) = true := by
    rw [Nat.mul_one, ht3]
    exact kn_ints _
   refine idx_load (S3.sli ha (by simp)) ⟨by omega, by omega⟩ hx fun p => ⟨by decide, ?_⟩
   refine app_own (m := r.length) c3 (by omega) hkn (by decide) (S3.sli hr (by simp)) (by rcases hj2 with rfl | rfl <;> omega) (addI (by omega) ?_)
   have hb3 := lt_of_get c3
   have e1 : (j + 1) * r.length = j * r.length + r.length := Nat.succ_mul _ _
   refine ⟨j + 1, by dsimp only; omega, .inl ⟨by omega, ?_, ds3, r25, r26, by show vint _ = vint _; congr 1, H3.length, cs3.take (j * r.length * 1) ++ r.map vint, by have := S3.1; omega, ?_, by show Value.slice _ _ _ = _; rw [e1], ?_, ?_⟩⟩
   ·exact (S3.set (.inr g3)).app
   ·rw [List.getElem?_append_right (by simp)]
    simp
   ·simp
    omega
   ·have h1 : (cs3.take (j * r.length * 1)).length = j * r.length := by simp; omega
    rw [List.take_of_length_le (by simp; omega), Nat.mul_one, ht3]
    rw [e1, ← List.map_append]
    congr 1
    rcases hj2 with rfl | rfl
    ·simp
    ·rw [Nat.one_mul, List.take_left, List.take_of_length_le (by simp)]
  ·have hj2 : j = 2 := by omega
   subst hj2
   refine retL_same (by simp [unk]) (hK H3 _ S3 ?_)
   have e : (r ++ r).length = 2 * r.length := by simp; omega
   rw [e]
   refine ⟨_, _, rfl, ⟨by simp; omega, kn_ints _⟩, .inr ⟨b3, 0, rfl, .inr ⟨cs3, true, 1, c3, ?_⟩⟩⟩
   rw [List.drop_zero, Nat.mul_one, ht3, List.take_of_length_le (by omega)]
theorem good30 (hJ : Closed prog main J) {rv : Value} {r : List Int} {f : Int} (hr : Sli H rv 1 r.length (r.map vint)) (hl : 0 < r.length ∧ r.length ≤ 100)
  (hK : ∀ H', SameX [] H H' → K (vint (gapR r f)) H') : Good prog J 30 [rv, vint f] H K := by
 have hrne : r ≠ [] := by intro e; rw [e] at hl; simp at hl
 refine g30 hJ fun ok => ?_
 rw [e30]
 have rvo := sli_val hr
 refine ⟨by decide, fill_one (l := [rv]) (by rw [rvo.1]) rfl (by simp [rvo.2.1]) (by decide) (fill_one (l := [rv]) (by rw [rvo.1]) rfl (by simp [rvo.2.1]) (Nat.le_of_ble_eq_true rfl) (fillI (qNew fun H1 p1 e1 S1 c1 l1 => ?_)))⟩
 have c1 : H1[p1]? = some (.cells [rv, rv] true 0) := c1
 have s1 : Sli H1 (.slice (some ⟨p1, 0, none⟩) 2 2) 1 2 [rv, rv] := ownX_sli (ownX_new (s := 1) (n := 2) (l := [rv, rv]) c1 rfl (by simp [kn, rvo.2.2]))
 refine good48 hJ s1 (S1.sli hr (by simp)) hl fun H2 cv S2 C2 => lenI C2 ?_
 have e2 : (r ++ r).length = r.length + r.length := List.length_append
 have T2 : SameX [] H H2 := S1.trans S2
 refine l30_1 hJ (fun i : Nat => (r ++ r).length - i) (fun i F H' => H' = H2 ∧ i ≤ (r ++ r).length ∧ F.ds = [] ∧ F.r 1 = vint f ∧ F.r 12 = cv ∧ F.r 13 = vint ((r ++ r).length : Nat) ∧ F.r 14 = vint (i : Nat) ∧
   ((F.r 5 = vint (-1) ∧ F.r 6 = vint 0 ∧ ∀ j, j < i → ¬ occ r f j) ∨ ∃ l : Nat, F.r 5 = vint (l : Nat) ∧ F.r 6 = vint (gapG r f l) ∧ l < i ∧ occ r f l ∧ ∀ j, l < j → j < i → ¬ occ r f j)) ?_ (s := 0)
  (.inl ⟨rfl, by omega, rfl, rfl, rfl, rfl, rfl, .inl ⟨rfl, rfl, by simp⟩⟩)
 rintro i F H' ⟨rfl, hi, ds, r1, r12, r13, r14, hst⟩ okc hnc
 have hgb := gapR_bd hrne f
 rw [s30_1, r1, r12, r13, r14, ds]
 refine lssI (cndI (fun hlt => ?_) fun hge => ?_)
 ·have hturn := turn_twice hl.1 (i := i) (by omega)
  refine sli_num' C2 hturn fun q => neqI (cndI (fun hne => addI (by omega) ?_) fun heq => ?_)
  ·refine ⟨i + 1, by dsimp only; omega, .inl ⟨rfl, by omega, ds, r1, r12, r13, by show vint _ = vint _; congr 1, ?_⟩⟩
   have hno : ¬ occ r f i := hne
   rcases hst with ⟨a, b, c⟩ | ⟨l, a, b, c, d, e⟩
   ·refine .inl ⟨a, b, fun j hj => ?_⟩
    rcases Nat.lt_or_ge j i with x | x
    ·exact c j x
    ·rwa [show j = i from by omega]
   ·refine .inr ⟨l, a, b, by omega, d, fun j h1 h2 => ?_⟩
    rcases Nat.lt_or_ge j i with x | x
    ·exact e j h1 x
    ·rwa [show j = i from by omega]
  ·have ho : occ r f i := Decidable.of_not_not heq
   rcases hst with ⟨a, b, c⟩ | ⟨l, a, b, c, d, e⟩
   ·rw [a, b]
    refine geqI (cndI (fun hx => absurd hx (by decide)) fun _ => addI (by omega) ?_)
    refine ⟨i + 1, by dsimp only; omega, .inl ⟨rfl, by omega, ds, r1, r12, r13, by show vint _ = vint _; congr 1, .inr ⟨i, rfl, ?_, by omega, ho, fun j h1 h2 => by omega⟩⟩⟩
    rw [gapG_none c]
    exact b
   ·have hgl : 0 ≤ gapG r f l := gapG_nonneg l
    rw [a, b]
    refine geqI (cndI (fun _ => subI (by omega) (maxI (addI (by omega) ?_))) fun hx => absurd (by omega) hx)
    have hnd : nextD r f l = ((i - l : Nat) : Int) := nextD_at hrne d (by omega) (by rw [show l + (i - l) = i from by omega]; exact ho) fun x h1 h2 => e _ (by omega) (by omega)
    have hg : gapG r f i = max (gapG r f l) ((i : Int) - l) := by
     rw [gapG_skip (a := l + 1) (b := i) (by omega) fun j h1 h2 => e j (by omega) h2]
     conv => lhs; unfold gapG
     rw [if_pos d, hnd]
     congr 1
     omega
    exact ⟨i + 1, by dsimp only; omega, .inl ⟨rfl, by omega, ds, r1, r12, r13, by show vint _ = vint _; congr 1, .inr ⟨i, rfl, by rw [hg]; rfl, by omega, ho, fun j h1 h2 => by omega⟩⟩⟩
 ·have hi2 : i = r.length + r.length := by omega
  have hres : F.r 6 = vint (gapR r f) := by
   rcases hst with ⟨a, b, c⟩ | ⟨l, a, b, c, d, e⟩
   ·rw [b]
    congr 1
    exact (gapG_none (n := r.length) fun j hj => c j (by omega)).symm
   ·rw [b]
    congr 1
    refine gapG_more hrne ?_
    rcases Nat.lt_or_ge l r.length with x | x
    ·exact absurd ((occ_mod f l).2 d) (e _ (by omega) (by omega))
    ·exact x
  rw [hres]
  exact retL_same (by simp [unk]) (hK _ T2)
theorem good31 (hJ : Closed prog main J) {v fv rv : Value} {t : Tro} {r : List Int} (ht : TroAt H v t fv) (hr : Sli H rv 1 r.length (r.map vint)) (f : TroFine t) (g : RotaFine t r)
  (hK : ∀ H' lv, SameX [] H H' → Sli H' lv 1 (unfL t r).length ((unfL t r).map vint) → K lv H') : Good prog J 31 [v, rv] H K := by
 refine g31 hJ fun ok => ?_
 rw [e31, ht.val]
 have fl := f.len
 have gl := g.len
 have kf := (sli_val ht.fl).2.2
 refine qBox (tro_one ht) fun H1 p1 e1 S1 c1 l1 => offI (ldI (v := fv) c1 rfl kf (lenI (S1.sli ht.fl (by simp)) ?_))
 refine l31_1 hJ (fun i : Nat => t.flocks.length - i) (fun i F H' => SameX [] H H' ∧ i ≤ t.flocks.length ∧ F.ds = [] ∧ F.r 1 = rv ∧ F.r 10 = fv ∧ F.r 11 = vint (t.flocks.length : Nat) ∧ F.r 12 = vint (i : Nat) ∧ ∃ o, OwnX H' 1 ((unfTo t r i).map vint) (unfTo t r i).length (F.r 5) o ∧ ∀ j, o = some j → H.length ≤ j) ?_ (s := 0)
  (.inl ⟨S1, by omega, rfl, rfl, rfl, rfl, rfl, none, ⟨rfl, rfl, .inl ⟨rfl, rfl, rfl⟩⟩, by simp⟩)
 rintro i F H' ⟨S, hi, ds, r1, r10, r11, r12, o, O, ho⟩ okc hnc
 rw [s31_1, r1, r10, r11, r12, ds]
 refine lssI (cndI (fun hlt => ?_) fun hge => ?_)
 ·have hil : i < t.flocks.length := by omega
  obtain ⟨b, of, cs, wr, sz, hidx, hb, hol, hft, hkn⟩ := sliE_elem dro_len (by omega) (S.sli ht.fl (by simp)) hil
  refine hidx _ (load_part hb hol hft hkn ?_)
  refine qAl fun H2 p2 e2 S2 c2 l2 => qStA (c := t.flocks[i].cells) c2 rfl rfl rfl fun H3 S3 c3 l3 => ?_
  have S13 : SameX [] H' H3 := S2.thru S3 (by simp; omega)
  refine good30 hJ ((S.trans S13).sli hr (by simp)) (by omega) fun H4 S4 => ?_
  have S14 : SameX [] H' H4 := S13.trans S4
  have T4 : SameX [] H H4 := S.trans S14
  have hev : (droAt t i).every = t.flocks[i].every := by rw [droAt_mem hil]
  -- the end of a round
  have last : ∀ {F' : RG}, F'.ds = [] → F'.r 1 = rv → F'.r 10 = fv → F'.r 11 = vint (t.flocks.length : Nat) → F'.r 12 = vint (i : Nat) → F'.r 5 = F.r 5 → F'.r 6 = vint (i : Nat) → F'.r 27 = .bool (decide (gapR r i = 0 ∨ gapR r i > (droAt t i).every)) →
    W prog J 34 H.length 31 (subC [1, 1, 0, 1, 0, 0, 1, 1, 0, 0, 1, 1, 1] (codeOf f31)) F' H4 (contX pl31 prog J 34 H.length 31 ct31 [1, 1, 0, 1, 0, 0, 1, 1, 0, 0, 1, 1, 1] (codeOf f31) [Nx H.length (fun i : Nat => t.flocks.length - i) (fun i F H' => SameX [] H H' ∧ i ≤ t.flocks.length ∧ F.ds = [] ∧ F.r 1 = rv ∧ F.r 10 = fv ∧ F.r 11 = vint (t.flocks.length : Nat) ∧ F.r 12 = vint (i : Nat) ∧ ∃ o, OwnX H' 1 ((unfTo t r i).map vint) (unfTo t r i).length (F.r 5) o ∧ ∀ j, o = some j → H.length ≤ j) i] (RetQ prog [.tmp 4] H.length K)) := by
   intro F' ds r1 r10 r11 r12 r5 r6 r27
   have O4 := ownX_keep O S14 (by simp)
   have hul := unfTo_len (t := t) (r := r) i
   rw [s31_2, r27, r5, r6, r12]
   refine cndI (fun hc => ?_) fun hc => ?_
   ·refine ⟨by decide, fill_one rfl rfl rfl (by decide) (fillI (qNew fun H5 p5 e5 S5 c5 l5 => ⟨by decide, ?_⟩))⟩
    have c5 : H5[p5]? = some (.cells [vint (i : Nat)] true 0) := c5
    refine ownX_more (ownX_keep O4 S5 (by simp)) (by omega) (by omega) (ownX_sli (ownX_new (s := 1) (n := 1) (l := [vint (i : Nat)]) c5 rfl rfl)) fun lv' H6 p6 e6 O6 S6 => addI (by omega) ?_
    have e1 : unfTo t r (i + 1) = unfTo t r i ++ [(i : Int)] := by rw [unfTo_succ, if_pos hc]
    refine ⟨i + 1, by dsimp only; omega, .inl ⟨(T4.trans S5).thru S6 fun y hy => .inr (ho y (by simpa using hy)), by omega, ds, r1, r10, r11, by show vint _ = vint _; congr 1, some p6, ?_, fun j hj => by cases hj; have := T4.1; have := S5.1; omega⟩⟩
    rw [e1, List.map_append, List.length_append]
    exact O6
   ·have e1 : unfTo t r (i + 1) = unfTo t r i := by rw [unfTo_succ, if_neg hc]
    refine addI (by omega) ⟨i + 1, by dsimp only; omega, .inl ⟨T4, by omega, ds, r1, r10, r11, by show vint _ = vint _; congr 1, o, ?_, ho⟩⟩
    rw [e1]
    show OwnX H4 1 _ _ (F'.r 5) o
    rw [r5]
    exact O4
  refine eqlI (cndI (fun hz => hold.2 ?_) fun hz => ?_)
  ·refine last ds r1 r10 r11 r12 rfl rfl ?_
   show Value.bool _ = _
   rw [decide_eq_true (show gapR r i = 0 ∨ gapR r i > (droAt t i).every from .inl hz)]
  ·refine offI (ldI (v := vint t.flocks[i].every) (S4.get c3 (by simp)) rfl rfl (gtrI (hold.2 ?_)))
   refine last ds r1 r10 r11 r12 rfl rfl ?_
   show Value.bool (decide _) = _
   congr 1
   rw [hev]
   exact decide_eq_decide.2 ⟨.inr, fun h => h.resolve_left hz⟩
 ·have : i = t.flocks.length := by omega
  subst this
  refine retL_same ?_ (hK H' _ S (ownX_sli O))
  intro v hv
  have : v = F.r 5 := by simpa using hv
  subst this
  intro e
  have := (ownX_val O).2.2
  rw [e] at this
  cases this
def unfA (t : Tro) (r : List Int) : List Int := if rotaE t r = 0 then unfL t r else []
def gapsA (t : Tro) (r : List Int) : List Int := if rotaE t r = 0 then gapsTo r t.flocks.length else []
theorem good11 (hJ : Closed prog main J) {v fv rv : Value} {t : Tro} {r : List Int} (ht : TroAt H v t fv) (hr : Sli H rv 1 r.length (r.map vint)) (hl : t.flocks.length ≤ 1000000)
  (hK : ∀ H' lv, SameX [] H H' → Sli H' lv 1 (unfA t r).length ((unfA t r).map vint) → K (.tuple ⟨[lv, vint (rotaE t r)]⟩) H') : Good prog J 11 [v, rv] H K := by
 refine g11 hJ fun ok => ?_
 rw [e11, ht.val]
 refine qBox (tro_one ht) fun H1 p1 e1 S1 c1 l1 => ?_
 have tk := tro_kn ht
 refine load_part (c := troCells t fv) c1 (by simp [troCells]) rfl tk (good26 hJ ⟨rfl, S1.sli ht.fl (by simp)⟩ (S1.sli hr (by simp)) hl (neqI (cndI (fun g1 => ?_) fun g1 => ?_)))
 ·refine retL_same (by simp [unk]) ?_
  exact hK H1 (.slice none 0 0) S1 (by unfold unfA; rw [if_neg g1]; exact sli_nil)
 ·have g0 : rotaE t r = 0 := by omega
  obtain ⟨f, g⟩ := rotaE_fine g0
  refine load_part (c := troCells t fv) c1 (by simp [troCells]) rfl tk (good31 hJ ⟨rfl, S1.sli ht.fl (by simp)⟩ (S1.sli hr (by simp)) f g fun H2 lv S2 L2 => ?_)
  have kl := (sli_val L2).2.2
  refine retL_same ?_ ?_
  ·intro v hv
   rcases List.mem_cons.1 hv with rfl | hv
   ·intro e
    rw [e] at kl
    cases kl
   ·have : v = vint 0 := by simpa using hv
    subst this
    simp [unk]
  ·have := hK H2 lv (S1.trans S2) (by unfold unfA; rw [if_pos g0]; exact L2)
   rw [g0] at this
   exact this
theorem good10 (hJ : Closed prog main J) {v fv rv : Value} {t : Tro} {r : List Int} (ht : TroAt H v t fv) (hr : Sli H rv 1 r.length (r.map vint)) (hl : t.flocks.length ≤ 1000000)
  (hK : ∀ H' lv, SameX [] H H' → Sli H' lv 1 (gapsA t r).length ((gapsA t r).map vint) → K (.tuple ⟨[lv, vint (rotaE t r)]⟩) H') : Good prog J 10 [v, rv] H K := by
 refine g10 hJ fun ok => ?_
 rw [e10, ht.val]
 refine qBox (tro_one ht) fun H1 p1 e1 S1 c1 l1 => ?_
 have tk := tro_kn ht
 have kf := (sli_val ht.fl).2.2
 refine load_part (c := troCells t fv) c1 (by simp [troCells]) rfl tk (good26 hJ ⟨rfl, S1.sli ht.fl (by simp)⟩ (S1.sli hr (by simp)) hl (neqI (cndI (fun g1 => ?_) fun g1 => ?_)))
 ·refine retL_same (by simp [unk]) ?_
  exact hK H1 (.slice none 0 0) S1 (by unfold gapsA; rw [if_neg g1]; exact sli_nil)
 ·have g0 : rotaE t r = 0 := by omega
  obtain ⟨f, g⟩ := rotaE_fine g0
  have fl := f.len
  have gl := g.len
  refine offI (ldI (v := fv) c1 rfl kf (lenI (S1.sli ht.fl (by simp)) ?_))
  refine l10_1 hJ (fun i : Nat => t.flocks.length - i) (fun i F H' => SameX [] H H' ∧ i ≤ t.flocks.length ∧ F.ds = [] ∧ F.r 1 = rv ∧ F.r 17 = vint (t.flocks.length : Nat) ∧ F.r 18 = vint (i : Nat) ∧ ∃ o, OwnX H' 1 ((gapsTo r i).map vint) (gapsTo r i).length (F.r 7) o ∧ ∀ j, o = some j → H.length ≤ j) ?_ (s := 0)
   (.inl ⟨S1, by omega, rfl, rfl, rfl, rfl, none, ⟨rfl, rfl, .inl ⟨rfl, rfl, rfl⟩⟩, by simp⟩)
  rintro i F H' ⟨S, hi, ds, r1, r17, r18, o, O, ho⟩ okc hnc
  rw [s10_1, r1, r17, r18, ds]
  refine lssI (cndI (fun hlt => ?_) fun hge => ?_)
  ·refine good30 hJ (S.sli hr (by simp)) (by omega) fun H4 S4 => ⟨by decide, fill_one rfl rfl rfl (by decide) (fillI (qNew fun H5 p5 e5 S5 c5 l5 => ⟨by decide, ?_⟩))⟩
   have c5 : H5[p5]? = some (.cells [vint (gapR r i)] true 0) := c5
   have hgl : (gapsTo r i).length = i := by simp [gapsTo]
   refine ownX_more (ownX_keep (ownX_keep O S4 (by simp)) S5 (by simp)) (by omega) (by omega) (ownX_sli (ownX_new (s := 1) (n := 1) (l := [vint (gapR r i)]) c5 rfl rfl)) fun lv' H6 p6 e6 O6 S6 => addI (by omega) ?_
   refine ⟨i + 1, by dsimp only; omega, .inl ⟨((S.trans S4).trans S5).thru S6 fun y hy => .inr (ho y (by simpa using hy)), by omega, ds, r1, r17, by show vint _ = vint _; congr 1, some p6, ?_, fun j hj => by cases hj; have := S.1; have := S4.1; have := S5.1; omega⟩⟩
   rw [gapsTo_succ, List.map_append, List.length_append]
   exact O6
  ·have : i = t.flocks.length := by omega
   subst this
   have kl := (ownX_val O).2.2
   refine retL_same ?_ ?_
   ·intro v hv
    rcases List.mem_cons.1 hv with rfl | hv
    ·intro e
     rw [e] at kl
     cases kl
    ·have : v = vint 0 := by simpa using hv
     subst this
     simp [unk]
   ·have := hK H' (F.r 7) S (by unfold gapsA; rw [if_pos g0]; exact ownX_sli O)
    rw [g0] at this
    exact this
theorem good37 (hJ : Closed prog main J) {v fv rv : Value} {t : Tro} {r : List Int} (ht : TroAt H v t fv) (hr : Sli H rv 1 r.length (r.map vint)) (f : TroFine t) (g : RotaFine t r)
  (hK : ∀ H', SameX [] H H' → K (.bool (goodB t r)) H') : Good prog J 37 [v, rv] H K := by
 refine g37 hJ fun ok => ?_
 rw [e37, ht.val]
 refine qBox (tro_one ht) fun H1 p1 e1 S1 c1 l1 => ?_
 have tk := tro_kn ht
 refine load_part (c := troCells t fv) c1 (by simp [troCells]) rfl tk (good31 hJ ⟨rfl, S1.sli ht.fl (by simp)⟩ (S1.sli hr (by simp)) f g fun H2 lv S2 L2 => lenI L2 ?_)
 have T2 := S1.trans S2
 have el : (unfL t r).length = (unfairR t r).length := by rw [unfL_eq, List.length_map]
 refine eqlI (cndI (fun hz => ?_) fun hz => ?_)
 ·refine load_part (c := troCells t fv) (S2.get c1 (by simp)) (by simp [troCells]) rfl tk (good32 hJ ⟨rfl, T2.sli ht.fl (by simp)⟩ (T2.sli hr (by simp)) f g fun H3 S3 => lssI ?_)
  have e : goodB t r = decide (lastsR t r < 0) := by
   unfold goodB
   rw [List.isEmpty_iff.2 (List.length_eq_zero_iff.1 (by omega : (unfairR t r).length = 0)), Bool.true_and]
  rw [← e]
  exact retL_same (by simp [unk]) (hK H3 (T2.trans S3))
 ·have e : goodB t r = false := by
   unfold goodB
   have : (unfairR t r).isEmpty = false := by
    cases hx : (unfairR t r).isEmpty with
    | false => rfl
    | true =>
     have := List.isEmpty_iff.1 hx
     rw [this] at el
     have el : (unfL t r).length = 0 := el
     exact absurd (by omega) hz
   rw [this, Bool.false_and]
  rw [← e]
  exact retL_same (by simp [unk]) (hK H2 T2)
end
def firstN {α : Type} (f : Nat → Option α) : Nat → Option α
 | 0 => none
 | n + 1 => (firstN f n).or (f n)
theorem firstN_none {α : Type} {f : Nat → Option α} : ∀ {n : Nat}, (∀ i, i < n → f i = none) → firstN f n = none
 | 0, _ => rfl
 | n + 1, h => by
  unfold firstN
  rw [firstN_none fun i hi => h i (by omega), h n (by omega)]
  rfl
theorem firstN_some {α : Type} {f : Nat → Option α} {k : Nat} {r : α} : ∀ {n : Nat}, k < n → (∀ i, i < k → f i = none) → f k = some r → firstN f n = some r
 | 0, h, _, _ => absurd h (Nat.not_lt_zero _)
 | n + 1, h, h0, hr => by
  unfold firstN
  by_cases e : k = n
  ·subst e
   rw [firstN_none h0, hr]
   rfl
  ·rw [firstN_some (by omega) h0 hr]
   rfl
def growR (t : Tro) : Nat → List Int → Option (List Int)
 | 0, l => bif goodB t l then some l else none
 | left + 1, l => firstN (fun i => growR t left (l ++ [(i : Int) - 1])) (t.flocks.length + 1)
def rotF (t : Tro) : Option (List Int) := firstN (fun i => growR t (i + 1) []) 5
def Found (n : Nat) (H : List AObj) (v : Value) : Option (List Int) → Prop
 | none => v = .slice none 0 0
 | some r => ∃ o, OwnX H 1 (r.map vint) r.length v (some o) ∧ n ≤ o
theorem Found.val {n : Nat} {H : List AObj} {v : Value} {o : Option (List Int)} (a : Found n H v o) : ∃ b k c, v = .slice b k c ∧ b.isNone = o.isNone := by
 cases o with
 | none => exact ⟨none, 0, 0, a, rfl⟩
 | some r =>
  obtain ⟨o, O, _⟩ := a
  obtain ⟨h1, h2, ⟨_, _, h3⟩ | ⟨i, c, sz, hi, rfl, h5, h6⟩⟩ := O
  ·cases h3
  ·exact ⟨_, _, _, rfl, rfl⟩
theorem Found.unk {n : Nat} {H : List AObj} {v : Value} {o : Option (List Int)} (a : Found n H v o) : v ≠ unk := by
 obtain ⟨b, k, c, rfl, _⟩ := a.val
 intro e
 cases e
theorem Found.to {n m : Nat} {H H' : List AObj} {v : Value} {o : Option (List Int)} (a : Found n H v o) (hm : m ≤ n) {X : List Nat} (S : SameX X H H') (hX : ∀ x ∈ X, x < n) : Found m H' v o := by
 cases o with
 | none => exact a
 | some r =>
  obtain ⟨o, O, h⟩ := a
  exact ⟨o, ownX_keep O S fun i hi => by cases hi; exact fun hx => absurd (hX _ hx) (by omega), by omega⟩
section
variable {main : Bool} {J : JT} {h H : List AObj} {K : Value → List AObj → Prop} {KV : Value → Prop} {HL : List AObj → Prop} {n0 : Nat}
theorem neqNil {t e : TypeId} {base : Option Addr} {n c : Nat} (ht : prog.underlying t = some (.slice e)) (hg : prog.eqGuardType prog.depth t = false) (hk : KV (.bool (!base.isNone))) : aBin prog .neq t (.slice base n c) (.slice none 0 0) KV := by
 show aEq prog true t (.slice base n c) (.slice none 0 0) KV
 have : teq prog 10000 t (.slice base n c) (.slice none 0 0) = some base.isNone := by
  unfold teq
  rw [ht]
  cases base <;> rfl
 unfold aEq
 rw [this]
 exact ⟨hg, by simpa using hk⟩
def growV (pt pg : Nat) : Value := .func (.func 49) ⟨[]⟩ ⟨[ptr pt 0, ptr pg 0]⟩
theorem app_in {b k m : Nat} {cs : List Value} {v y : Value} (hb : H[b]? = some (.cells cs true 0)) (hl : cs.length = m) (hk : k < m) (hm : m < 1000) (hc : kn (cs.take k) = true) (hy : Sli H y 1 1 [v])
  (hK : ∀ H', SameX [b] H H' → H'[b]? = some (.cells (cs.set k v) true 0) → H'.length = H.length → K (.slice (some ⟨b, 0, none⟩) (k + 1) m) H') : aApp 1 (.slice (some ⟨b, 0, none⟩) k m) y H K := by
 have hfz : (1000 : Nat) < fz := by decide
 have hrm : (2000 : Nat) < room := by decide
 obtain ⟨yb, yc, rfl, hyk, hh⟩ := id hy
 refine ⟨by omega, src_sli hy (by omega) ?_⟩
 simp only [hb]
 refine ⟨⟨by omega, by simpa using hc⟩, fun _ => ⟨fun _ => ⟨trivial, by omega, ?_⟩, fun h => absurd h (by omega)⟩, fun h => absurd h (by omega)⟩
 have e : wrAt cs (0 + k * 1) [v] = cs.set k v := by simp [wrAt]
 rw [e]
 exact hK _ (SameX.refl.set (.inl (by simp))) (List.getElem?_set_self (lt_of_get hb)) (by simp)
theorem good49 (hJ : Closed prog main J) {t : Tro} {fv : Value} {pt pg pb m : Nat} (f : TroFine t) (hm : m ≤ 5) (n1 : pb ≠ pt) (n2 : pb ≠ pg) : ∀ (left : Nat) (l : List Int) (cs : List Value) {H : List AObj} {K : Value → List AObj → Prop},
  H[pt]? = some (.cells (troCells t fv) true 0) → H[pg]? = some (.cells [growV pt pg] true 0) → H[pb]? = some (.cells cs true 0) → (∀ {H'}, SameX [pb] H H' → SliE H' fv 2 Dro.cells t.flocks) →
  cs.length = m → l.length + left = m → 0 < m → cs.take l.length = l.map vint → (∀ n ∈ l, -1 ≤ n ∧ n < t.flocks.length) →
  (∀ H' v cs', SameX [pb] H H' → H'[pb]? = some (.cells cs' true 0) → cs'.length = m → cs'.take l.length = l.map vint → Found H.length H' v (growR t left l) → K v H') →
  Good prog J 49 [.slice (some ⟨pb, 0, none⟩) l.length m, vint (left : Nat), ptr pt 0, ptr pg 0] H K
 | 0, l, cs, H, K, ct, cg, cb, hfl, hcl, hll, h0, htk, hw, hK => by
  refine g49 hJ fun ok => ?_
  rw [e49]
  have tA : TroAt H (.agg ⟨troCells t fv⟩) t fv := ⟨rfl, hfl SameX.refl⟩
  have kl : kn (l.map vint) = true := by simp [kn]; exact fun _ _ => rfl
  have hs : Sli H (.slice (some ⟨pb, 0, none⟩) l.length m) 1 l.length (l.map vint) := ⟨_, _, rfl, ⟨by simp, kl⟩, .inr ⟨pb, 0, rfl, .inr ⟨cs, true, 0, cb, by simpa using htk⟩⟩⟩
  refine eqlI (cndI (fun _ => ?_) fun hne => absurd rfl hne)
  refine load_part (c := troCells t fv) ct (by simp [troCells]) rfl (tro_kn tA) (good37 hJ tA hs f ⟨by omega, hw⟩ fun H1 S1 => cnd_bool.2 ⟨fun hb => ?_, fun hb => ?_⟩)
  ·refine good50 hJ (S1.sli hs (by simp)) (by omega) fun v H2 o S2 O ho => ?_
   have F : Found H.length H2 v (growR t 0 l) := by
    unfold growR
    rw [hb]
    cases o with
    | none =>
     obtain ⟨_, _, ⟨h3, _⟩ | ⟨i, c, sz, hi, _⟩⟩ := O
     ·omega
     ·cases hi
    | some o => exact ⟨o, O, by have := ho o rfl; have := S1.1; omega⟩
   exact retL_same (by simpa using F.unk) (hK H2 v cs (S1.trans S2).weak0 ((S1.trans S2).get cb (by simp)) hcl htk F)
  ·refine retL_same (by simp [unk]) (hK H1 _ cs S1.weak0 (S1.get cb (by simp)) hcl htk ?_)
   unfold growR
   rw [hb]
   rfl
 | left + 1, l, cs, H, K, ct, cg, cb, hfl, hcl, hll, h0, htk, hw, hK => by
  refine g49 hJ fun ok => ?_
  rw [e49]
  have hfz : (1000 : Nat) < fz := by decide
  have kf : kn1 fv = true := (sli_val (hfl SameX.refl)).2.2
  have fl := f.len
  refine eqlI (cndI (fun hz => absurd hz (by omega)) fun _ => ?_)
  refine l49_1 hJ (fun k : Nat => t.flocks.length + 1 - k) (fun k F H' => ∃ cs', SameX [pb] H H' ∧ H'[pb]? = some (.cells cs' true 0) ∧ cs'.length = m ∧ cs'.take l.length = l.map vint ∧ k ≤ t.flocks.length + 1 ∧ (∀ i : Nat, i < k → growR t left (l ++ [(i : Int) - 1]) = none) ∧ F.ds = [] ∧ F.r 0 = .slice (some ⟨pb, 0, none⟩) l.length m ∧ F.r 1 = vint ((left + 1 : Nat) : Int) ∧ F.r 2 = ptr pt 0 ∧ F.r 3 = ptr pg 0 ∧ F.r 7 = vint ((k : Int) - 1)) ?_ (s := 0)
   (.inl ⟨cs, SameX.refl, cb, hcl, htk, by omega, fun i hi => absurd hi (Nat.not_lt_zero _), rfl, rfl, rfl, rfl, rfl, rfl⟩)
  rintro k F H' ⟨cs', S, cb', hcl', htk', hkF, hn, ds, r0, r1, r2, r3, r7⟩ okc hnc
  have ct' := S.get ct (by simp; omega)
  have cg' := S.get cg (by simp; omega)
  rw [s49_1, r0, r1, r2, r3, r7, ds]
  refine offI (ldI (v := fv) ct' rfl kf (lenI (hfl S) (lssI (cndI (fun hlt => ?_) fun hge => ?_))))
  ·refine ⟨[pg], ldI (v := growV pt pg) cg' rfl rfl ⟨by simp [RdOk, ptr, ptrBlk], subI (by omega) ?_⟩⟩
   have e1 : ((left + 1 : Nat) : Int) - 1 = (left : Nat) := by omega
   rw [e1]
   refine ⟨by decide, fill_one rfl rfl rfl (by decide) (fillI (qNew fun H2 p2 e2 S2 c2 l2 => ⟨sb1 S2 (lt_of_get cg') (by simp), by decide, ?_⟩))⟩
   have c2 : H2[p2]? = some (.cells [vint ((k : Int) - 1)] true 0) := c2
   have y2 := ownX_sli (ownX_new (s := 1) (n := 1) (l := [vint ((k : Int) - 1)]) c2 rfl rfl)
   have kl : kn (l.map vint) = true := by simp [kn]; exact fun _ _ => rfl
   refine app_in (S2.get cb' (by simp)) hcl' (by omega) (by omega) (by rw [htk']; exact kl) y2 fun H3 S3 c3 l3 => ⟨sb1 (X := [pb]) (S2.weak0.trans S3) (lt_of_get cg') (by simp; omega), ?_⟩
   have T3 : SameX [pb] H' H3 := S2.weak0.trans S3
   have U3 : SameX [pb] H H3 := S.trans T3
   have hset : (cs'.set l.length (vint ((k : Int) - 1))).take (l.length + 1) = (l ++ [(k : Int) - 1]).map vint := by
    rw [List.take_add_one, List.take_set_of_le (Nat.le_refl _), htk', List.getElem?_set_self (by omega)]
    simp
   have hlen : (l ++ [(k : Int) - 1]).length = l.length + 1 := by simp
   refine callC (by kernel_rfl) ?_
   rw [← hlen]
   refine good49 hJ f hm n1 n2 left (l ++ [(k : Int) - 1]) (cs'.set l.length (vint ((k : Int) - 1)))
    (T3.get ct' (by simp; omega)) (T3.get cg' (by simp; omega)) c3 (fun S' => hfl (U3.trans S')) (by rw [List.length_set, hcl']) (by rw [hlen]; omega) h0 (by rw [hlen]; exact hset) (fun n hn => by
     rcases List.mem_append.1 hn with hn | hn
     ·exact hw n hn
     ·rw [List.mem_singleton.1 hn]
      omega) fun H4 v cs4 S4 c4 hc4 ht4 F4 => ?_
   obtain ⟨b, n, c, rfl, hbn⟩ := F4.val
   have U4 : SameX [pb] H H4 := U3.trans S4
   have tk4 : cs4.take l.length = l.map vint := by
    have : (cs4.take (l.length + 1)).take l.length = cs4.take l.length := by rw [List.take_take, Nat.min_eq_left (by omega)]
    rw [← this, ← hlen, ht4, List.map_append]
    simp
   refine neqNil (e := 3) (by kernel_rfl) (by kernel_rfl) (cnd_bool.2 ⟨fun hb => ?_, fun hb => ?_⟩)
   ·cases hg : growR t left (l ++ [(k : Int) - 1]) with
    | none => rw [hbn, hg] at hb; cases hb
    | some r =>
     refine retL_same (by simp [unk]) (hK H4 _ cs4 U4 c4 hc4 tk4 ?_)
     unfold growR
     rw [firstN_some (k := k) (by omega) hn hg, ← hg]
     exact F4.to U3.1 (X := []) SameX.refl (by simp)
   ·cases hg : growR t left (l ++ [(k : Int) - 1]) with
    | some r => rw [hbn, hg] at hb; cases hb
    | none =>
     refine addI (by omega) ⟨k + 1, by dsimp only; omega, .inl ⟨cs4, U4, c4, hc4, tk4, by omega, fun i hi => ?_, ds, r0, r1, r2, r3, by show vint _ = vint _; congr 1; omega⟩⟩
     by_cases e : i = k
     ·rw [e, hg]
     ·exact hn i (by omega)
  ·refine retL_same (by simp [unk]) (hK H' _ cs' S cb' hcl' htk' ?_)
   unfold growR
   rw [firstN_none fun i hi => hn i (by omega)]
   rfl
theorem good33 (hJ : Closed prog main J) {v fv : Value} {t : Tro} (ht : TroAt H v t fv) (f : TroFine t) (hK : ∀ H' w, SameX [] H H' → Found H.length H' w (rotF t) → K w H') : Good prog J 33 [v] H K := by
 refine g33 hJ fun ok => ?_
 rw [e33, ht.val]
 refine qBox (tro_one ht) fun H1 pt e1 S1 ct l1 => qAl fun H2 pg e2 S2 cg l2 => ⟨rfl, qSt cg (by simp) rfl rfl fun H3 S3 c3 l3 => ?_⟩
 have c3 : H3[pg]? = some (.cells [growV pt pg] true 0) := c3
 have T2 : SameX [] H1 H3 := S2.thru S3 (by simp; omega)
 have T3 : SameX [] H H3 := S1.trans T2
 have ct3 := T2.get ct (by simp)
 refine l33_1 hJ (fun k : Nat => 5 - k) (fun k F H' => SameX [] H3 H' ∧ k ≤ 5 ∧ (∀ i : Nat, i < k → growR t (i + 1) [] = none) ∧ F.ds = [] ∧ F.r 3 = ptr pg 0 ∧ F.r 4 = vint ((k : Int) + 1)) ?_ (s := 0)
  (.inl ⟨SameX.refl, by omega, fun i hi => absurd hi (Nat.not_lt_zero _), rfl, rfl, rfl⟩)
 rintro k F H' ⟨S, hk, hn, ds, r3, r4⟩ okc hnc
 rw [s33_1, r3, r4, ds]
 have cg' := S.get c3 (by simp)
 have lg := lt_of_get cg'
 have lt3 := lt_of_get ct3
 refine leqI (cndI (fun hle => ?_) fun hgt => ?_)
 ·refine ⟨[pg], ldI (v := growV pt pg) cg' rfl rfl ⟨by simp [RdOk, ptr, ptrBlk], by decide, ?_⟩⟩
  have e1 : (k : Int) + 1 = ((k + 1 : Nat) : Int) := by omega
  have hrm : (2000 : Nat) < room := by decide
  rw [e1]
  refine ⟨by omega, by omega, by omega, ?_⟩
  have ez : ((k + 1 : Nat) : Int).toNat = k + 1 := by omega
  rw [ez]
  generalize hH4 : H' ++ [AObj.cells (zrep [vint 0] (k + 1)) true 0] = H4
  have c4 : H4[H'.length]? = some (.cells (zrep [vint 0] (k + 1)) true 0) := by rw [← hH4]; simp
  have S4 : SameX [] H' H4 := by rw [← hH4]; exact SameX.refl.app
  have zl : ∀ n, (zrep [vint 0] n).length = n := by
   intro n
   induction n with
   | zero => rfl
   | succ n ih => show ([vint 0] ++ zrep [vint 0] n).length = n + 1; rw [List.length_append, ih]; simp; omega
  have U4 : SameX [] H H4 := (T3.trans S).trans S4
  have hlS := S.1
  have hlT := T2.1
  refine ⟨sb1 S4 lg (by simp), callC (by kernel_rfl) ?_⟩
  refine good49 hJ (pt := pt) (pg := pg) (pb := H'.length) (m := k + 1) f (by omega) (by omega) (by omega) (k + 1) [] (zrep [vint 0] (k + 1)) (H := H4)
   (S4.get (S.get ct3 (by simp)) (by simp)) (S4.get cg' (by simp)) c4 (fun S' => (U4.thru S' (by simp; have := T3.1; omega)).sli ht.fl (by simp)) (zl _) (by simp) (by omega) rfl (by simp) fun H5 w cs5 S5 c5 hc5 ht5 F5 => ?_
  obtain ⟨b, n, c, rfl, hbn⟩ := F5.val
  have T5 : SameX [] H' H5 := S4.thru S5 (by simp)
  refine neqNil (e := 3) (by kernel_rfl) (by kernel_rfl) (cnd_bool.2 ⟨fun hb => ?_, fun hb => ?_⟩)
  ·cases hg : growR t (k + 1) [] with
   | none => rw [hbn, hg] at hb; cases hb
   | some r =>
    refine retL_same (by simp [unk]) (hK H5 _ ((T3.trans S).trans T5) ?_)
    unfold rotF
    rw [firstN_some (k := k) (by omega) hn hg, ← hg]
    exact F5.to U4.1 (X := []) SameX.refl (by simp)
  ·cases hg : growR t (k + 1) [] with
   | some r => rw [hbn, hg] at hb; cases hb
   | none =>
    refine addI (by omega) ⟨k + 1, by dsimp only; omega, .inl ⟨S.trans T5, by omega, fun i hi => ?_, ds, r3, by show vint _ = vint _; congr 1⟩⟩
    by_cases e : i = k
    ·rw [e, hg]
    ·exact hn i (by omega)
 ·refine retL_same (by simp [unk]) (hK H' _ (T3.trans S) ?_)
  unfold rotF
  rw [firstN_none fun i hi => hn i (by omega)]
  rfl
def rotaA (t : Tro) : Option (List Int) := if troE t = 0 then rotF t else none
def rotaX (t : Tro) : Int := if troE t ≠ 0 then troE t else if (rotF t).isNone then 11 else 0
theorem good13 (hJ : Closed prog main J) {v fv : Value} {t : Tro} (ht : TroAt H v t fv) (hK : ∀ H' w, SameX [] H H' → Found H.length H' w (rotaA t) → K (.tuple ⟨[w, vint (rotaX t)]⟩) H') : Good prog J 13 [v] H K := by
 refine g13 hJ fun ok => ?_
 rw [e13, ht.val]
 refine qBox (tro_one ht) fun H1 p1 e1 S1 c1 l1 => ?_
 have t1 : TroAt H1 (.agg ⟨troCells t fv⟩) t fv := ⟨rfl, S1.sli ht.fl (by simp)⟩
 refine load_part (c := troCells t fv) c1 (by simp [troCells]) rfl (tro_kn ht) (good6 hJ t1 (neqI (cndI (fun g1 => ?_) fun g1 => ?_)))
 ·refine retL_same (by simp [unk]) ?_
  have := hK H1 (.slice none 0 0) S1 (by unfold rotaA; rw [if_neg g1]; rfl)
  unfold rotaX at this
  rw [if_pos g1] at this
  exact this
 ·have hz : troE t = 0 := Decidable.not_not.1 g1
  refine load_part (c := troCells t fv) c1 (by simp [troCells]) rfl (tro_kn ht) (good33 hJ t1 (troE_fine hz) fun H2 w S2 F2 => ?_)
  obtain ⟨b, n, c, rfl, hbn⟩ := F2.val
  have F3 : Found H.length H2 (.slice b n c) (rotaA t) := by
   unfold rotaA
   rw [if_pos hz]
   exact F2.to S1.1 (X := []) SameX.refl (by simp)
  have fin := hK H2 (.slice b n c) (S1.trans S2) F3
  unfold rotaX at fin
  rw [if_neg (by omega)] at fin
  refine eqlNil (e := 3) (by kernel_rfl) (by kernel_rfl) (cnd_bool.2 ⟨fun hb => ?_, fun hb => ?_⟩)
  ·refine retL_same (by simp [unk]) ?_
   rw [hbn] at hb
   rw [if_pos hb] at fin
   have : b = none := by cases b with
    | none => rfl
    | some x => rw [← hbn] at hb; cases hb
   have e : Value.slice b n c = .slice none 0 0 := by
    cases hg : rotF t with
    | none => rw [hg] at F2; exact F2
    | some r => rw [hg] at hb; cases hb
   rw [e] at fin
   exact fin
  ·refine retL_same (by simp [unk]) ?_
   rw [hbn] at hb
   rw [if_neg (by simp [hb])] at fin
   exact fin
end
def setFill (t : Tro) (n : Int) : Tro := { t with well := { t.well with fill := n } }
def setHolds (t : Tro) (n : Int) : Tro := { t with well := { t.well with holds := n } }
def goodQ (t : Tro) : Bool := !(rotF t).isNone
def leastR (P : Int → Bool) (lo hi : Int) : Option Int := firstN (fun i => bif P (lo + i) then some (lo + (i : Int)) else none) (hi + 1 - lo).toNat
theorem leastR_some {P : Int → Bool} {lo hi n : Int} (h1 : lo ≤ n) (h2 : n ≤ hi) (hp : P n = true) (hn : ∀ m, lo ≤ m → m < n → P m = false) : leastR P lo hi = some n := by
 refine firstN_some (k := (n - lo).toNat) (by omega) (fun i hi => ?_) ?_
 ·rw [hn (lo + i) (by omega) (by omega)]
  rfl
 ·have e : lo + ((n - lo).toNat : Int) = n := by omega
  rw [e, hp]
  rfl
theorem leastR_none {P : Int → Bool} {lo hi : Int} (hn : ∀ m, lo ≤ m → m ≤ hi → P m = false) : leastR P lo hi = none := by
 refine firstN_none fun i hi => ?_
 rw [hn (lo + i) (by omega) (by omega)]
 rfl
def fillR (t : Tro) : Option Int := leastR (fun n => goodQ (setFill t n)) 0 20
def holdsR (t : Tro) : Option Int := leastR (fun n => goodQ (setHolds t n)) (max 1 t.well.now) 40
theorem fill_fine {t : Tro} (f : TroFine t) {n : Int} (h : 0 ≤ n ∧ n ≤ 20) : TroFine (setFill t n) := ⟨f.holds, f.now, h, f.len, f.dro⟩
theorem holds_fine {t : Tro} (f : TroFine t) {n : Int} (h : max 1 t.well.now ≤ n ∧ n ≤ 40) : TroFine (setHolds t n) :=
 ⟨⟨by show 1 ≤ n; omega, h.2⟩, ⟨f.now.1, by show t.well.now ≤ n; omega⟩, f.fill, f.len, f.dro⟩
section
variable {main : Bool} {J : JT} {h H : List AObj} {K : Value → List AObj → Prop} {KV : Value → Prop} {HL : List AObj → Prop} {n0 : Nat}
theorem good35 (hJ : Closed prog main J) {t : Tro} {fv : Value} {p : Nat} {n : Int} (cp : H[p]? = some (.cells (troCells t fv) true 0)) (ht : SliE H fv 2 Dro.cells t.flocks) (f : TroFine (setFill t n))
  (hK : ∀ H', SameX [] H H' → K (.bool (goodQ (setFill t n))) H') : Good prog J 35 [vint n, ptr p 0] H K := by
 refine g35 hJ fun ok => ?_
 rw [e35]
 have ta : TroAt H (.agg ⟨troCells t fv⟩) t fv := ⟨rfl, ht⟩
 refine load_part (c := troCells t fv) cp (by simp [troCells]) rfl (tro_kn ta) ?_
 refine qAl fun H1 p1 e1 S1 c1 l1 => qStA (c := troCells t fv) c1 rfl rfl (tro_one ta) fun H2 S2 c2 l2 => offI (offI ?_)
 refine qSt c2 (by simp [troCells]) rfl rfl fun H3 S3 c3 l3 => ?_
 have c3 : H3[p1]? = some (.cells (troCells (setFill t n) fv) true 0) := c3
 have T3 : SameX [] H H3 := (S1.thru S2 (by simp; omega)).thru S3 (by simp; omega)
 have t3 : TroAt H3 (.agg ⟨troCells (setFill t n) fv⟩) (setFill t n) fv := ⟨rfl, T3.sli ht (by simp)⟩
 refine load_part (c := troCells (setFill t n) fv) c3 (by simp [troCells]) rfl (tro_kn t3) (good33 hJ t3 f fun H4 w S4 F4 => ?_)
 obtain ⟨b, k, c, rfl, hb⟩ := F4.val
 refine neqNil (e := 3) (by kernel_rfl) (by kernel_rfl) (retL_same (by simp [unk]) ?_)
 rw [hb]
 exact hK H4 (T3.trans S4)
theorem good36 (hJ : Closed prog main J) {t : Tro} {fv : Value} {p : Nat} {n : Int} (cp : H[p]? = some (.cells (troCells t fv) true 0)) (ht : SliE H fv 2 Dro.cells t.flocks) (f : TroFine (setHolds t n))
  (hK : ∀ H', SameX [] H H' → K (.bool (goodQ (setHolds t n))) H') : Good prog J 36 [vint n, ptr p 0] H K := by
 refine g36 hJ fun ok => ?_
 rw [e36]
 have ta : TroAt H (.agg ⟨troCells t fv⟩) t fv := ⟨rfl, ht⟩
 refine load_part (c := troCells t fv) cp (by simp [troCells]) rfl (tro_kn ta) ?_
 refine qAl fun H1 p1 e1 S1 c1 l1 => qStA (c := troCells t fv) c1 rfl rfl (tro_one ta) fun H2 S2 c2 l2 => offI (offI ?_)
 refine qSt c2 (by simp [troCells]) rfl rfl fun H3 S3 c3 l3 => ?_
 have c3 : H3[p1]? = some (.cells (troCells (setHolds t n) fv) true 0) := c3
 have T3 : SameX [] H H3 := (S1.thru S2 (by simp; omega)).thru S3 (by simp; omega)
 have t3 : TroAt H3 (.agg ⟨troCells (setHolds t n) fv⟩) (setHolds t n) fv := ⟨rfl, T3.sli ht (by simp)⟩
 refine load_part (c := troCells (setHolds t n) fv) c3 (by simp [troCells]) rfl (tro_kn t3) (good33 hJ t3 f fun H4 w S4 F4 => ?_)
 obtain ⟨b, k, c, rfl, hb⟩ := F4.val
 refine neqNil (e := 3) (by kernel_rfl) (by kernel_rfl) (retL_same (by simp [unk]) ?_)
 rw [hb]
 exact hK H4 (T3.trans S4)
theorem good34 (hJ : Closed prog main J) {P : Int → Bool} {lo hi : Int} {fv : Value} (hb : -1000000 ≤ lo ∧ hi ≤ 1000000)
  (hf : ∀ {H' : List AObj} {n : Int} {Kf : Value → List AObj → Prop}, SameX [] H H' → lo ≤ n → n ≤ hi → (∀ H'', SameX [] H' H'' → Kf (.bool (P n)) H'') → callV prog (Good prog J) fv [vint n] H' Kf)
  (hK : ∀ H', SameX [] H H' → K (.tuple ⟨[vint ((leastR P lo hi).getD 0), .bool (!(leastR P lo hi).isNone)]⟩) H') : Good prog J 34 [vint lo, vint hi, fv] H K := by
 refine g34 hJ fun ok => ?_
 rw [e34]
 refine l34_1 hJ (fun n : Int => (hi + 1 - n).toNat) (fun n F H' => SameX [] H H' ∧ lo ≤ n ∧ (∀ m, lo ≤ m → m < n → P m = false) ∧ F.ds = [] ∧ F.r 1 = vint hi ∧ F.r 2 = fv ∧ F.r 8 = vint n) ?_ (s := lo)
  (.inl ⟨SameX.refl, Int.le_refl _, fun m h1 h2 => absurd h2 (by omega), rfl, rfl, rfl, rfl⟩)
 rintro n F H' ⟨S, hn, hm, ds, r1, r2, r8⟩ okc hnc
 rw [s34_1, r1, r2, r8, ds]
 refine leqI (cndI (fun hle => ?_) fun hgt => ?_)
 ·refine hf S hn hle fun H2 S2 => cnd_bool.2 ⟨fun hp => ?_, fun hp => ?_⟩
  ·have e := leastR_some hn hle hp hm
   have := hK H2 (S.trans S2)
   rw [e] at this
   exact retL_same (by simp [unk]) this
  ·refine addI (by omega) ⟨n + 1, by dsimp only; omega, .inl ⟨S.trans S2, by omega, fun m h1 h2 => ?_, ds, r1, r2, rfl⟩⟩
   by_cases e : m = n
   ·rw [e, hp]
   ·exact hm m h1 (by omega)
 ·have e := leastR_none (P := P) (lo := lo) (hi := hi) fun m h1 h2 => hm m h1 (by omega)
  have := hK H' S
  rw [e] at this
  exact retL_same (by simp [unk]) this
def enoughE (o : Option Int) : Int := if o.isNone then 11 else 0
theorem good14 (hJ : Closed prog main J) {v fv : Value} {t : Tro} (ht : TroAt H v t fv) (f : TroFine t)
  (hK : ∀ H', SameX [] H H' → K (.tuple ⟨[vint ((fillR t).getD 0), vint (enoughE (fillR t))]⟩) H') : Good prog J 14 [v] H K := by
 refine g14 hJ fun ok => ?_
 rw [e14, ht.val]
 refine qBox (tro_one ht) fun H1 p1 e1 S1 c1 l1 => ?_
 have t1 : TroAt H1 (.agg ⟨troCells t fv⟩) t fv := ⟨rfl, S1.sli ht.fl (by simp)⟩
 have hz := fine_troE f
 refine load_part (c := troCells t fv) c1 (by simp [troCells]) rfl (tro_kn ht) (good6 hJ t1 (neqI (cndI (fun g1 => absurd hz g1) fun _ => ⟨rfl, ?_⟩)))
 refine good34 hJ (P := fun n => goodQ (setFill t n)) (by decide) (fun {H'} {n} {Kf} S h1 h2 hk => callC (by kernel_rfl) (good35 hJ (S.get c1 (by simp)) (S.sli t1.fl (by simp)) (fill_fine f ⟨h1, h2⟩) hk)) fun H2 S2 => ext0 (ext1 (notI ?_))
 have fin := hK H2 (S1.trans S2)
 show cnd (.bool (!!(fillR t).isNone)) _ _
 rw [Bool.not_not]
 unfold enoughE at fin
 cases e : fillR t with
 | none =>
  rw [e] at fin
  exact cnd_true.2 (retL_same (by simp [unk]) fin)
 | some n =>
  rw [e] at fin
  refine cnd_false.2 (retL_same (by simp [unk]) ?_)
  have e' : leastR (fun n => goodQ (setFill t n)) 0 20 = some n := e
  rw [e']
  exact fin
theorem good15 (hJ : Closed prog main J) {v fv : Value} {t : Tro} (ht : TroAt H v t fv) (f : TroFine t)
  (hK : ∀ H', SameX [] H H' → K (.tuple ⟨[vint ((holdsR t).getD 0), vint (enoughE (holdsR t))]⟩) H') : Good prog J 15 [v] H K := by
 refine g15 hJ fun ok => ?_
 rw [e15, ht.val]
 refine qBox (tro_one ht) fun H1 p1 e1 S1 c1 l1 => ?_
 have t1 : TroAt H1 (.agg ⟨troCells t fv⟩) t fv := ⟨rfl, S1.sli ht.fl (by simp)⟩
 have hz := fine_troE f
 have fh := f.holds
 have fn := f.now
 refine load_part (c := troCells t fv) c1 (by simp [troCells]) rfl (tro_kn ht) (good6 hJ t1 (neqI (cndI (fun g1 => absurd hz g1) fun _ => ?_)))
 refine offI (offI (ldI (v := vint t.well.now) c1 rfl rfl (maxI ⟨rfl, ?_⟩)))
 refine good34 hJ (P := fun n => goodQ (setHolds t n)) (by omega) (fun {H'} {n} {Kf} S h1 h2 hk => callC (by kernel_rfl) (good36 hJ (S.get c1 (by simp)) (S.sli t1.fl (by simp)) (holds_fine f ⟨h1, h2⟩) hk)) fun H2 S2 => ext0 (ext1 (notI ?_))
 have fin := hK H2 (S1.trans S2)
 show cnd (.bool (!!(holdsR t).isNone)) _ _
 rw [Bool.not_not]
 unfold enoughE at fin
 cases e : holdsR t with
 | none =>
  rw [e] at fin
  exact cnd_true.2 (retL_same (by simp [unk]) fin)
 | some n =>
  rw [e] at fin
  refine cnd_false.2 (retL_same (by simp [unk]) ?_)
  have e' : leastR (fun n => goodQ (setHolds t n)) (max 1 t.well.now) 40 = some n := e
  rw [e']
  exact fin
end
def OwnL (n : Nat) (H : List AObj) (v : Value) (ls : List (List Int)) (o : Option Nat) : Prop :=
 (∀ j, o = some j → n ≤ j) ∧ ∃ cs, OwnX H 1 cs ls.length v o ∧ ∀ (i : Nat) l, ls[i]? = some l → ∃ lv b, cs[i]? = some lv ∧ OwnX H 1 (l.map vint) l.length lv b ∧ ∀ j, b = some j → some j ≠ o ∧ n ≤ j
theorem OwnL.keep {n : Nat} {H H' : List AObj} {v : Value} {ls : List (List Int)} {o : Option Nat} (a : OwnL n H v ls o) (S : SameX [] H H') : OwnL n H' v ls o := by
 obtain ⟨h1, cs, O, he⟩ := a
 refine ⟨h1, cs, ownX_keep O S (by simp), fun i l hl => ?_⟩
 obtain ⟨lv, b, e1, e2, e3⟩ := he i l hl
 exact ⟨lv, b, e1, ownX_keep e2 S (by simp), e3⟩
section
variable {main : Bool} {J : JT} {h H : List AObj} {K : Value → List AObj → Prop} {KV : Value → Prop} {HL : List AObj → Prop} {n0 : Nat}
theorem OwnL.get {n i : Nat} {v : Value} {ls : List (List Int)} {o : Option Nat} (a : OwnL n H v ls o) {l : List Int} (hl : ls[i]? = some l) {K2 : Value → Value → Prop} (hK : ∀ p lv b, OwnX H 1 (l.map vint) l.length lv b → (∀ j, b = some j → n ≤ j) → K2 p lv) : aIdx 1 v (vint (i : Nat)) fun p => aLoad false 1 p H (K2 p) := by
 obtain ⟨h1, cs, O, he⟩ := a
 obtain ⟨lv, b, e1, e2, e3⟩ := he i l hl
 have hi := (List.getElem?_eq_some_iff.1 hl).1
 exact idx_load (ownX_sli O) ⟨by omega, by omega⟩ (by rw [Int.toNat_natCast]; exact e1) fun p => hK p lv b e2 fun j hj => (e3 j hj).2
end
end Go.Proofs.YtmmlamfgbmnkgaaDoor
namespace Go.Proofs.YtmmlamfgbmnkgaaDoor
open Go.Conc Go.Proofs.Tryd
structure Ref where
 now : Int
 next : Nat
 out : List Int
end Go.Proofs.YtmmlamfgbmnkgaaDoor
namespace Go.Proofs.YtmmlamfgbmnkgaaDoor
open Go.Conc Go.Proofs.Tryd
set_option maxRecDepth 100000
section
variable {h H : List AObj} {K : Value → List AObj → Prop}
theorem OwnL.more {lo : Nat} {H : List AObj} {ls : List (List Int)} {o : Option Nat} {v y wv : Value} {l : List Int} {bf : Nat} {K : Value → List AObj → Prop}
  (L : OwnL lo H v ls o) (hlo : lo ≤ H.length) (hpl : ls.length < 90000) (Of : OwnX H 1 (l.map vint) l.length wv (some bf)) (hbf : lo ≤ bf) (hne : some bf ≠ o) (hyv : Sli H y 1 1 [wv])
  (hK : ∀ v' H' o', SameX o.toList H H' → OwnL lo H' v' (ls ++ [l]) (some o') → H.length ≤ o' → v' ≠ unk → K v' H') : aApp 1 v y H K := by
 obtain ⟨hl0, cs, Oc, he⟩ := L
 have bfl := ownX_lt Of bf rfl
 refine ownX_more Oc (by omega) (by omega) hyv fun v' Hh ph eh Oh Sh => ?_
 have hno : ∀ j, some j ≠ o → j ∉ o.toList := fun j hj hm => hj (by rw [Option.mem_toList.1 hm])
 refine hK v' Hh ph Sh ⟨fun j hj => by cases hj; omega, cs ++ [wv], by rw [List.length_append]; exact Oh, fun m l' hl => ?_⟩ (by omega) ?_
 ·have hcl : cs.length = ls.length := by have := Oc.1; omega
  rcases Nat.lt_or_ge m ls.length with hm | hm
  ·rw [List.getElem?_append_left hm] at hl
   obtain ⟨lv2, b2, e2, e3, e4⟩ := he m l' hl
   refine ⟨lv2, b2, by rw [List.getElem?_append_left (by omega)]; exact e2, ownX_keep e3 Sh fun j hj => hno j (e4 j hj).1, fun j hj => ⟨?_, (e4 j hj).2⟩⟩
   have := ownX_lt e3 j hj
   intro e
   injection e with e
   omega
  ·rw [List.getElem?_append_right hm] at hl
   have hm0 : m - ls.length = 0 := by
    have := (List.getElem?_eq_some_iff.1 hl).1
    simp at this
    omega
   rw [hm0] at hl
   have : l' = l := by simpa using hl.symm
   subst this
   refine ⟨wv, some bf, by rw [List.getElem?_append_right (by omega), hcl, hm0]; rfl, ownX_keep Of Sh fun j hj => ?_, fun j hj => ?_⟩
   ·cases hj
    exact hno _ hne
   ·cases hj
    refine ⟨fun e => ?_, hbf⟩
    injection e with e
    omega
 ·have := (ownX_val Oh).2.2
  intro e
  rw [e] at this
  cases this
theorem OwnL.nil {lo : Nat} : OwnL lo H (.slice none 0 0) [] none := ⟨by simp, [], ⟨rfl, rfl, .inl ⟨rfl, rfl, rfl⟩⟩, by simp⟩
theorem OwnL.lo {n m : Nat} {v : Value} {ls : List (List Int)} {o : Option Nat} (a : OwnL n H v ls o) (h : m ≤ n) : OwnL m H v ls o := by
 obtain ⟨a1, cs, a2, a3⟩ := a
 exact ⟨fun j hj => by have := a1 j hj; omega, cs, a2, fun i l hl => by
  obtain ⟨lv, b, q1, q2, q3⟩ := a3 i l hl
  exact ⟨lv, b, q1, q2, fun j hj => ⟨(q3 j hj).1, by have := (q3 j hj).2; omega⟩⟩⟩
theorem OwnL.lt {n : Nat} {v : Value} {ls : List (List Int)} {o : Option Nat} (a : OwnL n H v ls o) : ∀ j, o = some j → n ≤ j ∧ j < H.length := fun j hj => ⟨a.1 j hj, ownX_lt a.2.choose_spec.1 j hj⟩
theorem OwnL.sli {n : Nat} {v : Value} {ls : List (List Int)} {o : Option Nat} (a : OwnL n H v ls o) : ∃ cs, Sli H v 1 ls.length cs := ⟨_, ownX_sli a.2.choose_spec.1⟩
theorem OwnL.nunk {n : Nat} {v : Value} {ls : List (List Int)} {o : Option Nat} (a : OwnL n H v ls o) : v ≠ unk := by
 have := (ownX_val a.2.choose_spec.1).2.2
 intro e
 rw [e] at this
 cases this
end
section
variable {main : Bool} {J : JT} {h H : List AObj} {K : Value → List AObj → Prop} {KV : Value → Prop} {HL : List AObj → Prop} {n0 : Nat} {nx0 : RG → List AObj → Prop}
variable {t : Tro} {cs : List Int} {os : List Nat} {fv cv ov : Value} {p1 p4 hh : Nat} {s : Ref} {F : RG}
theorem nuA {a b : Value} (ha : a ≠ unk) (hb : b ≠ unk) : ∀ v ∈ [a, b], v ≠ unk := by
 intro v hv
 simp only [List.mem_cons, List.not_mem_nil, or_false] at hv
 rcases hv with rfl | rfl <;> assumption
end
structure Sm (h H : List AObj) : Prop where
 len : h.length ≤ H.length
 get : ∀ (i : Nat) (x : AObj), h[i]? = some x → H[i]? = some x ∨ ((∃ cap, x = .chan cap) ∨ ∃ z, x = .group z) ∧ H[i]? = some .dead
theorem Sm.refl {h : List AObj} : Sm h h := ⟨Nat.le_refl _, fun _ _ h => .inl h⟩
theorem Sm.of {h H : List AObj} (S : SameX [] h H) : Sm h H := ⟨S.1, fun i x hx => .inl (S.get hx (by simp))⟩
theorem Sm.unch {h H : List AObj} (S : SameX [] (unch h) H) : Sm h H := ⟨by have := S.1; rwa [unch_len] at this, fun i x hx => by
 have h1 : (Go.Proofs.YtmmlamfgbmnkgaaDoor.unch h)[i]? = some (unchO x) := by
  unfold Go.Proofs.YtmmlamfgbmnkgaaDoor.unch
  rw [List.getElem?_map, hx]
  rfl
 have h2 := S.get h1 (by simp)
 cases x with
 | chan cap => exact .inr ⟨.inl ⟨cap, rfl⟩, h2⟩
 | group z => exact .inr ⟨.inr ⟨z, rfl⟩, h2⟩
 | _ => exact .inl h2⟩
theorem Sm.trans {h H G : List AObj} (a : Sm h H) (b : Sm H G) : Sm h G := ⟨Nat.le_trans a.1 b.1, fun i x hx => by
 rcases a.2 i x hx with h1 | ⟨h1, h2⟩
 ·exact b.2 i x h1
 ·rcases b.2 i _ h2 with h3 | ⟨⟨cap, h3⟩ | ⟨z, h3⟩, _⟩
  ·exact .inr ⟨h1, h3⟩
  ·cases h3
  ·cases h3⟩
theorem Sm.at {h H : List AObj} (a : Sm h H) {i : Nat} {c : List Value} {wr : Bool} {sz : Nat} (hx : h[i]? = some (.cells c wr sz)) : H[i]? = some (.cells c wr sz) := by
 rcases a.2 i _ hx with h1 | ⟨⟨cap, h1⟩ | ⟨z, h1⟩, _⟩
 ·exact h1
 ·cases h1
 ·cases h1
theorem Sm.sli {h H : List AObj} (a : Sm h H) {v : Value} {s n : Nat} {cs : List Value} (hs : Sli h v s n cs) : Sli H v s n cs := by
 obtain ⟨base, c, rfl, hk, hh⟩ := hs
 refine ⟨base, c, rfl, hk, hh.imp id ?_⟩
 rintro ⟨b, o, e, h0⟩
 exact ⟨b, o, e, h0.imp id fun ⟨cs, wr, sz, hb, ht⟩ => ⟨cs, wr, sz, a.at hb, ht⟩⟩
theorem Sm.tro {h H : List AObj} (a : Sm h H) {v fv : Value} {t : Tro} (ht : TroAt h v t fv) : TroAt H v t fv := ⟨ht.val, a.sli ht.fl⟩
def servX (t : Tro) (cs : List Int) : Int := if servE t cs ≠ 0 then servE t cs else if pick26 t cs < 0 then 11 else 0
def servL (t : Tro) (cs : List Int) : List Int := if servE t cs ≠ 0 then [] else if pick26 t cs < 0 then [] else ((allOf26 cs).getD (pick26 t cs).toNat []).map Int.ofNat
def servN (t : Tro) (cs : List Int) : Int := if servE t cs ≠ 0 then 0 else if pick26 t cs < 0 then 0 else (waits26 t cs).getD (pick26 t cs).toNat 0
theorem sli_nilV {H : List AObj} : Sli H (.slice none 0 0) 1 0 [] := ⟨none, 0, rfl, ⟨rfl, rfl⟩, .inl ⟨rfl, rfl⟩⟩
section
variable {W0 : World} {Post : Value → World → Prop} {main : Bool} {J : JT} {h H : List AObj} {K : Value → List AObj → Prop}
theorem serv_at {t : Tro} {cs : List Int} (h0 : servE t cs = 0) {i : Nat} {os : List Nat} (hp : pick26 t cs = i) (hos : (allOf26 cs)[i]? = some os) : servX t cs = 0 ∧ servL t cs = os.map Int.ofNat ∧ servN t cs = (waits26 t cs).getD i 0 := by
 unfold servX servL servN
 have n0 : ¬ servE t cs ≠ 0 := not_not_intro h0
 have n1 : ¬ pick26 t cs < 0 := by omega
 rw [if_neg n0, if_neg n0, if_neg n0, if_neg n1, if_neg n1, if_neg n1, hp, Int.toNat_natCast, List.getD_eq_getElem?_getD, hos]
 exact ⟨rfl, rfl, rfl⟩
theorem serv_no {t : Tro} {cs : List Int} (h : servE t cs ≠ 0 ∨ servE t cs = 0 ∧ pick26 t cs < 0) : servL t cs = [] ∧ servN t cs = 0 := by
 unfold servL servN
 rcases h with h | ⟨h, h2⟩
 ·rw [if_pos h, if_pos h]
  exact ⟨rfl, rfl⟩
 ·have n0 : ¬ servE t cs ≠ 0 := not_not_intro h
  rw [if_neg n0, if_neg n0, if_pos h2, if_pos h2]
  exact ⟨rfl, rfl⟩
theorem good17' {a0 cv fv : Value} {t : Tro} {cs : List Int} (ht : TroAt h a0 t fv) (hc : Sli h cv 1 cs.length (cs.map vint)) (hl : cs.length ≤ 1000)
  (hK : ∀ H w, Sm h H → Sli H w 1 (servL t cs).length ((servL t cs).map vint) → K (.tuple ⟨[w, vint (servN t cs), vint (servX t cs)]⟩) H) : Good prog (J1 prog W0 Post) 17 [a0, cv] h K := by
 refine good17 ht hc hl (fun h0 => ?_) (fun h0 hp H S => ?_) fun h0 i c os H hp hos S sc => ?_
 ·obtain ⟨e1, e2⟩ := serv_no (.inl h0)
  have e3 : servX t cs = servE t cs := by unfold servX; rw [if_pos h0]
  have := hK h (.slice none 0 0) Sm.refl (by rw [e1]; exact sli_nilV)
  rw [e2, e3] at this
  exact this
 ·obtain ⟨e1, e2⟩ := serv_no (.inr ⟨h0, hp⟩)
  have e3 : servX t cs = 11 := by unfold servX; rw [if_neg (not_not_intro h0), if_pos hp]
  have := hK H (.slice none 0 0) (Sm.unch S) (by rw [e1]; exact sli_nilV)
  rw [e2, e3] at this
  exact this
 ·obtain ⟨e1, e2, e3⟩ := serv_at h0 hp hos
  have := hK H c (Sm.unch S) (by rw [e2, List.length_map]; exact sc)
  rw [e1, e3] at this
  exact this
end
def fillAns (t : Tro) : Int := if troE t = 0 then (fillR t).getD 0 else 0
def fillX (t : Tro) : Int := if troE t ≠ 0 then troE t else enoughE (fillR t)
def holdsN (t : Tro) : Int := if troE t = 0 then (holdsR t).getD 0 else 0
def holdsX (t : Tro) : Int := if troE t ≠ 0 then troE t else enoughE (holdsR t)
section
variable {main : Bool} {J : JT} {h H : List AObj} {K : Value → List AObj → Prop} {KV : Value → Prop} {HL : List AObj → Prop} {n0 : Nat}
theorem good14' (hJ : Closed prog main J) {v fv : Value} {t : Tro} (ht : TroAt H v t fv) (hK : ∀ H', SameX [] H H' → K (.tuple ⟨[vint (fillAns t), vint (fillX t)]⟩) H') : Good prog J 14 [v] H K := by
 by_cases hz : troE t = 0
 ·refine good14 hJ ht (troE_fine hz) fun H' S => ?_
  have := hK H' S
  unfold fillAns fillX at this
  rw [if_pos hz, if_neg (not_not_intro hz)] at this
  exact this
 ·refine g14 hJ fun ok => ?_
  rw [e14, ht.val]
  refine qBox (tro_one ht) fun H1 p1 e1 S1 c1 l1 => ?_
  have t1 : TroAt H1 (.agg ⟨troCells t fv⟩) t fv := ⟨rfl, S1.sli ht.fl (by simp)⟩
  refine load_part (c := troCells t fv) c1 (by simp [troCells]) rfl (tro_kn ht) (good6 hJ t1 (neqI (cndI (fun g1 => retL_same (nuA (by simp [unk]) (by simp [unk])) ?_) fun g1 => absurd (Decidable.not_not.1 g1) hz)))
  have := hK H1 S1
  unfold fillAns fillX at this
  rw [if_neg hz, if_pos hz] at this
  exact this
theorem good15' (hJ : Closed prog main J) {v fv : Value} {t : Tro} (ht : TroAt H v t fv) (hK : ∀ H', SameX [] H H' → K (.tuple ⟨[vint (holdsN t), vint (holdsX t)]⟩) H') : Good prog J 15 [v] H K := by
 by_cases hz : troE t = 0
 ·refine good15 hJ ht (troE_fine hz) fun H' S => ?_
  have := hK H' S
  unfold holdsN holdsX at this
  rw [if_pos hz, if_neg (not_not_intro hz)] at this
  exact this
 ·refine g15 hJ fun ok => ?_
  rw [e15, ht.val]
  refine qBox (tro_one ht) fun H1 p1 e1 S1 c1 l1 => ?_
  have t1 : TroAt H1 (.agg ⟨troCells t fv⟩) t fv := ⟨rfl, S1.sli ht.fl (by simp)⟩
  refine load_part (c := troCells t fv) c1 (by simp [troCells]) rfl (tro_kn ht) (good6 hJ t1 (neqI (cndI (fun g1 => retL_same (nuA (by simp [unk]) (by simp [unk])) ?_) fun g1 => absurd (Decidable.not_not.1 g1) hz)))
  have := hK H1 S1
  unfold holdsN holdsX at this
  rw [if_neg hz, if_pos hz] at this
  exact this
end
end Go.Proofs.YtmmlamfgbmnkgaaDoor
namespace Go.Proofs.YtmmlamfgbmnkgaaDoor
open Go.Conc Go.Proofs.Tryd
set_option maxRecDepth 100000
set_option maxHeartbeats 4000000
set_option linter.unusedVariables false
section
variable {main : Bool} {J : JT} {n0 : Nat} {h : List AObj} {K : Value → List AObj → Prop}
theorem at22 : prog.funcs[22]? = some f22 := by kernel_rfl
theorem body22 : f22.body = some (codeOf f22) := by kernel_rfl
def pl22 : Plans := [(6, true, .take 0 (.take 1 (.take 2 (.take 3 (.take 4 (.take 5 (.take 6 (.take 7 (.last 8 false (.take 9 (.fin)))))))))))]
def ct22 : Cuts := .go
theorem pok22 : plansOk prog pl22 (codeOf f22) = true := by kernel_rfl
theorem e22 {a0 a1 : Value} : W prog J 27 h.length 22 (codeOf f22) (RG.mk (regs [a0, a1]) []) h (RetQ prog [.tmp 4] h.length K) =
(aLenS a0 fun v1 =>
aLenS a1 fun v2 =>
aBin prog .neq 3 v1 v2 fun v3 =>
cnd v3
(retL h.length K [] [(Value.bool false)] h)
(Sem J 27 h.length 22 (subC [1, 1, 0, 1, 0] (codeOf f22)) (RG.p (RG.p (RG.p (RG.p (RG.p (RG.p (RG.p (RG.mk (regs [a0, a1]) []) 4 (Value.bool false)) 6 a0) 7 v1) 8 a1) 9 v2) 10 v3) 5 (vint 0)) h (contX pl22 prog J 27 h.length 22 ct22 [1, 1, 0, 1, 0] (codeOf f22) [] (RetQ prog [.tmp 4] h.length K)))) := top_eq pok22 ct22 (by kernel_rfl)
theorem g22 (hJ : Closed prog main J) {a0 a1 : Value} (hs : heapOk h → W prog J 27 h.length 22 (codeOf f22) (RG.mk (regs [a0, a1]) []) h (RetQ prog [.tmp 4] h.length K)) : Good prog J 22 [a0, a1] h K :=
 good_of_W hJ mixed at22 body22 (by kernel_rfl) (Nat.le_of_ble_eq_true rfl) hs
theorem s22_1 {f : RG} {nx0 : RG → List AObj → Prop} : W prog J 27 n0 22 (subC [1, 1, 0, 1, 0, 0] (codeOf f22)) f h (thenK nx0 (contX pl22 prog J 27 n0 22 ct22 [1, 1, 0, 1, 0] (codeOf f22) [] (RetQ prog [.tmp 4] n0 K))) =
(aLenS (f.r 0) fun v1 =>
aBin prog .lss 3 (f.r 5) v1 fun v2 =>
cnd v2
(aIdx 1 (f.r 0) (f.r 5) fun v3 =>
aLoad false 1 v3 h fun v4 =>
aIdx 1 (f.r 1) (f.r 5) fun v5 =>
aLoad false 1 v5 h fun v6 =>
Good prog J 9 [v4, v6] h fun v7 h8 =>
aUn .not v7 fun v9 =>
cnd v9
(retL n0 K f.ds [(Value.bool false)] h8)
(aBin prog .add 3 (f.r 5) (vint 1) fun v10 =>
nx0 (RG.p (RG.p (RG.p (RG.p (RG.p (RG.p (RG.p (RG.p (RG.p (RG.p (RG.p (RG.p (RG.p (RG.p (RG.p (RG.p (RG.p f 11 (f.r 5)) 12 (f.r 0)) 13 v1) 14 v2) 17 (f.r 0)) 18 (f.r 5)) 19 v3) 20 v4) 21 (f.r 1)) 22 (f.r 5)) 23 v5) 24 v6) 25 v7) 26 v9) 15 (f.r 5)) 16 v10) 5 v10) h8))
(retL n0 K f.ds [(Value.bool true)] h)) := sub_eq pok22 ct22 (by kernel_rfl)
theorem l22_1 (hJ : Closed prog main J) {S : Type} (μ : S → Nat) (I : S → RG → List AObj → Prop) (hI : ∀ s f h, I s f h → heapOk h → n0 ≤ h.length → W prog J 27 n0 22 (subC [1, 1, 0, 1, 0, 0] (codeOf f22)) f h (thenK (Nx n0 μ I s) (contX pl22 prog J 27 n0 22 ct22 [1, 1, 0, 1, 0] (codeOf f22) [] (RetQ prog [.tmp 4] n0 K))))
 {s : S} {f : RG} (hi : Gets n0 I s f h) : Sem J 27 n0 22 (subC [1, 1, 0, 1, 0] (codeOf f22)) f h (contX pl22 prog J 27 n0 22 ct22 [1, 1, 0, 1, 0] (codeOf f22) [] (RetQ prog [.tmp 4] n0 K)) :=
 loop_rule hJ mixed (b := subC [1, 1, 0, 1, 0, 0] (codeOf f22)) (by kernel_rfl) μ I hI hi
end
section
variable {main : Bool} {J : JT} {n0 : Nat} {h : List AObj} {K : Value → List AObj → Prop}
theorem at16 : prog.funcs[16]? = some f16 := by kernel_rfl
theorem body16 : f16.body = some (codeOf f16) := by kernel_rfl
def pl16 : Plans := [(16, false, .take 0 (.take 1 (.last 2 true (.take 3 (.take 4 (.take 5 (.take 6 (.take 7 (.last 8 true (.last 9 true (.take 10 (.fin))))))))))))]
def ct16 : Cuts := .bin (.go) (.bin (.go) (.bin (.go) (.bin (.go) (.bin (.bin (.go) (.un (.un (.bin (.go) (.bin (.go) (.bin (.un (.bin (.go) (.bin (.go) (.un (.un (.bin (.go) (.bin (.un (.bin (.go) (.bin (.go) (.bin (.go) (.bin (.go) (.cut (.go))))))) (.go)))))))) (.go))))))) (.go)))))
theorem pok16 : plansOk prog pl16 (codeOf f16) = true := by kernel_rfl
theorem e16 {a0 a1 : Value} : W prog J 67 h.length 16 (codeOf f16) (RG.mk (regs [a0, a1]) []) h (RetQ prog [.tmp 4, .tmp 5] h.length K) =
(aBox a0 h fun v1 h2 =>
aLoad true 4 v1 h2 fun v3 =>
Good prog J 26 [v3, a1] h2 fun v4 h5 =>
aBin prog .neq 31 v4 (vint 0) fun v6 =>
cnd v6
(retL h.length K [] [(Value.slice none 0 0), v4] h5)
(aLoad true 4 v1 h5 fun v7 =>
Good prog J 37 [v7, a1] h5 fun v8 h9 =>
aUn .not v8 fun v10 =>
cnd v10
(retL h.length K [] [(Value.slice none 0 0), (vint 9)] h9)
(aLenS a1 fun v11 =>
Sem J 67 h.length 16 (subC [1, 1, 1, 1, 0, 1, 0] (codeOf f16)) (RG.p (RG.p (RG.p (RG.p (RG.p (RG.p (RG.p (RG.p (RG.p (RG.p (RG.p (RG.p (RG.p (RG.p (RG.p (RG.p (RG.p (RG.mk (regs [a0, a1]) []) 2 v1) 4 (Value.slice none 0 0)) 5 (vint 0)) 11 v3) 12 a1) 13 v4) 6 v4) 14 v4) 15 v6) 17 v7) 18 a1) 19 v8) 20 v10) 7 (Value.slice none 0 0)) 21 a1) 22 v11) 23 (vint 0)) h9 (contX pl16 prog J 67 h.length 16 ct16 [1, 1, 1, 1, 0, 1, 0] (codeOf f16) [] (RetQ prog [.tmp 4, .tmp 5] h.length K))))) := top_eq pok16 ct16 (by kernel_rfl)
theorem g16 (hJ : Closed prog main J) {a0 a1 : Value} (hs : heapOk h → W prog J 67 h.length 16 (codeOf f16) (RG.mk (regs [a0, a1]) []) h (RetQ prog [.tmp 4, .tmp 5] h.length K)) : Good prog J 16 [a0, a1] h K :=
 good_of_W hJ mixed at16 body16 (by kernel_rfl) (Nat.le_of_ble_eq_true rfl) hs
theorem s16_1 {f : RG} {nx0 : RG → List AObj → Prop} : W prog J 67 n0 16 (subC [1, 1, 1, 1, 0, 1, 0, 0] (codeOf f16)) f h (thenK nx0 (contX pl16 prog J 67 n0 16 ct16 [1, 1, 1, 1, 0, 1, 0] (codeOf f16) [] (RetQ prog [.tmp 4, .tmp 5] n0 K))) =
(aBin prog .lss 3 (f.r 23) (f.r 22) fun v1 =>
cnd v1
(aBin prog .add 3 (f.r 23) (vint 1) fun v2 =>
Sem J 67 n0 16 (subC [1, 1, 1, 1, 0, 1, 0, 0, 1, 1, 0, 0, 1, 1, 0] (codeOf f16)) (RG.p (RG.p (RG.p (RG.p (RG.p (RG.p f 24 v1) 25 (f.r 23)) 8 (f.r 23)) 26 (f.r 23)) 27 v2) 9 v2) h (contX pl16 prog J 67 n0 16 ct16 [1, 1, 1, 1, 0, 1, 0, 0, 1, 1, 0, 0, 1, 1, 0] (codeOf f16) [nx0] (RetQ prog [.tmp 4, .tmp 5] n0 K)))
(retL n0 K f.ds [(f.r 7), (vint 0)] h)) := sub_eq pok16 ct16 (by kernel_rfl)
theorem l16_1 (hJ : Closed prog main J) {S : Type} (μ : S → Nat) (I : S → RG → List AObj → Prop) (hI : ∀ s f h, I s f h → heapOk h → n0 ≤ h.length → W prog J 67 n0 16 (subC [1, 1, 1, 1, 0, 1, 0, 0] (codeOf f16)) f h (thenK (Nx n0 μ I s) (contX pl16 prog J 67 n0 16 ct16 [1, 1, 1, 1, 0, 1, 0] (codeOf f16) [] (RetQ prog [.tmp 4, .tmp 5] n0 K))))
 {s : S} {f : RG} (hi : Gets n0 I s f h) : Sem J 67 n0 16 (subC [1, 1, 1, 1, 0, 1, 0] (codeOf f16)) f h (contX pl16 prog J 67 n0 16 ct16 [1, 1, 1, 1, 0, 1, 0] (codeOf f16) [] (RetQ prog [.tmp 4, .tmp 5] n0 K)) :=
 loop_rule hJ mixed (b := subC [1, 1, 1, 1, 0, 1, 0, 0] (codeOf f16)) (by kernel_rfl) μ I hI hi
theorem s16_2 {f : RG} {nx0 nx1 : RG → List AObj → Prop} : W prog J 67 n0 16 (subC [1, 1, 1, 1, 0, 1, 0, 0, 1, 1, 0, 0, 1, 1, 0, 0] (codeOf f16)) f h (thenK nx1 (contX pl16 prog J 67 n0 16 ct16 [1, 1, 1, 1, 0, 1, 0, 0, 1, 1, 0, 0, 1, 1, 0] (codeOf f16) [nx0] (RetQ prog [.tmp 4, .tmp 5] n0 K))) =
(aLenS (f.r 1) fun v1 =>
aBin prog .lss 3 (f.r 9) v1 fun v2 =>
cnd v2
(Good prog J 38 [(f.r 1)] h fun v3 h4 =>
aAlloc [(vint 0), (vint 0), (vint 0), (vint 0), (vint 0)] h4 fun v5 h6 =>
aStore 5 v5 v3 h6 fun h7 =>
aIdx 1 (f.r 1) (f.r 9) fun v8 =>
aLoad false 1 v8 h7 fun v9 =>
aIdxA 5 1 v5 (f.r 8) fun v10 =>
aStore 1 v10 v9 h7 fun h11 =>
aIdx 1 (f.r 1) (f.r 8) fun v12 =>
aLoad false 1 v12 h11 fun v13 =>
aIdxA 5 1 v5 (f.r 9) fun v14 =>
aStore 1 v14 v13 h11 fun h15 =>
(∃ B, aLoad true 5 v5 h15 fun v16 =>
RdOk (some B) (ptrBlk v5) ∧ (Good prog J 38 [(f.r 1)] h15 fun v17 h18 =>
SameB (some B) h15 h18 ∧ (aBin prog .neq 74 v16 v17 fun v19 =>
cnd v19
(aLoad true 4 (f.r 2) h18 fun v20 =>
RdOk (some B) (ptrBlk (f.r 2)) ∧ (aLenS (f.r 1) fun v21 =>
RdOk (some B) (mapBlk (f.r 1)) ∧ (aSlA 5 1 v5 none (some v21) fun v22 =>
SameB (some B) h15 h18 ∧ (Good prog J 37 [v20, v22] h18 fun v23 h24 =>
SameB (some B) h15 h24 ∧ (Hold (W prog J 67 n0 16 (subC [1, 1, 1, 1, 0, 1, 0, 0, 1, 1, 0, 0, 1, 1, 0, 0, 1, 0, 0, 1, 1, 1, 1] (codeOf f16)) (RG.p (RG.p (RG.p (RG.p (RG.p (RG.p (RG.p (RG.p (RG.p (RG.p (RG.p (RG.p (RG.p (RG.p (RG.p (RG.p (RG.p (RG.p (RG.p (RG.p (RG.p (RG.p (RG.p (RG.p (RG.p (RG.p (RG.p (RG.p (RG.p (RG.p (RG.p f 28 (f.r 9)) 29 (f.r 1)) 30 v1) 31 v2) 34 (f.r 1)) 35 v3) 10 v5) 36 (f.r 8)) 37 (f.r 1)) 38 (f.r 9)) 39 v8) 40 v9) 41 v10) 42 (f.r 9)) 43 (f.r 1)) 44 (f.r 8)) 45 v12) 46 v13) 47 v14) 48 v16) 49 (f.r 1)) 50 v17) 51 v19) 52 v19) 52 (Value.bool true)) 53 v20) 54 (f.r 1)) 55 v21) 56 v22) 57 v23) 58 v23) h24 (contX pl16 prog J 67 n0 16 ct16 [1, 1, 1, 1, 0, 1, 0, 0, 1, 1, 0, 0, 1, 1, 0, 0, 1, 0, 0, 1, 1, 1, 1] (codeOf f16) [nx0, nx1] (RetQ prog [.tmp 4, .tmp 5] n0 K))))))))
(Hold (W prog J 67 n0 16 (subC [1, 1, 1, 1, 0, 1, 0, 0, 1, 1, 0, 0, 1, 1, 0, 0, 1, 0, 0, 1, 1, 1, 1] (codeOf f16)) (RG.p (RG.p (RG.p (RG.p (RG.p (RG.p (RG.p (RG.p (RG.p (RG.p (RG.p (RG.p (RG.p (RG.p (RG.p (RG.p (RG.p (RG.p (RG.p (RG.p (RG.p (RG.p (RG.p (RG.p (RG.p (RG.p (RG.p (RG.p (RG.p (RG.p (RG.p f 28 (f.r 9)) 29 (f.r 1)) 30 v1) 31 v2) 34 (f.r 1)) 35 v3) 10 v5) 36 (f.r 8)) 37 (f.r 1)) 38 (f.r 9)) 39 v8) 40 v9) 41 v10) 42 (f.r 9)) 43 (f.r 1)) 44 (f.r 8)) 45 v12) 46 v13) 47 v14) 48 v16) 49 (f.r 1)) 50 v17) 51 v19) 52 v19) 52 (Value.bool false)) 53 undef) 54 undef) 55 undef) 56 undef) 57 undef) 58 (Value.bool false)) h18 (contX pl16 prog J 67 n0 16 ct16 [1, 1, 1, 1, 0, 1, 0, 0, 1, 1, 0, 0, 1, 1, 0, 0, 1, 0, 0, 1, 1, 1, 1] (codeOf f16) [nx0, nx1] (RetQ prog [.tmp 4, .tmp 5] n0 K))))))))
(aBin prog .add 3 (f.r 23) (vint 1) fun v25 =>
nx0 (RG.p (RG.p (RG.p (RG.p (RG.p (RG.p f 28 (f.r 9)) 29 (f.r 1)) 30 v1) 31 v2) 65 v25) 23 v25) h)) := sub_eq pok16 ct16 (by kernel_rfl)
theorem l16_2 (hJ : Closed prog main J) {nx0 : RG → List AObj → Prop} {S : Type} (μ : S → Nat) (I : S → RG → List AObj → Prop) (hI : ∀ s f h, I s f h → heapOk h → n0 ≤ h.length → W prog J 67 n0 16 (subC [1, 1, 1, 1, 0, 1, 0, 0, 1, 1, 0, 0, 1, 1, 0, 0] (codeOf f16)) f h (thenK (Nx n0 μ I s) (contX pl16 prog J 67 n0 16 ct16 [1, 1, 1, 1, 0, 1, 0, 0, 1, 1, 0, 0, 1, 1, 0] (codeOf f16) [nx0] (RetQ prog [.tmp 4, .tmp 5] n0 K))))
 {s : S} {f : RG} (hi : Gets n0 I s f h) : Sem J 67 n0 16 (subC [1, 1, 1, 1, 0, 1, 0, 0, 1, 1, 0, 0, 1, 1, 0] (codeOf f16)) f h (contX pl16 prog J 67 n0 16 ct16 [1, 1, 1, 1, 0, 1, 0, 0, 1, 1, 0, 0, 1, 1, 0] (codeOf f16) [nx0] (RetQ prog [.tmp 4, .tmp 5] n0 K)) :=
 loop_rule hJ mixed (b := subC [1, 1, 1, 1, 0, 1, 0, 0, 1, 1, 0, 0, 1, 1, 0, 0] (codeOf f16)) (by kernel_rfl) μ I hI hi
theorem s16_3 {f : RG} {nx0 nx1 : RG → List AObj → Prop} : W prog J 67 n0 16 (subC [1, 1, 1, 1, 0, 1, 0, 0, 1, 1, 0, 0, 1, 1, 0, 0, 1, 0, 0, 1, 1, 1, 1] (codeOf f16)) f h (contX pl16 prog J 67 n0 16 ct16 [1, 1, 1, 1, 0, 1, 0, 0, 1, 1, 0, 0, 1, 1, 0, 0, 1, 0, 0, 1, 1, 1, 1] (codeOf f16) [nx0, nx1] (RetQ prog [.tmp 4, .tmp 5] n0 K)) =
(cnd (f.r 58)
((((2 * 1 : Nat) ≤ 16777216 ∧ (2 : Nat) ≤ 16777216 ∧ List.length [(vint 0)] = 1) ∧ aFill (zrep [(vint 0)] 2) [(0, 1, (f.r 8)), (1, 1, (f.r 9))] fun c1 =>
aNewS 2 c1 h fun v2 h3 =>
(((1 * 1 : Nat) ≤ 16777216 ∧ (1 : Nat) ≤ 16777216 ∧ List.length [(Value.slice none 0 0)] = 1) ∧ aFill (zrep [(Value.slice none 0 0)] 1) [(0, 1, v2)] fun c4 =>
aNewS 1 c4 h3 fun v5 h6 =>
((List.length [(Value.slice none 0 0)] = 1 ∧ 0 < (1 : Nat) ∧ 0 < (24 : Nat) ∧ (24 : Nat) ≤ 1024) ∧ aApp 1 (f.r 7) v5 h6 fun v7 h8 =>
aBin prog .add 3 (f.r 9) (vint 1) fun v9 =>
nx1 (RG.p (RG.p (RG.p (RG.p (RG.p (RG.p (RG.p (RG.p (RG.p (RG.p f 59 (f.r 7)) 60 (f.r 8)) 61 (f.r 9)) 62 v2) 63 v5) 64 v7) 7 v7) 32 (f.r 9)) 33 v9) 9 v9) h8))))
(aBin prog .add 3 (f.r 9) (vint 1) fun v10 =>
nx1 (RG.p (RG.p (RG.p f 32 (f.r 9)) 33 v10) 9 v10) h)) := sub_eq pok16 ct16 (by kernel_rfl)
theorem at38 : prog.funcs[38]? = some f38 := by kernel_rfl
theorem body38 : f38.body = some (codeOf f38) := by kernel_rfl
def pl38 : Plans := []
def ct38 : Cuts := .go
theorem pok38 : plansOk prog pl38 (codeOf f38) = true := by kernel_rfl
theorem e38 {a0 : Value} : W prog J 15 h.length 38 (codeOf f38) (RG.mk (regs [a0]) []) h (RetQ prog [.cell 2 74] h.length K) =
(aAlloc [(vint 0), (vint 0), (vint 0), (vint 0), (vint 0)] h fun v1 h2 =>
aAlloc [(vint 0), (vint 0), (vint 0), (vint 0), (vint 0)] h2 fun v3 h4 =>
Sem J 15 h.length 38 (subC [1, 1, 0, 1, 0] (codeOf f38)) (RG.p (RG.p (RG.p (RG.mk (regs [a0]) []) 2 v1) 3 v3) 5 (vint 0)) h4 (contX pl38 prog J 15 h.length 38 ct38 [1, 1, 0, 1, 0] (codeOf f38) [] (RetQ prog [.cell 2 74] h.length K))) := top_eq pok38 ct38 (by kernel_rfl)
theorem g38 (hJ : Closed prog main J) {a0 : Value} (hs : heapOk h → W prog J 15 h.length 38 (codeOf f38) (RG.mk (regs [a0]) []) h (RetQ prog [.cell 2 74] h.length K)) : Good prog J 38 [a0] h K :=
 good_of_W hJ mixed at38 body38 (by kernel_rfl) (Nat.le_of_ble_eq_true rfl) hs
theorem s38_1 {f : RG} {nx0 : RG → List AObj → Prop} : W prog J 15 n0 38 (subC [1, 1, 0, 1, 0, 0] (codeOf f38)) f h (thenK nx0 (contX pl38 prog J 15 n0 38 ct38 [1, 1, 0, 1, 0] (codeOf f38) [] (RetQ prog [.cell 2 74] n0 K))) =
(aBin prog .lss 3 (f.r 5) (vint 5) fun v1 =>
cnd v1
(aIdxA 5 1 (f.r 3) (f.r 5) fun v2 =>
aStore 1 v2 (vint (-2)) h fun h3 =>
aBin prog .add 3 (f.r 5) (vint 1) fun v4 =>
nx0 (RG.p (RG.p (RG.p (RG.p (RG.p (RG.p (RG.p f 6 v1) 7 (f.r 5)) 4 (f.r 5)) 8 (f.r 5)) 9 v2) 10 v4) 5 v4) h3)
(aSlA 5 1 (f.r 3) none none fun v5 =>
(0 < (1 : Nat) ∧ aCopy 1 v5 (f.r 0) h fun v6 h7 =>
aLoad true 5 (f.r 3) h7 fun v8 =>
aStore 5 (f.r 2) v8 h7 fun h9 =>
RetQ prog [.cell 2 74] n0 K .ret (RG.p (RG.p (RG.p (RG.p (RG.p f 6 v1) 11 v5) 12 (f.r 0)) 13 v6) 14 v8) h9))) := sub_eq pok38 ct38 (by kernel_rfl)
theorem l38_1 (hJ : Closed prog main J) {S : Type} (μ : S → Nat) (I : S → RG → List AObj → Prop) (hI : ∀ s f h, I s f h → heapOk h → n0 ≤ h.length → W prog J 15 n0 38 (subC [1, 1, 0, 1, 0, 0] (codeOf f38)) f h (thenK (Nx n0 μ I s) (contX pl38 prog J 15 n0 38 ct38 [1, 1, 0, 1, 0] (codeOf f38) [] (RetQ prog [.cell 2 74] n0 K))))
 {s : S} {f : RG} (hi : Gets n0 I s f h) : Sem J 15 n0 38 (subC [1, 1, 0, 1, 0] (codeOf f38)) f h (contX pl38 prog J 15 n0 38 ct38 [1, 1, 0, 1, 0] (codeOf f38) [] (RetQ prog [.cell 2 74] n0 K)) :=
 loop_rule hJ mixed (b := subC [1, 1, 0, 1, 0, 0] (codeOf f38)) (by kernel_rfl) μ I hI hi
end
end Go.Proofs.YtmmlamfgbmnkgaaDoor
namespace Go.Proofs.YtmmlamfgbmnkgaaDoor
open Go.Conc Go.Proofs.Tryd
set_option maxRecDepth 100000
def ofL (r : List Int) : List Int := r ++ List.replicate (5 - r.length) (-2)
def swL (r : List Int) (i k : Nat) : List Int := (r.set i (r.getD k 0)).set k (r.getD i 0)
def canSw (t : Tro) (r : List Int) (i k : Nat) : Bool := decide (r.getD i 0 ≠ r.getD k 0) && goodB t (swL r i k)
def pairL (i k : Nat) : List Int := [(i : Int), (k : Int)]
def tradRow (t : Tro) (r : List Int) (i : Nat) : Nat → List (List Int)
 | 0 => []
 | k + 1 => tradRow t r i k ++ (if i < k ∧ canSw t r i k = true then [pairL i k] else [])
def tradTo (t : Tro) (r : List Int) : Nat → List (List Int)
 | 0 => []
 | i + 1 => tradTo t r i ++ tradRow t r i r.length
def partT (t : Tro) (r : List Int) (i k : Nat) : List (List Int) := tradTo t r i ++ tradRow t r i k
def tradE (t : Tro) (r : List Int) : Int := if rotaE t r ≠ 0 then rotaE t r else if goodB t r = true then 0 else 9
def tradA (t : Tro) (r : List Int) : List (List Int) := if tradE t r = 0 then tradTo t r r.length else []
section
variable {t : Tro} {r : List Int} {i k : Nat}
theorem ofL_len (h : r.length ≤ 5) : (ofL r).length = 5 := by simp [ofL]; omega
theorem swL_len : (swL r i k).length = r.length := by simp [swL]
theorem getD_mem (h : i < r.length) : r.getD i 0 ∈ r := by
 rw [List.getD_eq_getElem?_getD, List.getElem?_eq_getElem h]
 exact List.getElem_mem h
theorem set_mem {l : List Int} {j : Nat} {x n : Int} (h : n ∈ l.set j x) : n ∈ l ∨ n = x := List.mem_or_eq_of_mem_set h
theorem swL_fine (g : RotaFine t r) (hi : i < r.length) (hk : k < r.length) : RotaFine t (swL r i k) := by
 refine ⟨by rw [swL_len]; exact g.len, fun n hn => ?_⟩
 rcases set_mem hn with hn | rfl
 ·rcases set_mem hn with hn | rfl
  ·exact g.who n hn
  ·exact g.who _ (getD_mem hk)
 ·exact g.who _ (getD_mem hi)
theorem swL_of (hl : r.length ≤ 5) (hi : i < r.length) (hk : k < r.length) : ((ofL r).set i (r.getD k 0)).set k (r.getD i 0) = ofL (swL r i k) := by
 unfold ofL
 rw [swL_len, List.set_append_left _ _ hi, List.set_append_left _ _ (by simpa using hk)]
 rfl
theorem ofL_inj {a b : List Int} (h : a.length = b.length) (e : ofL a = ofL b) : a = b := (List.append_inj e h).1
theorem swL_get (hi : i < r.length) (hk : k < r.length) (j : Nat) : (swL r i k)[j]? = if j = k then some (r.getD i 0) else if j = i then some (r.getD k 0) else r[j]? := by
 unfold swL
 rw [List.getElem?_set]
 by_cases e : k = j
 ·subst e
  simp [hk]
 ·rw [if_neg e, if_neg (fun h => e h.symm), List.getElem?_set]
  by_cases e2 : i = j
  ·subst e2
   simp [hi]
  ·rw [if_neg e2, if_neg (fun h => e2 h.symm)]
theorem swL_same (hi : i < r.length) (hk : k < r.length) : swL r i k = r ↔ r.getD i 0 = r.getD k 0 := by
 have gi : r[i]? = some (r.getD i 0) := by rw [List.getD_eq_getElem?_getD, List.getElem?_eq_getElem hi]; rfl
 have gk : r[k]? = some (r.getD k 0) := by rw [List.getD_eq_getElem?_getD, List.getElem?_eq_getElem hk]; rfl
 constructor
 ·intro e
  have := swL_get hi hk k
  rw [if_pos rfl, e, gk] at this
  injection this with this
  exact this.symm
 ·intro e
  apply List.ext_getElem?
  intro j
  rw [swL_get hi hk j]
  by_cases e1 : j = k
  ·rw [if_pos e1, e1, gk, e]
  ·rw [if_neg e1]
   by_cases e2 : j = i
   ·rw [if_pos e2, e2, gi, e]
   ·rw [if_neg e2]
theorem tradRow_low (h : k ≤ i + 1) : tradRow t r i k = [] := by
 induction k with
 | zero => rfl
 | succ k ih =>
  unfold tradRow
  rw [ih (by omega), if_neg (by omega)]
  rfl
theorem partT_zero : partT t r i (i + 1) = tradTo t r i := by
 unfold partT
 rw [tradRow_low (Nat.le_refl _), List.append_nil]
theorem partT_yes (hik : i < k) (hc : canSw t r i k = true) : partT t r i (k + 1) = partT t r i k ++ [pairL i k] := by
 unfold partT
 conv => lhs; unfold tradRow
 rw [if_pos ⟨hik, hc⟩, List.append_assoc]
theorem partT_no (hc : canSw t r i k = false) : partT t r i (k + 1) = partT t r i k := by
 unfold partT
 conv => lhs; unfold tradRow
 rw [if_neg (by rw [hc]; simp), List.append_nil]
theorem tradRow_few : (tradRow t r i k).length ≤ k := by
 induction k with
 | zero => exact Nat.zero_le _
 | succ k ih =>
  unfold tradRow
  rw [List.length_append]
  split
  ·simp; omega
  ·simp; omega
theorem tradTo_few : (tradTo t r i).length ≤ i * r.length := by
 induction i with
 | zero => simp [tradTo]
 | succ i ih =>
  unfold tradTo
  rw [List.length_append, Nat.succ_mul]
  have := tradRow_few (t := t) (r := r) (i := i) (k := r.length)
  omega
theorem partT_few (g : RotaFine t r) (hi : i ≤ r.length) (hk : k ≤ r.length) : (partT t r i k).length ≤ 30 := by
 have h1 := tradTo_few (t := t) (r := r) (i := i)
 have h2 := tradRow_few (t := t) (r := r) (i := i) (k := k)
 have h3 := g.len.2
 have : i * r.length ≤ 5 * 5 := Nat.mul_le_mul (by omega) (by omega)
 unfold partT
 rw [List.length_append]
 omega
end
theorem teqA (a b c d e a' b' c' d' e' : Int) : teq prog 10000 74 (.agg ⟨[vint a, vint b, vint c, vint d, vint e]⟩) (.agg ⟨[vint a', vint b', vint c', vint d', vint e']⟩) =
 (match some (a == a') with
 | some true => (match some (b == b') with
  | some true => (match some (c == c') with
   | some true => (match some (d == d') with
    | some true => (match some (e == e') with
     | some true => some true
     | some false => some false
     | none => none)
    | some false => some false
    | none => none)
   | some false => some false
   | none => none)
  | some false => some false
  | none => none)
 | some false => some false
 | none => none) := by kernel_rfl
theorem teqA2 {a b : List Int} (ha : a.length = 5) (hb : b.length = 5) : teq prog 10000 74 (.agg ⟨a.map vint⟩) (.agg ⟨b.map vint⟩) = some (decide (a = b)) := by
 match a, ha with
 | [a0, a1, a2, a3, a4], _ =>
  match b, hb with
  | [b0, b1, b2, b3, b4], _ =>
   show teq prog 10000 74 (.agg ⟨[vint a0, vint a1, vint a2, vint a3, vint a4]⟩) (.agg ⟨[vint b0, vint b1, vint b2, vint b3, vint b4]⟩) = _
   rw [teqA]
   by_cases e0 : a0 = b0
   ·rw [beq_iff_eq.2 e0]
    by_cases e1 : a1 = b1
    ·rw [beq_iff_eq.2 e1]
     by_cases e2 : a2 = b2
     ·rw [beq_iff_eq.2 e2]
      by_cases e3 : a3 = b3
      ·rw [beq_iff_eq.2 e3]
       by_cases e4 : a4 = b4
       ·rw [beq_iff_eq.2 e4]
        simp [e0, e1, e2, e3, e4]
       ·rw [beq_eq_false_iff_ne.2 e4]
        simp [e4]
      ·rw [beq_eq_false_iff_ne.2 e3]
       simp [e3]
     ·rw [beq_eq_false_iff_ne.2 e2]
      simp [e2]
    ·rw [beq_eq_false_iff_ne.2 e1]
     simp [e1]
   ·rw [beq_eq_false_iff_ne.2 e0]
    simp [e0]
section
variable {main : Bool} {J : JT} {h H : List AObj} {K : Value → List AObj → Prop} {KV : Value → Prop} {HL : List AObj → Prop} {n0 : Nat}
theorem neqArr {a b : List Int} (ha : a.length = 5) (hb : b.length = 5) (hk : KV (.bool (decide (a ≠ b)))) : aBin prog .neq 74 (.agg ⟨a.map vint⟩) (.agg ⟨b.map vint⟩) KV := by
 show aEq prog true 74 _ _ KV
 unfold aEq
 rw [teqA2 ha hb]
 refine ⟨by kernel_rfl, ?_⟩
 simp only [cond_true, ← decide_not]
 exact hk
theorem idxA {s len b : Nat} {j : Nat} (h1 : j < len) (hk : KV (ptr b (j * s))) : aIdxA len s (ptr b 0) (vint (j : Nat)) KV :=
 ⟨⟨by omega, by omega⟩, by rw [Int.toNat_natCast, Nat.zero_add]; exact hk⟩
theorem slA {b n : Nat} (hn : n ≤ 5) (hk : KV (.slice (some ⟨b, 0, none⟩) n 5)) : aSlA 5 1 (ptr b 0) none (some (vint (n : Nat))) KV := by
 have e : bnd 5 (some (vint (n : Nat))) = some n := by
  show (bif decide (0 ≤ (n : Int)) then some (n : Int).toNat else none) = _
  rw [decide_eq_true (by omega)]
  rfl
 unfold aSlA
 simp only [e, ptr]
 exact ⟨⟨Nat.zero_le _, hn, by decide⟩, hk⟩
theorem slA0 {b : Nat} (hk : KV (.slice (some ⟨b, 0, none⟩) 5 5)) : aSlA 5 1 (ptr b 0) none none KV := ⟨⟨Nat.zero_le _, Nat.le_refl _, by decide⟩, hk⟩
theorem kn_vint (l : List Int) : kn (l.map vint) = true := by
 simp [kn, kn1]
theorem one_vint (l : List Int) : (l.map vint).all one = true := by simp [one]
theorem sli_arr {b n : Nat} {c : List Int} {wr : Bool} {sz : Nat} {l : List Int} (hb : H[b]? = some (.cells (c.map vint) wr sz)) (hl : c.take n = l) (hn : n ≤ c.length) : Sli H (.slice (some ⟨b, 0, none⟩) n 5) 1 n (l.map vint) := by
 subst hl
 refine ⟨some ⟨b, 0, none⟩, 5, rfl, ⟨by simp; omega, kn_vint _⟩, .inr ⟨b, 0, rfl, .inr ⟨_, wr, sz, hb, ?_⟩⟩⟩
 rw [List.drop_zero, Nat.mul_one, List.map_take]
theorem copyA {p : Nat} {c : List Value} {rv : Value} {xs : List Int} (hp : H[p]? = some (.cells c true 0)) (hc : c.length = 5) (hs : Sli H rv 1 xs.length (xs.map vint)) (hl : xs.length ≤ 5)
  (hk : ∀ v H', SameX [p] H H' → H'[p]? = some (.cells (wrAt c 0 (xs.map vint)) true 0) → H'.length = H.length → K v H') : aCopy 1 (.slice (some ⟨p, 0, none⟩) 5 5) rv H K := by
 obtain ⟨base, cc, rfl, ⟨hcl, hkn⟩, hh⟩ := id hs
 have em : min xs.length 5 = xs.length := by omega
 unfold aCopy
 simp only [em]
 refine src_sli hs (by omega) ?_
 simp only [hp]
 refine ⟨by omega, hk _ _ (SameX.refl.set (.inl (by simp))) (List.getElem?_set_self (lt_of_get hp)) (by simp)⟩
theorem wrAt_of : ∀ (xs : List Int) (c : List Value), xs.length ≤ c.length → wrAt c 0 (xs.map vint) = xs.map vint ++ c.drop xs.length := by
 have key : ∀ (xs : List Value) (c : List Value) (o : Nat), o + xs.length ≤ c.length → wrAt c o xs = c.take o ++ xs ++ c.drop (o + xs.length) := by
  intro xs
  induction xs with
  | nil => intro c o h; simp [wrAt]
  | cons x xs ih =>
   intro c o h
   simp only [List.length_cons] at h
   unfold wrAt
   rw [ih _ _ (by simp; omega)]
   have h1 : (c.set o x).take (o + 1) = c.take o ++ [x] := by
    rw [List.take_succ_eq_append_getElem (by simp; omega), List.take_set_of_le (Nat.le_refl _)]
    simp
   have h2 : (c.set o x).drop (o + 1 + xs.length) = c.drop (o + (x :: xs).length) := by
    rw [List.drop_set_of_lt (by omega), List.length_cons]
    congr 1
    omega
   rw [h1, h2]
   simp
 intro xs c h
 rw [key _ _ _ (by simpa using h)]
 simp
theorem good38 (hJ : Closed prog main J) {rv : Value} {r : List Int} (hs : Sli H rv 1 r.length (r.map vint)) (hl : r.length ≤ 5) (hK : ∀ H', SameX [] H H' → K (.agg ⟨(ofL r).map vint⟩) H') : Good prog J 38 [rv] H K := by
 refine g38 hJ fun ok => ?_
 rw [e38]
 refine qAl fun H1 p1 e1 S1 c1 l1 => qAl fun H2 p2 e2 S2 c2 l2 => ?_
 refine l38_1 hJ (fun i : Nat => 5 - i) (fun i F H' => i ≤ 5 ∧ SameX [] H H' ∧ H'[p1]? = some (.cells [vint 0, vint 0, vint 0, vint 0, vint 0] true 0) ∧ H'[p2]? = some (.cells ((List.replicate i (-2) ++ List.replicate (5 - i) 0).map vint) true 0) ∧ F.ds = [] ∧ F.r 0 = rv ∧ F.r 2 = ptr p1 0 ∧ F.r 3 = ptr p2 0 ∧ F.r 5 = vint (i : Nat)) ?_ (s := 0)
  (.inl ⟨by omega, S1.trans S2, S2.get c1 (by simp), c2, rfl, rfl, rfl, rfl, rfl⟩)
 rintro i F H' ⟨hi, S, d1, d2, ds, r0, r2, r3, r5⟩ okc hnc
 rw [s38_1, r0, r2, r3, r5]
 have hlt1 := lt_of_get d1
 have hlt2 := lt_of_get d2
 refine lssI (cndI (fun hlt => ?_) fun hge => ?_)
 ·refine idxA (by omega) (qSt d2 (by simp; omega) rfl rfl fun H3 S3 c3 l3 => addI (by omega) ⟨i + 1, by dsimp only; omega, .inl ⟨by omega, S.thru S3 (by simp; omega), S3.get d1 (by simp; omega), ?_, ds, r0, r2, r3, by show vint _ = vint _; congr 1⟩⟩)
  rw [c3]
  congr 2
  have : i < 5 := by omega
  have hcase : i = 0 ∨ i = 1 ∨ i = 2 ∨ i = 3 ∨ i = 4 := by omega
  rcases hcase with rfl | rfl | rfl | rfl | rfl <;> rfl
 ·have : i = 5 := by omega
  subst this
  refine slA0 ⟨by decide, copyA d2 rfl (S.sli hs (by simp)) hl fun v H3 S3 c3 l3 => ?_⟩
  have e3 : wrAt ((List.replicate 5 (-2 : Int) ++ List.replicate (5 - 5) 0).map vint) 0 (r.map vint) = (ofL r).map vint := by
   rw [wrAt_of _ _ (by simpa using hl)]
   unfold ofL
   conv => rhs; rw [List.map_append]
   congr 1
   have hcase : r.length = 0 ∨ r.length = 1 ∨ r.length = 2 ∨ r.length = 3 ∨ r.length = 4 ∨ r.length = 5 := by omega
   rcases hcase with e | e | e | e | e | e <;> rw [e] <;> rfl
  rw [e3] at c3
  have hol := ofL_len hl
  refine load_part (c := (ofL r).map vint) c3 (by simp [hol]) ?_ (kn_vint _) ?_
  ·rw [List.drop_zero, List.take_of_length_le (by simp [hol])]
  ·have d1' := S3.get d1 (by simp; omega)
   refine qStA d1' (by simp [hol]) rfl (one_vint _) fun H4 S4 c4 l4 => ?_
   refine retQ_same ds (resW_cell (gg := true) (s := 5) (by kernel_rfl) ?_)
   show aLoad true 5 (F.r 2) H4 _
   rw [r2]
   refine load_part (c := (ofL r).map vint) c4 (by simp [hol]) ?_ (kn_vint _) (resW_nil (hK H4 ?_))
   ·rw [List.drop_zero, List.take_of_length_le (by simp [hol])]
   ·have T : SameX [] H H3 := S.thru S3 (by simp; omega)
    exact T.thru S4 (by simp; omega)
end
section
variable {W0 : World} {Post : Value → World → Prop} {h H : List AObj} {K : Value → List AObj → Prop} {n0 : Nat} {nx0 : RG → List AObj → Prop}
theorem same28 {main : Bool} {J : JT} (hJ : Closed prog main J) {av bv : Value} {l : List Int} (ha : Sli H av 1 l.length (l.map vint)) (hb : Sli H bv 1 l.length (l.map vint)) (hl : l.length < 1000000) (hK : K (.bool true) H) : Good prog J 9 [av, bv] H K :=
 good9 hJ ha hb (by omega) (by rw [decide_eq_true rfl]; exact hK)
end
def TradO (t : Tro) (r : List Int) (n : Nat) (H : List AObj) (w : Value) : Prop := ∃ o, OwnL n H w (tradA t r) o
theorem fillP {a b : Int} {KL : List Value → Prop} (hk : KL ([a, b].map vint)) : aFill (zrep [vint 0] 2) [(0, 1, vint a), (1, 1, vint b)] KL := by
 unfold aFill
 refine ⟨rfl, rfl, by decide, ?_⟩
 unfold aFill
 refine ⟨rfl, rfl, by rw [wrAt_length]; decide, ?_⟩
 unfold aFill
 exact hk
theorem cndBI {b : Bool} {A B : Prop} (h1 : b = true → A) (h2 : b = false → B) : cnd (.bool b) A B := by
 cases b
 ·exact cnd_false.2 (h2 rfl)
 ·exact cnd_true.2 (h1 rfl)
theorem RotaFine.small {t : Tro} {r : List Int} (g : RotaFine t r) : ∀ i, i < r.length → r[i]? = some (r.getD i 0) := fun i hi => by
 rw [List.getD_eq_getElem?_getD, List.getElem?_eq_getElem hi]; rfl
section
variable {main : Bool} {J : JT} {h H : List AObj} {K : Value → List AObj → Prop} {KV : Value → Prop} {HL : List AObj → Prop} {n0 : Nat}
theorem mapBlk_sli {v : Value} {s n : Nat} {c : List Value} (hs : Sli H v s n c) : mapBlk v = none := by
 obtain ⟨base, c, rfl, _⟩ := id hs
 rfl
theorem pair_more {lo i k : Nat} {ls : List (List Int)} {o : Option Nat} {v : Value} (L : OwnL lo H v ls o) (hlo : lo ≤ H.length) (hl : ls.length < 90000)
  (hK : ∀ v' H' o', SameX o.toList H H' → OwnL lo H' v' (ls ++ [pairL i k]) (some o') → H.length ≤ o' → v' ≠ unk → K v' H') :
  (((2 * 1 : Nat) ≤ 16777216 ∧ (2 : Nat) ≤ 16777216 ∧ List.length [(vint 0)] = 1) ∧ aFill (zrep [(vint 0)] 2) [(0, 1, vint (i : Nat)), (1, 1, vint (k : Nat))] fun c1 => aNewS 2 c1 H fun v2 h3 =>
   (((1 * 1 : Nat) ≤ 16777216 ∧ (1 : Nat) ≤ 16777216 ∧ List.length [(Value.slice none 0 0)] = 1) ∧ aFill (zrep [(Value.slice none 0 0)] 1) [(0, 1, v2)] fun c4 => aNewS 1 c4 h3 fun v5 h6 =>
    ((List.length [(Value.slice none 0 0)] = 1 ∧ 0 < (1 : Nat) ∧ 0 < (24 : Nat) ∧ (24 : Nat) ≤ 1024) ∧ aApp 1 v v5 h6 K))) := by
 refine ⟨by decide, fillP (qNew fun H1 p1 e1 S1 c1 l1 => ⟨by decide, fill_one (l := [.slice (some ⟨p1, 0, none⟩) 2 2]) rfl rfl rfl (by decide) (fillI (qNew fun H2 p2 e2 S2 c2 l2 => ⟨by decide, ?_⟩))⟩)⟩
 have c1 : H1[p1]? = some (.cells ((pairL i k).map vint) true 0) := c1
 have c2 : H2[p2]? = some (.cells [.slice (some ⟨p1, 0, none⟩) 2 2] true 0) := c2
 have h1 := S1.1
 have h2 := S2.1
 have hol := L.lt
 refine ((L.keep S1).keep S2).more (by omega) hl (ownX_keep (ownX_new (s := 1) (n := 2) c1 rfl rfl) S2 (by simp)) (by omega) (fun e => by have := hol p1 e.symm; omega) (ownX_sli (ownX_new (s := 1) (n := 1) c2 rfl rfl)) fun v' H' o' S' L' ho hn => ?_
 refine hK v' H' o' ?_ L' (by omega) hn
 have S12 : SameX o.toList H H2 := (S1.trans S2).weak0
 exact S12.trans S'
theorem good16 (hJ : Closed prog main J) {v fv rv : Value} {t : Tro} {r : List Int} (ht : TroAt H v t fv) (hr : Sli H rv 1 r.length (r.map vint)) (hl : t.flocks.length ≤ 1000000)
    (hK : ∀ H' w, SameX [] H H' → TradO t r H.length H' w → w ≠ unk → K (.tuple ⟨[w, vint (tradE t r)]⟩) H') : Good prog J 16 [v, rv] H K := by
  refine g16 hJ fun ok => ?_
  rw [e16, ht.val]
  refine qBox (tro_one ht) fun H1 p1 e1 S1 c1 l1 => ?_
  have tk := tro_kn ht
  have t1 : TroAt H1 (.agg ⟨troCells t fv⟩) t fv := ⟨rfl, S1.sli ht.fl (by simp)⟩
  refine load_part (c := troCells t fv) c1 (by simp [troCells]) rfl tk (good26 hJ t1 (S1.sli hr (by simp)) hl (neqI (cndI (fun g1 => ?_) fun g1 => ?_)))
  · have he : tradE t r = rotaE t r := by unfold tradE; rw [if_pos g1]
    have := hK H1 (.slice none 0 0) S1 ⟨none, by unfold tradA; rw [if_neg (by omega)]; exact OwnL.nil⟩ (by simp [unk])
    rw [he] at this
    exact retL_same (nuA (by simp [unk]) (by simp [unk])) this
  have g0 : rotaE t r = 0 := by omega
  obtain ⟨f, g⟩ := rotaE_fine g0
  refine load_part (c := troCells t fv) c1 (by simp [troCells]) rfl tk (good37 hJ t1 (S1.sli hr (by simp)) f g fun H2 S2 => notI (cndBI (fun gb => ?_) fun gb => ?_))
  · have gb : goodB t r = false := by simpa using gb
    have he : tradE t r = 9 := by unfold tradE; rw [if_neg (by omega), if_neg (by rw [gb]; simp)]
    have := hK H2 (.slice none 0 0) (S1.trans S2) ⟨none, by unfold tradA; rw [if_neg (by omega)]; exact OwnL.nil⟩ (by simp [unk])
    rw [he] at this
    exact retL_same (nuA (by simp [unk]) (by simp [unk])) this
  have gb : goodB t r = true := by simpa using gb
  have he : tradE t r = 0 := by unfold tradE; rw [if_neg (by omega), if_pos gb]
  have ha : tradA t r = tradTo t r r.length := by unfold tradA; rw [if_pos he]
  have gl := g.len
  have T2 := S1.trans S2
  have hT2 := T2.1
  refine lenI (T2.sli hr (by simp)) ?_
  refine l16_1 hJ (fun i : Nat => r.length - i) (fun i F H' => ∃ w o, SameX [] H2 H' ∧ i ≤ r.length ∧ OwnL H2.length H' w (tradTo t r i) o ∧ F.ds = [] ∧ F.r 1 = rv ∧ F.r 2 = ptr p1 0 ∧ F.r 7 = w ∧ F.r 22 = vint (r.length : Nat) ∧ F.r 23 = vint (i : Nat)) ?_ (s := 0)
    (.inl ⟨.slice none 0 0, none, SameX.refl, by omega, OwnL.nil, rfl, rfl, rfl, rfl, rfl, rfl⟩)
  rintro i F H' ⟨w, o, S, hi, L, ds, r1, r2, r7, r22, r23⟩ okc hnc
  rw [s16_1, r22, r23, r7, ds]
  refine lssI (cndI (fun hlt => ?_) fun hge => ?_)
  rotate_left
  · have : i = r.length := by omega
    subst this
    have := hK H' w (T2.trans S) ⟨o, by rw [ha]; exact L.lo hT2⟩ L.nunk
    rw [he] at this
    exact retL_same (nuA L.nunk (by simp [unk])) this
  have hil : i < r.length := by omega
  refine addI (by omega) ?_
  refine l16_2 hJ (fun k : Nat => r.length - k) (fun k F H' => ∃ w o, SameX [] H2 H' ∧ i + 1 ≤ k ∧ k ≤ r.length ∧ OwnL H2.length H' w (partT t r i k) o ∧ F.ds = [] ∧ F.r 1 = rv ∧ F.r 2 = ptr p1 0 ∧ F.r 7 = w ∧ F.r 8 = vint (i : Nat) ∧ F.r 22 = vint (r.length : Nat) ∧ F.r 23 = vint (i : Nat) ∧ F.r 9 = vint (k : Nat)) ?_ (s := i + 1)
    (.inl ⟨w, o, S, by omega, by omega, by rw [partT_zero]; exact L, ds, r1, r2, r7, rfl, r22, r23, by show vint _ = vint _; congr 1⟩)
  clear ds r1 r2 r7 r22 r23 okc hnc L S
  rintro k F Hc ⟨w, o, S, hk1, hk, L, ds, r1, r2, r7, r8, r22, r23, r9⟩ okc hnc
  have T := T2.trans S
  rw [s16_2, r1, r2, r8, r9, r23]
  refine lenI (T.sli hr (by simp)) (lssI (cndI (fun hltk => ?_) fun hgek => ?_))
  rotate_left
  · have hkl : k = r.length := by omega
    subst hkl
    exact addI (by omega) ⟨i + 1, by dsimp only; omega, .inl ⟨w, o, S, by omega, L, ds, r1, r2, r7, r22, by show vint _ = vint _; congr 1⟩⟩
  have hkl : k < r.length := by omega
  have gi := g.small i hil
  have gk := g.small k hkl
  have hol := ofL_len gl.2
  have hpf := partT_few (t := t) (i := i) (k := k) g (by omega) (by omega)
  -- the next pair
  have next : ∀ {b : Bool} {F2 : RG} {H4 : List AObj}, b = canSw t r i k → SameX [] Hc H4 → F2.ds = [] → F2.r 1 = rv → F2.r 2 = ptr p1 0 → F2.r 7 = w → F2.r 8 = vint (i : Nat) → F2.r 9 = vint (k : Nat) → F2.r 22 = vint (r.length : Nat) → F2.r 23 = vint (i : Nat) → F2.r 58 = .bool b →
      W prog J 67 H.length 16 (subC [1, 1, 1, 1, 0, 1, 0, 0, 1, 1, 0, 0, 1, 1, 0, 0, 1, 0, 0, 1, 1, 1, 1] (codeOf f16)) F2 H4 (contX pl16 prog J 67 H.length 16 ct16 [1, 1, 1, 1, 0, 1, 0, 0, 1, 1, 0, 0, 1, 1, 0, 0, 1, 0, 0, 1, 1, 1, 1] (codeOf f16)
        [Nx H.length (fun i : Nat => r.length - i) (fun i F H' => ∃ w o, SameX [] H2 H' ∧ i ≤ r.length ∧ OwnL H2.length H' w (tradTo t r i) o ∧ F.ds = [] ∧ F.r 1 = rv ∧ F.r 2 = ptr p1 0 ∧ F.r 7 = w ∧ F.r 22 = vint (r.length : Nat) ∧ F.r 23 = vint (i : Nat)) i,
         Nx H.length (fun k : Nat => r.length - k) (fun k F H' => ∃ w o, SameX [] H2 H' ∧ i + 1 ≤ k ∧ k ≤ r.length ∧ OwnL H2.length H' w (partT t r i k) o ∧ F.ds = [] ∧ F.r 1 = rv ∧ F.r 2 = ptr p1 0 ∧ F.r 7 = w ∧ F.r 8 = vint (i : Nat) ∧ F.r 22 = vint (r.length : Nat) ∧ F.r 23 = vint (i : Nat) ∧ F.r 9 = vint (k : Nat)) k]
        (RetQ prog [.tmp 4, .tmp 5] H.length K)) := by
    intro b F2 H4 hb S4 q0 q1 q2 q7 q8 q9 q22 q23 q58
    rw [s16_3, q58, q7, q8, q9]
    have hSl := S.1
    have hS4 := S4.1
    have hL := L.lt
    cases b with
    | true =>
      refine cnd_true.2 (pair_more (L.keep S4) (by omega) (by omega) fun v' H5 o5 S5 L5 ho5 hn5 => addI (by omega) ⟨k + 1, by dsimp only; omega, .inl ⟨v', some o5, ?_, by omega, by omega, ?_, q0, q1, q2, rfl, q8, q22, q23, by show vint _ = vint _; congr 1⟩⟩)
      · exact (S.trans S4).thru S5 fun y hy => .inr (hL y (Option.mem_toList.1 hy)).1
      · rw [partT_yes (by omega) hb.symm]
        exact L5
    | false =>
      refine cnd_false.2 (addI (by omega) ⟨k + 1, by dsimp only; omega, .inl ⟨w, o, S.trans S4, by omega, by omega, ?_, q0, q1, q2, q7, q8, q22, q23, by show vint _ = vint _; congr 1⟩⟩)
      rw [partT_no hb.symm]
      exact L.keep S4
  refine good38 hJ (T.sli hr (by simp)) gl.2 fun H3 S3 => ?_
  refine qAl fun H4 p4 e4 S4 c4 l4 => ?_
  refine qStA (c := (ofL r).map vint) c4 (by simp [hol]) rfl (one_vint _) fun H5 S5 c5 l5 => ?_
  have hs3 := S3.1
  have T5 : SameX [] Hc H5 := (S3.trans S4).thru S5 (by simp; omega)
  refine sli_num' ((T.trans T5).sli hr (by simp)) gk fun q => idxA (by omega) ?_
  rw [Nat.mul_one]
  refine qSt c5 (by simp [hol]; omega) rfl rfl fun H6 S6 c6 l6 => ?_
  have T6 : SameX [] Hc H6 := T5.thru S6 (by simp; omega)
  refine sli_num' ((T.trans T6).sli hr (by simp)) gi fun q => idxA (by omega) ?_
  rw [Nat.mul_one]
  refine qSt c6 (by simp [hol]; omega) rfl rfl fun H7 S7 c7 l7 => ?_
  have T7 : SameX [] Hc H7 := T6.thru S7 (by simp; omega)
  rw [← List.map_set, ← List.map_set, swL_of gl.2 hil hkl] at c7
  have gs := swL_fine g hil hkl
  have hos := ofL_len gs.len.2
  have hlt7 := lt_of_get c7
  have dp := ((S2.trans S).trans T7).get c1 (by simp)
  have hltp := lt_of_get dp
  refine ⟨[p4, p1], load_part (c := (ofL (swL r i k)).map vint) c7 (by simp [hos]) (by rw [List.drop_zero, List.take_of_length_le (by simp [hos])]) (kn_vint _) ⟨by simp [RdOk, ptr, ptrBlk], ?_⟩⟩
  have sb : ∀ {H''}, SameX [] H7 H'' → SameB (some [p4, p1]) H7 H'' := fun S'' b hb => S''.2 b (by simp at hb; rcases hb with rfl | rfl <;> omega) (by simp)
  refine good38 hJ ((T.trans T7).sli hr (by simp)) gl.2 fun H8 S8 => ⟨sb S8, ?_⟩
  refine neqArr hos hol (cndI (fun hne => ?_) fun heq => ?_)
  · have hsw : swL r i k ≠ r := fun e => hne (by rw [e])
    have c8 := S8.get c7 (by simp)
    have t8 := troAt_same t1 ((S2.trans S).trans (T7.trans S8)) (by simp)
    refine load_part (c := troCells t fv) (S8.get dp (by simp)) (by simp [troCells]) rfl tk ⟨by simp [RdOk, ptr, ptrBlk], ?_⟩
    refine lenI ((T.trans (T7.trans S8)).sli hr (by simp)) ⟨by simp [RdOk, mapBlk_sli hr], slA gl.2 ⟨sb S8, ?_⟩⟩
    have hsl : Sli H8 (.slice (some ⟨p4, 0, none⟩) r.length 5) 1 (swL r i k).length ((swL r i k).map vint) := by
      rw [swL_len]
      exact sli_arr c8 (by unfold ofL; rw [List.take_left' swL_len]) (by omega)
    refine good37 hJ t8 hsl f gs fun H9 S9 => ⟨sb (S8.trans S9), hold.2 (next (b := goodB t (swL r i k)) ?_ ((T7.trans S8).trans S9) ds r1 r2 r7 r8 r9 r22 r23 rfl)⟩
    unfold canSw
    rw [decide_eq_true (show r.getD i 0 ≠ r.getD k 0 from fun e => hsw ((swL_same hil hkl).2 e))]
    rfl
  · have hsw : swL r i k = r := by
      have := Classical.not_not.1 heq
      exact ofL_inj swL_len this
    refine hold.2 (next (b := false) ?_ (T7.trans S8) ds r1 r2 r7 r8 r9 r22 r23 rfl)
    unfold canSw
    rw [decide_eq_false (by rw [ne_eq, Classical.not_not]; exact (swL_same hil hkl).1 hsw)]
    rfl
theorem good22 (hJ : Closed prog main J) {av bv : Value} {ls : List (List Int)} {n m : Nat} {o o' : Option Nat} (ha : OwnL n H av ls o) (hb : OwnL m H bv ls o') (hl : ls.length < 1000000) (hs : ∀ l ∈ ls, l.length < 1000000)
  (hK : K (.bool true) H) : Good prog J 22 [av, bv] H K := by
 refine g22 hJ fun ok => ?_
 rw [e22]
 obtain ⟨ca, sa⟩ := ha.sli
 obtain ⟨cb, sb⟩ := hb.sli
 refine lenI sa (lenI sb (neqI (cndI (fun hx => absurd rfl hx) fun _ => ?_)))
 refine l22_1 hJ (fun i : Nat => ls.length - i) (fun i F H' => H' = H ∧ i ≤ ls.length ∧ F.ds = [] ∧ F.r 0 = av ∧ F.r 1 = bv ∧ F.r 5 = vint (i : Nat)) ?_ (s := 0)
  (.inl ⟨rfl, by omega, rfl, rfl, rfl, rfl⟩)
 rintro i F H' ⟨rfl, hi, ds, r0, r1, r5⟩ okc hnc
 rw [s22_1, r0, r1, r5, ds]
 refine lenI sa (lssI (cndI (fun hlt => ?_) fun hge => retL_same (by simp [unk]) hK))
 have hil : i < ls.length := by omega
 have hli : ls[i]? = some ls[i] := List.getElem?_eq_getElem hil
 refine ha.get hli fun p x b Ox _ => hb.get hli fun q y c Oy _ => ?_
 refine same28 hJ (ownX_sli Ox) (ownX_sli Oy) (hs _ (List.getElem_mem hil)) (notI (cnd_false.2 (addI (by omega) ⟨i + 1, by dsimp only; omega, .inl ⟨rfl, by omega, ds, r0, r1, by show vint _ = vint _; congr 1⟩⟩)))
end
end Go.Proofs.YtmmlamfgbmnkgaaDoor
namespace Go.Proofs.YtmmlamfgbmnkgaaDoor
open Go.Conc Go.Proofs.Tryd
set_option maxRecDepth 100000
set_option maxHeartbeats 4000000
set_option linter.unusedVariables false
section
variable {main : Bool} {J : JT} {n0 : Nat} {h : List AObj} {K : Value → List AObj → Prop}
theorem at44 : prog.funcs[44]? = some f44 := by kernel_rfl
theorem body44 : f44.body = some (codeOf f44) := by kernel_rfl
def pl44 : Plans := []
def ct44 : Cuts := .go
theorem pok44 : plansOk prog pl44 (codeOf f44) = true := by kernel_rfl
theorem e44 {a0 a1 a2 : Value} : W prog J 22 h.length 44 (codeOf f44) (RG.mk (regs [a0, a1, a2]) []) h (RetQ prog [.tmp 4] h.length K) =
(aLoad true 3 a1 h fun v1 =>
aAlloc [(vint 0), (vint 0), (vint 0)] h fun v2 h3 =>
aStore 3 v2 v1 h3 fun h4 =>
aLoad false 1 a2 h4 fun v5 =>
Sem J 22 h.length 44 (subC [1, 1, 0, 1, 0] (codeOf f44)) (RG.p (RG.p (RG.p (RG.p (RG.p (RG.p (RG.mk (regs [a0, a1, a2]) []) 4 (Value.bool false)) 7 v1) 5 v2) 6 (Value.bool false)) 8 v5) 9 (vint 0)) h4 (contX pl44 prog J 22 h.length 44 ct44 [1, 1, 0, 1, 0] (codeOf f44) [] (RetQ prog [.tmp 4] h.length K))) := top_eq pok44 ct44 (by kernel_rfl)
theorem g44 (hJ : Closed prog main J) {a0 a1 a2 : Value} (hs : heapOk h → W prog J 22 h.length 44 (codeOf f44) (RG.mk (regs [a0, a1, a2]) []) h (RetQ prog [.tmp 4] h.length K)) : Good prog J 44 [a0, a1, a2] h K :=
 good_of_W hJ mixed at44 body44 (by kernel_rfl) (Nat.le_of_ble_eq_true rfl) hs
theorem s44_1 {f : RG} {nx0 : RG → List AObj → Prop} : W prog J 22 n0 44 (subC [1, 1, 0, 1, 0, 0] (codeOf f44)) f h (thenK nx0 (contX pl44 prog J 22 n0 44 ct44 [1, 1, 0, 1, 0] (codeOf f44) [] (RetQ prog [.tmp 4] n0 K))) =
(aBin prog .lss 3 (f.r 9) (f.r 8) fun v1 =>
cnd v1
(aLoad true 3 (f.r 5) h fun v2 =>
aBin prog .sub 3 (vint 40) (f.r 0) fun v3 =>
Good prog J 45 [v2, v3] h fun v4 h5 =>
aExt v4 0 fun v6 =>
aExt v4 1 fun v7 =>
aStore 3 (f.r 5) v6 h5 fun h8 =>
cnd v7
(retL n0 K f.ds [(Value.bool false)] h8)
(aLoad true 3 (f.r 5) h8 fun v9 =>
Good prog J 43 [v9] h8 fun v10 h11 =>
aStore 3 (f.r 5) v10 h11 fun h12 =>
aBin prog .add 3 (f.r 9) (vint 1) fun v13 =>
nx0 (RG.p (RG.p (RG.p (RG.p (RG.p (RG.p (RG.p (RG.p (RG.p (RG.p (RG.p (RG.p (RG.p (RG.p f 10 v1) 12 v2) 13 (f.r 0)) 14 v3) 15 v4) 11 v4) 16 v6) 17 v7) 6 v7) 18 v7) 19 v9) 20 v10) 21 v13) 9 v13) h12))
(retL n0 K f.ds [(Value.bool true)] h)) := sub_eq pok44 ct44 (by kernel_rfl)
theorem l44_1 (hJ : Closed prog main J) {S : Type} (μ : S → Nat) (I : S → RG → List AObj → Prop) (hI : ∀ s f h, I s f h → heapOk h → n0 ≤ h.length → W prog J 22 n0 44 (subC [1, 1, 0, 1, 0, 0] (codeOf f44)) f h (thenK (Nx n0 μ I s) (contX pl44 prog J 22 n0 44 ct44 [1, 1, 0, 1, 0] (codeOf f44) [] (RetQ prog [.tmp 4] n0 K))))
 {s : S} {f : RG} (hi : Gets n0 I s f h) : Sem J 22 n0 44 (subC [1, 1, 0, 1, 0] (codeOf f44)) f h (contX pl44 prog J 22 n0 44 ct44 [1, 1, 0, 1, 0] (codeOf f44) [] (RetQ prog [.tmp 4] n0 K)) :=
 loop_rule hJ mixed (b := subC [1, 1, 0, 1, 0, 0] (codeOf f44)) (by kernel_rfl) μ I hI hi
end
end Go.Proofs.YtmmlamfgbmnkgaaDoor
namespace Go.Proofs.YtmmlamfgbmnkgaaDoor
open Go.Conc Go.Proofs.Tryd
set_option maxRecDepth 100000
def lvF (w : Wel) : Nat → Int
 | 0 => w.now
 | k + 1 => min w.holds (lvF w k + w.fill)
def lvS (w : Wel) (m : Int) (fr : Nat) : Nat → Int
 | 0 => lvF w fr
 | k + 1 => min w.holds (lvS w m fr k - m + w.fill)
def watB (w : Wel) (m : Int) (fr dy : Nat) : Bool := (List.range dy).all fun k => decide (m ≤ lvS w m fr k)
def bearE (w : Wel) (p : Pas) (s : SkyR) (fr dy : Int) : Int := if welE w ≠ 0 then welE w else headE p s fr dy
def bearN (w : Wel) (p : Pas) (s : SkyR) (fr dy : Int) : Int := if bearE w p s fr dy = 0 then min (headN p s fr dy) (topH (fun m => watB w m fr.toNat dy.toNat) 40) else 0
theorem welE_zero {w : Wel} (h : welE w = 0) : (1 ≤ w.holds ∧ w.holds ≤ 40) ∧ (0 ≤ w.now ∧ w.now ≤ w.holds) ∧ (0 ≤ w.fill ∧ w.fill ≤ 20) := by
 unfold welE at h
 split at h
 ·assumption
 ·cases h
section
variable {w : Wel} {m : Int} {fr dy : Nat}
theorem lvF_bd (h : welE w = 0) : ∀ k, 0 ≤ lvF w k ∧ lvF w k ≤ w.holds
 | 0 => (welE_zero h).2.1
 | k + 1 => by
  have := lvF_bd h k
  obtain ⟨a, b, c⟩ := welE_zero h
  unfold lvF
  omega
theorem lvS_bd (h : welE w = 0) (hm : 0 ≤ m ∧ m ≤ 40) : ∀ k : Nat, -400 * (k : Int) ≤ lvS w m fr k ∧ lvS w m fr k ≤ w.holds
 | 0 => by
  have := lvF_bd h fr
  unfold lvS
  omega
 | k + 1 => by
  have := lvS_bd h hm k
  obtain ⟨a, b, c⟩ := welE_zero h
  unfold lvS
  omega
theorem watB_zero (h : welE w = 0) : watB w 0 fr dy = true := by
 unfold watB
 rw [List.all_eq_true]
 intro k hk
 clear hk
 refine decide_eq_true ?_
 obtain ⟨a, b, c⟩ := welE_zero h
 induction k with
 | zero => exact (lvF_bd h fr).1
 | succ k ih =>
  unfold lvS
  omega
theorem watB_yes (h : ∀ k, k < dy → m ≤ lvS w m fr k) : watB w m fr dy = true := by
 unfold watB
 rw [List.all_eq_true]
 exact fun k hk => decide_eq_true (h k (List.mem_range.1 hk))
theorem watB_no {k : Nat} (hk : k < dy) (h : ¬ m ≤ lvS w m fr k) : watB w m fr dy = false := by
 unfold watB
 rw [List.all_eq_false]
 exact ⟨k, List.mem_range.2 hk, by rw [decide_eq_false h]; decide⟩
theorem topH_bd {q : Int → Bool} : ∀ {N : Nat}, 0 ≤ topH q N ∧ topH q N ≤ N
 | 0 => ⟨Int.le_refl _, Int.le_refl _⟩
 | N + 1 => by
  have := topH_bd (q := q) (N := N)
  unfold topH
  split <;> omega
theorem topH_is {q : Int → Bool} (h0 : q 0 = true) : ∀ {N : Nat}, q (topH q N) = true ∧ ∀ k : Nat, topH q N < k → k ≤ N → q k = false
 | 0 => ⟨h0, fun k h1 h2 => by
   have h1 : (0 : Int) < k := h1
   omega⟩
 | N + 1 => by
  unfold topH
  by_cases h : q ((N + 1 : Nat) : Int) = true
  ·rw [if_pos h]
   exact ⟨h, fun k h1 h2 => by omega⟩
  ·rw [if_neg h]
   obtain ⟨a, b⟩ := topH_is (q := q) h0 (N := N)
   refine ⟨a, fun k h1 h2 => ?_⟩
   by_cases e : k = N + 1
   ·rw [e]
    simpa using h
   ·exact b k h1 (by omega)
theorem least_top {q : Int → Bool} (h0 : q 0 = true) : leastR (fun n => q (40 - n)) 0 40 = some (40 - topH q 40) := by
 obtain ⟨a, b⟩ := topH_is (q := q) h0 (N := 40)
 have bd := topH_bd (q := q) (N := 40)
 refine leastR_some (by omega) (by omega) (by rw [show (40 : Int) - (40 - topH q 40) = topH q 40 by omega]; exact a) fun j h1 h2 => ?_
 obtain ⟨t, ht⟩ := Int.eq_ofNat_of_zero_le (by omega : (0 : Int) ≤ 40 - j)
 rw [ht]
 exact b t (by omega) (by omega)
end
section
variable {main : Bool} {J : JT} {h H : List AObj} {K : Value → List AObj → Prop} {KV : Value → Prop} {HL : List AObj → Prop} {n0 : Nat}
theorem good44 (hJ : Closed prog main J) {w : Wel} {n : Int} {fr dy pb pd : Nat} (hw : welE w = 0) (hn : 0 ≤ n ∧ n ≤ 40) (hd : dy ≤ 100) (cb : H[pb]? = some (.cells ({ w with now := lvF w fr } : Wel).cells true 0)) (cd : H[pd]? = some (.cells [vint (dy : Nat)] true 0))
  (hK : ∀ H', SameX [] H H' → K (.bool (watB w (40 - n) fr dy)) H') : Good prog J 44 [vint n, ptr pb 0, ptr pd 0] H K := by
 refine g44 hJ fun ok => ?_
 rw [e44]
 obtain ⟨w1, w2, w3⟩ := welE_zero hw
 refine load_part (c := ({ w with now := lvF w fr } : Wel).cells) cb (by simp [Wel.cells]) rfl rfl ?_
 refine qAl fun H1 p5 e1 S1 c1 l1 => qStA (c := ({ w with now := lvS w (40 - n) fr 0 } : Wel).cells) c1 rfl rfl rfl fun H2 S2 c2 l2 => ?_
 have T2 : SameX [] H H2 := S1.thru S2 (by simp; omega)
 refine ldI (v := vint (dy : Nat)) (T2.get cd (by simp)) rfl rfl ?_
 refine l44_1 hJ (fun k : Nat => dy - k) (fun k F H' => k ≤ dy ∧ SameX [] H H' ∧ H'[p5]? = some (.cells ({ w with now := lvS w (40 - n) fr k } : Wel).cells true 0) ∧ (∀ j, j < k → 40 - n ≤ lvS w (40 - n) fr j) ∧ F.ds = [] ∧ F.r 0 = vint n ∧ F.r 5 = ptr p5 0 ∧ F.r 8 = vint (dy : Nat) ∧ F.r 9 = vint (k : Nat)) ?_ (s := 0)
  (.inl ⟨by omega, T2, c2, fun j hj => absurd hj (Nat.not_lt_zero _), rfl, rfl, rfl, rfl, rfl⟩)
 rintro k F H' ⟨hk, S, cx, hno, ds, r0, r5, r8, r9⟩ okc hnc
 rw [s44_1, r0, r5, r8, r9, ds]
 refine lssI (cndI (fun hlt => ?_) fun hge => ?_)
 rotate_left
 ·have : k = dy := by omega
  subst this
  have := hK H' S
  rw [watB_yes hno] at this
  exact retL_same (by simp [unk]) this
 have hkd : k < dy := by omega
 have hb := lvS_bd (fr := fr) (m := 40 - n) hw (by omega) k
 have hsm : ({ w with now := lvS w (40 - n) fr k } : Wel).sm := ⟨by show -1000000 ≤ lvS w (40 - n) fr k ∧ lvS w (40 - n) fr k ≤ 1000000; omega, by show -1000000 ≤ w.holds ∧ w.holds ≤ 1000000; omega, by show -1000000 ≤ w.fill ∧ w.fill ≤ 1000000; omega⟩
 refine load_part (c := ({ w with now := lvS w (40 - n) fr k } : Wel).cells) cx (by simp [Wel.cells]) rfl rfl (subI (by omega) ?_)
 refine good45 hJ (w := { w with now := lvS w (40 - n) fr k }) hsm (by omega) (ext0 (ext1 ?_))
 refine qStA (c := (({ w with now := lvS w (40 - n) fr k } : Wel).drunk (40 - n)).cells) cx rfl rfl rfl fun H3 S3 c3 l3 => ?_
 show cnd (.bool (decide (lvS w (40 - n) fr k < 40 - n))) _ _
 refine cndI (fun hdry => ?_) fun hwet => ?_
 ·have := hK H3 (S.thru S3 (by simp; omega))
  rw [watB_no hkd (by omega)] at this
  exact retL_same (by simp [unk]) this
 ·have e1 : (({ w with now := lvS w (40 - n) fr k } : Wel).drunk (40 - n)).filled = { w with now := lvS w (40 - n) fr (k + 1) } := by
   unfold Wel.drunk Wel.filled
   simp only [Wel.mk.injEq, and_true]
   show min w.holds (lvS w (40 - n) fr k - min (lvS w (40 - n) fr k) (40 - n) + w.fill) = min w.holds (lvS w (40 - n) fr k - (40 - n) + w.fill)
   omega
  refine load_part (c := (({ w with now := lvS w (40 - n) fr k } : Wel).drunk (40 - n)).cells) c3 (by simp [Wel.cells]) rfl rfl ?_
  refine good43 hJ (w := ({ w with now := lvS w (40 - n) fr k } : Wel).drunk (40 - n)) ⟨by show -1000000 ≤ lvS w (40 - n) fr k - min (lvS w (40 - n) fr k) (40 - n) ∧ lvS w (40 - n) fr k - min (lvS w (40 - n) fr k) (40 - n) ≤ 1000000; omega, hsm.2⟩ ?_
  rw [e1]
  refine qStA (c := ({ w with now := lvS w (40 - n) fr (k + 1) } : Wel).cells) c3 rfl rfl rfl fun H4 S4 c4 l4 => addI (by omega) ⟨k + 1, by dsimp only; omega, .inl ⟨by omega, (S.thru S3 (by simp; omega)).thru S4 (by simp; omega), c4, fun j hj => ?_, ds, r0, r5, r8, by show vint _ = vint _; congr 1⟩⟩
  by_cases e : j = k
  ·rw [e]
   omega
  ·exact hno j (by omega)
theorem headE_zero {p : Pas} {s : SkyR} {fr dy : Int} (h : headE p s fr dy = 0) : (0 ≤ fr ∧ fr ≤ 7) ∧ (1 ≤ dy ∧ dy ≤ 8) := by
 unfold headE at h
 split at h
 ·contradiction
 ·rename_i h1
  have g : skyOk s := by
   have h1 := Classical.not_not.1 h1
   unfold fst2 at h1
   split at h1
   ·contradiction
   ·unfold skyE at h1
    split at h1
    ·assumption
    ·cases h1
  split at h
  ·cases h
  ·rename_i h2
   split at h
   ·cases h
   ·rename_i h3
    obtain ⟨g1, g2, g3⟩ := g
    have h2 := Classical.not_not.1 h2
    have h3 := Classical.not_not.1 h3
    omega
theorem good18 (hJ : Closed prog main J) {w : Wel} {p : Pas} {s : SkyR} {fr dy : Int} (hK : ∀ H', SameX [] H H' → K (.tuple ⟨[vint (bearN w p s fr dy), vint (bearE w p s fr dy)]⟩) H') : Good prog J 18 [w.val, .agg ⟨p.cells⟩, .agg ⟨s.cells⟩, vint fr, vint dy] H K := by
 refine g18 hJ fun ok => ?_
 rw [e18]
 refine qBox (l := w.cells) rfl fun H1 p5 e1 S1 c5 l1 => qBox (l := p.cells) rfl fun H2 p6 e2 S2 c6 l2 => qBox (l := s.cells) rfl fun H3 p7 e3 S3 c7 l3 => qBox1 rfl rfl fun H4 p9 e4 S4 c9 l4 => ?_
 have d5 := S4.get (S3.get (S2.get c5 (by simp)) (by simp)) (by simp)
 have d6 := S4.get (S3.get c6 (by simp)) (by simp)
 have d7 := S4.get c7 (by simp)
 have T4 := ((S1.trans S2).trans S3).trans S4
 have fin : ∀ {e : Int} {H' : List AObj}, bearE w p s fr dy = e → e ≠ 0 → SameX [] H H' → retL H.length K [] [vint 0, vint e] H' := fun he h0 S => by
  have := hK _ S
  unfold bearN at this
  rw [if_neg (by omega), he] at this
  exact retL_same (nu2 (by simp [unk]) (by simp [unk])) this
 refine load_part (c := w.cells) d5 (by simp [Wel.cells]) rfl rfl (good23 hJ (neqI (cndI (fun h1 => fin ?_ h1 T4) fun h1 => ?_)))
 ·unfold bearE; rw [if_pos h1]
 have hw : welE w = 0 := by omega
 obtain ⟨w1, w2, w3⟩ := welE_zero hw
 refine load_part (c := p.cells) d6 (by simp [Pas.cells]) rfl rfl (load_part (c := s.cells) d7 (by simp [SkyR.cells]) rfl rfl (ldI (v := vint dy) c9 rfl rfl ?_))
 refine good42 hJ fun H5 S5 => ext0 (ext1 (neqI (cndI (fun h2 => fin ?_ h2 (T4.trans S5)) fun h2 => ?_)))
 ·unfold bearE; rw [if_neg h1]
 have hh : headE p s fr dy = 0 := by omega
 have h0 : bearE w p s fr dy = 0 := by unfold bearE; rw [if_neg h1, hh]
 obtain ⟨b1, b2⟩ := headE_zero hh
 obtain ⟨a, rfl⟩ := Int.eq_ofNat_of_zero_le b1.1
 obtain ⟨b, rfl⟩ := Int.eq_ofNat_of_zero_le (by omega : (0 : Int) ≤ dy)
 have T5 := T4.trans S5
 refine load_part (c := w.cells) (S5.get d5 (by simp)) (by simp [Wel.cells]) rfl rfl (fillO (l := w.cells) rfl rfl rfl (by simp) (fillI ?_))
 refine qAl fun H6 p15 e6 S6 c15 l6 => qStA (c := ({ w with now := lvF w 0 } : Wel).cells) c15 rfl rfl rfl fun H7 S7 c15' l7 => ?_
 have S57 : SameX [] H5 H7 := S6.thru S7 (by simp; omega)
 have x9 := S57.get (S5.get c9 (by simp)) (by simp)
 have T7 := T5.trans S57
 refine l18_1 hJ (fun k : Nat => a - k) (fun k F H' => k ≤ a ∧ SameX [p15] H7 H' ∧ H'[p15]? = some (.cells ({ w with now := lvF w k } : Wel).cells true 0) ∧ F.ds = [] ∧ F.r 9 = ptr p9 0 ∧ F.r 13 = vint (headN p s (a : Nat) (b : Nat)) ∧ F.r 15 = ptr p15 0 ∧ F.r 36 = vint (a : Nat) ∧ F.r 37 = vint (k : Nat)) ?_ (s := 0)
  (.inl ⟨by omega, SameX.refl, c15', rfl, rfl, rfl, rfl, rfl, rfl⟩)
 rintro k F H' ⟨hk, S, cx, ds, r9, r13, r15, r36, r37⟩ okc hnc
 rw [s18_1, r9, r13, r15, r36, r37, ds]
 have hlk := lvF_bd hw k
 refine lssI (cndI (fun hlt => ?_) fun hge => ?_)
 ·refine load_part (c := ({ w with now := lvF w k } : Wel).cells) cx (by simp [Wel.cells]) rfl rfl ?_
  refine good43 hJ (w := { w with now := lvF w k }) ⟨by show -1000000 ≤ lvF w k ∧ lvF w k ≤ 1000000; omega, by show -1000000 ≤ w.holds ∧ w.holds ≤ 1000000; omega, by show -1000000 ≤ w.fill ∧ w.fill ≤ 1000000; omega⟩ ?_
  refine qStA (c := ({ w with now := lvF w (k + 1) } : Wel).cells) cx rfl rfl rfl fun H8 S8 c8 l8 => addI (by omega) ⟨k + 1, by dsimp only; omega, .inl ⟨by omega, S.trans S8, c8, ds, r9, r13, r15, r36, by show vint _ = vint _; congr 1⟩⟩
 have hka : k = a := by omega
 subst hka
 have b9 := lt_of_get x9
 have lp9 := lt_of_get c9
 have hS5 := S5.1
 have n95 : p9 ≠ p15 := by omega
 have y9 := S.get x9 (by simpa using n95)
 refine ⟨rfl, ?_⟩
 have hz := watB_zero (fr := k) (dy := b) hw
 refine good34 hJ (P := fun n => watB w (40 - n) k b) (by decide) (fun {H8} {n} {Kf} S8 h1 h2 hk8 => callCz (by kernel_rfl) ?_) fun H8 S8 => ext0 (ext1 ?_)
 ·exact good44 hJ hw ⟨h1, h2⟩ (by omega) (S8.get cx (by simp)) (S8.get y9 (by simp)) hk8
 ·rw [least_top (q := fun m => watB w m k b) hz]
  have bd := topH_bd (q := fun m => watB w m k b) (N := 40)
  refine subI (by show -9223372036854775808 ≤ 40 - (40 - topH (fun m => watB w m k b) 40) ∧ 40 - (40 - topH (fun m => watB w m k b) 40) < 9223372036854775808; omega) (minI ?_)
  have := hK H8 ((T7.thru S (by simp; have := T5.1; omega)).trans S8)
  unfold bearN at this
  rw [if_pos h0, h0] at this
  refine retL_same (nu2 (by simp [unk]) (by simp [unk])) ?_
  rw [Int.toNat_natCast, Int.toNat_natCast] at this
  have e2 : (40 : Int) - (some (40 - topH (fun m => watB w m k b) 40)).getD 0 = topH (fun m => watB w m k b) 40 := by
   show 40 - (40 - topH (fun m => watB w m k b) 40) = _
   omega
  rw [e2]
  exact this
end
end Go.Proofs.YtmmlamfgbmnkgaaDoor
