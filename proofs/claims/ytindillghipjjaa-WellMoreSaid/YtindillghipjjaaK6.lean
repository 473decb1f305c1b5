/- WellMore answers true at every input, and its argument reads behind the call as it read before. No conditions. -/
import Derived.Test.YtindillghipjjaaK2
import Derived.Test.YtindillghipjjaaK5
import Derived.Test.YtindillghipjjaaK3
import Derived.Below
import Derived.Test.YtindillghipjjaaRows
import Derived.Conc.LeavingOf
import Derived.ChangeSlices
import Derived.OpenShut
import Derived.Carry

namespace Go.Proofs.Ytindillghipjjaa
open Go.Conc Go.Proofs.Try
set_option maxRecDepth 100000
theorem lasts_later {t x : Tro} {r : List Int} (m : More t x) (h1 : 0 ≤ lastsR t r) (h2 : 0 ≤ lastsR x r) : lastsR t r ≤ lastsR x r := by
  obtain ⟨k, e1, _, _, n1⟩ := lasts_pos h1
  obtain ⟨j, e2, _, d2, _⟩ := lasts_pos h2
  rcases Nat.lt_or_ge j k with y | y
  · exact absurd (dry_more m d2) (n1 j y)
  · omega
structure Reg5 (rv : Value) (p q : Nat) (F : RG) : Prop where
  ds : F.ds = []
  r4 : F.r 4 = ptr p 0
  r5 : F.r 5 = ptr q 0
  r6 : F.r 6 = rv

section
variable {W0 : World} {Post : Value → World → Prop} {h H : List AObj} {K : Value → List AObj → Prop} {n0 : Nat}
theorem end5 {t x : Tro} {fv gv rv : Value} {p q : Nat} {F : RG} (f : TroFine t) (g : TroFine x) (m : More t x) (cp : H[p]? = some (.cells (troCells t fv) true 0)) (cq : H[q]? = some (.cells (troCells x gv) true 0)) (ht : SliE H fv 2 Dro.cells t.flocks) (hx : SliE H gv 2 Dro.cells x.flocks)
    (G : Reg5 rv p q F) (r120 : F.r 120 = .bool false) (hK : ∀ h', K (.bool true) h') :
    W prog (J1 prog W0 Post) 171 n0 5 (subC [1, 1, 1, 1, 1, 1, 1, 1, 1, 1, 1, 1, 1, 0, 1] (codeOf f5)) F H (contX pl5 prog (J1 prog W0 Post) 171 n0 5 ct5 [1, 1, 1, 1, 1, 1, 1, 1, 1, 1, 1, 1, 1, 0, 1] (codeOf f5) [] (RetQ prog [.tmp 2] n0 K)) := by
  have hJ := J1.closed prog W0 Post
  obtain ⟨ds, r4, r5, r6⟩ := G
  have done : ∀ {H' : List AObj}, Good prog (J1 prog W0 Post) 19 [] H' fun v h' => retL n0 K F.ds [v] h' := fun {H'} => good19 fun H3 => by rw [ds]; exact retL_same (by simp [unk]) (hK _)
  rw [s5_3, r120, r4, r5]
  have ta : TroAt H (.agg ⟨troCells t fv⟩) t fv := ⟨rfl, ht⟩
  have tx : TroAt H (.agg ⟨troCells x gv⟩) x gv := ⟨rfl, hx⟩
  obtain ⟨x1, x2⟩ := rotaX_fine f
  obtain ⟨y1, y2⟩ := rotaX_fine g
  refine cnd_false.2 (load_part (c := troCells t fv) cp (by simp [troCells]) rfl (tro_kn ta) (good39 hJ ta fun H1 w S1 F1 => ext0 (ext1 ?_)))
  refine load_part (c := troCells x gv) (S1.get cq (by simp)) (by simp [troCells]) rfl (tro_kn tx) (good39 hJ ⟨rfl, S1.sli hx (by simp)⟩ fun H2 w2 S2 F2 => ext0 (ext1 ?_))
  rw [x2] at F1
  rw [y2] at F2
  have hfl : x.flocks.length = t.flocks.length := by rw [m.fl]
  have hmore : ∀ r, r ≠ [] → goodB t r = true → goodB x r = true := fun r hr h => good_more f g hr m h
  rw [x1, y1]
  cases e : rotF t with
  | none =>
    refine neqI (cndI (fun _ => eqlI (cndI (fun _ => eqlI (cndI (fun _ => done) fun hz => eqlI (cndI (fun _ => done) fun hz2 => ?_))) fun hx => absurd rfl hx)) fun hx => absurd (by decide) hx)
    exfalso
    cases e2 : rotF x with
    | none => rw [e2] at hz2; exact hz2 rfl
    | some q => rw [e2] at hz; exact hz rfl
  | some p' =>
    obtain ⟨q', e2, hq⟩ := rotF_more hfl hmore e
    rw [e] at F1
    rw [e2] at F2 ⊢
    obtain ⟨o1, O1, _⟩ := F1
    obtain ⟨o2, O2, _⟩ := F2
    have s1 := S2.sli (ownX_sli O1) (by simp)
    have s2 := ownX_sli O2
    have gl := (rotF_is e).2.len
    have gl2 := (rotF_is e2).2.len
    refine neqI (cndI (fun hx => absurd rfl hx) fun _ => eqlI (cndI (fun _ => ?_) fun hx => absurd rfl hx))
    refine lenI s2 (lenI s1 (lssI (cndI (fun _ => done) fun hge => lenI s2 (lenI s1 (eqlI (cndI (fun hl => ?_) fun hx => ?_))))))
    · refine good40 hJ s1 s2 (by omega) (notI ?_)
      have : aheadR p' q' = false := by
        rcases hq with h | h
        · omega
        · exact h.2
      rw [this]
      exact cnd_true.2 done
    · rcases hq with h | h <;> omega

theorem loop5 {t x : Tro} {r : List Int} {fv gv rv av bv : Value} {p q : Nat} {F : RG} (f : TroFine t) (g : TroFine x) (hr : RotaFine t r) (m : More t x) (cp : H[p]? = some (.cells (troCells t fv) true 0)) (cq : H[q]? = some (.cells (troCells x gv) true 0)) (ht : SliE H fv 2 Dro.cells t.flocks) (hx : SliE H gv 2 Dro.cells x.flocks)
    (sr : Sli H rv 1 r.length (r.map vint)) (ha : Sli H av 1 40 ((levelsR t r 40).map vint)) (hb : Sli H bv 1 40 ((levelsR x r 40).map vint))
    (G : Reg5 rv p q F) (r7 : F.r 7 = av) (r9 : F.r 9 = bv) (r11 : F.r 11 = vint 0) (hK : ∀ h', K (.bool true) h') :
    Sem (J1 prog W0 Post) 171 n0 5 (subC [1, 1, 1, 1, 1, 1, 1, 1, 1, 1, 0, 1, 0] (codeOf f5)) F H (contX pl5 prog (J1 prog W0 Post) 171 n0 5 ct5 [1, 1, 1, 1, 1, 1, 1, 1, 1, 1, 0, 1, 0] (codeOf f5) [] (RetQ prog [.tmp 2] n0 K)) := by
  have hJ := J1.closed prog W0 Post
  have lt' : (levelsR t r 40).length = 40 := by simp [levelsR]
  have lx' : (levelsR x r 40).length = 40 := by simp [levelsR]
  have ha : Sli H av 1 (levelsR t r 40).length ((levelsR t r 40).map vint) := by rw [lt']; exact ha
  have hb : Sli H bv 1 (levelsR x r 40).length ((levelsR x r 40).map vint) := by rw [lx']; exact hb
  refine l5_2 hJ (fun k : Nat => 40 - k) (fun k F H' => H' = H ∧ k ≤ 40 ∧ Reg5 rv p q F ∧ F.r 7 = av ∧ F.r 9 = bv ∧ F.r 11 = vint (k : Nat)) ?_ (s := 0) (.inl ⟨rfl, by omega, G, r7, r9, r11⟩)
  rintro k F H' ⟨rfl, hk, G, r7, r9, r11⟩ ok hn
  have G0 := G
  obtain ⟨ds, r4, r5, r6⟩ := G
  rw [s5_2, r7, r9, r11, r4, r5, r6, ds]
  refine lssI (cndI (fun hlt => ?_) fun hge => ?_)
  · have := lvl_more (r := r) m (k + 1)
    refine sli_num' hb (levelsR_get (by omega)) fun z1 => sli_num' ha (levelsR_get (by omega)) fun z2 => lssI (cndI (fun hx => absurd hx (by omega)) fun _ => ?_)
    exact addI (by omega) ⟨k + 1, by dsimp only; omega, .inl ⟨rfl, by omega, ⟨ds, r4, r5, r6⟩, r7, r9, by show vint _ = vint _; congr 1⟩⟩
  · have ta : TroAt H' (.agg ⟨troCells t fv⟩) t fv := ⟨rfl, ht⟩
    have tx : TroAt H' (.agg ⟨troCells x gv⟩) x gv := ⟨rfl, hx⟩
    have fl := f.len
    have gl := g.len
    have hl := hr.len
    have hrne : r ≠ [] := by intro e; rw [e] at hl; simp at hl
    have hrx : RotaFine x r := ⟨hr.len, by rw [m.fl]; exact hr.who⟩
    have er := fine_rotaE f hr
    have ex := fine_rotaE g hrx
    refine load_part (c := troCells t fv) cp (by simp [troCells]) rfl (tro_kn ta) (good38 hJ ta sr (by omega) fun H1 S1 => ext0 (ext1 ?_))
    refine load_part (c := troCells x gv) (S1.get cq (by simp)) (by simp [troCells]) rfl (tro_kn tx) (good38 hJ ⟨rfl, S1.sli hx (by simp)⟩ (S1.sli sr (by simp)) (by omega) fun H2 S2 => ext0 (ext1 ?_))
    have T := S1.trans S2
    have fin : ∀ {F' : RG}, Reg5 rv p q F' → F'.r 120 = .bool false →
        W prog (J1 prog W0 Post) 171 n0 5 (subC [1, 1, 1, 1, 1, 1, 1, 1, 1, 1, 1, 1, 1, 0, 1] (codeOf f5)) F' H2 (contX pl5 prog (J1 prog W0 Post) 171 n0 5 ct5 [1, 1, 1, 1, 1, 1, 1, 1, 1, 1, 1, 1, 1, 0, 1] (codeOf f5) [] (RetQ prog [.tmp 2] n0 K)) :=
      fun G r120 => end5 f g m (T.get cp (by simp)) (T.get cq (by simp)) (T.sli ht (by simp)) (T.sli hx (by simp)) G r120 hK
    have hE : lastE t r = if lastsR t r < 0 then 11 else 0 := by unfold lastE; rw [if_neg (by omega)]
    have hX : lastE x r = if lastsR x r < 0 then 11 else 0 := by unfold lastE; rw [if_neg (by omega)]
    rw [hE, hX]
    by_cases h1 : lastsR t r < 0
    · have h2 := lasts_more f g hrne m h1
      rw [if_pos h1, if_pos h2]
      refine eqlI (cndI (fun _ => neqI (cndI (fun hx => absurd rfl hx) fun _ => ?_)) fun hx => absurd rfl hx)
      refine eqlI (cndI (fun hx => absurd hx (by decide)) fun _ => hold.2 ?_)
      exact fin ⟨ds, r4, r5, r6⟩ rfl
    · rw [if_neg h1]
      refine eqlI (cndI (fun hx => absurd hx (by decide)) fun _ => eqlI (cndI (fun _ => ?_) fun hx => absurd rfl hx))
      by_cases h2 : lastsR x r < 0
      · rw [if_pos h2]
        refine eqlI (cndI (fun hx => absurd hx (by decide)) fun _ => hold.2 ?_)
        exact fin ⟨ds, r4, r5, r6⟩ rfl
      · rw [if_neg h2]
        refine eqlI (cndI (fun _ => lssI (hold.2 ?_)) fun hx => absurd rfl hx)
        refine fin ⟨ds, r4, r5, r6⟩ ?_
        show Value.bool (decide (lastA x r < lastA t r)) = _
        have a1 : lastA t r = lastsR t r := by unfold lastA; rw [if_pos ⟨er, by omega⟩]
        have a2 : lastA x r = lastsR x r := by unfold lastA; rw [if_pos ⟨ex, by omega⟩]
        have := lasts_later (r := r) m (by omega) (by omega)
        rw [decide_eq_false (by omega)]

theorem walk5 {nv : Value} {ns : List Int} (sn : Sli h nv 1 ns.length (ns.map vint)) (hln : ns.length < 4611686018427387904) (hK : ∀ h', K (.bool true) h') :
    W prog (J1 prog W0 Post) 171 h.length 5 (codeOf f5) (RG.mk (regs [nv]) []) h (RetQ prog [.tmp 2] h.length K) := by
  have hJ := J1.closed prog W0 Post
  rw [e5]
  refine newX hJ sn hln fun H0 a0 => ?_
  refine good21 hJ a0 (by omega) (by omega) (by omega) fun t fv o H1 ot S1 a1 TO => ?_
  have f := ot.fine (by omega)
  have fl := f.len
  have ta := TO.at
  obtain ⟨w1, w2, w3⟩ := ot.well
  refine qAl fun H2 p2 e2 S2 c2 l2 => qStA (c := troCells t fv) c2 rfl rfl (tro_one ta) fun H3 S3 c3 l3 => ?_
  have hl1 := a1.lt
  have S13 : SameX [] H1 H3 := S2.thru S3 (by simp; omega)
  have TO3 := TO.same S13 (by simp)
  have a3 := a1.same S13 (by simp)
  have kt := tro_kn ta
  refine load_part (c := troCells t fv) c3 (by simp [troCells]) rfl kt ?_
  refine good24 hJ TO3.at (by omega) fun H4 gv o4 S4 O4 ho4 => ?_
  have a4 := a3.same S4 (by simp)
  have TX4 : TroAt H4 (.agg ⟨troCells t gv⟩) t gv := ⟨rfl, ownX_sli O4⟩
  refine qAl fun H5 p5 e5 S5 c5 l5 => qStA (c := troCells t gv) c5 rfl rfl (tro_one TX4) fun H6 S6 c6 l6 => ?_
  have hS4 := S4.1
  have hS5 := S5.1
  have hS13 := S13.1
  have o4lt := ownX_lt O4 o4 rfl
  have S46 : SameX [] H4 H6 := S5.thru S6 (by simp; omega)
  have S36 : SameX [] H3 H6 := S4.trans S46
  have a6 := a4.same S46 (by simp)
  have c36 := S36.get c3 (by simp)
  have O6 := ownX_keep O4 S46 (by simp)
  have hp2 : p2 < H3.length := lt_of_get c3
  have hl3 := a3.lt
  refine offI (offI (ldI (v := vint t.well.holds) c36 rfl rfl ?_))
  refine amX hJ a6 (by omega) (by omega) (by omega) fun y7 H7 b1 b2 S7 l7 a7 => ?_
  have c67 := S7.get c6 (by simp; omega)
  refine offI (offI (qSt c67 (by simp [troCells]) rfl rfl fun H8 S8 c8 l8 => ?_))
  have a8 := a7.same S8 (by simp; omega)
  have c38 := S8.get (S7.get c36 (by simp; omega)) (by simp; omega)
  refine ⟨[p2, p5], offI (offI (ldI (v := vint t.well.now) c38 rfl rfl ⟨by simp [RdOk, ptr, ptrBlk], offI (offI (ldI (v := vint y7) c8 rfl rfl ⟨by simp [RdOk, ptr, ptrBlk], offI (offI (ldI (v := vint t.well.fill) c38 rfl rfl ⟨by simp [RdOk, ptr, ptrBlk], ?_⟩))⟩))⟩))⟩
  have p2lt8 := lt_of_get c38
  have p5lt8 := lt_of_get c8
  have sb2 : ∀ {X : List Nat} {Ha Hb : List AObj}, SameX X Ha Hb → p2 < Ha.length → p5 < Ha.length → p2 ∉ X → p5 ∉ X → SameB (some [p2, p5]) Ha Hb := fun S h1 h2 h3 h4 => by
    intro b hb
    rcases List.mem_cons.1 hb with rfl | hb
    · exact S.2 _ h1 h3
    · rw [List.mem_singleton.1 hb]
      exact S.2 _ h2 h4
  refine amX hJ a8 (by omega) (by omega) (by omega) fun y9 H9 b3 b4 S9 l9 a9 => ⟨sb2 S9 p2lt8 p5lt8 (by simp; omega) (by simp; omega), offI (offI ?_)⟩
  refine amX hJ a9 (by omega) (by omega) (by omega) fun yA HA b5 b6 SA lA aA => ?_
  have c9A := SA.get (S9.get c8 (by simp; omega)) (by simp; omega)
  refine qSt c9A (by simp [troCells]) rfl rfl fun HB SB cB lB => offI (offI ?_)
  refine qSt cB (by simp [troCells]) rfl rfl fun HC SC cC lC => ?_
  obtain ⟨x, hxe⟩ : ∃ x : Tro, x = ⟨⟨y9, y7, yA⟩, t.flocks⟩ := ⟨_, rfl⟩
  have cC : HC[p5]? = some (.cells (troCells x gv) true 0) := by subst hxe; exact cC
  have hxf : x.flocks = t.flocks := by subst hxe; rfl
  have x1 : x.well.now = y9 := by subst hxe; rfl
  have x2 : x.well.holds = y7 := by subst hxe; rfl
  have x3 : x.well.fill = yA := by subst hxe; rfl
  have fx : TroFine x := by
    refine ⟨by rw [x2]; omega, by rw [x1, x2]; omega, by rw [x3]; omega, by rw [hxf]; exact f.len, by rw [hxf]; exact f.dro⟩
  have m : More t x := ⟨hxf, by rw [x1]; omega, by rw [x2]; omega, by rw [x3]; omega⟩
  have aC := (aA.same SB (by simp; omega)).same SC (by simp; omega)
  have T6C : SameX [h.length, p5] H6 HC := (((((S7.weak (by simp)).trans (S8.weak (by simp))).trans (S9.weak (by simp))).trans (SA.weak (by simp))).trans (SB.weak (by simp))).trans (SC.weak (by simp))
  have T3C : SameX [h.length] H3 HC := (S36.weak0).thru (T6C) (by simp; omega)
  have TOC := TO3.same T3C (fun j hj => by have := TO3.b j hj; simp; omega)
  have OC := ownX_keep O6 T6C (by intro j hj; cases hj; simp; omega)
  have cCt : HC[p2]? = some (.cells (troCells t fv) true 0) := T6C.get c36 (by simp; omega)
  have htx : ∀ {H' : List AObj}, SameX [h.length] HC H' → SliE H' gv 2 Dro.cells x.flocks := fun S => by
    have := ownX_sli (ownX_keep OC S (by intro j hj; cases hj; simp; omega))
    rw [hxf]
    exact this
  have tx0 : TroAt HC (.agg ⟨troCells x gv⟩) x gv := ⟨rfl, htx SameX.refl⟩
  have kx := tro_kn tx0
  have hlC := aC.lt
  refine load_part (c := troCells t fv) cCt (by simp [troCells]) rfl kt ?_
  refine good36 hJ aC (by omega) TOC.at (fun S => (TOC.same S (fun j hj => by have := TOC.b j hj; simp; omega)).at.fl) (by omega) (by omega) fun r rv o' HD g hrl SD aD RO ho' => ?_
  have gl := g.len
  have gx : RotaFine x r := ⟨g.len, by rw [hxf]; exact g.who⟩
  have TOD := TOC.same SD (fun j hj => by have := TOC.b j hj; simp; omega)
  have cD := SD.get cCt (by simp; omega)
  have cDx := SD.get cC (by simp; omega)
  have e0 := hrsE_fine (n := 40) f g (by omega)
  have e1 := hrsE_fine (n := 40) fx gx (by omega)
  have eL : levelsA t r 40 = levelsR t r 40 := by unfold levelsA; rw [if_pos e0]; rfl
  have eX : levelsA x r 40 = levelsR x r 40 := by unfold levelsA; rw [if_pos e1]; rfl
  have lT : (levelsR t r 40).length = 40 := by simp [levelsR]
  have lX : (levelsR x r 40).length = 40 := by simp [levelsR]
  have hfl' : x.flocks.length ≤ 1000000 := by rw [hxf]; omega
  refine load_part (c := troCells t fv) cD (by simp [troCells]) rfl kt ?_
  refine good37 hJ TOD.at RO.sli (by omega) fun HE av SE LE => ext0 (ext1 ?_)
  refine load_part (c := troCells x gv) (SE.get cDx (by simp)) (by simp [troCells]) rfl kx ?_
  refine good37 hJ ⟨rfl, SE.sli (htx SD) (by simp)⟩ (SE.sli RO.sli (by simp)) hfl' fun HG bv SG LG => ext0 (ext1 ?_)
  rw [eL, lT] at LE
  rw [eX, lX] at LG
  rw [e0, e1]
  have TG := SE.trans SG
  have last : ∀ {F' : RG}, Reg5 rv p2 p5 F' → F'.r 7 = av → F'.r 9 = bv → F'.r 76 = .bool false →
      W prog (J1 prog W0 Post) 171 h.length 5 (subC [1, 1, 1, 1, 1, 1, 1, 1, 1, 0, 1] (codeOf f5)) F' HG (contX pl5 prog (J1 prog W0 Post) 171 h.length 5 ct5 [1, 1, 1, 1, 1, 1, 1, 1, 1, 0, 1] (codeOf f5) [] (RetQ prog [.tmp 2] h.length K)) := by
    intro F' G r7 r9 r76
    obtain ⟨ds, r4, r5, r6⟩ := G
    rw [s5_1, r76]
    exact cnd_false.2 (loop5 f fx g m (TG.get cD (by simp)) (TG.get cDx (by simp)) (TG.sli TOD.at.fl (by simp)) (TG.sli (htx SD) (by simp)) (TG.sli RO.sli (by simp)) (SG.sli LE (by simp)) LG ⟨ds, r4, r5, r6⟩ r7 r9 rfl hK)
  refine neqI (cndI (fun hx => absurd rfl hx) fun _ => neqI (cndI (fun hx => absurd rfl hx) fun _ => lenI (SG.sli LE (by simp)) (neqI (cndI (fun hx => absurd rfl hx) fun _ => lenI LG (neqI (hold.2 ?_))))))
  exact last ⟨rfl, rfl, rfl, rfl⟩ rfl rfl rfl
end
end Go.Proofs.Ytindillghipjjaa

namespace Go.Proofs.Ytindillghipjjaa
open Go.Conc
section
variable {P : Program} {W0 : World} {Post : Value → World → Prop} {ρ : Env} {h : List AObj} {FC : Frm} {w : World} {ft : Foot} {f : RG} {a : Act} {b : FB} {K : Value → List AObj → Prop} {n0 : Nat}
theorem leave_top {fn : Func} (hk : b.kind = .normal) (hf : P.funcs[b.fn]? = some fn) (hin : P.inits.idxOf? b.fn = none)
    (hc : ∀ v h' ρ' w' ft' cv, K v h' → HRel ρ' h' FC w' ft' → Env.upto n0 ρ ρ' → n0 ≤ h'.length → VRel h'.length ρ' v cv → Base W0 w' → Post cv w') :
    ∀ (ds : List Nat) (h : List AObj) (w : World) (ft : Foot) (a : Act) (fr : Frame), fr.fn = b.fn → fr.kind = .normal → fr.mode = .returning → fr.tmps = a.tmps → fr.defers = ds.map (fun d => { target := .collected (ρ.blk d), args := #[] }) → RegRel h.length ρ f.r a.tmps → HRel ρ h FC w ft → n0 ≤ h.length →
      takeW ds h (fun h => resW P fn.results.toList f.r h fun vs => K (pack vs) h ∨ ∃ σ h' v, GC n0 σ h h' ∧ pack vs = sub σ v ∧ VOk h'.length v ∧ K v h') → J1 P W0 Post (G fr []) w ft
  | [], h, w, ft, a, fr, e1, e2, e3, e4, e5, hr, H, hn, hq => by
    obtain ⟨fn', tmps, todo, defers, mode, kind, ro⟩ := fr
    simp only at e1 e2 e3 e4 e5
    subst e1 e2 e3 e4 e5
    refine J1.both rfl fun w₁ h₁ hbase => .inr ?_
    have H₁ := H.rely h₁
    have hrun : RunsTo P (EvOk ft) (results fn a.tmps) w₁ fun cv w' => w' = w₁ ∧ ∃ vs, cv = ren ρ (pack vs) ∧ (∀ v ∈ vs, VOk h.length v) ∧ (K (pack vs) h ∨ ∃ σ h' v, GC n0 σ h h' ∧ pack vs = sub σ v ∧ VOk h'.length v ∧ K v h') := by
      unfold results
      have : (fn.results.mapM (resF a.tmps)) = List.toArray <$> fn.results.toList.mapM (resF a.tmps) := by
        rw [Array.mapM_eq_mapM_toList]
      show RunsTo P (EvOk ft) (do
        let vs ← fn.results.mapM (resF a.tmps)
        pure (if h : vs.size = 1 then vs[0] else .tuple vs)) w₁ _
      rw [this]
      refine RunsTo.bind (RunsTo.map (res_run (n := 0) H₁ hr fn.results.toList hq fun vs hvs hok => RunsTo.pure ⟨rfl, vs, ?_, hok, hvs⟩))
      exact pack_ren vs
    obtain ⟨cv, w', es, hr', he, rfl, vs, rfl, hvok, hvs⟩ := hrun #[] (by simp)
    have hes : ∀ e ∈ seen P b.fn es, EvOk ft e := fun e hm => he e (mem_seen hm)
    refine ⟨ren ρ (pack vs), seen P b.fn es, ?_, hes, ?_⟩
    · simp only [G, stepG, unwind, List.map_nil, hf, hr']
      simp [doReturn, GStep.after, hin]
    · rcases hvs with hK | ⟨σ, h', v, g, hp, hok, hK⟩
      · exact hc _ h _ w' ft _ hK H₁ (Env.upto_refl _ _) hn (.inr ⟨pack_ok hvok, rfl⟩) hbase
      · rw [hp, ren_sub]
        exact hc v h' _ w' ft _ hK (g.rel H₁) g.upto g.le (.inr ⟨hok, rfl⟩) hbase
  | d :: ds, h, w, ft, a, fr, e1, e2, e3, e4, e5, hr, H, hn, hq => by
    obtain ⟨fn', tmps, todo, defers, mode, kind, ro⟩ := fr
    simp only at e1 e2 e3 e4 e5
    subst e1 e2 e3 e4 e5
    obtain ⟨hd, hq⟩ := hq
    refine (J1.closed P W0 Post).step rfl fun w₁ h₁ => ?_
    have H₁ := H.rely h₁
    obtain ⟨cv, w', es, hr', he, rfl, H', hst, hsz⟩ := take_run (P := P) H₁ hd (Q := fun l w' => l = [] ∧ HRel ρ (h.set d .dead) FC w' ft ∧ Stays ft w₁ w' ∧ w'.heap.size = w₁.heap.size) (fun w' a1 a2 a3 => ⟨rfl, a1, a2, a3⟩) #[] (by simp)
    have hes : ∀ e ∈ seen P b.fn es, EvOk ft e := fun e hm => he e (mem_seen hm)
    refine ⟨G { fn := b.fn, tmps := a.tmps, todo := todo, defers := ds.map (fun d => { target := .collected (ρ.blk d), args := #[] }), mode := .returning, kind := .normal, roundOf := ro } [], w', seen P b.fn es, ?_, rfl, hst.guar hes, ?_⟩
    · simp only [G, stepG, unwind, List.map_cons, hr']
      simp [GStep.after]
    · rw [hsz, Foot.ext_self]
      exact leave_top hk hf hin hc ds _ w' ft a _ rfl rfl rfl rfl rfl (by rw [List.length_set]; exact hr) H' (by rw [List.length_set]; exact hn) hq

theorem top_of_W (hm : P.follows .mixedOrders = true) {g : FuncId} {fn : Func} (hf : P.funcs[g]? = some fn) {c : Code} (hb : fn.body = some c) (hin : P.inits.idxOf? g = none) {args : List Value} {cargs : Array Value} (ha : args.length ≤ fn.ntmps) (hl : cargs.size = args.length)
    (hr : ∀ i : Nat, VRel h.length ρ (args.getD i unk) (cargs.toList.getD i undef)) (H : HRel ρ h FC w ft)
    (hs : W P (J1 P W0 Post) fn.ntmps h.length g c ⟨regs args, []⟩ h (RetQ P fn.results.toList h.length K))
    (hc : ∀ v h' ρ' w' ft' cv, K v h' → HRel ρ' h' FC w' ft' → Env.upto h.length ρ ρ' → h.length ≤ h'.length → VRel h'.length ρ' v cv → Base W0 w' → Post cv w') : J1 P W0 Post (G (Frame.enter P g cargs .normal) []) w ft := by
  have hJ := J1.closed P W0 Post
  obtain ⟨cargs⟩ := cargs
  simp only at hl hr
  have he : Frame.enter P g ⟨cargs⟩ .normal = FB.at ⟨g, .normal, none⟩ ⟨⟨cargs⟩ ++ Array.replicate (fn.ntmps - cargs.length) undef, []⟩ [.code c] := by
    simp [Frame.enter, FB.at, hf, hb]
  rw [he]
  have A : ActRel h.length ρ fn.ntmps ⟨regs args, []⟩ ⟨⟨cargs⟩ ++ Array.replicate (fn.ntmps - cargs.length) undef, []⟩ := by
    refine ⟨fun t => ?_, by simp at hl ⊢; omega, rfl, by simp⟩
    have := hr t
    have ht : ((⟨cargs⟩ : Array Value) ++ Array.replicate (fn.ntmps - cargs.length) undef).getD t undef = cargs.getD t undef := by
      rw [Array.getD_eq_getD_getElem?, List.getD_eq_getElem?_getD]
      by_cases hx : t < cargs.length
      · rw [Array.getElem?_append_left (by simpa using hx)]
        simp
      · rw [Array.getElem?_append_right (by simp; omega), List.getElem?_eq_none (by omega)]
        simp only [Array.getElem?_replicate]
        split <;> rfl
    rw [ht]
    exact this
  have last : ∀ f' h' ρ' w' ft' a' todo, RetQ P fn.results.toList h.length K .ret f' h' → ActRel h'.length ρ' fn.ntmps f' a' → HRel ρ' h' FC w' ft' → Env.upto h.length ρ ρ' → h.length ≤ h'.length →
      J1 P W0 Post (G { (FB.at ⟨g, .normal, none⟩ a' todo) with mode := .returning } []) w' ft' := by
    intro f' h' ρ' w' ft' a' todo q A' H' hu hl
    exact leave_top (b := ⟨g, .normal, none⟩) (f := f') (n0 := h.length) (ρ := ρ') rfl hf hin (fun v h2 ρ2 w2 ft2 cv k H2 u2 l2 v2 => hc v h2 ρ2 w2 ft2 cv k H2 (Env.upto_trans hu u2) l2 v2) f'.ds h' w' ft' a' _ rfl rfl rfl rfl A'.defers A'.regs H' hl q
  refine W_sound hJ hm c hs ⟨g, .normal, none⟩ _ [] [] (fun jump a w ft => jump = some .ret ∧ ∀ todo, J1 P W0 Post (G { (FB.at ⟨g, .normal, none⟩ a todo) with mode := .returning } []) w ft) ρ FC w ft rfl (by simp) ?_ A H (Nat.le_refl _) ?_
  · rintro jump a w ft todo ⟨rfl, hj⟩ hh
    rcases hh with ⟨_, k, rfl⟩ | ⟨id, k, e, _⟩ | ⟨e, _⟩
    · exact hJ.ctrl rfl rfl (fun w => by simp [G, stepG, stepG.exec, FB.at]) (hj (.code .ret :: k))
    · cases e
    · cases e
  · intro e f' h' ρ' w' ft' a' q A' H' hu hl
    cases e with
    | normal => exact hJ.ctrl rfl rfl (fun w => by simp [G, stepG, stepG.exec, FB.at]) (last f' h' ρ' w' ft' a' [] q A' H' hu hl)
    | ret => exact ⟨rfl, fun todo => last f' h' ρ' w' ft' a' todo q A' H' hu hl⟩
    | exit id => exact q.elim
    | goto l => exact q.elim
    | panic l => exact q.elim
    | outgrown => exact q.elim

theorem run_of_J1 {g : Goroutine} {w : World} {ft : Foot} (h : J1 P W0 Post g w ft) (hb : ∀ b, ft.rd b → b < w.heap.size) (hs : ∀ b, ft.wr b → ft.rd b) (hw : W0 = w) : Ends P Post (solo g w) #[] := by
  rw [solo_eq_crowd]
  exact h #[g] w none #[] (fun _ => 0) hb hs (RelyW.refl _ _) (by subst hw; exact ⟨rfl, rfl, rfl, Nat.le_refl _⟩) rfl (leavers_one P g) (past_nil.mono (Nat.zero_le _))
end
end Go.Proofs.Ytindillghipjjaa

namespace Go.Proofs.Ytindillghipjjaa
open Go.Conc Go.RowKit
def idEnv : Env := ⟨fun b => b, fun _ => 0⟩
def startFt (w : World) : Foot := ⟨fun b => b < w.heap.size, fun _ => False⟩
def startFC (w : World) : Frm := ⟨fun b => w.heap[b]?, fun _ => False⟩

def Fine (n : Nat) (v : Value) : Prop := VOk n v ∧ one v = true ∧ ren idEnv v = v

open Classical in
noncomputable def clean (n : Nat) (v : Value) : Value := if Fine n v then v else unk

noncomputable def absO (n : Nat) : Obj → AObj
  | .cells c _ _ => .cells (c.toList.map (clean n)) false 0
  | _ => .dead

noncomputable def absH (w : World) : List AObj := w.heap.toList.map (absO w.heap.size)

section
variable {w w' : World} {n : Nat}
theorem clean_fine {v : Value} (h : Fine n v) : clean n v = v := by simp [clean, h]
theorem absH_len : (absH w).length = w.heap.size := by simp [absH]
theorem absH_get {b : Nat} : (absH w)[b]? = (w.heap[b]?).map (absO w.heap.size) := by simp [absH]

theorem absO_wrt (x : Obj) : (absO n x).wrt = false := by cases x <;> rfl

theorem start_rel (w : World) : HRel idEnv (absH w) (startFC w) w (startFt w) where
  obj := fun b o hb => by
    rw [absH_get] at hb
    obtain ⟨x, hx, rfl⟩ := Option.map_eq_some_iff.1 hb
    show ORel (absH w).length idEnv b (absO w.heap.size x) w.heap[b]?
    rw [absH_len, hx]
    cases x with
    | cells c ty fr =>
      refine ⟨fun i v hv => ?_, fun _ => by simp, fun hz => absurd rfl hz, fun e => by cases e⟩
      rw [List.getElem?_map] at hv
      obtain ⟨u, hu, rfl⟩ := Option.map_eq_some_iff.1 hv
      by_cases hf : Fine w.heap.size u
      · rw [clean_fine hf]
        exact .inr ⟨hf.1, hf.2.1, by rw [hf.2.2]; simpa using hu⟩
      · exact .inl ⟨by simp [clean, hf], rfl⟩
    | _ => trivial
  inj := fun b b' o o' _ _ _ _ e => e
  rd := fun b o hb _ => by
    have : b < (absH w).length := (List.getElem?_eq_some_iff.1 hb).1
    rw [absH_len] at this
    exact this
  wr := fun b o hb hw => by
    rw [absH_get] at hb
    obtain ⟨x, hx, rfl⟩ := Option.map_eq_some_iff.1 hb
    rw [absO_wrt] at hw
    cases hw
  lt := fun b hb => hb
  sub := fun b hb => hb.elim
  kept := fun b o hb => by
    refine ⟨hb, ?_, fun a oa ha hw => ?_⟩
    · exact (Array.getElem?_eq_some_iff.1 hb).1
    · rw [absH_get] at ha
      obtain ⟨x, hx, rfl⟩ := Option.map_eq_some_iff.1 ha
      rw [absO_wrt] at hw
      cases hw
  keptW := fun b hb => hb.elim

theorem absH_cell {b o : Nat} {v : Value} (hc : w.cell? ⟨b, o, none⟩ = some v) (hf : Fine w.heap.size v) : ∃ c, (absH w)[b]? = some (.cells c false 0) ∧ c[o]? = some v := by
  unfold World.cell? at hc
  simp only at hc
  split at hc
  · rename_i c ty fr hx
    refine ⟨c.toList.map (clean w.heap.size), by rw [absH_get, hx]; rfl, ?_⟩
    have hc' : c[o]? = some v := by simpa using hc
    rw [List.getElem?_map, Array.getElem?_toList, hc']
    simp [clean_fine hf]
  · cases hc

theorem below_of {ρ' : Env} {h' : List AObj} {ft' : Foot} (H : HRel ρ' h' (startFC w) w' ft') (B : Base w w') : Below w.heap.size w w' :=
  ⟨B.os, B.tape, B.output, B.size, fun k hk => by
    have : (startFC w).ob k = some w.heap[k] := by simp [startFC, hk]
    rw [(H.kept k _ this).1, Array.getElem?_eq_getElem hk]⟩
end
end Go.Proofs.Ytindillghipjjaa

namespace Go.Proofs.Ytindillghipjjaa
open Go.Conc Go.ChangeShapes Go.WideShapes Go.ChangeAt Go.RowKit Go.Proofs.Try
set_option maxRecDepth 100000
theorem own : ownKnob prog.godebug = none := by kernel_rfl
theorem laidOut : laidOutB prog = true := by kernel_rfl

def ArgOk (W : World) (v : Value) : Prop := VOk W.heap.size v ∧ ren idEnv v = v

theorem law_run1 {g : FuncId} {fn : Func} {c : Code} (hf : prog.funcs[g]? = some fn) (hb : fn.body = some c) (hin : prog.inits.idxOf? g = none) (W₀ : World) (args : List Value) (ha : args.length ≤ fn.ntmps) (hok : ∀ v ∈ args, ArgOk W₀ v)
    (walk : ∀ Post, W prog (J1 prog W₀ Post) fn.ntmps (absH W₀).length g c ⟨regs args, []⟩ (absH W₀) (RetQ prog fn.results.toList (absH W₀).length fun v _ => v = .bool true)) :
    Ends prog (fun v w' => v = .bool true ∧ Below W₀.heap.size W₀ w') (solo (G (Frame.enter prog g ⟨args⟩ .normal) []) W₀) #[] := by
  refine run_of_J1 (W0 := W₀) (ft := startFt W₀) (top_of_W mixed hf hb hin ha rfl (fun i => ?_) (start_rel W₀) (walk _) ?_) (fun b hb => hb) (fun b hb => hb.elim) rfl
  · show VRel (absH W₀).length idEnv (args.getD i unk) (args.getD i undef)
    simp only [List.getD_eq_getElem?_getD]
    cases hi : args[i]? with
    | none => exact .inl rfl
    | some v =>
      obtain ⟨h1, h2⟩ := hok v (List.mem_of_getElem? hi)
      exact .inr ⟨by rw [absH_len]; exact h1, h2.symm⟩
  · intro v h' ρ' w' ft' cv hv H' _ _ hcv hB
    subst hv
    refine ⟨?_, below_of H' hB⟩
    rcases hcv with e | ⟨_, e⟩
    · cases e
    · rw [e]
      rfl

section
variable {H : Type} {enc : TypeId × Value → H}
theorem arg_ints {t e : TypeId} (ht : prog.underlying t = some (.slice e)) (he : prog.underlying e = some (.int .i64)) (hc : prog.cellsOf e = 1) {W : World} {base : Nat} {v : Value} {d : DataW H} {ps : List MemPlace}
    (hval : Value.okWide prog W .any base t v) (hd : DataW.Trod enc prog W 0 (fun _ => true) true t v d ps) :
    ∃ zs : List Int, Sli (absH W) v 1 zs.length (zs.map vint) ∧ ArgOk W v ∧ (zs = [] ∨ ∃ es sp, d = .slice es sp ∧ zs.length ≤ es.length + sp.length) := by
  obtain ⟨a0, len, cap, rfl⟩ := okWide_slice ht hval
  obtain ⟨fuel, hf⟩ := hd
  rcases open_ints ht he hc hf with ⟨hcs, hx⟩ | ⟨a, len', cap', zs, hcs, _, hl, hm, hz, hx, hcell, hwz⟩
  · simp [Value.cells] at hcs
    obtain ⟨rfl, rfl, rfl⟩ := hcs
    exact ⟨[], sli_nil, ⟨by simp [VOk], by simp [ren]⟩, .inl rfl⟩
  · simp [Value.cells] at hcs
    obtain ⟨rfl, rfl, rfl⟩ := hcs
    simp only [Prod.mk.injEq] at hx
    obtain ⟨rfl, rfl⟩ := hx
    simp only [if_true] at hz
    simp only [Value.okWide, ht, Cell.okWide, Cell.ok, World.has] at hval
    obtain ⟨_, _, _, hspot, row, cells, hshape, _⟩ := hval
    obtain ⟨b, o, spot⟩ := a
    simp only at hspot hshape
    subst hspot
    have hb : b < W.heap.size := by
      unfold World.shape? at hshape
      split at hshape
      · rename_i h
        exact (Array.getElem?_eq_some_iff.1 h).1
      · cases hshape
    have hlen : (zs.take len).length = len := by simp; omega
    have hcell' : ∀ i, i < zs.length → W.cell? ⟨b, o + i, none⟩ = some (vint (zs.getD i 0)) := by
      intro i hi
      have := hcell i hi
      unfold Addr.add at this
      by_cases h0 : i = 0
      · subst h0; simpa using this
      · simpa [h0] using this
    have hmax : cap < fz := by
      simp only [maxLen] at hm
      unfold fz
      omega
    refine ⟨zs.take len, ?_, ⟨by simp only [VOk, AddrOk]; exact ⟨hb, trivial⟩, ?_⟩, .inr ⟨_, _, rfl, ?_⟩⟩
    · refine ⟨some ⟨b, o, none⟩, cap, by rw [hlen], ⟨by simp, kn_ints _⟩, .inr ⟨b, o, rfl, ?_⟩⟩
      rw [hlen]
      by_cases h0 : len = 0
      · exact .inl h0
      · right
        have fine : ∀ n : Int, Fine W.heap.size (vint n) := fun n => ⟨by simp [VOk], rfl, by simp [ren]⟩
        obtain ⟨c, hc1, hc2⟩ := absH_cell (hcell' 0 (by omega)) (fine _)
        refine ⟨c, false, 0, hc1, ?_⟩
        apply List.ext_getElem?
        intro i
        rw [Nat.mul_one]
        by_cases hi : i < len
        · obtain ⟨c', hc1', hc2'⟩ := absH_cell (hcell' i (by omega)) (fine _)
          rw [hc1] at hc1'
          cases hc1'
          rw [List.getElem?_take, if_pos hi, List.getElem?_drop, hc2']
          have hzi : i < zs.length := by omega
          simp [hi, hzi]
        · rw [List.getElem?_take, if_neg hi, List.getElem?_eq_none (by simp; omega)]
    · have hnf : ¬ fz ≤ cap := by omega
      simp [ren, renAddr, renCap, idEnv, hnf]
    · simp only [lits, List.length_map, List.length_take, List.length_drop]
      omega
end
end Go.Proofs.Ytindillghipjjaa

namespace Go.Proofs.Ytindillghipjjaa
open Go.Conc Go.ChangeShapes Go.WideShapes Go.ChangeAt Go.RowKit Go.Proofs.Try
set_option maxRecDepth 100000
theorem lifted5 (os : Os) (started : os.Started) (H : Type) (enc : TypeId × Value → H) :
    ReturnsInLeavingWide {} checked os 5 .any (Rows.wellMoreSpec.pre6 enc prog f5 Rows.wellMoreRow.domain false) (Rows.wellMoreSpec.post enc prog f5 false true false false) := by
  refine returnsInLeavingWide_of_change_sized (C := checked) own started at5
    (ChangeSpec.witness6 (enc := enc) (C := checked) false ⟨#[], #[.slice none 0 0], []⟩ 8 (by kernel_rfl) (by kernel_rfl) (by kernel_rfl) (by kernel_rfl)) ?_
  intro W base args ds gs before hval0 hW _ hsz0 _
  have hsz : (DataW.weightsEach prog (f5.params.toList ++ Rows.wellMoreSpec.plain.varTypes prog) (ds ++ gs)).all (· ≤ reachBytes) = true := hsz0
  clear hsz0
  have hval : ∀ (j : Nat) t v, f5.params[j]? = some t → args[j]? = some v → Value.okWide prog W .any base t v := hval0
  have hW' := hW
  obtain ⟨p, q, hA0, hV, rfl, _, _⟩ := hW
  have hA : DataW.TrodAll enc prog W 0 (fun _ => true) true f5.params.toList args.toList ds p := hA0
  have hps : f5.params = #[27] := by kernel_rfl
  rw [hps] at hA hval hsz
  obtain ⟨v0, d0, rfl, rfl, h0⟩ := trodAll_one hA
  obtain ⟨rfl, rfl⟩ := trodVars_none hV
  have u3 : prog.underlying 3 = some (.int .i64) := by kernel_rfl
  have u27 : prog.underlying 27 = some (.slice 3) := by kernel_rfl
  have u4 : prog.underlying 4 = some .bool := by kernel_rfl
  have c3 : prog.cellsOf 3 = 1 := by kernel_rfl
  have b3 : prog.bytesOf 3 = 8 := by kernel_rfl
  have hlt : ∀ x ∈ p, x.block < W.heap.size := fun x hx => by simpa using hW'.lt x (by simpa using hx)
  have hargs : ∀ (W' : World), Below W.heap.size W W' → DataW.TrodAll enc prog W' 0 (fun b => decide (b < W.heap.size)) true [27] [v0] [d0] p := fun W' hn =>
    trodAll_mk1 (Below.trod laidOut (by kernel_rfl) (of_decide_eq_true (by kernel_rfl)) h0 hn hlt)
  obtain ⟨ns, sn, ok2, hbig⟩ := arg_ints u27 u3 c3 (hval 0 27 v0 rfl rfl) h0
  have hln : ns.length < 4611686018427387904 := by
    rcases hbig with rfl | ⟨es, sp, rfl, hle⟩
    · simp
    · have := sized_slice hsz (j := 0) (t := 27) (e := 3) rfl rfl u27
      rw [b3] at this
      simp only [reachBytes] at this
      omega
  obtain ⟨M, last, o, w', t', r1, r2, r3, r4⟩ := law_run1 (g := 5) (fn := f5) at5 body5 (by kernel_rfl) W [v0] (Nat.le_of_ble_eq_true (by kernel_rfl : Nat.ble 1 f5.ntmps = true))
    (by
      intro v hv
      simp only [List.mem_cons, List.not_mem_nil, or_false] at hv
      subst hv
      exact ok2)
    (fun Post => walk5 (K := fun v _ => v = .bool true) sn hln fun _ => rfl)
  refine ⟨M, last, o, w', t', r1, r2, r3, r4.mono fun v hF => ?_⟩
  obtain ⟨rfl, hbelow⟩ := hF
  refine ⟨_, _, _, [], _, [], hW', ?_, hargs _ hbelow, by rfl, hbelow.frame _, fun h => by cases h⟩
  exact trodAll_mk1 (shut_bool u4 true)

theorem wellMore_holds : Rows.WellMoreSaid :=
  OpenClaim.holds_of_wide_leaving 5 f5 rfl rfl rfl rfl rfl rfl rfl ⟨rfl, rfl, rfl, rfl, rfl⟩ rfl rfl rfl rfl rfl (by kernel_rfl) at5 (by kernel_rfl)
    (of_decide_eq_true (by kernel_rfl)) (by unfold Func.isWrapper; first | (rw [if_pos (by decide +kernel)]; kernel_rfl) | (rw [if_neg (by decide +kernel)]; exact ⟨rfl, rfl⟩))
    (fun os started H enc _ => lifted5 os started H enc)

#print axioms wellMore_holds
end Go.Proofs.Ytindillghipjjaa
