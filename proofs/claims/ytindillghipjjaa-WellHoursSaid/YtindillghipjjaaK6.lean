/- WellHours answers true at every input, and its arguments read behind the call as they read before. No conditions. -/
import Derived.Test.YtindillghipjjaaK5
import Derived.Test.YtindillghipjjaaK4
import Derived.Test.YtindillghipjjaaK2
import Derived.Test.YtindillghipjjaaK3
import Derived.Below
import Derived.Test.YtindillghipjjaaRows
import Derived.Conc.LeavingOf
import Derived.ChangeSlices
import Derived.OpenShut
import Derived.Carry
import Derived.Deep.Slices
namespace Go.Proofs.Ytindillghipjjaa
open Go.Conc Go.Proofs.Try
set_option maxRecDepth 100000
def Found (n : Nat) (H : List AObj) (v : Value) : Option (List Int) → Prop
  | none => v = .slice none 0 0
  | some r => ∃ o, OwnX H 1 (r.map vint) r.length v (some o) ∧ n ≤ o
theorem Found.val {n : Nat} {H : List AObj} {v : Value} {o : Option (List Int)} (a : Found n H v o) : ∃ b k c, v = .slice b k c ∧ b.isNone = o.isNone := by
  cases o with
  | none => exact ⟨none, 0, 0, a, rfl⟩
  | some r =>
    obtain ⟨o, O, _⟩ := a
    obtain ⟨h1, h2, ⟨_, _, h3⟩ | ⟨i, c, sz, hi, rfl, h5, h6⟩⟩ := O
    · cases h3
    · exact ⟨_, _, _, rfl, rfl⟩
theorem Found.unk {n : Nat} {H : List AObj} {v : Value} {o : Option (List Int)} (a : Found n H v o) : v ≠ unk := by
  obtain ⟨b, k, c, rfl, _⟩ := a.val
  intro e
  cases e
theorem Found.to {n m : Nat} {H H' : List AObj} {v : Value} {o : Option (List Int)} (a : Found n H v o) (hm : m ≤ n) {X : List Nat} (S : SameX X H H') (hX : ∀ x ∈ X, x < n) : Found m H' v o := by
  cases o with
  | none => exact a
  | some r =>
    obtain ⟨o, O, h⟩ := a
    exact ⟨o, ownX_keep O S fun i hi => by cases hi; exact fun hx => absurd (hX _ hx) (by omega), by omega⟩
section
variable {main : Bool} {J : JT} {h H : List AObj} {K : Value → List AObj → Prop} {KV : Value → Prop} {HL : List AObj → Prop} {n0 : Nat}
theorem good24 (hJ : Closed prog main J) {v fv : Value} {t : Tro} (ht : TroAt H v t fv) (hl : t.flocks.length < 1000000)
    (hK : ∀ H' fv' o, SameX [] H H' → OwnX H' 2 (t.flocks.flatMap Dro.cells) t.flocks.length fv' (some o) → H.length ≤ o → K (.agg ⟨troCells t fv'⟩) H') : Good prog J 24 [v] H K := by
  refine g24 hJ fun ok => ?_
  rw [e24, ht.val]
  have kf := (sli_val ht.fl).2.2
  refine qBox (tro_one ht) fun H1 p1 e1 S1 c1 l1 => qAl fun H2 p2 e2 S2 c2 l2 => ⟨by decide, fillI (qNew fun H3 p3 e3 S3 c3 l3 => ?_)⟩
  have c3 : H3[p3]? = some (.cells [] true 0) := c3
  have T3 : SameX [] H H3 := (S1.trans S2).trans S3
  have c13 := S3.get (S2.get c1 (by simp)) (by simp)
  have c23 := S3.get c2 (by simp)
  refine offI (ldI (v := fv) c13 rfl kf ⟨by decide, ?_⟩)
  refine appX c3 (by omega) hl (T3.sli ht.fl (by simp)) fun fv' H4 p4 O4 S4 hp4 => offI ?_
  refine qSt (S4.get c13 (by simp)) (by simp [troCells]) (ownX_val O4).1 (ownX_val O4).2.1 fun H5 S5 c5 l5 => ?_
  have hS4 := S4.1
  have O5 := ownX_keep O4 S5 (by intro i hi; cases hi; simp; omega)
  have tA : TroAt H5 (.agg ⟨troCells t fv'⟩) t fv' := ⟨rfl, ownX_sli O5⟩
  refine load_part (c := troCells t fv') c5 (by simp [troCells]) rfl (tro_kn tA) ?_
  refine qStA (c := troCells t fv') (S5.get (S4.get c23 (by simp)) (by simp; omega)) rfl rfl (tro_one tA) fun H6 S6 c6 l6 => ?_
  have O6 := ownX_keep O5 S6 (by intro i hi; cases hi; simp; omega)
  have T6 : SameX [] H H6 := ((T3.trans S4).thru S5 (by simp; omega)).thru S6 (by simp; omega)
  refine retQ_same rfl (resW_cell (gg := true) (s := 4) (by kernel_rfl) ?_)
  refine load_part (c := troCells t fv') c6 (by simp [troCells]) rfl (tro_kn tA) (resW_nil ?_)
  exact hK H6 fv' p4 T6 O6 (by omega)
end
section
variable {main : Bool} {J : JT} {h H : List AObj} {K : Value → List AObj → Prop} {KV : Value → Prop} {n0 : Nat}
theorem good25X (hJ : Closed prog main J) {av : Value} {xs : List Int} (ha : Sli H av 1 xs.length (xs.map vint)) (hl : xs.length < 1000000)
    (hK : ∀ H' v o, SameX [] H H' → OwnX H' 1 (xs.map vint) xs.length v (some o) → H.length ≤ o → K v H') : Good prog J 25 [av] H K := by
  refine g25 hJ fun ok => ?_
  rw [e25]
  refine ⟨by decide, fillI (qNew fun H1 p1 e1 S1 c1 l1 => ⟨by decide, ?_⟩)⟩
  have c1 : H1[p1]? = some (.cells [] true 0) := c1
  refine appX c1 (by omega) hl (S1.sli ha (by simp)) fun v' H2 p' O S hp => retL_same ?_ (hK H2 v' p' (S1.trans S) O (by omega))
  intro v hv
  have : v = v' := by simpa using hv
  subst this
  intro e
  have := (ownX_val O).2.2
  rw [e] at this
  cases this
end
def OwnL (n : Nat) (H : List AObj) (v : Value) (ls : List (List Int)) (o : Option Nat) : Prop :=
  (∀ j, o = some j → n ≤ j) ∧ ∃ cs, OwnX H 1 cs ls.length v o ∧ ∀ (i : Nat) l, ls[i]? = some l → ∃ lv b, cs[i]? = some lv ∧ OwnX H 1 (l.map vint) l.length lv b ∧ ∀ j, b = some j → some j ≠ o ∧ n ≤ j
theorem OwnL.keep {n : Nat} {H H' : List AObj} {v : Value} {ls : List (List Int)} {o : Option Nat} (a : OwnL n H v ls o) (S : SameX [] H H') : OwnL n H' v ls o := by
  obtain ⟨h1, cs, O, he⟩ := a
  refine ⟨h1, cs, ownX_keep O S (by simp), fun i l hl => ?_⟩
  obtain ⟨lv, b, e1, e2, e3⟩ := he i l hl
  exact ⟨lv, b, e1, ownX_keep e2 S (by simp), e3⟩
section
variable {main : Bool} {J : JT} {h H : List AObj} {K : Value → List AObj → Prop} {KV : Value → Prop} {HL : List AObj → Prop} {n0 : Nat}
theorem OwnL.get {n i : Nat} {v : Value} {ls : List (List Int)} {o : Option Nat} (a : OwnL n H v ls o) {l : List Int} (hl : ls[i]? = some l) {K2 : Value → Value → Prop} (hK : ∀ p lv b, OwnX H 1 (l.map vint) l.length lv b → (∀ j, b = some j → n ≤ j) → K2 p lv) : aIdx 1 v (vint (i : Nat)) fun p => aLoad false 1 p H (K2 p) := by
  obtain ⟨h1, cs, O, he⟩ := a
  obtain ⟨lv, b, e1, e2, e3⟩ := he i l hl
  have hi := (List.getElem?_eq_some_iff.1 hl).1
  exact idx_load (ownX_sli O) ⟨by omega, by omega⟩ (by rw [Int.toNat_natCast]; exact e1) fun p => hK p lv b e2 fun j hj => (e3 j hj).2
end
end Go.Proofs.Ytindillghipjjaa
namespace Go.Proofs.Ytindillghipjjaa
open Go.Conc Go.Proofs.Try
structure Ref where
  now : Int
  next : Nat
  out : List Int
end Go.Proofs.Ytindillghipjjaa
namespace Go.Proofs.Ytindillghipjjaa
open Go.Conc Go.Proofs.Try
set_option maxRecDepth 100000
section
variable {h H : List AObj} {K : Value → List AObj → Prop}
theorem OwnL.more {lo : Nat} {H : List AObj} {ls : List (List Int)} {o : Option Nat} {v y wv : Value} {l : List Int} {bf : Nat} {K : Value → List AObj → Prop}
    (L : OwnL lo H v ls o) (hlo : lo ≤ H.length) (hpl : ls.length < 90000) (Of : OwnX H 1 (l.map vint) l.length wv (some bf)) (hbf : lo ≤ bf) (hne : some bf ≠ o) (hyv : Sli H y 1 1 [wv])
    (hK : ∀ v' H' o', SameX o.toList H H' → OwnL lo H' v' (ls ++ [l]) (some o') → H.length ≤ o' → v' ≠ unk → K v' H') : aApp 1 v y H K := by
  obtain ⟨hl0, cs, Oc, he⟩ := L
  have bfl := ownX_lt Of bf rfl
  refine ownX_more Oc (by omega) (by omega) hyv fun v' Hh ph eh Oh Sh => ?_
  have hno : ∀ j, some j ≠ o → j ∉ o.toList := fun j hj hm => hj (by rw [Option.mem_toList.1 hm])
  refine hK v' Hh ph Sh ⟨fun j hj => by cases hj; omega, cs ++ [wv], by rw [List.length_append]; exact Oh, fun m l' hl => ?_⟩ (by omega) ?_
  · have hcl : cs.length = ls.length := by have := Oc.1; omega
    rcases Nat.lt_or_ge m ls.length with hm | hm
    · rw [List.getElem?_append_left hm] at hl
      obtain ⟨lv2, b2, e2, e3, e4⟩ := he m l' hl
      refine ⟨lv2, b2, by rw [List.getElem?_append_left (by omega)]; exact e2, ownX_keep e3 Sh fun j hj => hno j (e4 j hj).1, fun j hj => ⟨?_, (e4 j hj).2⟩⟩
      have := ownX_lt e3 j hj
      intro e
      injection e with e
      omega
    · rw [List.getElem?_append_right hm] at hl
      have hm0 : m - ls.length = 0 := by
        have := (List.getElem?_eq_some_iff.1 hl).1
        simp at this
        omega
      rw [hm0] at hl
      have : l' = l := by simpa using hl.symm
      subst this
      refine ⟨wv, some bf, by rw [List.getElem?_append_right (by omega), hcl, hm0]; rfl, ownX_keep Of Sh fun j hj => ?_, fun j hj => ?_⟩
      · cases hj
        exact hno _ hne
      · cases hj
        refine ⟨fun e => ?_, hbf⟩
        injection e with e
        omega
  · have := (ownX_val Oh).2.2
    intro e
    rw [e] at this
    cases this
theorem OwnL.nil {lo : Nat} : OwnL lo H (.slice none 0 0) [] none := ⟨by simp, [], ⟨rfl, rfl, .inl ⟨rfl, rfl, rfl⟩⟩, by simp⟩
theorem OwnL.lo {n m : Nat} {v : Value} {ls : List (List Int)} {o : Option Nat} (a : OwnL n H v ls o) (h : m ≤ n) : OwnL m H v ls o := by
  obtain ⟨a1, cs, a2, a3⟩ := a
  exact ⟨fun j hj => by have := a1 j hj; omega, cs, a2, fun i l hl => by
    obtain ⟨lv, b, q1, q2, q3⟩ := a3 i l hl
    exact ⟨lv, b, q1, q2, fun j hj => ⟨(q3 j hj).1, by have := (q3 j hj).2; omega⟩⟩⟩
theorem OwnL.lt {n : Nat} {v : Value} {ls : List (List Int)} {o : Option Nat} (a : OwnL n H v ls o) : ∀ j, o = some j → n ≤ j ∧ j < H.length := fun j hj => ⟨a.1 j hj, ownX_lt a.2.choose_spec.1 j hj⟩
theorem OwnL.sli {n : Nat} {v : Value} {ls : List (List Int)} {o : Option Nat} (a : OwnL n H v ls o) : ∃ cs, Sli H v 1 ls.length cs := ⟨_, ownX_sli a.2.choose_spec.1⟩
end
end Go.Proofs.Ytindillghipjjaa
namespace Go.Proofs.Ytindillghipjjaa
open Go.Conc Go.Proofs.Try
set_option maxRecDepth 100000
set_option maxHeartbeats 4000000
set_option linter.unusedVariables false
section
variable {main : Bool} {J : JT} {n0 : Nat} {h : List AObj} {K : Value → List AObj → Prop}
theorem at6 : prog.funcs[6]? = some f6 := by kernel_rfl
theorem body6 : f6.body = some (codeOf f6) := by kernel_rfl
def pl6 : Plans := [(14, true, .take 0 (.take 1 (.take 2 (.take 3 (.take 4 (.take 5 (.last 6 false (.take 7 (.fin))))))))),
  (15, true, .take 0 (.take 1 (.take 2 (.take 3 (.take 4 (.take 5 (.take 6 (.take 7 (.take 8 (.take 9 (.take 10 (.take 11 (.take 12 (.last 13 false (.take 14 (.take 15 (.take 16 (.fin)))))))))))))))))),
  (19, false, .take 0 (.take 1 (.take 2 (.take 3 (.take 4 (.take 5 (.take 6 (.take 7 (.last 8 true (.take 9 (.take 10 (.take 11 (.take 12 (.take 13 (.take 14 (.take 15 (.take 16 (.take 17 (.last 18 true (.take 19 (.take 20 (.take 21 (.last 22 true (.take 23 (.take 24 (.fin))))))))))))))))))))))))))]
def ct6 : Cuts := .bin (.go) (.bin (.go) (.bin (.go) (.bin (.go) (.bin (.go) (.bin (.go) (.bin (.go) (.bin (.go) (.bin (.bin (.go) (.un (.un (.bin (.go) (.bin (.un (.bin (.go) (.bin (.go) (.cut (.go))))) (.go)))))) (.go)))))))))
theorem pok6 : plansOk prog pl6 (codeOf f6) = true := by kernel_rfl
theorem e6 {a0 : Value} : W prog J 120 h.length 6 (codeOf f6) (RG.mk (regs [a0]) []) h (RetQ prog [.tmp 2] h.length K) =
(Good prog J 20 [a0] h fun v1 h2 =>
Good prog J 21 [v1, (vint 3), (vint 20)] h2 fun v3 h4 =>
aAlloc [(vint 0), (vint 0), (vint 0), (Value.slice none 0 0)] h4 fun v5 h6 =>
aStore 4 v5 v3 h6 fun h7 =>
Sem J 120 h.length 6 (subC [1, 1, 1, 1, 0, 1, 0] (codeOf f6)) (RG.p (RG.p (RG.p (RG.p (RG.p (RG.p (RG.p (RG.p (RG.p (RG.p (RG.mk (regs [a0]) []) 2 (Value.bool false)) 15 a0) 16 v1) 3 v1) 17 v1) 18 v3) 4 v5) 5 (Value.slice none 0 0)) 6 (Value.slice none 0 0)) 7 (vint 0)) h7 (contX pl6 prog J 120 h.length 6 ct6 [1, 1, 1, 1, 0, 1, 0] (codeOf f6) [] (RetQ prog [.tmp 2] h.length K))) := top_eq pok6 ct6 (by kernel_rfl)
theorem g6 (hJ : Closed prog main J) {a0 : Value} (hs : heapOk h → W prog J 120 h.length 6 (codeOf f6) (RG.mk (regs [a0]) []) h (RetQ prog [.tmp 2] h.length K)) : Good prog J 6 [a0] h K :=
  good_of_W hJ mixed at6 body6 (by kernel_rfl) (Nat.le_of_ble_eq_true rfl) hs
end
end Go.Proofs.Ytindillghipjjaa
namespace Go.Proofs.Ytindillghipjjaa
open Go.Conc Go.Proofs.Try
set_option maxRecDepth 100000
def Best (t : Tro) (cs : List Int) (H : List AObj) (i : Nat) (a b : Value) : Prop :=
  (pickTo (waits26 t cs) i < 0 ∧ a = .slice none 0 0 ∧ b = vint (-1)) ∨ ∃ (j : Nat) (os : List Nat), pickTo (waits26 t cs) i = j ∧ (allOf26 cs)[j]? = some os ∧ Sli H a 1 os.length (nvs os) ∧ a ≠ unk ∧ b = vint ((waits26 t cs).getD j 0)
theorem Best.same {t : Tro} {cs : List Int} {H H' : List AObj} {i : Nat} {a b : Value} (B : Best t cs H i a b) (S : SameX [] H H') : Best t cs H' i a b := by
  rcases B with h | ⟨j, os, h1, h2, h3, h4, h5⟩
  · exact .inl h
  · exact .inr ⟨j, os, h1, h2, S.sli h3 (by simp), h4, h5⟩
structure Sm (h H : List AObj) : Prop where
  len : h.length ≤ H.length
  get : ∀ (i : Nat) (x : AObj), h[i]? = some x → H[i]? = some x ∨ (∃ cap, x = .chan cap) ∧ H[i]? = some .dead
theorem Sm.refl {h : List AObj} : Sm h h := ⟨Nat.le_refl _, fun _ _ h => .inl h⟩
theorem Sm.of {h H : List AObj} (S : SameX [] h H) : Sm h H := ⟨S.1, fun i x hx => .inl (S.get hx (by simp))⟩
theorem Sm.unch {h H : List AObj} (S : SameX [] (unch h) H) : Sm h H := ⟨by have := S.1; rwa [unch_len] at this, fun i x hx => by
  have h1 : (Go.Proofs.Ytindillghipjjaa.unch h)[i]? = some (unchO x) := by
    unfold Go.Proofs.Ytindillghipjjaa.unch
    rw [List.getElem?_map, hx]
    rfl
  have h2 := S.get h1 (by simp)
  cases x with
  | chan cap => exact .inr ⟨⟨cap, rfl⟩, h2⟩
  | _ => exact .inl h2⟩
theorem Sm.trans {h H G : List AObj} (a : Sm h H) (b : Sm H G) : Sm h G := ⟨Nat.le_trans a.1 b.1, fun i x hx => by
  rcases a.2 i x hx with h1 | ⟨h1, h2⟩
  · exact b.2 i x h1
  · rcases b.2 i _ h2 with h3 | ⟨⟨cap, h3⟩, _⟩
    · exact .inr ⟨h1, h3⟩
    · cases h3⟩
theorem Sm.at {h H : List AObj} (a : Sm h H) {i : Nat} {c : List Value} {wr : Bool} {sz : Nat} (hx : h[i]? = some (.cells c wr sz)) : H[i]? = some (.cells c wr sz) := by
  rcases a.2 i _ hx with h1 | ⟨⟨cap, h1⟩, _⟩
  · exact h1
  · cases h1
theorem Sm.sli {h H : List AObj} (a : Sm h H) {v : Value} {s n : Nat} {cs : List Value} (hs : Sli h v s n cs) : Sli H v s n cs := by
  obtain ⟨base, c, rfl, hk, hh⟩ := hs
  refine ⟨base, c, rfl, hk, hh.imp id ?_⟩
  rintro ⟨b, o, e, h0⟩
  exact ⟨b, o, e, h0.imp id fun ⟨cs, wr, sz, hb, ht⟩ => ⟨cs, wr, sz, a.at hb, ht⟩⟩
end Go.Proofs.Ytindillghipjjaa
namespace Go.Proofs.Ytindillghipjjaa
open Go.Conc Go.Proofs.Try
set_option maxRecDepth 100000
set_option maxHeartbeats 4000000
set_option linter.unusedVariables false
section
variable {main : Bool} {J : JT} {n0 : Nat} {h : List AObj} {K : Value → List AObj → Prop}
theorem at29 : prog.funcs[29]? = some f29 := by kernel_rfl
theorem body29 : f29.body = some (codeOf f29) := by kernel_rfl
def pl29 : Plans := [(6, true, .take 0 (.take 1 (.take 2 (.take 3 (.take 4 (.take 5 (.take 6 (.take 7 (.take 8 (.take 9 (.take 10 (.fin))))))))))))]
def ct29 : Cuts := .bin (.go) (.bin (.bin (.go) (.cut (.go))) (.go))
theorem pok29 : plansOk prog pl29 (codeOf f29) = true := by kernel_rfl
theorem e29 {a0 a1 : Value} : W prog J 38 h.length 29 (codeOf f29) (RG.mk (regs [a0, a1]) []) h (RetQ prog [.tmp 4] h.length K) =
(aBox a0 h fun v1 h2 =>
aBox a1 h2 fun v3 h4 =>
aOff v1 0 fun v5 =>
aLoad true 3 v5 h4 fun v6 =>
aOff v3 0 fun v7 =>
aLoad true 3 v7 h4 fun v8 =>
aBin prog .neq 23 v6 v8 fun v9 =>
cnd v9
(Hold (W prog J 38 h.length 29 (subC [1, 0, 1] (codeOf f29)) (RG.p (RG.p (RG.p (RG.p (RG.p (RG.p (RG.p (RG.p (RG.p (RG.p (RG.p (RG.p (RG.p (RG.p (RG.p (RG.p (RG.p (RG.p (RG.mk (regs [a0, a1]) []) 2 v1) 3 v3) 4 (Value.bool false)) 6 v5) 7 v6) 8 v7) 9 v8) 10 v9) 11 v9) 11 (Value.bool true)) 12 undef) 13 undef) 14 undef) 15 undef) 16 undef) 17 undef) 18 undef) 19 (Value.bool true)) h4 (contX pl29 prog J 38 h.length 29 ct29 [1, 0, 1] (codeOf f29) [] (RetQ prog [.tmp 4] h.length K))))
(aOff v1 3 fun v10 =>
aLoad false 1 v10 h4 fun v11 =>
aLenS v11 fun v12 =>
aOff v3 3 fun v13 =>
aLoad false 1 v13 h4 fun v14 =>
aLenS v14 fun v15 =>
aBin prog .neq 3 v12 v15 fun v16 =>
Hold (W prog J 38 h.length 29 (subC [1, 0, 1] (codeOf f29)) (RG.p (RG.p (RG.p (RG.p (RG.p (RG.p (RG.p (RG.p (RG.p (RG.p (RG.p (RG.p (RG.p (RG.p (RG.p (RG.p (RG.p (RG.p (RG.mk (regs [a0, a1]) []) 2 v1) 3 v3) 4 (Value.bool false)) 6 v5) 7 v6) 8 v7) 9 v8) 10 v9) 11 v9) 11 (Value.bool false)) 12 v10) 13 v11) 14 v12) 15 v13) 16 v14) 17 v15) 18 v16) 19 v16) h4 (contX pl29 prog J 38 h.length 29 ct29 [1, 0, 1] (codeOf f29) [] (RetQ prog [.tmp 4] h.length K))))) := top_eq pok29 ct29 (by kernel_rfl)
theorem g29 (hJ : Closed prog main J) {a0 a1 : Value} (hs : heapOk h → W prog J 38 h.length 29 (codeOf f29) (RG.mk (regs [a0, a1]) []) h (RetQ prog [.tmp 4] h.length K)) : Good prog J 29 [a0, a1] h K :=
  good_of_W hJ mixed at29 body29 (by kernel_rfl) (Nat.le_of_ble_eq_true rfl) hs
theorem s29_1 {f : RG} : W prog J 38 n0 29 (subC [1, 0, 1] (codeOf f29)) f h (contX pl29 prog J 38 n0 29 ct29 [1, 0, 1] (codeOf f29) [] (RetQ prog [.tmp 4] n0 K)) =
(cnd (f.r 19)
(retL n0 K f.ds [(Value.bool false)] h)
(Sem J 38 n0 29 (subC [1, 1, 0, 1, 0] (codeOf f29)) (RG.p f 5 (vint 0)) h (contX pl29 prog J 38 n0 29 ct29 [1, 1, 0, 1, 0] (codeOf f29) [] (RetQ prog [.tmp 4] n0 K)))) := sub_eq pok29 ct29 (by kernel_rfl)
theorem s29_2 {f : RG} {nx0 : RG → List AObj → Prop} : W prog J 38 n0 29 (subC [1, 1, 0, 1, 0, 0] (codeOf f29)) f h (thenK nx0 (contX pl29 prog J 38 n0 29 ct29 [1, 1, 0, 1, 0] (codeOf f29) [] (RetQ prog [.tmp 4] n0 K))) =
(aOff (f.r 2) 3 fun v1 =>
aLoad false 1 v1 h fun v2 =>
aLenS v2 fun v3 =>
aBin prog .lss 3 (f.r 5) v3 fun v4 =>
cnd v4
(aOff (f.r 2) 3 fun v5 =>
aLoad false 1 v5 h fun v6 =>
aIdx 2 v6 (f.r 5) fun v7 =>
aLoad true 2 v7 h fun v8 =>
aOff (f.r 3) 3 fun v9 =>
aLoad false 1 v9 h fun v10 =>
aIdx 2 v10 (f.r 5) fun v11 =>
aLoad true 2 v11 h fun v12 =>
aBin prog .neq 74 v8 v12 fun v13 =>
cnd v13
(retL n0 K f.ds [(Value.bool false)] h)
(aBin prog .add 3 (f.r 5) (vint 1) fun v14 =>
nx0 (RG.p (RG.p (RG.p (RG.p (RG.p (RG.p (RG.p (RG.p (RG.p (RG.p (RG.p (RG.p (RG.p (RG.p (RG.p (RG.p (RG.p (RG.p (RG.p f 20 (f.r 5)) 21 v1) 22 v2) 23 v3) 24 v4) 27 v5) 28 v6) 29 (f.r 5)) 30 v7) 31 v8) 32 v9) 33 v10) 34 (f.r 5)) 35 v11) 36 v12) 37 v13) 25 (f.r 5)) 26 v14) 5 v14) h))
(retL n0 K f.ds [(Value.bool true)] h)) := sub_eq pok29 ct29 (by kernel_rfl)
theorem l29_2 (hJ : Closed prog main J) {S : Type} (μ : S → Nat) (I : S → RG → List AObj → Prop) (hI : ∀ s f h, I s f h → heapOk h → n0 ≤ h.length → W prog J 38 n0 29 (subC [1, 1, 0, 1, 0, 0] (codeOf f29)) f h (thenK (Nx n0 μ I s) (contX pl29 prog J 38 n0 29 ct29 [1, 1, 0, 1, 0] (codeOf f29) [] (RetQ prog [.tmp 4] n0 K))))
  {s : S} {f : RG} (hi : Gets n0 I s f h) : Sem J 38 n0 29 (subC [1, 1, 0, 1, 0] (codeOf f29)) f h (contX pl29 prog J 38 n0 29 ct29 [1, 1, 0, 1, 0] (codeOf f29) [] (RetQ prog [.tmp 4] n0 K)) :=
  loop_rule hJ mixed (b := subC [1, 1, 0, 1, 0, 0] (codeOf f29)) (by kernel_rfl) μ I hI hi
theorem at18 : prog.funcs[18]? = some f18 := by kernel_rfl
theorem body18 : f18.body = some (codeOf f18) := by kernel_rfl
def pl18 : Plans := []
def ct18 : Cuts := .go
theorem pok18 : plansOk prog pl18 (codeOf f18) = true := by kernel_rfl
theorem e18 {a0 a1 : Value} : W prog J 14 h.length 18 (codeOf f18) (RG.mk (regs [a0, a1]) []) h (RetQ prog [.tmp 4] h.length K) =
(aBox a0 h fun v1 h2 =>
aOff v1 3 fun v3 =>
aLoad false 1 v3 h2 fun v4 =>
aLenS v4 fun v5 =>
aBin prog .gtr 3 v5 (vint 20) fun v6 =>
cnd v6
(retL h.length K [] [(Value.bool true)] h2)
(aLenS a1 fun v7 =>
aBin prog .gtr 3 v7 (vint 20) fun v8 =>
retL h.length K [] [v8] h2)) := top_eq pok18 ct18 (by kernel_rfl)
theorem g18 (hJ : Closed prog main J) {a0 a1 : Value} (hs : heapOk h → W prog J 14 h.length 18 (codeOf f18) (RG.mk (regs [a0, a1]) []) h (RetQ prog [.tmp 4] h.length K)) : Good prog J 18 [a0, a1] h K :=
  good_of_W hJ mixed at18 body18 (by kernel_rfl) (Nat.le_of_ble_eq_true rfl) hs
end
end Go.Proofs.Ytindillghipjjaa
namespace Go.Proofs.Ytindillghipjjaa
open Go.Conc Go.Proofs.Try
set_option maxRecDepth 100000
theorem teqW (a b c d e f : Int) : teq prog 10000 23 (.agg ⟨[vint a, vint b, vint c]⟩) (.agg ⟨[vint d, vint e, vint f]⟩) =
    (match some (a == d) with
    | some true => (match some (b == e) with
      | some true => (match some (c == f) with
        | some true => some true
        | some false => some false
        | none => none)
      | some false => some false
      | none => none)
    | some false => some false
    | none => none) := by kernel_rfl
theorem teqW_same (w : Wel) : teq prog 10000 23 (.agg ⟨w.cells⟩) (.agg ⟨w.cells⟩) = some true := by
  unfold Wel.cells
  rw [teqW]
  simp
theorem teqD (a b c d : Int) : teq prog 10000 74 (.agg ⟨[vint a, vint b]⟩) (.agg ⟨[vint c, vint d]⟩) =
    (match some (a == c) with
    | some true => (match some (b == d) with
      | some true => some true
      | some false => some false
      | none => none)
    | some false => some false
    | none => none) := by kernel_rfl
theorem teqD_same (d : Dro) : teq prog 10000 74 (.agg ⟨d.cells⟩) (.agg ⟨d.cells⟩) = some true := by
  unfold Dro.cells
  rw [teqD]
  simp
section
variable {main : Bool} {J : JT} {h H : List AObj} {K : Value → List AObj → Prop} {KV : Value → Prop} {HL : List AObj → Prop} {n0 : Nat}
theorem neqSame {t : TypeId} {c : Array Value} (ht : teq prog 10000 t (.agg c) (.agg c) = some true) (hg : prog.eqGuardType prog.depth t = false) (hk : KV (.bool false)) : aBin prog .neq t (.agg c) (.agg c) KV := by
  show aEq prog true t (.agg c) (.agg c) KV
  unfold aEq
  rw [ht]
  exact ⟨hg, hk⟩
theorem good18 (hJ : Closed prog main J) {v fv rv : Value} {t : Tro} {r : List Int} (ht : TroAt H v t fv) (hr : Sli H rv 1 r.length (r.map vint)) (hK : ∀ H', SameX [] H H' → K (.bool (decide ((t.flocks.length : Int) > 20 ∨ (r.length : Int) > 20))) H') : Good prog J 18 [v, rv] H K := by
  refine g18 hJ fun ok => ?_
  rw [e18, ht.val]
  have kf := (sli_val ht.fl).2.2
  refine qBox (tro_one ht) fun H1 p1 e1 S1 c1 l1 => offI (ldI (v := fv) c1 rfl kf (lenI (S1.sli ht.fl (by simp)) (gtrI (cndI (fun h1 => ?_) fun h1 => lenI (S1.sli hr (by simp)) (gtrI ?_)))))
  · have := hK H1 S1
    rw [decide_eq_true (show (t.flocks.length : Int) > 20 ∨ (r.length : Int) > 20 from .inl h1)] at this
    exact retL_same (by simp [unk]) this
  · have := hK H1 S1
    rw [show decide ((t.flocks.length : Int) > 20 ∨ (r.length : Int) > 20) = decide ((r.length : Int) > 20) from decide_eq_decide.2 ⟨fun h => h.resolve_left h1, .inr⟩] at this
    exact retL_same (by simp [unk]) this
theorem good29 (hJ : Closed prog main J) {v w fv gv : Value} {t : Tro} (ht : TroAt H v t fv) (hw : TroAt H w t gv) (hl : t.flocks.length < 1000000) (hK : ∀ H', SameX [] H H' → K (.bool true) H') : Good prog J 29 [v, w] H K := by
  refine g29 hJ fun ok => ?_
  rw [e29, ht.val, hw.val]
  have kf := (sli_val ht.fl).2.2
  have kg := (sli_val hw.fl).2.2
  refine qBox (tro_one ht) fun H1 p1 e1 S1 c1 l1 => qBox (tro_one hw) fun H2 p2 e2 S2 c2 l2 => ?_
  have c12 := S2.get c1 (by simp)
  have T2 := S1.trans S2
  have st : SliE H2 fv 2 Dro.cells t.flocks := T2.sli ht.fl (by simp)
  have sw : SliE H2 gv 2 Dro.cells t.flocks := T2.sli hw.fl (by simp)
  refine offI (load_part (c := t.well.cells) c12 (by simp [troCells]) rfl rfl (offI (load_part (c := t.well.cells) c2 (by simp [troCells]) rfl rfl ?_)))
  refine neqSame (teqW_same t.well) (by kernel_rfl) (cnd_false.2 ?_)
  refine offI (ldI (v := fv) c12 rfl kf (lenI st (offI (ldI (v := gv) c2 rfl kg (lenI sw (neqI (hold.2 ?_)))))))
  rw [s29_1]
  have e : ∀ {A B : Prop}, B → cnd (Value.bool (decide ((t.flocks.length : Int) ≠ t.flocks.length))) A B := fun hB => cndI (fun hx => absurd rfl hx) fun _ => hB
  refine e ?_
  refine l29_2 hJ (fun i : Nat => t.flocks.length - i) (fun i F H' => H' = H2 ∧ i ≤ t.flocks.length ∧ F.ds = [] ∧ F.r 2 = ptr p1 0 ∧ F.r 3 = ptr p2 0 ∧ F.r 5 = vint (i : Nat)) ?_ (s := 0)
    (.inl ⟨rfl, by omega, rfl, rfl, rfl, rfl⟩)
  rintro i F H' ⟨rfl, hi, ds, r2, r3, r5⟩ okc hnc
  rw [s29_2, r2, r3, r5, ds]
  refine offI (ldI (v := fv) c12 rfl kf (lenI st (lssI (cndI (fun hlt => ?_) fun hge => retL_same (by simp [unk]) (hK H' T2)))))
  have hil : i < t.flocks.length := by omega
  obtain ⟨b, o, cs, wr, sz, hidx, hb, hol, hft, hkn⟩ := sliE_elem dro_len (by omega) st hil
  obtain ⟨b', o', cs', wr', sz', hidx', hb', hol', hft', hkn'⟩ := sliE_elem dro_len (by omega) sw hil
  refine offI (ldI (v := fv) c12 rfl kf (hidx _ (load_part hb hol hft hkn ?_)))
  refine offI (ldI (v := gv) c2 rfl kg (hidx' _ (load_part hb' hol' hft' hkn' ?_)))
  refine neqSame (teqD_same t.flocks[i]) (by kernel_rfl) (cnd_false.2 ?_)
  exact addI (by omega) ⟨i + 1, by dsimp only; omega, .inl ⟨rfl, by omega, ds, r2, r3, by show vint _ = vint _; congr 1⟩⟩
end
abbrev TF := Tro × Value
def tfC (x : TF) : List Value := troCells x.1 x.2
theorem tfC_len (x : TF) : (tfC x).length = 4 := rfl
theorem tf12 {z0 z1 z2 z3 a0 a1 a2 a3 b0 b1 b2 b3 c0 c1 c2 c3 : Value} :
    wrAt (wrAt (wrAt (zrep [z0, z1, z2, z3] 3) 0 [a0, a1, a2, a3]) 4 [b0, b1, b2, b3]) 8 [c0, c1, c2, c3] = [a0, a1, a2, a3, b0, b1, b2, b3, c0, c1, c2, c3] := by kernel_rfl
theorem tz12 {z0 z1 z2 z3 : Value} : (zrep [z0, z1, z2, z3] 3).length = 12 := by kernel_rfl
theorem fillT {x y z : TF} {KL : List Value → Prop} (hx : (tfC x).all one = true) (hy : (tfC y).all one = true) (hz : (tfC z).all one = true) (hk : KL ([x, y, z].flatMap tfC)) :
    aFill (zrep [vint 0, vint 0, vint 0, .slice none 0 0] 3) [(0, 4, .agg ⟨tfC x⟩), (4, 4, .agg ⟨tfC y⟩), (8, 4, .agg ⟨tfC z⟩)] KL := by
  unfold aFill
  refine ⟨rfl, hx, by rw [tz12]; decide, ?_⟩
  unfold aFill
  refine ⟨rfl, hy, by rw [wrAt_length, tz12]; decide, ?_⟩
  unfold aFill
  refine ⟨rfl, hz, by rw [wrAt_length, wrAt_length, tz12]; decide, ?_⟩
  unfold aFill
  show KL (wrAt (wrAt (wrAt _ 0 (tfC x)) 4 (tfC y)) 8 (tfC z))
  unfold tfC troCells
  rw [tf12]
  exact hk
theorem t3v {z a b c : Value} : wrAt (wrAt (wrAt (zrep [z] 3) 0 [a]) 1 [b]) 2 [c] = [a, b, c] := by kernel_rfl
theorem tz3 {z : Value} : (zrep [z] 3).length = 3 := by kernel_rfl
theorem fillV {a b c z : Value} {KL : List Value → Prop} (ha : a.cells = #[a] ∧ one a = true) (hb : b.cells = #[b] ∧ one b = true) (hc : c.cells = #[c] ∧ one c = true) (hk : KL [a, b, c]) :
    aFill (zrep [z] 3) [(0, 1, a), (1, 1, b), (2, 1, c)] KL := by
  refine fill_one (l := [a]) (by rw [ha.1]) rfl (by simp [ha.2]) (by rw [tz3]; decide) ?_
  refine fill_one (l := [b]) (by rw [hb.1]) rfl (by simp [hb.2]) (by rw [wrAt_length, tz3]; decide) ?_
  refine fill_one (l := [c]) (by rw [hc.1]) rfl (by simp [hc.2]) (by rw [wrAt_length, wrAt_length, tz3]; decide) ?_
  unfold aFill
  rw [t3v]
  exact hk
theorem levelsA_few (t : Tro) (r : List Int) (n : Int) : (levelsA t r n).length ≤ 48 := by
  unfold levelsA
  split
  · rename_i h
    unfold hrsE at h
    split at h
    · omega
    · split at h
      · simp [levelsR]
        omega
      · cases h
  · exact Nat.zero_le _
theorem dryA_few (t : Tro) (r : List Int) (n : Int) : (dryA t r n).length ≤ 48 := by
  unfold dryA
  split
  · rename_i h
    unfold hrsE at h
    split at h
    · omega
    · split at h
      · unfold dryR
        rw [List.length_map]
        have := List.length_filter_le (fun i => decide (dry t r i)) (List.range n.toNat)
        rw [List.length_range] at this
        omega
      · cases h
  · exact Nat.zero_le _
structure In8 (H0 : List AObj) (p11 p12 p13 i : Nat) (t : Tro) (fv sv : Value) (cs : List Int) (n : Int) : Prop where
  h11 : ∃ cells, H0[p11]? = some (.cells cells true 0) ∧ cells.length = 12 ∧ (cells.drop (i * 4)).take 4 = troCells t fv
  h12 : ∃ sc, H0[p12]? = some (.cells sc true 0) ∧ sc[i]? = some sv
  h13 : ∃ nc, H0[p13]? = some (.cells nc true 0) ∧ nc[i]? = some (vint n)
  hi : i < 3
  tx : TroAt H0 (.agg ⟨troCells t fv⟩) t fv
  ty : Sli H0 sv 1 cs.length (cs.map vint)
  b1 : t.flocks.length ≤ 20
  b2 : cs.length ≤ 20
structure Own8 (H : List AObj) (p15 : Nat) (t : Tro) (fv' w : Value) (cs : List Int) : Prop where
  c : H[p15]? = some (.cells (troCells t fv') true 0)
  to : TroAt H (.agg ⟨troCells t fv'⟩) t fv'
  so : Sli H w 1 cs.length (cs.map vint)
theorem Own8.same {H H' : List AObj} {p15 : Nat} {t : Tro} {fv' w : Value} {cs : List Int} (a : Own8 H p15 t fv' w cs) (S : SameX [] H H') : Own8 H' p15 t fv' w cs := ⟨S.get a.c (by simp), troAt_same a.to S (by simp), S.sli a.so (by simp)⟩
structure R8 (p11 p12 p13 p15 i : Nat) (w : Value) (F : RG) : Prop where
  ds : F.ds = []
  r11 : F.r 11 = .slice (some ⟨p11, 0, none⟩) 3 3
  r12 : F.r 12 = .slice (some ⟨p12, 0, none⟩) 3 3
  r13 : F.r 13 = .slice (some ⟨p13, 0, none⟩) 3 3
  r14 : F.r 14 = vint (i : Nat)
  r15 : F.r 15 = ptr p15 0
  r16 : F.r 16 = w
section
variable {main : Bool} {J : JT} {h H H0 : List AObj} {K : Value → List AObj → Prop} {n0 : Nat} {nx0 : RG → List AObj → Prop}
variable {p11 p12 p13 p15 i : Nat} {t : Tro} {fv fv' sv w : Value} {cs : List Int} {n : Int} {F : RG}
theorem In8.x (I : In8 H0 p11 p12 p13 i t fv sv cs n) {KI : Value → Value → Prop} (S : SameX [] H0 H) (hk : ∀ o, KI (ptr p11 o) (.agg ⟨troCells t fv⟩)) : aIdx 4 (.slice (some ⟨p11, 0, none⟩) 3 3) (vint (i : Nat)) fun v => aLoad true 4 v H (KI v) := by
  obtain ⟨cells, h1, h2, h3⟩ := I.h11
  have hi := I.hi
  refine idxI ⟨by omega, by omega⟩ ?_
  rw [Int.toNat_natCast, Nat.zero_add]
  exact load_part (c := troCells t fv) (S.get h1 (by simp)) (by omega) h3 (tro_kn I.tx) (hk _)
theorem In8.y (I : In8 H0 p11 p12 p13 i t fv sv cs n) {KI : Value → Value → Prop} (S : SameX [] H0 H) (hk : ∀ o, KI (ptr p12 o) sv) : aIdx 1 (.slice (some ⟨p12, 0, none⟩) 3 3) (vint (i : Nat)) fun v => aLoad false 1 v H (KI v) := by
  obtain ⟨sc, h1, h2⟩ := I.h12
  have hi := I.hi
  refine idxI ⟨by omega, by omega⟩ ?_
  rw [Int.toNat_natCast, Nat.zero_add, Nat.mul_one]
  exact ldI (S.get h1 (by simp)) h2 (sli_val I.ty).2.2 (hk _)
theorem In8.z (I : In8 H0 p11 p12 p13 i t fv sv cs n) {KI : Value → Value → Prop} (S : SameX [] H0 H) (hk : ∀ o, KI (ptr p13 o) (vint n)) : aIdx 1 (.slice (some ⟨p13, 0, none⟩) 3 3) (vint (i : Nat)) fun v => aLoad false 1 v H (KI v) := by
  obtain ⟨sc, h1, h2⟩ := I.h13
  have hi := I.hi
  refine idxI ⟨by omega, by omega⟩ ?_
  rw [Int.toNat_natCast, Nat.zero_add, Nat.mul_one]
  exact ldI (S.get h1 (by simp)) h2 rfl (hk _)
theorem same28' (hJ : Closed prog main J) {av bv : Value} {l : List Int} (ha : Sli H av 1 l.length (l.map vint)) (hb : Sli H bv 1 l.length (l.map vint)) (hl : l.length < 1000000) (hK : K (.bool true) H) : Good prog J 28 [av, bv] H K :=
  good28 hJ ha hb (by omega) (by rw [decide_eq_true rfl]; exact hK)
theorem body8_5 (hJ : Closed prog main J) {L1 L2 : List Int} {v17 v19 v21 v23 : Value} {e1 e2 : Int} (I : In8 H0 p11 p12 p13 i t fv sv cs n) (S : SameX [] H0 H) (O : Own8 H p15 t fv' w cs) (R : R8 p11 p12 p13 p15 i w F)
    (l1 : L1.length ≤ 48) (l2 : L2.length ≤ 48) (s17 : Sli H v17 1 L1.length (L1.map vint)) (s19 : Sli H v19 1 L1.length (L1.map vint)) (s21 : Sli H v21 1 L2.length (L2.map vint)) (s23 : Sli H v23 1 L2.length (L2.map vint))
    (q17 : F.r 17 = v17) (q18 : F.r 18 = vint e1) (q19 : F.r 19 = v19) (q20 : F.r 20 = vint e1) (q21 : F.r 21 = v21) (q22 : F.r 22 = vint e2) (q23 : F.r 23 = v23) (q24 : F.r 24 = vint e2)
    (hnx : ∀ F' H', SameX [] H H' → F'.ds = [] → F'.r 11 = .slice (some ⟨p11, 0, none⟩) 3 3 → F'.r 12 = .slice (some ⟨p12, 0, none⟩) 3 3 → F'.r 13 = .slice (some ⟨p13, 0, none⟩) 3 3 → F'.r 14 = vint ((i + 1 : Nat) : Int) → nx0 F' H') :
    W prog J 165 n0 8 (subC [1, 1, 1, 1, 1, 0, 1, 0, 0, 1, 0, 0, 1, 1, 1, 1, 1] (codeOf f8)) F H (contX pl8 prog J 165 n0 8 ct8 [1, 1, 1, 1, 1, 0, 1, 0, 0, 1, 0, 0, 1, 1, 1, 1, 1] (codeOf f8) [nx0] (RetQ prog [.tmp 8] n0 K)) := by
  rw [s8_5, R.r11, R.r12, R.r14, R.r15, R.r16, q17, q18, q19, q20, q21, q22, q23, q24]
  have hb1 := I.b1
  have hb2 := I.b2
  have hi := I.hi
  have ko : kn (troCells t fv') = true := tro_kn O.to
  have tx := troAt_same I.tx S (by simp)
  have l15 := lt_of_get O.c
  obtain ⟨xc, hx1, _⟩ := I.h11
  obtain ⟨yc, hy1, _⟩ := I.h12
  have l11 := lt_of_get (S.get hx1 (by simp))
  have l12 := lt_of_get (S.get hy1 (by simp))
  have sb : ∀ {H''}, SameX [] H H'' → SameB (some [p15, p11, p12]) H H'' := fun S'' b hb => S''.2 b (by
    simp at hb
    rcases hb with rfl | rfl | rfl <;> omega) (by simp)
  refine ⟨[p15, p11, p12], load_part (c := troCells t fv') O.c (by simp [troCells]) rfl ko ⟨by simp [RdOk, ptr, ptrBlk], ?_⟩⟩
  refine I.x S fun o => ⟨by simp [RdOk, ptr, ptrBlk], ?_⟩
  refine good48 hJ O.to ⟨fun _ _ => rfl, ?_⟩
  refine good49 hJ tx (by omega) fun H2 S2 => ⟨sb S2, ?_⟩
  refine neqI (cndI (fun hx => absurd rfl hx) fun _ => neqI (cndI (fun hx => absurd rfl hx) fun _ => neqI (cndI (fun hx => absurd rfl hx) fun _ => ?_)))
  refine same28' hJ (S2.sli s17 (by simp)) (S2.sli s19 (by simp)) (by omega) ⟨sb S2, notI (cnd_false.2 ?_)⟩
  refine same28' hJ (S2.sli s21 (by simp)) (S2.sli s23 (by simp)) (by omega) ⟨sb S2, notI (cnd_false.2 ?_)⟩
  have O2 := O.same S2
  refine load_part (c := troCells t fv') O2.c (by simp [troCells]) rfl ko ⟨by simp [RdOk, ptr, ptrBlk], ?_⟩
  refine I.x (S.trans S2) fun o => ⟨by simp [RdOk, ptr, ptrBlk], ?_⟩
  refine good29 hJ O2.to (troAt_same tx S2 (by simp)) (by omega) fun H4 S4 => ⟨sb (S2.trans S4), notI (cnd_false.2 ?_)⟩
  have S24 := S2.trans S4
  refine I.y (S.trans S24) fun o => ⟨by simp [RdOk, ptr, ptrBlk], ?_⟩
  refine same28' hJ (O.same S24).so ((S.trans S24).sli I.ty (by simp)) (by omega) ⟨sb S24, notI (hold.2 ?_)⟩
  rw [s8_6]
  show cnd (.bool false) _ _
  refine cnd_false.2 ?_
  show aBin prog .add 3 (F.r 14) (vint 1) _
  rw [R.r14]
  refine addI (by omega) ?_
  exact hnx _ H4 S24 R.ds R.r11 R.r12 R.r13 (by show vint _ = vint _; congr 1)
theorem body8_4 (hJ : Closed prog main J) {L1 : List Int} {v17 v19 : Value} {e1 : Int} (I : In8 H0 p11 p12 p13 i t fv sv cs n) (S : SameX [] H0 H) (O : Own8 H p15 t fv' w cs) (R : R8 p11 p12 p13 p15 i w F)
    (l1 : L1.length ≤ 48) (s17 : Sli H v17 1 L1.length (L1.map vint)) (s19 : Sli H v19 1 L1.length (L1.map vint))
    (q17 : F.r 17 = v17) (q18 : F.r 18 = vint e1) (q19 : F.r 19 = v19) (q20 : F.r 20 = vint e1)
    (hnx : ∀ F' H', SameX [] H H' → F'.ds = [] → F'.r 11 = .slice (some ⟨p11, 0, none⟩) 3 3 → F'.r 12 = .slice (some ⟨p12, 0, none⟩) 3 3 → F'.r 13 = .slice (some ⟨p13, 0, none⟩) 3 3 → F'.r 14 = vint ((i + 1 : Nat) : Int) → nx0 F' H') :
    W prog J 165 n0 8 (subC [1, 1, 1, 1, 1, 0, 1, 0, 0, 1, 0, 0, 1, 1, 1] (codeOf f8)) F H (contX pl8 prog J 165 n0 8 ct8 [1, 1, 1, 1, 1, 0, 1, 0, 0, 1, 0, 0, 1, 1, 1] (codeOf f8) [nx0] (RetQ prog [.tmp 8] n0 K)) := by
  rw [s8_4, R.r11, R.r12, R.r13, R.r14, R.r15, R.r16]
  have hb1 := I.b1
  refine load_part (c := troCells t fv') O.c (by simp [troCells]) rfl (tro_kn O.to) (I.z S fun _ => ?_)
  refine good46 hJ O.to O.so (by omega) fun H2 a2 S2 A2 => vext0 (vext1 ?_)
  have T2 := S.trans S2
  refine I.x T2 fun _ => I.y T2 fun _ => I.z T2 fun _ => ?_
  refine good47 hJ (troAt_same I.tx T2 (by simp)) (T2.sli I.ty (by simp)) (by omega) fun H3 b3 S3 B3 => vext0 (vext1 (hold.2 ?_))
  have S23 := S2.trans S3
  exact body8_5 hJ I (S.trans S23) (O.same S23) ⟨R.ds, R.r11, R.r12, R.r13, R.r14, R.r15, R.r16⟩ l1 (dryA_few _ _ _) (S23.sli s17 (by simp)) (S23.sli s19 (by simp)) (S3.sli A2 (by simp)) B3 q17 q18 q19 q20 rfl rfl rfl rfl fun F' H' S' => hnx F' H' (S23.trans S')
theorem body8_3 (hJ : Closed prog main J) (I : In8 H0 p11 p12 p13 i t fv sv cs n) (S : SameX [] H0 H) (O : Own8 H p15 t fv' w cs) (R : R8 p11 p12 p13 p15 i w F)
    (hnx : ∀ F' H', SameX [] H H' → F'.ds = [] → F'.r 11 = .slice (some ⟨p11, 0, none⟩) 3 3 → F'.r 12 = .slice (some ⟨p12, 0, none⟩) 3 3 → F'.r 13 = .slice (some ⟨p13, 0, none⟩) 3 3 → F'.r 14 = vint ((i + 1 : Nat) : Int) → nx0 F' H') :
    W prog J 165 n0 8 (subC [1, 1, 1, 1, 1, 0, 1, 0, 0, 1, 0, 0, 1] (codeOf f8)) F H (contX pl8 prog J 165 n0 8 ct8 [1, 1, 1, 1, 1, 0, 1, 0, 0, 1, 0, 0, 1] (codeOf f8) [nx0] (RetQ prog [.tmp 8] n0 K)) := by
  rw [s8_3, R.r11, R.r12, R.r13, R.r14, R.r15, R.r16]
  have hb1 := I.b1
  refine load_part (c := troCells t fv') O.c (by simp [troCells]) rfl (tro_kn O.to) (I.z S fun _ => ?_)
  refine good37 hJ O.to O.so (by omega) fun H2 a2 S2 A2 => vext0 (vext1 ?_)
  have T2 := S.trans S2
  refine I.x T2 fun _ => I.y T2 fun _ => I.z T2 fun _ => ?_
  refine good45 hJ (troAt_same I.tx T2 (by simp)) (T2.sli I.ty (by simp)) (by omega) fun H3 b3 S3 B3 => vext0 (vext1 (hold.2 ?_))
  have S23 := S2.trans S3
  exact body8_4 hJ I (S.trans S23) (O.same S23) ⟨R.ds, R.r11, R.r12, R.r13, R.r14, R.r15, R.r16⟩ (levelsA_few _ _ _) (S3.sli A2 (by simp)) B3 rfl rfl rfl rfl fun F' H' S' => hnx F' H' (S23.trans S')
end
section
variable {W0 : World} {Post : Value → World → Prop} {h H : List AObj} {K : Value → List AObj → Prop} {n0 : Nat}
theorem loop8 {H0 : List AObj} {p11 p12 p13 : Nat} {xs : List TF} {ys : List (List Int × Value)} {zs : List Int} {F : RG}
    (t0 : F.ds = []) (t11 : F.r 11 = .slice (some ⟨p11, 0, none⟩) 3 3) (t12 : F.r 12 = .slice (some ⟨p12, 0, none⟩) 3 3) (t13 : F.r 13 = .slice (some ⟨p13, 0, none⟩) 3 3)
    (h11 : H0[p11]? = some (.cells (xs.flatMap tfC) true 0)) (h12 : H0[p12]? = some (.cells (ys.map (·.2)) true 0)) (h13 : H0[p13]? = some (.cells (zs.map vint) true 0)) (lx : xs.length = 3) (ly : ys.length = 3) (lz : zs.length = 3)
    (hx : ∀ x ∈ xs, TroAt H0 (.agg ⟨tfC x⟩) x.1 x.2 ∧ x.1.flocks.length ≤ 20) (hy : ∀ y ∈ ys, Sli H0 y.2 1 y.1.length (y.1.map vint) ∧ y.1.length ≤ 20) (hK : ∀ h', K (.bool true) h') :
    W prog (J1 prog W0 Post) 165 n0 8 (subC [1, 1, 1, 1, 1] (codeOf f8)) F H0 (contX pl8 prog (J1 prog W0 Post) 165 n0 8 ct8 [1, 1, 1, 1, 1] (codeOf f8) [] (RetQ prog [.tmp 8] n0 K)) := by
  have hJ := J1.closed prog W0 Post
  rw [s8_1]
  refine l8_2 hJ (fun i : Nat => 3 - i) (fun i f H => SameX [] H0 H ∧ i ≤ 3 ∧ f.ds = [] ∧ f.r 11 = .slice (some ⟨p11, 0, none⟩) 3 3 ∧ f.r 12 = .slice (some ⟨p12, 0, none⟩) 3 3 ∧ f.r 13 = .slice (some ⟨p13, 0, none⟩) 3 3 ∧ f.r 14 = vint (i : Nat)) ?_ (s := 0)
    (.inl ⟨SameX.refl, by omega, t0, t11, t12, t13, rfl⟩)
  rintro i f H ⟨S, hi, ds, r11, r12, r13, r14⟩ ok' hn'
  rw [s8_2, r11, r12, r14, ds, lenS]
  refine lssI (cndI (fun hlt => ?_) fun hge => good19 fun H3 => retL_same (by simp [unk]) (hK _))
  have hi3 : i < 3 := by omega
  obtain ⟨tx, bx⟩ := hx xs[i] (List.getElem_mem (by omega))
  obtain ⟨ty, by_⟩ := hy ys[i] (List.getElem_mem (by omega))
  have hft := flat_take tfC_len xs i (by omega)
  have hfl : (xs.flatMap tfC).length = 12 := by
    have : ∀ l : List TF, (l.flatMap tfC).length = l.length * 4 := fun l => by
      induction l with
      | nil => rfl
      | cons x l ih => rw [List.flatMap_cons, List.length_append, ih, tfC_len, List.length_cons]; omega
    rw [this, lx]
  have hyi : (ys.map (·.2))[i]? = some ys[i].2 := by rw [List.getElem?_map, List.getElem?_eq_getElem (by omega)]; rfl
  have hzi : (zs.map vint)[i]? = some (vint zs[i]) := by rw [List.getElem?_map, List.getElem?_eq_getElem (by omega)]; rfl
  generalize xs[i] = x at *
  generalize ys[i] = y at *
  generalize zs[i] = n at *
  obtain ⟨t, fv⟩ := x
  obtain ⟨cs, sv⟩ := y
  dsimp only at tx bx ty by_ hyi
  have I : In8 H0 p11 p12 p13 i t fv sv cs n := ⟨⟨_, h11, hfl, hft⟩, ⟨_, h12, hyi⟩, ⟨_, h13, hzi⟩, hi3, tx, ty, bx, by_⟩
  have d11 := S.get h11 (by simp)
  have d12 := S.get h12 (by simp)
  have sb : ∀ {H''}, SameX [] H H'' → SameB (some [p11, p12]) H H'' := fun S'' b hb => S''.2 b (by
    have := lt_of_get d11
    have := lt_of_get d12
    simp at hb
    rcases hb with rfl | rfl <;> omega) (by simp)
  have txH := troAt_same I.tx S (by simp)
  have tyH := S.sli ty (by simp)
  have nx : ∀ {H2 : List AObj}, SameX [] H H2 → ∀ F' H', SameX [] H2 H' → F'.ds = [] → F'.r 11 = .slice (some ⟨p11, 0, none⟩) 3 3 → F'.r 12 = .slice (some ⟨p12, 0, none⟩) 3 3 → F'.r 13 = .slice (some ⟨p13, 0, none⟩) 3 3 → F'.r 14 = vint ((i + 1 : Nat) : Int) → Nx n0 (fun i : Nat => 3 - i) (fun i f H => SameX [] H0 H ∧ i ≤ 3 ∧ f.ds = [] ∧ f.r 11 = .slice (some ⟨p11, 0, none⟩) 3 3 ∧ f.r 12 = .slice (some ⟨p12, 0, none⟩) 3 3 ∧ f.r 13 = .slice (some ⟨p13, 0, none⟩) 3 3 ∧ f.r 14 = vint (i : Nat)) i F' H' :=
    fun M2 F' H' M' a b c d e => ⟨i + 1, by dsimp only; omega, .inl ⟨(S.trans M2).trans M', by omega, a, b, c, d, e⟩⟩
  refine ⟨[p11, p12], I.x S fun _ => ⟨by simp [RdOk, ptr, ptrBlk], I.y S fun _ => ⟨by simp [RdOk, ptr, ptrBlk], ?_, ?_⟩⟩⟩
  · refine good24 hJ txH (by omega) fun H1 fv' o1 S1 O1 ho1 => ⟨sb S1, ?_, ?_⟩
    · refine good25X hJ (S1.sli tyH (by simp)) (by omega) fun H2 w o2 S2 O2 ho2 => ?_
      refine qAl fun H3 p14 e3 S3 c3 l3 => ⟨sb ((S1.trans S2).trans S3), ?_⟩
      have S13 := S2.trans S3
      have to : TroAt H3 (.agg ⟨troCells t fv'⟩) t fv' := ⟨rfl, ownX_sli (ownX_keep O1 S13 (by simp))⟩
      have := S1.1
      have := S2.1
      refine qStA (c := troCells t fv') c3 rfl rfl (tro_one to) fun H4 S4 c4 l4 => hold.2 ?_
      have S24 : SameX [] H2 H4 := S3.thru S4 (by simp; omega)
      have S14 := S2.trans S24
      have SH4 := S1.trans S14
      exact body8_3 hJ I (S.trans SH4) ⟨c4, ⟨rfl, ownX_sli (ownX_keep O1 S14 (by simp))⟩, ownX_sli (ownX_keep O2 S24 (by simp))⟩ ⟨ds, r11, r12, r13, r14, rfl, rfl⟩ (nx SH4)
    · refine qAl fun H2 p14 e2 S2 c2 l2 => ⟨sb (S1.trans S2), ?_⟩
      refine good25X hJ ((S1.trans S2).sli tyH (by simp)) (by omega) fun H3 w o2 S3 O2 ho2 => ?_
      have S13 := S2.trans S3
      have to : TroAt H3 (.agg ⟨troCells t fv'⟩) t fv' := ⟨rfl, ownX_sli (ownX_keep O1 S13 (by simp))⟩
      have := S1.1
      have := S2.1
      refine qStA (c := troCells t fv') (S3.get c2 (by simp)) rfl rfl (tro_one to) fun H4 S4 c4 l4 => hold.2 ?_
      have S14 : SameX [] H1 H4 := (S2.trans S3).thru S4 (by simp; omega)
      have SH4 := S1.trans S14
      exact body8_3 hJ I (S.trans SH4) ⟨c4, ⟨rfl, ownX_sli (ownX_keep O1 S14 (by simp))⟩, ownX_sli (ownX_keep O2 S4 (fun j hj => by cases hj; simp; omega))⟩ ⟨ds, r11, r12, r13, r14, rfl, rfl⟩ (nx SH4)
  · refine qAl fun H1 p14 e1 S1 c1 l1 => ⟨sb S1, ?_⟩
    refine good24 hJ (troAt_same txH S1 (by simp)) (by omega) fun H2 fv' o1 S2 O1 ho1 => ⟨sb (S1.trans S2), ?_⟩
    refine good25X hJ ((S1.trans S2).sli tyH (by simp)) (by omega) fun H3 w o2 S3 O2 ho2 => ?_
    have to : TroAt H3 (.agg ⟨troCells t fv'⟩) t fv' := ⟨rfl, ownX_sli (ownX_keep O1 S3 (by simp))⟩
    have := S1.1
    have := S2.1
    have := S3.1
    refine qStA (c := troCells t fv') ((S2.trans S3).get c1 (by simp)) rfl rfl (tro_one to) fun H4 S4 c4 l4 => hold.2 ?_
    have SH4 : SameX [] H H4 := ((S1.trans S2).trans S3).thru S4 (by simp; omega)
    exact body8_3 hJ I (S.trans SH4) ⟨c4, ⟨rfl, ownX_sli (ownX_keep (ownX_keep O1 S3 (by simp)) S4 (fun j hj => by cases hj; simp; omega))⟩, ownX_sli (ownX_keep O2 S4 (fun j hj => by cases hj; simp; omega))⟩ ⟨ds, r11, r12, r13, r14, rfl, rfl⟩ (nx SH4)
def B3 (hb : Nat) (H : List AObj) (v : Value) (c : List Value) : Prop := ∃ p, v = .slice (some ⟨p, 0, none⟩) 3 3 ∧ p ≠ hb ∧ H[p]? = some (.cells c true 0)
theorem B3.same {hb : Nat} {H H' : List AObj} {v : Value} {c : List Value} (a : B3 hb H v c) (S : SameX [hb] H H') : B3 hb H' v c := by
  obtain ⟨p, h1, h2, h3⟩ := a
  exact ⟨p, h1, h2, S.get h3 (by simpa using h2)⟩
def BR (hb : Nat) (H : List AObj) (w : Value) (r : List Int) : Prop := r.length ≤ 20 ∧ ∃ o, OwnX H 1 (r.map vint) r.length w o ∧ ∀ i, o = some i → hb < i
theorem BR.same {hb : Nat} {H H' : List AObj} {w : Value} {r : List Int} (a : BR hb H w r) (S : SameX [hb] H H') : BR hb H' w r := by
  obtain ⟨h1, o, h2, h3⟩ := a
  exact ⟨h1, o, ownX_keep h2 S (fun i hi => by have := h3 i hi; simp; omega), h3⟩
structure K8 (Hb Hs : List AObj) (ns : List Int) (P : List AObj → Prop) (H : List AObj) (k : Nat) : Prop where
  hx : HX Hb H ns k
  S : SameX [Hb.length] Hs H
  p : P H
  st : ∀ A B, SameX [Hb.length] A B → P A → P B
theorem K8.step {Hb Hs : List AObj} {ns : List Int} {P Q : List AObj → Prop} {H H' : List AObj} {k k' : Nat} (a : K8 Hb Hs ns P H k) (S : SameX [Hb.length] H H') (hx : HX Hb H' ns k') (q : Q H') (hq : ∀ A B, SameX [Hb.length] A B → Q A → Q B) : K8 Hb Hs ns (fun H => P H ∧ Q H) H' k' :=
  ⟨hx, a.S.trans S, ⟨a.st _ _ S a.p, q⟩, fun A B S h => ⟨a.st A B S h.1, hq A B S h.2⟩⟩
theorem fillN {a b c : Int} {KL : List Value → Prop} (hk : KL ([a, b, c].map vint)) : aFill (zrep [vint 0] 3) [(0, 1, vint a), (1, 1, vint b), (2, 1, vint c)] KL := fillV ⟨rfl, rfl⟩ ⟨rfl, rfl⟩ ⟨rfl, rfl⟩ hk
set_option maxHeartbeats 1000000 in
theorem walk8 {tv fv cv nv : Value} {t : Tro} {cs ns : List Int} {hours : Int} (ht : TroAt h tv t fv) (hc : Sli h cv 1 cs.length (cs.map vint)) (sn : Sli h nv 1 ns.length (ns.map vint)) (hln : ns.length < 4611686018427387904) (hK : ∀ h', K (.bool true) h') :
    W prog (J1 prog W0 Post) 165 h.length 8 (codeOf f8) (RG.mk (regs [tv, cv, vint hours, nv]) []) h (RetQ prog [.tmp 8] h.length K) := by
  have hJ := J1.closed prog W0 Post
  rw [e8, ht.val]
  refine qBox (tro_one ht) fun Ha p4 ea Sa ca la => ?_
  have ta : TroAt Ha (.agg ⟨troCells t fv⟩) t fv := ⟨rfl, Sa.sli ht.fl (by simp)⟩
  refine load_part (c := troCells t fv) ca (by simp [troCells]) rfl (tro_kn ta) ?_
  refine good18 hJ ta (Sa.sli hc (by simp)) fun Hb Sb => cndI (fun _ => good19 fun H3 => retL_same (by simp [unk]) (hK _)) fun hsm => ?_
  have Sab := Sa.trans Sb
  have cab := Sb.get ca (by simp)
  have tb := troAt_same ta Sb (by simp)
  have hcb := Sab.sli hc (by simp)
  refine newX hJ (Sab.sli sn (by simp)) hln fun H0 a0 => ?_
  refine good21 hJ a0 (by omega) (by omega) (by omega) fun t2 fv2 o H1 ot S1 a1 TO => ?_
  have f := ot.fine (by omega)
  have fl := f.len
  have tt := TO.at
  refine qAl fun H2 p10 e2 S2 c2 l2 => qStA (c := troCells t2 fv2) c2 rfl rfl (tro_one tt) fun Hs S3 c3 l3 => ?_
  have S13 : SameX [] H1 Hs := S2.thru S3 (by simp; omega)
  have t3 := TO.same S13 (by simp)
  have a3 := a1.same S13 (by simp)
  have hlb0 := a0.lt
  have hS1 := S1.1
  have bHs := a3.pre
  have d4 := bHs.get cab (by simp)
  have t1 := troAt_same tb bHs (by simp)
  have hcs := bHs.sli hcb (by simp)
  have l4 := lt_of_get cab
  have l10 := lt_of_get c3
  have hp10 : p10 ≠ Hb.length := by
    have := a1.lt
    omega
  have vc := sli_val hcs
  have sb : ∀ {H''}, SameX [Hb.length] Hs H'' → SameB (some [p4, p10]) Hs H'' := fun S'' b hb => S''.2 b (by
    have := lt_of_get d4
    simp at hb
    rcases hb with rfl | rfl <;> omega) (by simp at hb ⊢; rcases hb with rfl | rfl <;> omega)
  let zs : List Value := [vint 0, vint 0, vint 0, .slice none 0 0]
  have stT : ∀ {P : List AObj → Prop} {H' : List AObj} {k : Nat} {KT : Value → List AObj → Prop}, K8 Hb Hs ns P H' k → (∀ v H'', K8 Hb Hs ns (fun H => P H ∧ B3 Hb.length H v ([((t, fv) : TF), (t2, fv2), (t2, fv2)].flatMap tfC)) H'' k → KT v H'') →
      (((3 * 4 : Nat) ≤ 16777216 ∧ (3 : Nat) ≤ 16777216 ∧ List.length [vint 0, vint 0, vint 0, Value.slice none 0 0] = 4) ∧ aFill (zrep [vint 0, vint 0, vint 0, Value.slice none 0 0] 3) [(0, 4, .agg ⟨troCells t fv⟩), (4, 4, .agg ⟨troCells t2 fv2⟩), (8, 4, .agg ⟨troCells t2 fv2⟩)] fun c => aNewS 3 c H' fun v h => SameB (some [p4, p10]) Hs h ∧ KT v h) :=
    fun {P H' k KT} a hk => ⟨by decide, fillT (x := (t, fv)) (y := (t2, fv2)) (z := (t2, fv2)) (tro_one t1) (tro_one t3.at) (tro_one t3.at) (qNew fun Hc pc ec Sc cc lc => by
      have b := a.step (Q := fun H => B3 Hb.length H (.slice (some ⟨pc, 0, none⟩) 3 3) ([((t, fv) : TF), (t2, fv2), (t2, fv2)].flatMap tfC)) Sc.weak0 (a.hx.same Sc (by simp)) ⟨pc, rfl, by have := a.hx.lt; omega, cc⟩ fun A B S h => h.same S
      exact ⟨sb b.S, hk _ _ b⟩)⟩
  have stV : ∀ {P : List AObj → Prop} {H' : List AObj} {k : Nat} {w : Value} {KT : Value → List AObj → Prop}, K8 Hb Hs ns P H' k → (w.cells = #[w] ∧ one w = true) → (∀ v H'', K8 Hb Hs ns (fun H => P H ∧ B3 Hb.length H v [cv, w, cv]) H'' k → KT v H'') →
      (((3 * 1 : Nat) ≤ 16777216 ∧ (3 : Nat) ≤ 16777216 ∧ List.length [Value.slice none 0 0] = 1) ∧ aFill (zrep [Value.slice none 0 0] 3) [(0, 1, cv), (1, 1, w), (2, 1, cv)] fun c => aNewS 3 c H' fun v h => SameB (some [p4, p10]) Hs h ∧ KT v h) :=
    fun {P H' k w KT} a hw hk => ⟨by decide, fillV ⟨vc.1, vc.2.1⟩ hw ⟨vc.1, vc.2.1⟩ (qNew fun Hc pc ec Sc cc lc => by
      have b := a.step (Q := fun H => B3 Hb.length H (.slice (some ⟨pc, 0, none⟩) 3 3) [cv, w, cv]) Sc.weak0 (a.hx.same Sc (by simp)) ⟨pc, rfl, by have := a.hx.lt; omega, cc⟩ fun A B S h => h.same S
      exact ⟨sb b.S, hk _ _ b⟩)⟩
  have stN : ∀ {P : List AObj → Prop} {H' : List AObj} {k : Nat} {y : Int} {KT : Value → List AObj → Prop}, K8 Hb Hs ns P H' k → (∀ v H'', K8 Hb Hs ns (fun H => P H ∧ B3 Hb.length H v ([hours, y, hours].map vint)) H'' k → KT v H'') →
      (((3 * 1 : Nat) ≤ 16777216 ∧ (3 : Nat) ≤ 16777216 ∧ List.length [vint 0] = 1) ∧ aFill (zrep [vint 0] 3) [(0, 1, vint hours), (1, 1, vint y), (2, 1, vint hours)] fun c => aNewS 3 c H' fun v h => SameB (some [p4, p10]) Hs h ∧ KT v h) :=
    fun {P H' k y KT} a hk => ⟨by decide, fillN (qNew fun Hc pc ec Sc cc lc => by
      have b := a.step (Q := fun H => B3 Hb.length H (.slice (some ⟨pc, 0, none⟩) 3 3) ([hours, y, hours].map vint)) Sc.weak0 (a.hx.same Sc (by simp)) ⟨pc, rfl, by have := a.hx.lt; omega, cc⟩ fun A B S h => h.same S
      exact ⟨sb b.S, hk _ _ b⟩)⟩
  have stR : ∀ {P : List AObj → Prop} {H' : List AObj} {k : Nat} {KT : Value → List AObj → Prop}, K8 Hb Hs ns P H' k → k < 400000 → (∀ r w H'', (w.cells = #[w] ∧ one w = true) → K8 Hb Hs ns (fun H => P H ∧ BR Hb.length H w r) H'' (k + 10) → KT w H'') →
      Good prog (J1 prog W0 Post) 36 [ptr Hb.length 0, .agg ⟨troCells t2 fv2⟩, vint 5] H' fun v h => SameB (some [p4, p10]) Hs h ∧ KT v h :=
    fun {P H' k KT} a hlt hk => good36 hJ a.hx hlt (t3.same a.S (fun j hj => by have := t3.b j hj; simp; omega)).at (fun {H''} S => (t3.same (a.S.trans S) (fun j hj => by have := t3.b j hj; simp; omega)).at.fl) fl (by omega) fun r rv o2 H'' rf rl S hx ro ho => by
      have b := a.step (Q := fun H => BR Hb.length H rv r) S hx ⟨by omega, o2, ro.l, ro.b⟩ fun A B S h => h.same S
      have v := sli_val ro.sli
      exact ⟨sb b.S, hk r rv H'' ⟨v.1, v.2.1⟩ b⟩
  have stA : ∀ {P : List AObj → Prop} {H' : List AObj} {k : Nat} {KT : Value → List AObj → Prop}, K8 Hb Hs ns P H' k → k < 400000 → (∀ y H'', K8 Hb Hs ns P H'' (k + 1) → KT (vint y) H'') →
      Good prog (J1 prog W0 Post) 33 [ptr Hb.length 0, vint 1, vint 48] H' fun v h => SameB (some [p4, p10]) Hs h ∧ KT v h :=
    fun {P H' k KT} a hlt hk => amX hJ a.hx (by omega) (by omega) (by omega) fun y H'' y1 y2 S l5 hx => by
      have b : K8 Hb Hs ns P H'' (k + 1) := ⟨hx, a.S.trans S, a.st _ _ S a.p, a.st⟩
      exact ⟨sb b.S, hk y H'' b⟩
  have leaf : ∀ {P : List AObj → Prop} {H' : List AObj} {k : Nat} {F : RG}, K8 Hb Hs ns P H' k → F.ds = [] →
      (P H' → B3 Hb.length H' (F.r 11) ([((t, fv) : TF), (t2, fv2), (t2, fv2)].flatMap tfC) ∧ (∃ w, B3 Hb.length H' (F.r 12) [cv, w, cv] ∧ ∃ r, BR Hb.length H' w r) ∧ ∃ y, B3 Hb.length H' (F.r 13) ([hours, y, hours].map vint)) →
      W prog (J1 prog W0 Post) 165 h.length 8 (subC [1, 1, 1, 1, 1] (codeOf f8)) F H' (contX pl8 prog (J1 prog W0 Post) 165 h.length 8 ct8 [1, 1, 1, 1, 1] (codeOf f8) [] (RetQ prog [.tmp 8] h.length K)) := by
    intro P H' k F a ds hp
    obtain ⟨⟨p1, q1, _, g1⟩, ⟨w, ⟨p2, q2, _, g2⟩, r, rl, o2, ro, _⟩, y, p3, q3, _, g3⟩ := hp a.p
    have bH := a.hx.pre
    have u1 := troAt_same tb bH (by simp)
    have u2 := (t3.same a.S (fun j hj => by have := t3.b j hj; simp; omega)).at
    have hc' := bH.sli hcb (by simp)
    refine loop8 (xs := [(t, fv), (t2, fv2), (t2, fv2)]) (ys := [(cs, cv), (r, w), (cs, cv)]) (zs := [hours, y, hours]) ds q1 q2 q3 g1 g2 g3 rfl rfl rfl (fun x hx => ?_) (fun y hy => ?_) hK
    · simp only [List.mem_cons, List.not_mem_nil, or_false] at hx
      rcases hx with rfl | rfl | rfl
      · exact ⟨u1, by show t.flocks.length ≤ 20; omega⟩
      · exact ⟨u2, by show t2.flocks.length ≤ 20; omega⟩
      · exact ⟨u2, by show t2.flocks.length ≤ 20; omega⟩
    · simp only [List.mem_cons, List.not_mem_nil, or_false] at hy
      rcases hy with rfl | rfl | rfl
      · exact ⟨hc', by show cs.length ≤ 20; omega⟩
      · exact ⟨ownX_sli ro, rl⟩
      · exact ⟨hc', by show cs.length ≤ 20; omega⟩
  have k0 : K8 Hb Hs ns (fun _ => True) Hs (0 + 30) := ⟨a3, SameX.refl, trivial, fun _ _ _ h => h⟩
  refine ⟨[p4, p10], load_part (c := troCells t fv) d4 (by simp [troCells]) rfl (tro_kn t1) ⟨by simp [RdOk, ptr, ptrBlk], ?_⟩⟩
  refine load_part (c := troCells t2 fv2) c3 (by simp [troCells]) rfl (tro_kn t3.at) ⟨by simp [RdOk, ptr, ptrBlk], ?_⟩
  refine load_part (c := troCells t2 fv2) c3 (by simp [troCells]) rfl (tro_kn t3.at) ⟨by simp [RdOk, ptr, ptrBlk], ?_⟩
  refine load_part (c := troCells t2 fv2) c3 (by simp [troCells]) rfl (tro_kn t3.at) ⟨by simp [RdOk, ptr, ptrBlk], ?_⟩
  repeat' first
    | exact hold.2 (leaf (by assumption) rfl (by
        intro hp
        refine ⟨?_, ⟨?_, ?_, ?_, ?_⟩, ?_, ?_⟩
        any_goals (first | exact hp.2 | exact hp.1.2 | exact hp.1.1.2 | exact hp.1.1.1.2)))
    | refine stT (by assumption) fun v H'' hk => ?_
    | refine stV (by assumption) (by assumption) fun v H'' hk => ?_
    | refine stN (by assumption) fun v H'' hk => ?_
    | refine stR (by assumption) (by decide) fun r w H'' hw hk => ?_
    | refine stA (by assumption) (by decide) fun y H'' hk => ?_
    | refine ⟨?_, ?_⟩
end
end Go.Proofs.Ytindillghipjjaa
namespace Go.Proofs.Ytindillghipjjaa
open Go.Conc
section
variable {P : Program} {W0 : World} {Post : Value → World → Prop} {ρ : Env} {h : List AObj} {FC : Frm} {w : World} {ft : Foot} {f : RG} {a : Act} {b : FB} {K : Value → List AObj → Prop} {n0 : Nat}
theorem leave_top {fn : Func} (hk : b.kind = .normal) (hf : P.funcs[b.fn]? = some fn) (hin : P.inits.idxOf? b.fn = none)
    (hc : ∀ v h' ρ' w' ft' cv, K v h' → HRel ρ' h' FC w' ft' → Env.upto n0 ρ ρ' → n0 ≤ h'.length → VRel h'.length ρ' v cv → Base W0 w' → Post cv w') :
    ∀ (ds : List Nat) (h : List AObj) (w : World) (ft : Foot) (a : Act) (fr : Frame), fr.fn = b.fn → fr.kind = .normal → fr.mode = .returning → fr.tmps = a.tmps → fr.defers = ds.map (fun d => { target := .collected (ρ.blk d), args := #[] }) → RegRel h.length ρ f.r a.tmps → HRel ρ h FC w ft → n0 ≤ h.length →
      takeW ds h (fun h => resW P fn.results.toList f.r h fun vs => K (pack vs) h ∨ ∃ σ h' v, GC n0 σ h h' ∧ pack vs = sub σ v ∧ VOk h'.length v ∧ K v h') → J1 P W0 Post (G fr []) w ft
  | [], h, w, ft, a, fr, e1, e2, e3, e4, e5, hr, H, hn, hq => by
    obtain ⟨fn', tmps, todo, defers, mode, kind, ro⟩ := fr
    simp only at e1 e2 e3 e4 e5
    subst e1 e2 e3 e4 e5
    refine J1.both rfl fun w₁ h₁ hbase => .inr ?_
    have H₁ := H.rely h₁
    have hrun : RunsTo P (EvOk ft) (results fn a.tmps) w₁ fun cv w' => w' = w₁ ∧ ∃ vs, cv = ren ρ (pack vs) ∧ (∀ v ∈ vs, VOk h.length v) ∧ (K (pack vs) h ∨ ∃ σ h' v, GC n0 σ h h' ∧ pack vs = sub σ v ∧ VOk h'.length v ∧ K v h') := by
      unfold results
      have : (fn.results.mapM (resF a.tmps)) = List.toArray <$> fn.results.toList.mapM (resF a.tmps) := by
        rw [Array.mapM_eq_mapM_toList]
      show RunsTo P (EvOk ft) (do
        let vs ← fn.results.mapM (resF a.tmps)
        pure (if h : vs.size = 1 then vs[0] else .tuple vs)) w₁ _
      rw [this]
      refine RunsTo.bind (RunsTo.map (res_run (n := 0) H₁ hr fn.results.toList hq fun vs hvs hok => RunsTo.pure ⟨rfl, vs, ?_, hok, hvs⟩))
      exact pack_ren vs
    obtain ⟨cv, w', es, hr', he, rfl, vs, rfl, hvok, hvs⟩ := hrun #[] (by simp)
    have hes : ∀ e ∈ seen P b.fn es, EvOk ft e := fun e hm => he e (mem_seen hm)
    refine ⟨ren ρ (pack vs), seen P b.fn es, ?_, hes, ?_⟩
    · simp only [G, stepG, unwind, List.map_nil, hf, hr']
      simp [doReturn, GStep.after, hin]
    · rcases hvs with hK | ⟨σ, h', v, g, hp, hok, hK⟩
      · exact hc _ h _ w' ft _ hK H₁ (Env.upto_refl _ _) hn (.inr ⟨pack_ok hvok, rfl⟩) hbase
      · rw [hp, ren_sub]
        exact hc v h' _ w' ft _ hK (g.rel H₁) g.upto g.le (.inr ⟨hok, rfl⟩) hbase
  | d :: ds, h, w, ft, a, fr, e1, e2, e3, e4, e5, hr, H, hn, hq => by
    obtain ⟨fn', tmps, todo, defers, mode, kind, ro⟩ := fr
    simp only at e1 e2 e3 e4 e5
    subst e1 e2 e3 e4 e5
    obtain ⟨hd, hq⟩ := hq
    refine (J1.closed P W0 Post).step rfl fun w₁ h₁ => ?_
    have H₁ := H.rely h₁
    obtain ⟨cv, w', es, hr', he, rfl, H', hst, hsz⟩ := take_run (P := P) H₁ hd (Q := fun l w' => l = [] ∧ HRel ρ (h.set d .dead) FC w' ft ∧ Stays ft w₁ w' ∧ w'.heap.size = w₁.heap.size) (fun w' a1 a2 a3 => ⟨rfl, a1, a2, a3⟩) #[] (by simp)
    have hes : ∀ e ∈ seen P b.fn es, EvOk ft e := fun e hm => he e (mem_seen hm)
    refine ⟨G { fn := b.fn, tmps := a.tmps, todo := todo, defers := ds.map (fun d => { target := .collected (ρ.blk d), args := #[] }), mode := .returning, kind := .normal, roundOf := ro } [], w', seen P b.fn es, ?_, rfl, hst.guar hes, ?_⟩
    · simp only [G, stepG, unwind, List.map_cons, hr']
      simp [GStep.after]
    · rw [hsz, Foot.ext_self]
      exact leave_top hk hf hin hc ds _ w' ft a _ rfl rfl rfl rfl rfl (by rw [List.length_set]; exact hr) H' (by rw [List.length_set]; exact hn) hq
theorem top_of_W (hm : P.follows .mixedOrders = true) {g : FuncId} {fn : Func} (hf : P.funcs[g]? = some fn) {c : Code} (hb : fn.body = some c) (hin : P.inits.idxOf? g = none) {args : List Value} {cargs : Array Value} (ha : args.length ≤ fn.ntmps) (hl : cargs.size = args.length)
    (hr : ∀ i : Nat, VRel h.length ρ (args.getD i unk) (cargs.toList.getD i undef)) (H : HRel ρ h FC w ft)
    (hs : W P (J1 P W0 Post) fn.ntmps h.length g c ⟨regs args, []⟩ h (RetQ P fn.results.toList h.length K))
    (hc : ∀ v h' ρ' w' ft' cv, K v h' → HRel ρ' h' FC w' ft' → Env.upto h.length ρ ρ' → h.length ≤ h'.length → VRel h'.length ρ' v cv → Base W0 w' → Post cv w') : J1 P W0 Post (G (Frame.enter P g cargs .normal) []) w ft := by
  have hJ := J1.closed P W0 Post
  obtain ⟨cargs⟩ := cargs
  simp only at hl hr
  have he : Frame.enter P g ⟨cargs⟩ .normal = FB.at ⟨g, .normal, none⟩ ⟨⟨cargs⟩ ++ Array.replicate (fn.ntmps - cargs.length) undef, []⟩ [.code c] := by
    simp [Frame.enter, FB.at, hf, hb]
  rw [he]
  have A : ActRel h.length ρ fn.ntmps ⟨regs args, []⟩ ⟨⟨cargs⟩ ++ Array.replicate (fn.ntmps - cargs.length) undef, []⟩ := by
    refine ⟨fun t => ?_, by simp at hl ⊢; omega, rfl, by simp⟩
    have := hr t
    have ht : ((⟨cargs⟩ : Array Value) ++ Array.replicate (fn.ntmps - cargs.length) undef).getD t undef = cargs.getD t undef := by
      rw [Array.getD_eq_getD_getElem?, List.getD_eq_getElem?_getD]
      by_cases hx : t < cargs.length
      · rw [Array.getElem?_append_left (by simpa using hx)]
        simp
      · rw [Array.getElem?_append_right (by simp; omega), List.getElem?_eq_none (by omega)]
        simp only [Array.getElem?_replicate]
        split <;> rfl
    rw [ht]
    exact this
  have last : ∀ f' h' ρ' w' ft' a' todo, RetQ P fn.results.toList h.length K .ret f' h' → ActRel h'.length ρ' fn.ntmps f' a' → HRel ρ' h' FC w' ft' → Env.upto h.length ρ ρ' → h.length ≤ h'.length →
      J1 P W0 Post (G { (FB.at ⟨g, .normal, none⟩ a' todo) with mode := .returning } []) w' ft' := by
    intro f' h' ρ' w' ft' a' todo q A' H' hu hl
    exact leave_top (b := ⟨g, .normal, none⟩) (f := f') (n0 := h.length) (ρ := ρ') rfl hf hin (fun v h2 ρ2 w2 ft2 cv k H2 u2 l2 v2 => hc v h2 ρ2 w2 ft2 cv k H2 (Env.upto_trans hu u2) l2 v2) f'.ds h' w' ft' a' _ rfl rfl rfl rfl A'.defers A'.regs H' hl q
  refine W_sound hJ hm c hs ⟨g, .normal, none⟩ _ [] [] (fun jump a w ft => jump = some .ret ∧ ∀ todo, J1 P W0 Post (G { (FB.at ⟨g, .normal, none⟩ a todo) with mode := .returning } []) w ft) ρ FC w ft rfl (by simp) ?_ A H (Nat.le_refl _) ?_
  · rintro jump a w ft todo ⟨rfl, hj⟩ hh
    rcases hh with ⟨_, k, rfl⟩ | ⟨id, k, e, _⟩ | ⟨e, _⟩
    · exact hJ.ctrl rfl rfl (fun w => by simp [G, stepG, stepG.exec, FB.at]) (hj (.code .ret :: k))
    · cases e
    · cases e
  · intro e f' h' ρ' w' ft' a' q A' H' hu hl
    cases e with
    | normal => exact hJ.ctrl rfl rfl (fun w => by simp [G, stepG, stepG.exec, FB.at]) (last f' h' ρ' w' ft' a' [] q A' H' hu hl)
    | ret => exact ⟨rfl, fun todo => last f' h' ρ' w' ft' a' todo q A' H' hu hl⟩
    | exit id => exact q.elim
    | goto l => exact q.elim
    | panic l => exact q.elim
    | outgrown => exact q.elim
theorem run_of_J1 {g : Goroutine} {w : World} {ft : Foot} (h : J1 P W0 Post g w ft) (hb : ∀ b, ft.rd b → b < w.heap.size) (hs : ∀ b, ft.wr b → ft.rd b) (hw : W0 = w) : Ends P Post (solo g w) #[] := by
  rw [solo_eq_crowd]
  exact h #[g] w none #[] (fun _ => 0) hb hs (RelyW.refl _ _) (by subst hw; exact ⟨rfl, rfl, rfl, Nat.le_refl _⟩) rfl (leavers_one P g) (past_nil.mono (Nat.zero_le _))
end
end Go.Proofs.Ytindillghipjjaa
namespace Go.Proofs.Ytindillghipjjaa
open Go.Conc Go.RowKit
def idEnv : Env := ⟨fun b => b, fun _ => 0⟩
def startFt (w : World) : Foot := ⟨fun b => b < w.heap.size, fun _ => False⟩
def startFC (w : World) : Frm := ⟨fun b => w.heap[b]?, fun _ => False⟩
def Fine (n : Nat) (v : Value) : Prop := VOk n v ∧ one v = true ∧ ren idEnv v = v
open Classical in
noncomputable def clean (n : Nat) (v : Value) : Value := if Fine n v then v else unk
noncomputable def absO (n : Nat) : Obj → AObj
  | .cells c _ _ => .cells (c.toList.map (clean n)) false 0
  | _ => .dead
noncomputable def absH (w : World) : List AObj := w.heap.toList.map (absO w.heap.size)
section
variable {w w' : World} {n : Nat}
theorem clean_fine {v : Value} (h : Fine n v) : clean n v = v := by simp [clean, h]
theorem absH_len : (absH w).length = w.heap.size := by simp [absH]
theorem absH_get {b : Nat} : (absH w)[b]? = (w.heap[b]?).map (absO w.heap.size) := by simp [absH]
theorem absO_wrt (x : Obj) : (absO n x).wrt = false := by cases x <;> rfl
theorem start_rel (w : World) : HRel idEnv (absH w) (startFC w) w (startFt w) where
  obj := fun b o hb => by
    rw [absH_get] at hb
    obtain ⟨x, hx, rfl⟩ := Option.map_eq_some_iff.1 hb
    show ORel (absH w).length idEnv b (absO w.heap.size x) w.heap[b]?
    rw [absH_len, hx]
    cases x with
    | cells c ty fr =>
      refine ⟨fun i v hv => ?_, fun _ => by simp, fun hz => absurd rfl hz, fun e => by cases e⟩
      rw [List.getElem?_map] at hv
      obtain ⟨u, hu, rfl⟩ := Option.map_eq_some_iff.1 hv
      by_cases hf : Fine w.heap.size u
      · rw [clean_fine hf]
        exact .inr ⟨hf.1, hf.2.1, by rw [hf.2.2]; simpa using hu⟩
      · exact .inl ⟨by simp [clean, hf], rfl⟩
    | _ => trivial
  inj := fun b b' o o' _ _ _ _ e => e
  rd := fun b o hb _ => by
    have : b < (absH w).length := (List.getElem?_eq_some_iff.1 hb).1
    rw [absH_len] at this
    exact this
  wr := fun b o hb hw => by
    rw [absH_get] at hb
    obtain ⟨x, hx, rfl⟩ := Option.map_eq_some_iff.1 hb
    rw [absO_wrt] at hw
    cases hw
  lt := fun b hb => hb
  sub := fun b hb => hb.elim
  kept := fun b o hb => by
    refine ⟨hb, ?_, fun a oa ha hw => ?_⟩
    · exact (Array.getElem?_eq_some_iff.1 hb).1
    · rw [absH_get] at ha
      obtain ⟨x, hx, rfl⟩ := Option.map_eq_some_iff.1 ha
      rw [absO_wrt] at hw
      cases hw
  keptW := fun b hb => hb.elim
theorem absH_cell {b o : Nat} {v : Value} (hc : w.cell? ⟨b, o, none⟩ = some v) (hf : Fine w.heap.size v) : ∃ c, (absH w)[b]? = some (.cells c false 0) ∧ c[o]? = some v := by
  unfold World.cell? at hc
  simp only at hc
  split at hc
  · rename_i c ty fr hx
    refine ⟨c.toList.map (clean w.heap.size), by rw [absH_get, hx]; rfl, ?_⟩
    have hc' : c[o]? = some v := by simpa using hc
    rw [List.getElem?_map, Array.getElem?_toList, hc']
    simp [clean_fine hf]
  · cases hc
theorem below_of {ρ' : Env} {h' : List AObj} {ft' : Foot} (H : HRel ρ' h' (startFC w) w' ft') (B : Base w w') : Below w.heap.size w w' :=
  ⟨B.os, B.tape, B.output, B.size, fun k hk => by
    have : (startFC w).ob k = some w.heap[k] := by simp [startFC, hk]
    rw [(H.kept k _ this).1, Array.getElem?_eq_getElem hk]⟩
end
end Go.Proofs.Ytindillghipjjaa
namespace Go.Proofs.Ytindillghipjjaa
open Go.Conc Go.ChangeShapes Go.WideShapes Go.ChangeAt Go.RowKit Go.Proofs.Try
set_option maxRecDepth 100000
theorem own : ownKnob prog.godebug = none := by kernel_rfl
theorem laidOut : laidOutB prog = true := by kernel_rfl
def ArgOk (W : World) (v : Value) : Prop := VOk W.heap.size v ∧ ren idEnv v = v
theorem law_run1 {g : FuncId} {fn : Func} {c : Code} (hf : prog.funcs[g]? = some fn) (hb : fn.body = some c) (hin : prog.inits.idxOf? g = none) (W₀ : World) (args : List Value) (ha : args.length ≤ fn.ntmps) (hok : ∀ v ∈ args, ArgOk W₀ v)
    (walk : ∀ Post, W prog (J1 prog W₀ Post) fn.ntmps (absH W₀).length g c ⟨regs args, []⟩ (absH W₀) (RetQ prog fn.results.toList (absH W₀).length fun v _ => v = .bool true)) :
    Ends prog (fun v w' => v = .bool true ∧ Below W₀.heap.size W₀ w') (solo (G (Frame.enter prog g ⟨args⟩ .normal) []) W₀) #[] := by
  refine run_of_J1 (W0 := W₀) (ft := startFt W₀) (top_of_W mixed hf hb hin ha rfl (fun i => ?_) (start_rel W₀) (walk _) ?_) (fun b hb => hb) (fun b hb => hb.elim) rfl
  · show VRel (absH W₀).length idEnv (args.getD i unk) (args.getD i undef)
    simp only [List.getD_eq_getElem?_getD]
    cases hi : args[i]? with
    | none => exact .inl rfl
    | some v =>
      obtain ⟨h1, h2⟩ := hok v (List.mem_of_getElem? hi)
      exact .inr ⟨by rw [absH_len]; exact h1, h2.symm⟩
  · intro v h' ρ' w' ft' cv hv H' _ _ hcv hB
    subst hv
    refine ⟨?_, below_of H' hB⟩
    rcases hcv with e | ⟨_, e⟩
    · cases e
    · rw [e]
      rfl
theorem argOk_int {W : World} {k : IntKind} {n : Int} : ArgOk W (.int k n) := ⟨by simp [VOk], by simp [ren]⟩
section
variable {H : Type} {enc : TypeId × Value → H}
theorem arg_ints {t e : TypeId} (ht : prog.underlying t = some (.slice e)) (he : prog.underlying e = some (.int .i64)) (hc : prog.cellsOf e = 1) {W : World} {base : Nat} {v : Value} {d : DataW H} {ps : List MemPlace}
    (hval : Value.okWide prog W .any base t v) (hd : DataW.Trod enc prog W 0 (fun _ => true) true t v d ps) :
    ∃ zs : List Int, Sli (absH W) v 1 zs.length (zs.map vint) ∧ ArgOk W v ∧ (zs = [] ∨ ∃ es sp, d = .slice es sp ∧ zs.length ≤ es.length + sp.length) := by
  obtain ⟨a0, len, cap, rfl⟩ := okWide_slice ht hval
  obtain ⟨fuel, hf⟩ := hd
  rcases open_ints ht he hc hf with ⟨hcs, hx⟩ | ⟨a, len', cap', zs, hcs, _, hl, hm, hz, hx, hcell, hwz⟩
  · simp [Value.cells] at hcs
    obtain ⟨rfl, rfl, rfl⟩ := hcs
    exact ⟨[], sli_nil, ⟨by simp [VOk], by simp [ren]⟩, .inl rfl⟩
  · simp [Value.cells] at hcs
    obtain ⟨rfl, rfl, rfl⟩ := hcs
    simp only [Prod.mk.injEq] at hx
    obtain ⟨rfl, rfl⟩ := hx
    simp only [if_true] at hz
    simp only [Value.okWide, ht, Cell.okWide, Cell.ok, World.has] at hval
    obtain ⟨_, _, _, hspot, row, cells, hshape, _⟩ := hval
    obtain ⟨b, o, spot⟩ := a
    simp only at hspot hshape
    subst hspot
    have hb : b < W.heap.size := by
      unfold World.shape? at hshape
      split at hshape
      · rename_i h
        exact (Array.getElem?_eq_some_iff.1 h).1
      · cases hshape
    have hlen : (zs.take len).length = len := by simp; omega
    have hcell' : ∀ i, i < zs.length → W.cell? ⟨b, o + i, none⟩ = some (vint (zs.getD i 0)) := by
      intro i hi
      have := hcell i hi
      unfold Addr.add at this
      by_cases h0 : i = 0
      · subst h0; simpa using this
      · simpa [h0] using this
    have hmax : cap < fz := by
      simp only [maxLen] at hm
      unfold fz
      omega
    refine ⟨zs.take len, ?_, ⟨by simp only [VOk, AddrOk]; exact ⟨hb, trivial⟩, ?_⟩, .inr ⟨_, _, rfl, ?_⟩⟩
    · refine ⟨some ⟨b, o, none⟩, cap, by rw [hlen], ⟨by simp, kn_ints _⟩, .inr ⟨b, o, rfl, ?_⟩⟩
      rw [hlen]
      by_cases h0 : len = 0
      · exact .inl h0
      · right
        have fine : ∀ n : Int, Fine W.heap.size (vint n) := fun n => ⟨by simp [VOk], rfl, by simp [ren]⟩
        obtain ⟨c, hc1, hc2⟩ := absH_cell (hcell' 0 (by omega)) (fine _)
        refine ⟨c, false, 0, hc1, ?_⟩
        apply List.ext_getElem?
        intro i
        rw [Nat.mul_one]
        by_cases hi : i < len
        · obtain ⟨c', hc1', hc2'⟩ := absH_cell (hcell' i (by omega)) (fine _)
          rw [hc1] at hc1'
          cases hc1'
          rw [List.getElem?_take, if_pos hi, List.getElem?_drop, hc2']
          have hzi : i < zs.length := by omega
          simp [hi, hzi]
        · rw [List.getElem?_take, if_neg hi, List.getElem?_eq_none (by simp; omega)]
    · have hnf : ¬ fz ≤ cap := by omega
      simp [ren, renAddr, renCap, idEnv, hnf]
    · simp only [lits, List.length_map, List.length_take, List.length_drop]
      omega
end
theorem flat_get {α : Type} {enc : α → List Value} {s : Nat} (hen : ∀ x, (enc x).length = s) (xs : List α) {i j : Nat} (hi : i < xs.length) (hj : j < s) : (xs.flatMap enc)[i * s + j]? = (enc xs[i])[j]? := by
  have := flat_take hen xs i hi
  rw [← this, List.getElem?_take, if_pos hj, List.getElem?_drop]
theorem flat_len {α : Type} {enc : α → List Value} {s : Nat} (hen : ∀ x, (enc x).length = s) : ∀ xs : List α, (xs.flatMap enc).length = xs.length * s
  | [] => by simp
  | x :: xs => by rw [List.flatMap_cons, List.length_append, flat_len hen xs, hen, List.length_cons, Nat.succ_mul]; omega
theorem flat_kn {α : Type} {enc : α → List Value} (hk : ∀ x, kn (enc x) = true) : ∀ xs : List α, kn (xs.flatMap enc) = true
  | [] => rfl
  | x :: xs => by
    have h1 := hk x
    have h2 := flat_kn hk xs
    unfold kn at *
    rw [List.flatMap_cons, List.all_append, h1, h2]
    rfl
theorem trodAll_cons {H : Type} {enc : TypeId × Value → H} {P : Program} {w : World} {base : Nat} {spare : Nat → Bool} {held : Bool} {t : TypeId} {ts : List TypeId} {vs : List Value} {ds : List (DataW H)} {ps : List MemPlace}
    (h : DataW.TrodAll enc P w base spare held (t :: ts) vs ds ps) : ∃ v vs' d ds' p q, vs = v :: vs' ∧ ds = d :: ds' ∧ ps = p ++ q ∧ DataW.Trod enc P w base spare held t v d p ∧ DataW.TrodAll enc P w base spare held ts vs' ds' q := by
  match vs, ds, h with
  | v :: vs, d :: ds, ⟨p, q, h1, h2, h3⟩ => exact ⟨v, vs, d, ds, p, q, rfl, rfl, h3, h1, h2⟩
theorem trodAll_nil {H : Type} {enc : TypeId × Value → H} {P : Program} {w : World} {base : Nat} {spare : Nat → Bool} {held : Bool} {vs : List Value} {ds : List (DataW H)} {ps : List MemPlace}
    (h : DataW.TrodAll enc P w base spare held [] vs ds ps) : vs = [] ∧ ds = [] ∧ ps = [] := by
  match vs, ds, h with
  | [], [], h => exact ⟨rfl, rfl, h⟩
theorem trodAll_mkc {H : Type} {enc : TypeId × Value → H} {P : Program} {w : World} {base : Nat} {spare : Nat → Bool} {held : Bool} {t : TypeId} {ts : List TypeId} {v : Value} {vs : List Value} {d : DataW H} {ds : List (DataW H)} {p q : List MemPlace}
    (h1 : DataW.Trod enc P w base spare held t v d p) (h2 : DataW.TrodAll enc P w base spare held ts vs ds q) : DataW.TrodAll enc P w base spare held (t :: ts) (v :: vs) (d :: ds) (p ++ q) := ⟨p, q, h1, h2, rfl⟩
section
variable {H : Type} {enc : TypeId × Value → H}
theorem arg_sliE {α : Type} [Inhabited α] {encE : α → List Value} {t e : TypeId} {s : Nat} (ht : prog.underlying t = some (.slice e)) (hc : prog.cellsOf e = s) (hs : 0 < s) {W : World} {base n : Nat} {v : Value} {x : DataW H × List MemPlace}
    (hlen : ∀ x, (encE x).length = s) (hkn : ∀ x, kn (encE x) = true) (hfine : ∀ x, ∀ y ∈ encE x, ∀ m, Fine m y)
    (dec : ∀ n cs r, DataW.trod enc prog W 0 (fun _ => true) true n e cs = some r → ∃ x, cs = encE x)
    (hval : Cell.okWide prog W .any base t v) (hf : DataW.trod enc prog W 0 (fun _ => true) true n t v.cells.toList = some x) :
    ∃ xs : List α, SliE (absH W) v s encE xs ∧ ArgOk W v := by
  have hval' : Value.okWide prog W .any base t v := by
    unfold Value.okWide
    rw [ht]
    exact hval
  obtain ⟨a0, len0, cap0, rfl⟩ := okWide_slice ht hval'
  clear hval'
  rcases Deep.open_slice ht hf with ⟨hcs, hx⟩ | ⟨a, len, cap, m, n', D, Pl, hcs, _, hl, hm, hmm, hx, hel⟩
  · simp [Value.cells] at hcs
    obtain ⟨rfl, rfl, rfl⟩ := hcs
    exact ⟨[], ⟨none, 0, rfl, ⟨by simp, rfl⟩, .inl ⟨rfl, rfl⟩⟩, ⟨by simp [VOk], by simp [ren]⟩⟩
  · simp [Value.cells] at hcs
    obtain ⟨rfl, rfl, rfl⟩ := hcs
    simp only [if_true] at hmm
    subst hmm
    simp only [ht, Cell.okWide, Cell.ok, World.has] at hval
    obtain ⟨_, _, _, hspot, row, cells, hshape, _⟩ := hval
    obtain ⟨b, o, spot⟩ := a
    simp only at hspot hshape
    subst hspot
    have hb : b < W.heap.size := by
      unfold World.shape? at hshape
      split at hshape
      · rename_i h
        exact (Array.getElem?_eq_some_iff.1 h).1
      · cases hshape
    have hmax : m < fz := by
      simp only [maxLen] at hm
      unfold fz
      omega
    obtain ⟨f, hfx⟩ := Deep.choose_lt (α := α) (p := fun i x => W.cells? 0 ((⟨b, o, none⟩ : Addr).add (i * prog.cellsOf e)) (prog.cellsOf e) = some (encE x)) (fun i (hi : i < m) => by
      obtain ⟨cs', h1, h2⟩ := hel i hi
      obtain ⟨x, rfl⟩ := dec _ _ _ h2
      exact ⟨x, h1⟩)
    rw [hc] at hfx
    have hcell : ∀ i j, i < m → j < s → W.cell? ⟨b, o + (i * s + j), none⟩ = (encE (f i))[j]? := fun i j hi hj => by
      have := (World.cells?_some (hfx i hi)).2.2 j hj
      rw [Deep.add_add] at this
      revert this
      generalize i * s + j = k
      intro this
      unfold Addr.add at this
      by_cases h0 : k = 0
      · subst h0
        simpa using this
      · simpa [h0] using this
    have hxl : ((List.range len0).map f).length = len0 := by simp
    refine ⟨(List.range len0).map f, ?_, ⟨by simp only [VOk, AddrOk]; exact ⟨hb, trivial⟩, ?_⟩⟩
    · refine ⟨some ⟨b, o, none⟩, m, by rw [hxl], ⟨flat_len hlen _, flat_kn hkn _⟩, .inr ⟨b, o, rfl, ?_⟩⟩
      rw [hxl]
      by_cases h0 : len0 = 0
      · exact .inl h0
      · right
        have key : ∀ i j, i < len0 → j < s → ∃ c, (absH W)[b]? = some (.cells c false 0) ∧ c[o + (i * s + j)]? = (encE (f i))[j]? := fun i j hi hj => by
          have h1 := hcell i j (by omega) hj
          have h2 : j < (encE (f i)).length := by rw [hlen]; exact hj
          rw [List.getElem?_eq_getElem h2] at h1 ⊢
          exact absH_cell h1 (hfine _ _ (List.getElem_mem h2) _)
        obtain ⟨c, hc1, _⟩ := key 0 0 (by omega) hs
        refine ⟨c, false, 0, hc1, ?_⟩
        apply List.ext_getElem?
        intro k
        by_cases hk : k < len0 * s
        · have hq : k / s < len0 := Nat.div_lt_of_lt_mul (by rw [Nat.mul_comm]; exact hk)
          have hr : k % s < s := Nat.mod_lt _ hs
          have hkk : k / s * s + k % s = k := by rw [Nat.mul_comm]; exact Nat.div_add_mod k s
          obtain ⟨c', hc1', hc2'⟩ := key _ _ hq hr
          rw [hc1] at hc1'
          cases hc1'
          rw [List.getElem?_take, if_pos hk, List.getElem?_drop]
          rw [hkk] at hc2'
          rw [hc2']
          have := flat_get hlen ((List.range len0).map f) (i := k / s) (j := k % s) (by rw [hxl]; exact hq) hr
          rw [hkk] at this
          rw [this]
          simp
        · rw [List.getElem?_take, if_neg hk, List.getElem?_eq_none (by rw [flat_len hlen, hxl]; omega)]
    · have hnf : ¬ fz ≤ m := by omega
      simp [ren, renAddr, renCap, idEnv, hnf]
theorem fine_int {m : Nat} {n : Int} : Fine m (vint n) := ⟨by simp [VOk], rfl, by simp [ren]⟩
theorem trod_vint {W : World} {n : Nat} {cs : List Value} {r : DataW H × List MemPlace} {t : TypeId} (u : prog.underlying t = some (.int .i64)) (h : DataW.trod enc prog W 0 (fun _ => true) true n t cs = some r) : ∃ z, cs = [vint z] := by
  obtain ⟨z, h1, _⟩ := DataW.trod_int u h
  exact ⟨z, h1⟩
end
instance : Inhabited Dro := ⟨⟨0, 0⟩⟩
section
variable {H : Type} {enc : TypeId × Value → H} {W : World} {n base : Nat} {cs : List Value} {r : DataW H × List MemPlace}
def structOf : Option TypeDesc → Option (List (TypeId × Nat))
  | some (.struct fs) => some (fs.toList.map fun f => (f.type, f.offset))
  | _ => none
theorem trod_fields {t : TypeId} {l : List (TypeId × Nat)} (hs : structOf (prog.underlying t) = some l) (h : DataW.trod enc prog W 0 (fun _ => true) true n t cs = some r) :
    cs.length = prog.cellsOf t ∧ ∃ n' : Nat, ∀ (i : Nat) (ty : TypeId) (off : Nat), l[i]? = some (ty, off) → ∃ r', DataW.trod enc prog W 0 (fun _ => true) true n' ty ((cs.drop off).take (prog.cellsOf ty)) = some r' := by
  unfold structOf at hs
  split at hs
  · rename_i fs hu
    cases hs
    obtain ⟨xs, n', _, rfl, hl, hxl, hf⟩ := DataW.trod_struct hu h
    refine ⟨hl, n', fun i ty off hi => ?_⟩
    rw [List.getElem?_map, Option.map_eq_some_iff] at hi
    obtain ⟨f, hfi, he⟩ := hi
    cases he
    have hfi' : fs[i]? = some f := by simpa using hfi
    have hil : i < xs.length := by rw [hxl]; exact (Array.getElem?_eq_some_iff.1 hfi').1
    exact ⟨xs[i], by rw [hf i f hfi', List.getElem?_eq_getElem hil]⟩
  · cases hs
theorem dec_dro (h : DataW.trod enc prog W 0 (fun _ => true) true n 74 cs = some r) : ∃ x : Dro, cs = x.cells := by
  have u3 : prog.underlying 3 = some (.int .i64) := by kernel_rfl
  have c3 : prog.cellsOf 3 = 1 := by kernel_rfl
  have cD : prog.cellsOf 74 = 2 := by kernel_rfl
  obtain ⟨hl, n', hf⟩ := trod_fields (l := [(3, 0), (3, 1)]) (by kernel_rfl) h
  rw [cD] at hl
  obtain ⟨a, b, rfl⟩ : ∃ a b, cs = [a, b] := by
    match cs, hl with
    | [a, b], _ => exact ⟨a, b, rfl⟩
  obtain ⟨_, g0⟩ := hf 0 3 0 rfl
  obtain ⟨_, g1⟩ := hf 1 3 1 rfl
  rw [c3] at g0 g1
  obtain ⟨z0, w0⟩ := trod_vint u3 g0
  obtain ⟨z1, w1⟩ := trod_vint u3 g1
  simp at w0 w1
  exact ⟨⟨z0, z1⟩, by rw [w0, w1]; rfl⟩
theorem dec_wel (h : DataW.trod enc prog W 0 (fun _ => true) true n 23 cs = some r) : ∃ x : Wel, cs = x.cells := by
  have u3 : prog.underlying 3 = some (.int .i64) := by kernel_rfl
  have c3 : prog.cellsOf 3 = 1 := by kernel_rfl
  have cW : prog.cellsOf 23 = 3 := by kernel_rfl
  obtain ⟨hl, n', hf⟩ := trod_fields (l := [(3, 0), (3, 1), (3, 2)]) (by kernel_rfl) h
  rw [cW] at hl
  obtain ⟨a, b, c, rfl⟩ : ∃ a b c, cs = [a, b, c] := by
    match cs, hl with
    | [a, b, c], _ => exact ⟨a, b, c, rfl⟩
  obtain ⟨_, g0⟩ := hf 0 3 0 rfl
  obtain ⟨_, g1⟩ := hf 1 3 1 rfl
  obtain ⟨_, g2⟩ := hf 2 3 2 rfl
  rw [c3] at g0 g1 g2
  obtain ⟨z0, w0⟩ := trod_vint u3 g0
  obtain ⟨z1, w1⟩ := trod_vint u3 g1
  obtain ⟨z2, w2⟩ := trod_vint u3 g2
  simp at w0 w1 w2
  exact ⟨⟨z0, z1, z2⟩, by rw [w0, w1, w2]; rfl⟩
theorem fine_dro (x : Dro) : ∀ y ∈ x.cells, ∀ m, Fine m y := fun y hy m => by
  simp only [Dro.cells, List.mem_cons, List.not_mem_nil, or_false] at hy
  rcases hy with rfl | rfl <;> exact fine_int
theorem lok_of : ∀ {l : List Value} {m : Nat}, (∀ v ∈ l, VOk m v) → LOk m l
  | [], _, _ => by simp [LOk]
  | v :: l, m, h => by
    simp only [LOk]
    exact ⟨h v (by simp), lok_of fun u hu => h u (by simp [hu])⟩
theorem argOk_agg {l : List Value} (h : ∀ v ∈ l, ArgOk W v) : ArgOk W (.agg ⟨l⟩) := by
  refine ⟨?_, ?_⟩
  · simp only [VOk, AOk]
    exact lok_of fun v hv => (h v hv).1
  · simp only [ren, renA, renL_eq]
    congr 2
    rw [List.map_congr_left (g := id) fun v hv => (h v hv).2, List.map_id]
theorem agg_of {t : TypeId} {l : List (TypeId × Nat)} {v : Value} (hs : structOf (prog.underlying t) = some l) (hval : Value.okWide prog W .any base t v) : ∃ cs, v = .agg cs ∧ Row.okWide prog W .any base t cs := by
  unfold structOf at hs
  split at hs
  · rename_i fs hu
    simp only [Value.okWide, hu] at hval
    obtain ⟨cs, h1, _, h3⟩ := hval
    exact ⟨cs, h1, h3⟩
  · cases hs
theorem arg_tro {v : Value} {d : DataW H} {ps : List MemPlace} (hval : Value.okWide prog W .any base 26 v) (hd : DataW.Trod enc prog W 0 (fun _ => true) true 26 v d ps) : ∃ (t : Tro) (fv : Value), TroAt (absH W) v t fv ∧ ArgOk W v := by
  have uS : prog.underlying 24 = some (.slice 74) := by kernel_rfl
  have cS : prog.cellsOf 24 = 1 := by kernel_rfl
  have cD : prog.cellsOf 74 = 2 := by kernel_rfl
  have cW : prog.cellsOf 23 = 3 := by kernel_rfl
  have cT : prog.cellsOf 26 = 4 := by kernel_rfl
  have hst : structOf (prog.underlying 26) = some [(23, 0), (24, 3)] := by kernel_rfl
  have hct : prog.cellTypes prog.depth 26 = some [3, 3, 3, 24] := by kernel_rfl
  obtain ⟨fuel, hf⟩ := hd
  obtain ⟨⟨cs⟩, rfl, ts, hts, _, hrow⟩ := agg_of hst hval
  rw [hct] at hts
  cases hts
  have hf' : DataW.trod enc prog W 0 (fun _ => true) true fuel 26 cs = some (d, ps) := by simpa [Value.cells] using hf
  obtain ⟨hl, n', hfl⟩ := trod_fields hst hf'
  rw [cT] at hl
  obtain ⟨x0, x1, x2, x3, rfl⟩ : ∃ a b c d, cs = [a, b, c, d] := by
    match cs, hl with
    | [a, b, c, d], _ => exact ⟨a, b, c, d, rfl⟩
  obtain ⟨_, g0⟩ := hfl 0 23 0 rfl
  obtain ⟨y3, g3⟩ := hfl 1 24 3 rfl
  rw [cW] at g0
  rw [cS] at g3
  obtain ⟨w, w0⟩ := dec_wel g0
  simp [Wel.cells] at w0
  obtain ⟨w0, w1, w2⟩ := w0
  subst w0 w1 w2
  obtain ⟨u, hu, k3⟩ := hrow 3 x3 rfl
  cases hu
  have v3 : x3.cells.toList = [x3] := by
    obtain ⟨a0, a1, a2, rfl⟩ := okWide_slice uS (show Value.okWide prog W .any base 24 x3 by unfold Value.okWide; rw [uS]; exact k3)
    rfl
  obtain ⟨fls, s3, ok3⟩ := arg_sliE (encE := Dro.cells) (n := n') (x := y3) uS cD (by omega) (fun _ => rfl) (fun _ => rfl) fine_dro (fun _ _ _ h => dec_dro h) k3 (by rw [v3]; exact g3)
  refine ⟨⟨w, fls⟩, x3, ⟨rfl, s3⟩, argOk_agg fun v hv => ?_⟩
  simp only [List.mem_cons, List.not_mem_nil, or_false] at hv
  rcases hv with rfl | rfl | rfl | rfl
  · exact argOk_int
  · exact argOk_int
  · exact argOk_int
  · exact ok3
end
theorem lifted8 (os : Os) (started : os.Started) (H : Type) (enc : TypeId × Value → H) :
    ReturnsInLeavingWide {} checked os 8 .any (Rows.wellHoursSpec.pre6 enc prog f8 Rows.wellHoursRow.domain false) (Rows.wellHoursSpec.post enc prog f8 false true false false) := by
  refine returnsInLeavingWide_of_change_sized (C := checked) own started at8
    (ChangeSpec.witness6 (enc := enc) (C := checked) false ⟨#[], #[.agg #[.int .i64 0, .int .i64 0, .int .i64 0, .slice none 0 0], .slice none 0 0, .int .i64 0, .slice none 0 0], []⟩ 8 (by kernel_rfl) (by kernel_rfl) (by kernel_rfl) (by kernel_rfl)) ?_
  intro W base args ds gs before hval0 hW _ hsz0 _
  have hsz : (DataW.weightsEach prog (f8.params.toList ++ Rows.wellHoursSpec.plain.varTypes prog) (ds ++ gs)).all (· ≤ reachBytes) = true := hsz0
  clear hsz0
  have hval : ∀ (j : Nat) t v, f8.params[j]? = some t → args[j]? = some v → Value.okWide prog W .any base t v := hval0
  have hW' := hW
  obtain ⟨p, q, hA0, hV, rfl, _, _⟩ := hW
  have hA : DataW.TrodAll enc prog W 0 (fun _ => true) true f8.params.toList args.toList ds p := hA0
  have hps : f8.params = #[26, 27, 3, 27] := by kernel_rfl
  rw [hps] at hA hval hsz
  obtain ⟨args⟩ := args
  have r0 : DataW.TrodAll enc prog W 0 (fun _ => true) true [26, 27, 3, 27] args ds p := hA
  obtain ⟨v0, vs0, d0, ds0, p0, q0, hv0, hd0, hp0, h0, r1⟩ := trodAll_cons r0
  obtain ⟨v1, vs1, d1, ds1, p1, q1, hv1, hd1, hp1, h1, r2⟩ := trodAll_cons r1
  obtain ⟨v2, vs2, d2, ds2, p2, q2, hv2, hd2, hp2, h2, r3⟩ := trodAll_cons r2
  obtain ⟨v3, vs3, d3, ds3, p3, q3, hv3, hd3, hp3, h3, r4⟩ := trodAll_cons r3
  obtain ⟨hvn, hdn, hpn⟩ := trodAll_nil r4
  subst hvn hdn hpn
  subst hv3 hd3 hp3
  subst hv2 hd2 hp2
  subst hv1 hd1 hp1
  subst hv0 hd0 hp0
  obtain ⟨rfl, rfl⟩ := trodVars_none hV
  have u3 : prog.underlying 3 = some (.int .i64) := by kernel_rfl
  have u27 : prog.underlying 27 = some (.slice 3) := by kernel_rfl
  have u4 : prog.underlying 4 = some .bool := by kernel_rfl
  have c3 : prog.cellsOf 3 = 1 := by kernel_rfl
  have b3 : prog.bytesOf 3 = 8 := by kernel_rfl
  have hlt : ∀ x ∈ p0 ++ (p1 ++ (p2 ++ (p3 ++ []))), x.block < W.heap.size := fun x hx => by simpa using hW'.lt x (by simpa using hx)
  have hargs : ∀ (W' : World), Below W.heap.size W W' → DataW.TrodAll enc prog W' 0 (fun b => decide (b < W.heap.size)) true [26, 27, 3, 27] [v0, v1, v2, v3] [d0, d1, d2, d3] (p0 ++ (p1 ++ (p2 ++ (p3 ++ [])))) := fun W' hn =>
    trodAll_mkc (Below.trod laidOut (by kernel_rfl) (of_decide_eq_true (by kernel_rfl)) h0 hn fun x hx => hlt x (by simp [hx])) (trodAll_mkc (Below.trod laidOut (by kernel_rfl) (of_decide_eq_true (by kernel_rfl)) h1 hn fun x hx => hlt x (by simp [hx])) (trodAll_mkc (Below.trod laidOut (by kernel_rfl) (of_decide_eq_true (by kernel_rfl)) h2 hn fun x hx => hlt x (by simp [hx])) (trodAll_mkc (Below.trod laidOut (by kernel_rfl) (of_decide_eq_true (by kernel_rfl)) h3 hn fun x hx => hlt x (by simp [hx])) (rfl))))
  obtain ⟨t0, fv0, ht0, ok0⟩ := arg_tro (hval 0 26 v0 rfl rfl) h0
  obtain ⟨ns1, sn1, ok1, hbig1⟩ := arg_ints u27 u3 c3 (hval 1 27 v1 rfl rfl) h1
  have hln1 : ns1.length < 4611686018427387904 := by
    rcases hbig1 with rfl | ⟨es, sp, rfl, hle⟩
    · simp
    · have := sized_slice hsz (j := 1) (t := 27) (e := 3) rfl rfl u27
      rw [b3] at this
      simp only [reachBytes] at this
      omega
  obtain ⟨z2, rfl, _, _, _⟩ := open_int u3 (hval 2 3 v2 rfl rfl) h2
  obtain ⟨ns3, sn3, ok3, hbig3⟩ := arg_ints u27 u3 c3 (hval 3 27 v3 rfl rfl) h3
  have hln3 : ns3.length < 4611686018427387904 := by
    rcases hbig3 with rfl | ⟨es, sp, rfl, hle⟩
    · simp
    · have := sized_slice hsz (j := 3) (t := 27) (e := 3) rfl rfl u27
      rw [b3] at this
      simp only [reachBytes] at this
      omega
  obtain ⟨M, last, o, w', t', r1, r2, r3, r4⟩ := law_run1 (g := 8) (fn := f8) at8 body8 (by kernel_rfl) W [v0, v1, vint z2, v3] (Nat.le_of_ble_eq_true (by kernel_rfl : Nat.ble 4 f8.ntmps = true))
    (by
      intro v hv
      simp only [List.mem_cons, List.not_mem_nil, or_false] at hv
      rcases hv with rfl | rfl | rfl | rfl
      · exact ok0
      · exact ok1
      · exact argOk_int
      · exact ok3)
    (fun Post => walk8 (K := fun v _ => v = .bool true) ht0 sn1 sn3 hln3 fun _ => rfl)
  refine ⟨M, last, o, w', t', r1, r2, r3, r4.mono fun v hF => ?_⟩
  obtain ⟨rfl, hbelow⟩ := hF
  refine ⟨_, _, _, [], _, [], hW', ?_, hargs _ hbelow, by rfl, hbelow.frame _, fun h => by cases h⟩
  exact trodAll_mk1 (shut_bool u4 true)
theorem wellHours_holds : Rows.WellHoursSaid :=
  OpenClaim.holds_of_wide_leaving 8 f8 rfl rfl rfl rfl rfl rfl rfl ⟨rfl, rfl, rfl, rfl, rfl⟩ rfl rfl rfl rfl rfl (by kernel_rfl) at8 (by kernel_rfl)
    (of_decide_eq_true (by kernel_rfl)) (by unfold Func.isWrapper; first | (rw [if_pos (by decide +kernel)]; kernel_rfl) | (rw [if_neg (by decide +kernel)]; exact ⟨rfl, rfl⟩))
    (fun os started H enc _ => lifted8 os started H enc)
#print axioms wellHours_holds
end Go.Proofs.Ytindillghipjjaa
