/- Parts of the proof, 6. No conditions. -/
import Derived.Test.YthnccaajpdnndaaK5
import Derived.Test.YthnccaajpdnndaaK3
import Derived.Test.YthnccaajpdnndaaK2
namespace Go.Proofs.Ythnccaajpdnndaa
open Go.Conc Go.Proofs.Try
set_option maxRecDepth 100000
def wordOk (w : List UInt8) : Prop := ∀ b ∈ w, b = 100 ∨ b = 119
instance (w : List UInt8) : Decidable (wordOk w) := by unfold wordOk; infer_instance
def askE (p : Pas) (heads : List Int) (w : List UInt8) : Int :=
  if fst2 (pasE p) (cntE w.length 1 8) ≠ 0 then fst2 (pasE p) (cntE w.length 1 8) else if hunE heads w.length ≠ 0 then hunE heads w.length else if wordOk w then 0 else 2
def endsZ (p : Pas) (heads : List Int) (w : List UInt8) (k : Nat) : List Int := (List.range k).map fun i => (stdR p heads w (i + 1)).1
theorem endsZ_succ {p : Pas} {heads : List Int} {w : List UInt8} {k : Nat} : endsZ p heads w (k + 1) = endsZ p heads w k ++ [(stdR p heads w (k + 1)).1] := by
  unfold endsZ
  rw [List.range_succ, List.map_append]
  rfl
theorem endsZ_len {p : Pas} {heads : List Int} {w : List UInt8} {k : Nat} : (endsZ p heads w k).length = k := by simp [endsZ]
section
variable {main : Bool} {J : JT} {h H : List AObj} {K : Value → List AObj → Prop} {KV : Value → Prop} {HL : List AObj → Prop} {n0 : Nat}
theorem good86 (hJ : Closed prog main J) {h0 : List AObj} {p : Pas} {heads : List Int} {w : List UInt8} {hv cb : Value} (f : pasOk p) (hh : headsOk heads) (S0 : SameX [] h0 H) (sh : Sli h0 hv 1 heads.length (heads.map vint)) (hl : w.length ≤ heads.length) (hw : w.length ≤ 1000)
    {I : Nat → List Nat → List AObj → Prop} {O0 : List Nat} (hO : ∀ x ∈ O0, h0.length ≤ x) (hI : I 0 O0 H) (lt : ∀ k O H1, I k O H1 → ∀ x ∈ O, x < H1.length) (mono : ∀ k O H1 H2 X, I k O H1 → SameX X H1 H2 → (∀ x ∈ O, x ∉ X) → I k O H2)
    (step : ∀ k O H1 (K1 : Value → List AObj → Prop), I k O H1 → k < w.length → (∀ O' H2 v, I (k + 1) O' H2 → SameX O H1 H2 → (∀ x ∈ O', x ∈ O ∨ H1.length ≤ x) → K1 v H2) → callV prog (Good prog J) cb [vint (k : Nat), vint (stdR p heads w (k + 1)).1, .bool (hungAt p heads w k), .bool (shortAt p heads w k)] H1 K1)
    (hK : ∀ O H', I w.length O H' → SameX O0 H H' → K (pack []) H') : Good prog J 86 [.agg ⟨p.cells⟩, hv, strV w, cb] H K := by
  refine g86 hJ fun ok => ?_
  rw [e86]
  refine qBox (l := p.cells) rfl fun H1 p1 e1 S1 c1 l1 => load_part (c := p.cells) c1 (by simp [Pas.cells]) rfl rfl ?_
  refine good125 hJ fun H2 m em S2 c2 hm => lenStrI ?_
  have T2 := S1.trans S2
  have hlt0 := lt _ _ _ hI
  have l21 := S2.1
  refine l86_1 hJ (fun k : Nat => w.length - k) (fun k F H' => k ≤ w.length ∧ SameX O0 H H' ∧ H'[m]? = some (.cells (medC p (stdR p heads w k)) true 0) ∧ (∃ O, I k O H' ∧ m ∉ O ∧ ∀ x ∈ O, x ∈ O0 ∨ H.length ≤ x) ∧ F.ds = [] ∧ F.r 1 = hv ∧ F.r 2 = strV w ∧ F.r 3 = cb ∧ F.r 8 = ptr m 0 ∧ F.r 15 = vint (w.length : Nat) ∧ F.r 16 = vint (k : Nat)) ?_ (s := 0)
    (.inl ⟨by omega, T2.weak0, c2, ⟨O0, mono _ _ _ _ _ hI T2 (by simp), fun hx => by have := hlt0 m hx; omega, fun x hx => .inl hx⟩, rfl, rfl, rfl, rfl, rfl, rfl, rfl⟩)
  rintro k F H' ⟨hk, S, cm, ⟨O, hIk, hmO, hOO⟩, ds, r1, r2, r3, r8, r15, r16⟩ okc hnc
  rw [s86_1, r1, r2, r3, r8, r15, r16, ds]
  refine lssI (cndI (fun hlt => ?_) fun hge => ?_)
  rotate_left
  · have : k = w.length := by omega
    subst this
    exact retL_same (by simp) (hK O H' hIk S)
  have hkl : k < w.length := by omega
  have hx : heads[k]? = some (heads.getD k 0) := by
    rw [List.getD_eq_getElem?_getD, List.getElem?_eq_getElem (by omega)]
    rfl
  have hb : w[k]? = some (w.getD k 0) := by
    rw [List.getD_eq_getElem?_getD, List.getElem?_eq_getElem hkl]
    rfl
  have hbd := headsOk_getD hh k
  have S0' : SameX O0 h0 H' := S0.weak0.thru S fun x hx => .inl hx
  refine sliN (S0'.sli sh hO) hx fun q => byteI hb (eqlW ?_)
  refine good126 hJ cm f (stdR_ok f hh k) ⟨hbd.1, by omega⟩ fun H3 S3 c3 => ext0 (ext1 (nilI (offI (offI (ldI (v := vint (stdR p heads w (k + 1)).1) c3 rfl rfl ?_)))))
  have hm1 := lt_of_get cm
  have hm3 := lt_of_get c3
  refine step k O H3 _ (mono _ _ _ _ _ hIk S3 fun x hx e => hmO (by rw [← List.mem_singleton.1 e]; exact hx)) hkl fun O' H4 v hI4 S4 hO4 => ?_
  have h3 := S3.1
  have h0 := S.1
  refine addI (by omega) ⟨k + 1, by dsimp only; omega, .inl ⟨by omega, ?_, S4.get c3 hmO, ⟨O', hI4, fun hx => ?_, fun x hx => ?_⟩, ds, r1, r2, r3, r8, r15, by show vint _ = vint _; congr 1⟩⟩
  · refine (S.thru S3 fun x hx => ?_).thru S4 hOO
    rw [List.mem_singleton.1 hx]
    right
    have := S1.1
    omega
  · rcases hO4 m hx with h | h
    · exact hmO h
    · omega
  · rcases hO4 x hx with h | h
    · exact hOO x h
    · right
      omega
theorem wordOk_step {w : List UInt8} {k : Nat} (h : ∀ i, i < k → ∀ b, w[i]? = some b → b = 100 ∨ b = 119) {b : UInt8} (hb : w[k]? = some b) (h2 : b = 100 ∨ b = 119) : ∀ i, i < k + 1 → ∀ b, w[i]? = some b → b = 100 ∨ b = 119 := fun i hi c hc => by
  by_cases e : i = k
  · rw [e, hb] at hc
    cases hc
    exact h2
  · exact h i (by omega) c hc
theorem good85 (hJ : Closed prog main J) {p : Pas} {heads : List Int} {w : List UInt8} {hv : Value} (sh : Sli H hv 1 heads.length (heads.map vint)) (hl : heads.length < 1000000) (hw : w.length ≤ 1000000)
    (hK : ∀ H', SameX [] H H' → K (vint (askE p heads w)) H') : Good prog J 85 [.agg ⟨p.cells⟩, hv, strV w] H K := by
  refine g85 hJ fun ok => ?_
  rw [e85]
  refine qBox (l := p.cells) rfl fun H1 p1 e1 S1 c1 l1 => load_part (c := p.cells) c1 (by simp [Pas.cells]) rfl rfl ?_
  refine good36 hJ (lenStrI (good71 hJ ⟨⟨by decide, by decide, rfl⟩, fillO (l := [vint (pasE p)]) rfl rfl rfl (by decide) (fillO (l := [vint (cntE w.length 1 8)]) rfl rfl rfl (by rw [wrAt_length]; decide) (fillI (qNew fun H2 p2 e2 S2 c2 l2 => ?_)))⟩))
  have T := S1.trans S2
  refine good88 hJ (a := pasE p) (b := cntE w.length 1 8) ⟨_, _, rfl, ⟨rfl, rfl⟩, .inr ⟨p2, 0, rfl, .inr ⟨_, _, _, c2, rfl⟩⟩⟩ ?_
  unfold askE at hK
  refine neqI (cndI (fun h1 => retL_same (by simp [unk]) ?_) fun h1 => lenStrI ?_)
  · have := hK H2 T
    rw [if_pos h1] at this
    exact this
  rw [if_neg h1] at hK
  refine good124 hJ (T.sli sh (by simp)) hl (neqI (cndI (fun h2 => retL_same (by simp [unk]) ?_) fun h2 => lenStrI ?_))
  · have := hK H2 T
    rw [if_pos h2] at this
    exact this
  rw [if_neg h2] at hK
  refine l85_1 hJ (fun k : Nat => w.length - k) (fun k F H' => k ≤ w.length ∧ SameX [] H H' ∧ (∀ i, i < k → ∀ b, w[i]? = some b → b = 100 ∨ b = 119) ∧ F.ds = [] ∧ F.r 2 = strV w ∧ F.r 28 = vint (w.length : Nat) ∧ F.r 29 = vint (k : Nat)) ?_ (s := 0)
    (.inl ⟨by omega, T, fun i hi => absurd hi (Nat.not_lt_zero _), rfl, rfl, rfl, rfl⟩)
  rintro k F H' ⟨hk, S, hg, ds, r2, r28, r29⟩ okc hnc
  rw [s85_1, r2, r28, r29, ds]
  refine lssI (cndI (fun hlt => ?_) fun hge => ?_)
  rotate_left
  · have : k = w.length := by omega
    subst this
    have := hK H' S
    have hwk : wordOk w := fun b hb => by
      obtain ⟨i, hi⟩ := List.getElem?_of_mem hb
      exact hg i (List.getElem?_eq_some_iff.1 hi).1 b hi
    rw [if_pos hwk] at this
    exact retL_same (by simp [unk]) this
  have hkl : k < w.length := by omega
  obtain ⟨b, hb⟩ : ∃ b, w[k]? = some b := ⟨_, List.getElem?_eq_getElem hkl⟩
  have e100 : (Value.int .u8 100) = .int .u8 (100 : UInt8).toNat := rfl
  have e119 : (Value.int .u8 119) = .int .u8 (119 : UInt8).toNat := rfl
  rw [e100, e119]
  have next : ∀ {F2 : RG} {z : Bool}, F2.ds = [] → F2.r 2 = strV w → F2.r 28 = vint (w.length : Nat) → F2.r 29 = vint (k : Nat) → F2.r 41 = .bool z → (z = true ↔ ¬ (b = 100 ∨ b = 119)) →
      W prog J 43 H.length 85 (subC [1, 1, 1, 0, 1, 0, 0, 1, 1, 0, 0, 1, 1] (codeOf f85)) F2 H' (contX pl85 prog J 43 H.length 85 ct85 [1, 1, 1, 0, 1, 0, 0, 1, 1, 0, 0, 1, 1] (codeOf f85) [Nx H.length (fun k : Nat => w.length - k) (fun k F H' => k ≤ w.length ∧ SameX [] H H' ∧ (∀ i, i < k → ∀ b, w[i]? = some b → b = 100 ∨ b = 119) ∧ F.ds = [] ∧ F.r 2 = strV w ∧ F.r 28 = vint (w.length : Nat) ∧ F.r 29 = vint (k : Nat)) k] (RetQ prog [.tmp 6] H.length K)) := by
    intro F2 z ds r2 r28 r29 r41 hz
    rw [s85_2, r41, r29, ds]
    refine cndB (fun h1 => retL_same (by simp [unk]) ?_) fun h1 => ?_
    · have := hK H' S
      rw [if_neg (fun hw : wordOk w => hz.1 h1 (hw b (List.mem_of_getElem? hb)))] at this
      exact this
    · have hb2 : b = 100 ∨ b = 119 := Classical.byContradiction fun hn => by
        rw [hz.2 hn] at h1
        cases h1
      exact addI (by omega) ⟨k + 1, by dsimp only; omega, .inl ⟨by omega, S, wordOk_step hg hb hb2, ds, r2, r28, by show vint _ = vint _; congr 1⟩⟩
  refine byteI hb (neqU (cndI (fun hn => ?_) fun hn => hold.2 ?_))
  · refine byteI hb (neqU (hold.2 (next (z := decide (b ≠ 119)) ds r2 r28 r29 rfl ?_)))
    rw [decide_eq_true_iff]
    exact ⟨fun h1 h2 => h2.elim hn h1, fun h e => h (.inr e)⟩
  · refine next (z := false) ds r2 r28 r29 rfl ⟨fun h => (by cases h), fun h => absurd (.inl (Classical.not_not.1 hn)) h⟩
theorem good87 (hJ : Closed prog main J) {q k : Nat} {x : Int} {a0 a2 a3 v : Value} {xs : List Int} {o : Option Nat} (hq : H[q]? = some (.cells [v] true 0)) (O : OwnX H 1 (xs.map vint) k v o) (hne : o ≠ some q) (hk : k < 100000)
    (hK : ∀ H' v' o', SameX (q :: o.toList) H H' → H'[q]? = some (.cells [v'] true 0) → OwnX H' 1 ((xs ++ [x]).map vint) (k + 1) v' o' → o' ≠ some q → (∀ i, o' = some i → H.length ≤ i) → K (pack []) H') : Good prog J 87 [a0, vint x, a2, a3, ptr q 0] H K := by
  refine g87 hJ fun ok => ?_
  rw [e87]
  have kv := (ownX_val O).2.2
  refine ldI (v := v) hq rfl kv ⟨⟨by decide, by decide, rfl⟩, fillO (l := [vint x]) rfl rfl rfl (by decide) (fillI (qNew fun H1 p1 e1 S1 c1 l1 => ?_))⟩
  have hq1 := S1.get hq (by simp)
  have lq := lt_of_get hq
  refine ⟨⟨rfl, by decide, by decide, by decide⟩, ownX_more (ownX_keep O S1 (by simp)) (by decide) hk (e := [vint x]) ⟨_, _, rfl, ⟨rfl, rfl⟩, .inr ⟨p1, 0, rfl, .inr ⟨_, _, _, c1, rfl⟩⟩⟩ fun v' H2 p2 e2 O2 S2 => ?_⟩
  have hq2 : H2[q]? = some (.cells [v] true 0) := S2.get hq1 (by
    cases o with
    | none => simp
    | some i => simp; exact fun e => hne (by rw [e]))
  have vv := ownX_val O2
  refine qSt hq2 (by simp) vv.1 vv.2.1 fun H3 S3 c3 l3 => retL_same (by simp) (hK H3 v' (some p2) ?_ c3 ?_ (by simp; omega) fun i hi => by cases hi; omega)
  · refine ((S1.weak0.thru S2 fun y hy => .inl (by simp [hy])).thru S3 fun y hy => .inl (by simp at hy; simp [hy]) : SameX (q :: o.toList) H H3)
  · rw [List.map_append]
    exact ownX_keep O2 S3 (fun i hi => by cases hi; simp; omega)
theorem cntE_zero {n lo hi : Int} (h : cntE n lo hi = 0) : lo ≤ n ∧ n ≤ hi := by
  unfold cntE at h
  split at h
  · cases h
  · split at h
    · cases h
    · omega
theorem askE_ok {p : Pas} {heads : List Int} {w : List UInt8} (h : askE p heads w = 0) : pasOk p ∧ (1 ≤ w.length ∧ w.length ≤ 8) ∧ heads.length = w.length ∧ headsOk heads ∧ wordOk w := by
  unfold askE at h
  split at h
  · contradiction
  rename_i h1
  have h1 := Classical.not_not.1 h1
  split at h
  · contradiction
  rename_i h2
  have h2 := Classical.not_not.1 h2
  split at h
  · rename_i h3
    unfold fst2 at h1
    split at h1
    · contradiction
    rename_i h4
    have h4 := Classical.not_not.1 h4
    have h5 := cntE_zero h1
    have hp : pasOk p := Classical.byContradiction fun hn => by
      unfold pasE at h4
      rw [if_neg hn] at h4
      cases h4
    unfold hunE at h2
    split at h2
    · contradiction
    rename_i h6
    have h6 := cntE_zero (Classical.not_not.1 h6)
    split at h2
    · rename_i h7
      exact ⟨hp, by omega, by omega, h7, h3⟩
    · cases h2
  · cases h
theorem good32 (hJ : Closed prog main J) {p : Pas} {heads : List Int} {w : List UInt8} {hv : Value} (sh : Sli H hv 1 heads.length (heads.map vint)) (hl : heads.length < 1000000) (hw : w.length ≤ 1000000)
    (hK0 : askE p heads w ≠ 0 → ∀ H', SameX [] H H' → K (.tuple ⟨[.slice none 0 0, vint (askE p heads w)]⟩) H')
    (hK1 : askE p heads w = 0 → ∀ H' v, SameX [] H H' → Sli H' v 1 w.length ((endsZ p heads w w.length).map vint) → K (.tuple ⟨[v, vint 0]⟩) H') : Good prog J 32 [.agg ⟨p.cells⟩, hv, strV w] H K := by
  refine g32 hJ fun ok => ?_
  rw [e32]
  refine qBox (l := p.cells) rfl fun H1 p1 e1 S1 c1 l1 => load_part (c := p.cells) c1 (by simp [Pas.cells]) rfl rfl ?_
  refine good85 hJ (S1.sli sh (by simp)) hl hw fun H2 S2 => neqI (cndI (fun h1 => retL_same (by simp [unk]) (hK0 h1 H2 (S1.trans S2))) fun h1 => ?_)
  have h1 := Classical.not_not.1 h1
  obtain ⟨fp, fw, fl, fh, fo⟩ := askE_ok h1
  have T2 := S1.trans S2
  refine qAl fun H3 q e3 S3 c3 l3 => load_part (c := p.cells) (S3.get (S2.get c1 (by simp)) (by simp)) (by simp [Pas.cells]) rfl rfl ⟨rfl, ?_⟩
  have T3 := T2.trans S3
  have hqH : H.length ≤ q := by
    have := T2.1
    omega
  refine good86 hJ fp fh T3 sh (by omega) (by omega) (O0 := [q]) (fun x hx => by rw [List.mem_singleton.1 hx]; exact hqH)
    (I := fun k O H1 => ∃ v o, H1[q]? = some (.cells [v] true 0) ∧ OwnX H1 1 ((endsZ p heads w k).map vint) k v o ∧ o ≠ some q ∧ O = q :: o.toList)
    ⟨_, none, c3, ⟨rfl, rfl, .inl ⟨rfl, rfl, rfl⟩⟩, by simp, rfl⟩ (fun k O H1 ⟨v, o, hq, ho, hne, e⟩ x hx => ?_) (fun k O H1 H2 X ⟨v, o, hq, ho, hne, e⟩ S hX => ?_) (fun k O H1 K1 ⟨v, o, hq, ho, hne, e⟩ hk hk1 => ?_) fun O H' ⟨v, o, hq, ho, hne, e⟩ S => ?_
  · rw [e] at hx
    rcases List.mem_cons.1 hx with rfl | hx
    · exact lt_of_get hq
    · exact ownX_lt ho x (by simpa using hx)
  · refine ⟨v, o, S.get hq (hX q (by rw [e]; simp)), ownX_keep ho S (fun i hi => hX i (by rw [e, hi]; simp)), hne, e⟩
  · refine callCz (by kernel_rfl) (good87 hJ hq ho hne (by omega) fun H2 v' o' S' hq' ho' hne' hnew => hk1 (q :: o'.toList) H2 _ ⟨v', o', hq', by rw [endsZ_succ]; exact ho', hne', rfl⟩ (by rw [e]; exact S') fun x hx => ?_)
    rcases List.mem_cons.1 hx with rfl | hx
    · exact .inl (by rw [e]; simp)
    · exact .inr (hnew x (by simpa using hx))
  · have kv := (ownX_val ho).2.2
    refine ldI (v := v) hq rfl kv (retL_same ?_ (hK1 h1 H' v ?_ (ownX_sli ho)))
    · intro x hx
      simp only [List.mem_cons, List.not_mem_nil, or_false] at hx
      rcases hx with rfl | rfl
      · exact ownU ho
      · simp [unk]
    · exact T3.thru S fun x hx => .inr (by rw [List.mem_singleton.1 hx]; exact hqH)
end
abbrev Span := Int × Int × Bool
def spanC (x : Span) : List Value := [vint x.1, vint x.2.1, .bool x.2.2]
def widenR (x : Span) (n : Int) : Span := if x.2.2 = true then (min x.1 n, max x.2.1 n, true) else (n, n, true)
theorem wrAt_right {a : List Value} : ∀ (vs b : List Value) (o : Nat), wrAt (a ++ b) (a.length + o) vs = a ++ wrAt b o vs
  | [], b, o => rfl
  | v :: vs, b, o => by
    simp only [wrAt]
    rw [List.set_append_right _ _ (by omega), show a.length + o - a.length = o by omega, show a.length + o + 1 = a.length + (o + 1) by omega]
    exact wrAt_right vs (b.set o v) (o + 1)
theorem wrAt_span (y : Span) : ∀ (L : List Span) (j : Nat), j < L.length → wrAt (L.flatMap spanC) (j * 3) (spanC y) = (L.set j y).flatMap spanC
  | [], j, h => absurd h (Nat.not_lt_zero _)
  | x :: L, 0, _ => rfl
  | x :: L, j + 1, h => by
    have e : (j + 1) * 3 = (spanC x).length + j * 3 := by
      show (j + 1) * 3 = 3 + j * 3
      omega
    rw [List.flatMap_cons, e, wrAt_right, wrAt_span y L j (by simpa using h), List.set_cons_succ, List.flatMap_cons]
section
variable {main : Bool} {J : JT} {h H : List AObj} {K : Value → List AObj → Prop} {KV : Value → Prop} {HL : List AObj → Prop} {n0 : Nat}
theorem good131 (hJ : Closed prog main J) {x : Span} {n : Int} (hK : ∀ H', SameX [] H H' → K (.agg ⟨spanC (widenR x n)⟩) H') : Good prog J 131 [.agg ⟨spanC x⟩, vint n] H K := by
  refine g131 hJ fun ok => ?_
  rw [e131]
  refine qBox (l := spanC x) rfl fun H1 p1 e1 S1 c1 l1 => qAl fun H2 p2 e2 S2 c2 l2 => ?_
  have c12 := S2.get c1 (by simp)
  have T := S1.trans S2
  have fin : ∀ {F : RG} {y : Span} {H3 : List AObj}, y = widenR x n → F.ds = [] → F.r 4 = ptr p2 0 → SameX [p2] H2 H3 → H3[p2]? = some (.cells (spanC y) true 0) → RetQ prog [.cell 4 127] H.length K .ret F H3 := fun hy ds r4 S3 c3 => by
    subst hy
    refine retQs ds (resW_cell (gg := true) (s := 3) (by kernel_rfl) ?_)
    show aLoad true 3 _ _ _
    rw [r4]
    refine load_part (c := spanC (widenR x n)) c3 (by simp [spanC]) rfl rfl (resW_nil ?_)
    exact hK _ (T.thru S3 (by simp; omega))
  refine offI (ldI (v := .bool x.2.2) c12 rfl rfl (notI (cndB (fun hb => ?_) fun hb => ?_)))
  · refine fillO (l := [vint n]) rfl rfl rfl (by decide) (fillO (l := [vint n]) rfl rfl rfl (by rw [wrAt_length]; decide) (fillO (l := [.bool true]) rfl rfl rfl (by rw [wrAt_length, wrAt_length]; decide) (fillI ?_)))
    refine qStA (c := spanC (n, n, true)) c2 rfl rfl rfl fun H3 S3 c3 l3 => fin ?_ rfl rfl S3 c3
    unfold widenR
    rw [if_neg (by simpa using hb)]
  · refine offI (ldI (v := vint x.1) c12 rfl rfl (minI (offI (ldI (v := vint x.2.1) c12 rfl rfl (maxI ?_)))))
    refine fillO (l := [vint (min x.1 n)]) rfl rfl rfl (by decide) (fillO (l := [vint (max x.2.1 n)]) rfl rfl rfl (by rw [wrAt_length]; decide) (fillO (l := [.bool true]) rfl rfl rfl (by rw [wrAt_length, wrAt_length]; decide) (fillI ?_)))
    refine qStA (c := spanC (min x.1 n, max x.2.1 n, true)) c2 rfl rfl rfl fun H3 S3 c3 l3 => fin ?_ rfl rfl S3 c3
    unfold widenR
    rw [if_pos (by simpa using hb)]
theorem good130 (hJ : Closed prog main J) {q po j c sz : Nat} {n : Int} {a2 a3 : Value} {L : List Span} (hq : H[q]? = some (.cells [.slice (some ⟨po, 0, none⟩) L.length c] true 0)) (hp : H[po]? = some (.cells (L.flatMap spanC) true sz)) (hj : j < L.length)
    (hK : ∀ H', SameX [po] H H' → H'[po]? = some (.cells ((L.set j (widenR L[j] n)).flatMap spanC) true sz) → K (pack []) H') : Good prog J 130 [vint (j : Nat), vint n, a2, a3, ptr q 0] H K := by
  refine g130 hJ fun ok => ?_
  rw [e130]
  have lq := lt_of_get hq
  have lp := lt_of_get hp
  have hlen : (L.flatMap spanC).length = L.length * 3 := by
    clear hq hp hj hK
    induction L with
    | nil => rfl
    | cons x L ih => rw [List.flatMap_cons, List.length_append, ih, List.length_cons]; show 3 + _ = _; omega
  have hoff : ∀ {KV : Value → Prop}, KV (ptr po (j * 3)) → aIdx 3 (.slice (some ⟨po, 0, none⟩) L.length c) (vint (j : Nat)) KV := fun hk => idxI ⟨by omega, by omega⟩ (by rw [Int.toNat_natCast, Nat.zero_add]; exact hk)
  refine ⟨[q, po], ldI (v := .slice (some ⟨po, 0, none⟩) L.length c) hq rfl rfl ⟨by simp [RdOk, ptrBlk], ldI (v := .slice (some ⟨po, 0, none⟩) L.length c) hq rfl rfl ⟨by simp [RdOk, ptrBlk], hoff (load_part (c := spanC L[j]) hp (by omega) (flat_take (enc := spanC) (s := 3) (fun _ => rfl) L j hj) rfl ⟨by simp [RdOk, ptrBlk], ?_⟩)⟩⟩⟩
  refine good131 hJ fun H1 S1 => ⟨sbTwo S1 lq lp (by simp) (by simp), hoff ?_⟩
  have hp1 := S1.get hp (by simp)
  have lp1 := lt_of_get hp1
  have fin : retL H.length K [] [] (H1.set po (.cells ((L.set j (widenR L[j] n)).flatMap spanC) true sz)) := retL_same (by simp) (hK _ (S1.weak0.set (.inl (by simp))) (List.getElem?_set_self lp1))
  unfold aStore
  simp only [hp1]
  refine ⟨rfl, rfl, by omega, ?_⟩
  rw [show (Value.agg ⟨spanC (widenR L[j] n)⟩).cells.toList = spanC (widenR L[j] n) from rfl, wrAt_span _ _ _ hj]
  exact fin
end
def dayS (p : Pas) (hs : List Int) (w : List UInt8) : Nat → List Span → List Span
  | 0, L => L
  | j + 1, L => (dayS p hs w j L).set j (widenR ((dayS p hs w j L).getD j (0, 0, false)) (stdR p hs w (j + 1)).1)
theorem dayS_len {p : Pas} {hs : List Int} {w : List UInt8} {L : List Span} : ∀ j, (dayS p hs w j L).length = L.length
  | 0 => rfl
  | j + 1 => by rw [dayS, List.length_set, dayS_len j]
def spansR (p : Pas) (hs : List Int) (s : SkyR) : List Span := (rainsB s).foldl (fun L w => dayS p hs w w.length L) (List.replicate s.days.toNat (0, 0, false))
section
variable {main : Bool} {J : JT} {h H : List AObj} {K : Value → List AObj → Prop} {KV : Value → Prop} {HL : List AObj → Prop} {n0 : Nat}
noncomputable abbrev lpW (st : LoopState) (pend : Option Code) (r : Nat → Value) (d : Nat) : AObj := .loop st pend 93 r 21 #[14] (subC [1, 1, 0, 1, 0, 0] (codeOf f93)) (subC [1, 1, 0, 1, 0, 1] (codeOf f93)) d
theorem roundW (hJ : Closed prog main J) {h0 : List AObj} {l d p3 p4 p7 po c sz : Nat} {R : Nat → Value} {p : Pas} {hs : List Int} {hv : Value} {w : List UInt8} {L : List Span} {Q : Value → List AObj → Prop} (f : pasOk p) (hh : headsOk hs) (hw : w.length ≤ hs.length) (hw2 : w.length ≤ 1000) (hL : L.length = w.length)
    (S0 : SameX [] h0 (H.set l (lpW .busy none R d))) (sh : Sli h0 hv 1 hs.length (hs.map vint)) (hpo : h0.length ≤ po) (hp7 : h0.length ≤ p7) (hpl : h0.length ≤ l) (kv : kn1 hv = true)
    (hl : H[l]? = some (lpW .ready none R d)) (r3 : R 3 = ptr p3 0) (r4 : R 4 = ptr p4 0) (r7 : R 7 = ptr p7 0)
    (c3 : H[p3]? = some (.cells p.cells true 0)) (c4 : H[p4]? = some (.cells [hv] true 0)) (c7 : H[p7]? = some (.cells [.slice (some ⟨po, 0, none⟩) L.length c] true 0)) (co : H[po]? = some (.cells (L.flatMap spanC) true sz))
    (n3 : p3 ≠ l) (n4 : p4 ≠ l) (n7 : p7 ≠ l) (no : po ≠ l) (n : p7 ≠ po)
    (k : ∀ H', SameX [l, po] H H' → H'[l]? = some (lpW .ready none R d) → H'[po]? = some (.cells ((dayS p hs w w.length L).flatMap spanC) true sz) → Q (.bool true) H') :
    callV prog (Good prog J) (.func (.yield l) ⟨[]⟩ ⟨[]⟩) [strV w] H Q := by
  show Good prog J (yid prog l) [strV w] H Q
  refine good_round hJ hl rfl (by decide) fun ok => W_sound hJ mixed _ ?_
  rw [a93_1]
  refine ⟨rfl, none, _, _, _, _, _, _, _, hl, W_sound hJ mixed _ ?_⟩
  rw [b93_1]
  have hll := lt_of_get hl
  have hl3 : (H.set l (lpW .busy none R d))[l]? = some (lpW .busy none R d) := List.getElem?_set_self hll
  have S3 : SameX [l] H (H.set l (lpW .busy none R d)) := SameX.refl.set (.inl (by simp))
  generalize H.set l (lpW .busy none R d) = H3 at hl3 S3 S0
  show aLoad true 6 (R 3) _ _
  rw [r3]
  refine load_part (c := p.cells) (S3.get c3 (by simpa using n3)) (by simp [Pas.cells]) rfl rfl ?_
  show aLoad false 1 (R 4) _ _
  rw [r4]
  refine ldI (v := hv) (S3.get c4 (by simpa using n4)) rfl kv ?_
  show aMkF _ [] [R 7] _
  rw [r7]
  refine ⟨rfl, ?_⟩
  refine good86 hJ f hh S0 sh hw hw2 (O0 := [po, p7, l]) (fun x hx => ?_)
    (I := fun j O H1 => O = [po, p7, l] ∧ H1[p7]? = some (.cells [.slice (some ⟨po, 0, none⟩) L.length c] true 0) ∧ H1[po]? = some (.cells ((dayS p hs w j L).flatMap spanC) true sz) ∧ H1[l]? = some (lpW .busy none R d))
    ⟨rfl, S3.get c7 (by simpa using n7), S3.get co (by simpa using no), hl3⟩ ?_ ?_ ?_ ?_
  · simp only [List.mem_cons, List.not_mem_nil, or_false] at hx
    rcases hx with rfl | rfl | rfl <;> assumption
  · rintro j O H1 ⟨rfl, i1, i2, i3⟩ x hx
    simp only [List.mem_cons, List.not_mem_nil, or_false] at hx
    rcases hx with rfl | rfl | rfl
    · exact lt_of_get i2
    · exact lt_of_get i1
    · exact lt_of_get i3
  · rintro j O H1 H2 X ⟨rfl, i1, i2, i3⟩ S hX
    exact ⟨rfl, S.get i1 (hX _ (by simp)), S.get i2 (hX _ (by simp)), S.get i3 (hX _ (by simp))⟩
  · rintro j O H1 K1 ⟨rfl, i1, i2, i3⟩ hj hk1
    have hlen := dayS_len (p := p) (hs := hs) (w := w) (L := L) j
    rw [← hlen] at i1
    refine callCz (by kernel_rfl) (good130 hJ i1 i2 (by omega) fun H2 S2 c2 => hk1 [po, p7, l] H2 _ ⟨rfl, ?_, ?_, S2.get i3 (by simp; exact fun e => no e.symm)⟩ (S2.weak (by simp)) (fun x hx => .inl hx))
    · rw [← hlen]
      exact S2.get i1 (by simpa using n)
    · rw [c2, dayS]
      have : (dayS p hs w j L).getD j (0, 0, false) = (dayS p hs w j L)[j]'(by omega) := by
        rw [List.getD_eq_getElem?_getD, List.getElem?_eq_getElem (by omega)]
        rfl
      rw [this]
  · rintro O H' ⟨rfl, i1, i2, i3⟩ S
    have hl' := lt_of_get i3
    have Sa : SameX [l, po, p7] H H' := (S3.weak (by simp)).trans (S.weak (by simp))
    have Sb : SameX [l, po] H H' := ⟨Sa.1, fun i hi hx => by
      by_cases e : i = p7
      · rw [e, i1, c7]
      · exact Sa.2 i hi (by simp at hx ⊢; exact ⟨hx.1, hx.2, e⟩)⟩
    exact ⟨.busy, none, _, _, _, _, _, _, _, i3, .inl (k _ (Sb.set (.inl (by simp))) (List.getElem?_set_self hl') (get_set i2 no))⟩
theorem zrep_span (n : Nat) : zrep [vint 0, vint 0, .bool false] n = (List.replicate n ((0, 0, false) : Span)).flatMap spanC := by
  induction n with
  | zero => rfl
  | succ n ih =>
    rw [List.replicate_succ, List.flatMap_cons, ← ih]
    rfl
theorem spansK_len {p : Pas} {hs : List Int} {l : List (List UInt8)} : ∀ {L : List Span}, (l.foldl (fun L w => dayS p hs w w.length L) L).length = L.length := by
  induction l with
  | nil => intro L; rfl
  | cons w l ih => intro L; rw [List.foldl_cons, ih, dayS_len]
theorem flat_len (L : List Span) : (L.flatMap spanC).length = L.length * 3 := by
  induction L with
  | nil => rfl
  | cons x L ih => rw [List.flatMap_cons, List.length_append, ih, List.length_cons]; show 3 + _ = _; omega
theorem kn_span (L : List Span) : kn (L.flatMap spanC) = true := by
  unfold kn
  rw [List.all_eq_true]
  intro v hv
  obtain ⟨x, _, hx⟩ := List.mem_flatMap.1 hv
  simp only [spanC, List.mem_cons, List.not_mem_nil, or_false] at hx
  rcases hx with rfl | rfl | rfl <;> rfl
set_option maxHeartbeats 800000 in
theorem good93 (hJ : Closed prog main J) {p : Pas} {s : SkyR} {hs : List Int} {hv : Value} (f : pasOk p) (g : skyOk s) (hh : headsOk hs) (hlen : (hs.length : Int) = s.days) (sh : Sli H hv 1 hs.length (hs.map vint))
    (hK : ∀ H' v, SameX [] H H' → Sli H' v 3 s.days.toNat ((spansR p hs s).flatMap spanC) → K v H') : Good prog J 93 [.agg ⟨p.cells⟩, hv, .agg ⟨s.cells⟩] H K := by
  refine g93 hJ fun ok => ?_
  rw [e93]
  have vh := sliValZ sh
  obtain ⟨g1, g2, g3⟩ := id g
  refine qBox (l := p.cells) rfl fun H1 p3 e1 S1 c3 l1 => qBox1 vh.1 vh.2.1 fun H2 p4 e2 S2 c4 l2 => qBox (l := s.cells) rfl fun H3 p5 e3 S3 c5 l3 => ?_
  have c33 := S3.get (S2.get c3 (by simp)) (by simp)
  have c43 := S3.get c4 (by simp)
  have T3 := (S1.trans S2).trans S3
  have hrm : (2000 : Nat) < room := by decide
  refine offI (ldI (v := vint s.days) c5 rfl rfl ⟨⟨rfl, by decide⟩, by omega, by omega, by omega, ?_⟩)
  generalize hH4 : H3 ++ [AObj.cells (zrep [vint 0, vint 0, .bool false] s.days.toNat) true 0] = H4
  have co : H4[H3.length]? = some (.cells ((List.replicate s.days.toNat ((0, 0, false) : Span)).flatMap spanC) true 0) := by rw [← hH4, zrep_span]; simp
  have S4 : SameX [] H3 H4 := by rw [← hH4]; exact SameX.refl.app
  have l4 : H4.length = H3.length + 1 := by rw [← hH4]; simp
  generalize hpo : H3.length = po at co l4
  refine qAl fun H5 p7 e5 S5 c7 l5 => qSt c7 (by simp) rfl rfl fun H6 S6 c76 l6 => ?_
  have c76 : H6[p7]? = some (.cells [.slice (some ⟨po, 0, none⟩) s.days.toNat s.days.toNat] true 0) := c76
  have S36 : SameX [] H3 H6 := (S4.trans S5).thru S6 (by simp; omega)
  have co6 := S6.get (S5.get co (by simp)) (by simp; omega)
  have T6 : SameX [] H H6 := T3.trans S36
  refine load_part (c := s.cells) (S36.get c5 (by simp)) (by simp [SkyR.cells]) rfl rfl ?_
  refine good90 hJ fun H10 ps S10 cs10 gs => ?_
  have TH : SameX [] H H10 := T6.trans S10
  refine l93_1 hJ (first := []) (cap := [ptr ps 0]) rfl (by decide) ?_
  obtain ⟨R, hRe⟩ : ∃ R : RG, R = RG.p (RG.p (RG.p (RG.p (RG.p (RG.p (RG.p (RG.p (RG.p (RG.p (RG.mk (regs [.agg ⟨p.cells⟩, hv, .agg ⟨s.cells⟩]) []) 3 (ptr p3 0)) 4 (ptr p4 0)) 5 (ptr p5 0)) 6 (.slice none 0 0)) 9 (ptr p5 0)) 10 (vint s.days)) 11 (.slice (some ⟨po, 0, none⟩) s.days.toNat s.days.toNat)) 7 (ptr p7 0)) 12 (.agg ⟨s.cells⟩)) 13 (.func (.func 127) ⟨[]⟩ ⟨[ptr ps 0]⟩) := ⟨_, rfl⟩
  rw [show (ptr p5 (0 + 0)) = ptr p5 0 from rfl, ← hRe]
  have R3 : R.r 3 = ptr p3 0 := by subst hRe; rfl
  have R4 : R.r 4 = ptr p4 0 := by subst hRe; rfl
  have R7 : R.r 7 = ptr p7 0 := by subst hRe; rfl
  have Rds : R.ds = [] := by subst hRe; rfl
  clear hRe
  have hl11 : (H10 ++ [AObj.deferred] ++ [lpW .ready none R.r H10.length])[H10.length + 1]? = some (lpW .ready none R.r H10.length) := by
    rw [List.append_assoc]
    simp
  have hd11 : (H10 ++ [AObj.deferred] ++ [lpW .ready none R.r H10.length])[H10.length]? = some .deferred := by
    rw [List.append_assoc]
    simp
  have hln : (H10 ++ [AObj.deferred] ++ [lpW .ready none R.r H10.length]).length = H10.length + 2 := by simp
  have S11 : SameX [] H10 (H10 ++ [AObj.deferred] ++ [lpW .ready none R.r H10.length]) := SameX.refl.app.app
  generalize hH11 : H10 ++ [AObj.deferred] ++ [lpW .ready none R.r H10.length] = H11 at hl11 hd11 hln S11
  have UH : SameX [] H H11 := TH.trans S11
  have S6' := S10.trans S11
  have S3' := S36.trans S6'
  have w7 := S6'.get c76 (by simp)
  have wo := S6'.get co6 (by simp)
  have w3 := S3'.get c33 (by simp)
  have w4 := S3'.get c43 (by simp)
  have ws : H11[ps]? = some (.cells s.cells true 0) := S11.get cs10 (by simp)
  have b3 := lt_of_get c33
  have b4 := lt_of_get c43
  have b7 := lt_of_get c76
  have bs := lt_of_get cs10
  have h10 := S10.1
  have h36 := S36.1
  have hTH := TH.1
  have hUH := UH.1
  have hT3 := T3.1
  let acc : Nat → List Span := fun k => ((rainsB s).take k).foldl (fun L w => dayS p hs w w.length L) (List.replicate s.days.toNat (0, 0, false))
  have tk : ∀ (k : Nat) (w : List UInt8), (rainsB s)[k]? = some w → acc (k + 1) = dayS p hs w w.length (acc k) := fun k w hw => by
    dsimp only [acc]
    rw [List.take_add_one, hw, List.foldl_append]
    rfl
  have al : ∀ k, (acc k).length = s.days.toNat := fun k => by
    dsimp only [acc]
    rw [spansK_len, List.length_replicate]
  have RD : Rnd J (rainsB s) (.func (.yield (H10.length + 1)) ⟨[]⟩ ⟨[]⟩) [H10.length + 1, po] H11
      (fun k O H' => O = [] ∧ H'[H10.length + 1]? = some (lpW .ready none R.r H10.length) ∧ H'[po]? = some (.cells ((acc k).flatMap spanC) true 0)) (fun H' => False) := by
    refine ⟨by simp; omega, fun h => by rw [h.1]; simp, fun T hi => ⟨hi.1, by rw [T.2 _ (.inl (by omega))]; exact hi.2.1, by rw [T.2 _ (.inl (by omega))]; exact hi.2.2⟩, ?_⟩
    rintro k w O Ha Q hw Sa _ ⟨rfl, i1, i2⟩ q1 q2
    have hwl := rainsB_len (List.mem_of_getElem? hw)
    have ga : ∀ {q : Nat} {o : AObj}, H11[q]? = some o → q ≠ H10.length + 1 → q ≠ po → Ha[q]? = some o := fun hq h1 h2 => Sa.get hq (by simp; exact ⟨h1, h2⟩)
    have Sx : SameX [H10.length + 1, po] H11 (Ha.set (H10.length + 1) (lpW .busy none R.r H10.length)) := Sa.set (.inl (by simp))
    have Sy : SameX [] H (Ha.set (H10.length + 1) (lpW .busy none R.r H10.length)) := UH.thru Sx (by simp; omega)
    have ak := al k
    refine roundW hJ f hh (by omega) (by omega) (L := acc k) (by omega) Sy sh (by omega) (by omega) (by omega) vh.2.2 i1 R3 R4 R7 (ga w3 (by omega) (by omega)) (ga w4 (by omega) (by omega)) (c := s.days.toNat) (by rw [ak]; exact ga w7 (by omega) (by omega)) i2 (by omega) (by omega) (by omega) (by omega) (by omega) fun Hb Sb hlb ho => ?_
    refine q1 [] Hb (Sb.weak (by simp)) (by simp) ⟨rfl, hlb, ?_⟩
    rw [ho, tk k w hw]
  refine good127 hJ g RD ⟨rfl, rfl, rfl⟩ ws (by simp; omega) ⟨rfl, hl11, wo⟩ (fun Hb O Sb _ hi => ?_) fun Hb Sb st => st.elim
  obtain ⟨_, i1, i2⟩ := hi
  have hacc : acc (rainsB s).length = spansR p hs s := by
    dsimp only [acc]
    rw [List.take_of_length_le (Nat.le_refl _)]
    rfl
  have i7 := Sb.get w7 (by simp; omega)
  rw [hacc] at i2
  refine endQnorm i1 (by simp) ?_
  rw [c93_1]
  show aLoad false 1 (R.r 7) _ _
  rw [R7, Rds]
  have hd' := Sb.get hd11 (by simp; omega)
  refine ldI (v := .slice (some ⟨po, 0, none⟩) s.days.toNat s.days.toNat) (get_set i7 (by omega)) rfl rfl ?_
  refine retLdef (get_set hd' (by omega)) (by simp [unk]) (hK ((Hb.set (H10.length + 1) .dead).set H10.length .dead) _ (((UH.thru Sb (by simp; omega)).set (.inr (by omega))).set (.inr (by omega))) ?_)
  have hsl : (spansR p hs s).length = s.days.toNat := by rw [← hacc]; exact al _
  refine ⟨_, _, rfl, ⟨by rw [flat_len, hsl], kn_span _⟩, .inr ⟨po, 0, rfl, .inr ⟨_, _, _, get_set (get_set i2 (by omega)) (by omega), ?_⟩⟩⟩
  rw [List.drop_zero]
  exact List.take_of_length_le (by rw [flat_len, hsl]; exact Nat.le_refl _)
def rngC (x : Span) : List Value := [vint x.1, vint x.2.1]
theorem good41 (hJ : Closed prog main J) {p : Pas} {s : SkyR} {hs : List Int} {hv : Value} (sh : Sli H hv 1 hs.length (hs.map vint)) (hl : hs.length < 1000000)
    (hK0 : ckdE p hs s ≠ 0 → ∀ H', SameX [] H H' → K (.tuple ⟨[.slice none 0 0, vint (ckdE p hs s)]⟩) H')
    (hK1 : ckdE p hs s = 0 → ∀ H' v, SameX [] H H' → Sli H' v 2 s.days.toNat ((spansR p hs s).flatMap rngC) → K (.tuple ⟨[v, vint 0]⟩) H') : Good prog J 41 [.agg ⟨p.cells⟩, hv, .agg ⟨s.cells⟩] H K := by
  refine g41 hJ fun ok => ?_
  rw [e41]
  refine qBox (l := p.cells) rfl fun H1 p3 e1 S1 c3 l1 => qBox (l := s.cells) rfl fun H2 p5 e2 S2 c5 l2 => ?_
  have c32 := S2.get c3 (by simp)
  have T2 := S1.trans S2
  refine load_part (c := p.cells) c32 (by simp [Pas.cells]) rfl rfl (load_part (c := s.cells) c5 (by simp [SkyR.cells]) rfl rfl ?_)
  refine good92 hJ (T2.sli sh (by simp)) hl fun H3 S3 => neqI (cndI (fun h1 => retL_same (nu2 (by simp [unk]) (by simp [unk])) (hK0 h1 H3 (T2.trans S3))) fun h1 => ?_)
  have h0 : ckdE p hs s = 0 := by omega
  obtain ⟨f, g, hh, hlen⟩ := ckdE_zero h0
  obtain ⟨g1, g2, g3⟩ := id g
  have T3 := T2.trans S3
  refine load_part (c := p.cells) (S3.get c32 (by simp)) (by simp [Pas.cells]) rfl rfl (load_part (c := s.cells) (S3.get c5 (by simp)) (by simp [SkyR.cells]) rfl rfl ?_)
  refine good93 hJ f g hh hlen (T3.sli sh (by simp)) fun H4 sv S4 hsv => lenI hsv ?_
  have T4 := T3.trans S4
  have h4 := T4.1
  have hsl : (spansR p hs s).length = s.days.toNat := by
    unfold spansR
    rw [spansK_len, List.length_replicate]
  have hsE : SliE H4 sv 3 spanC (spansR p hs s) := by
    show Sli H4 sv 3 (spansR p hs s).length _
    rw [hsl]
    exact hsv
  have rl : ∀ l : List Span, (l.flatMap rngC).length = l.length * 2 := fun l => by
    induction l with
    | nil => rfl
    | cons x l ih => rw [List.flatMap_cons, List.length_append, ih, List.length_cons]; show 2 + _ = _; omega
  refine l41_1 hJ (fun k : Nat => s.days.toNat - k) (fun k F H' => k ≤ s.days.toNat ∧ SameX [] H4 H' ∧ (∃ o, OwnX H' 2 (((spansR p hs s).take k).flatMap rngC) k (F.r 9) o ∧ ∀ i, o = some i → H4.length ≤ i) ∧ F.ds = [] ∧ F.r 22 = sv ∧ F.r 23 = vint (s.days.toNat : Nat) ∧ F.r 24 = vint (k : Nat)) ?_ (s := 0)
    (.inl ⟨by omega, SameX.refl, ⟨none, ⟨rfl, rfl, .inl ⟨rfl, rfl, rfl⟩⟩, fun i hi => by cases hi⟩, rfl, rfl, rfl, rfl⟩)
  rintro k F H' ⟨hk, S, ⟨o, O, ho⟩, ds, r22, r23, r24⟩ okc hnc
  rw [s41_1, r22, r23, r24, ds]
  refine lssI (cndI (fun hlt => ?_) fun hge => ?_)
  rotate_left
  · have : k = s.days.toNat := by omega
    subst this
    rw [List.take_of_length_le (by omega)] at O
    exact retL_same (nu2 (ownU O) (by simp [unk])) (hK1 h0 H' _ (T4.trans S) (ownX_sli O))
  have hkl : k < (spansR p hs s).length := by omega
  obtain ⟨b, oo, cs, wr, sz, hidx, hb, hos, htk, hkn⟩ := sliE_elem (s := 3) (fun _ => rfl) (by decide) (S.sli hsE (by simp)) hkl
  have htake : (spansR p hs s).take (k + 1) = (spansR p hs s).take k ++ [(spansR p hs s)[k]] := by
    rw [List.take_add_one, List.getElem?_eq_getElem hkl]
    rfl
  generalize (spansR p hs s)[k] = x at htk htake
  refine hidx _ (load_part (c := spanC x) hb hos htk rfl (qAl fun H5 p5' e5 S5 c5' l5 => qStA (c := spanC x) c5' rfl rfl rfl fun H6 S6 c6 l6 => ?_))
  have h4' := S.1
  refine offI (ldI (v := vint x.1) c6 rfl rfl (offI (ldI (v := vint x.2.1) c6 rfl rfl ?_)))
  refine fillO (l := [vint x.1]) rfl rfl rfl (by decide) (fillO (l := [vint x.2.1]) rfl rfl rfl (by rw [wrAt_length]; decide) (fillI ?_))
  refine ⟨⟨by decide, by decide, rfl⟩, fillO (l := rngC x) rfl rfl rfl (by decide) (fillI (qNew fun H7 p7 e7 S7 c7 l7 => ?_))⟩
  have c7 : H7[p7]? = some (.cells (rngC x) true 0) := c7
  have T7 : SameX [] H' H7 := (S5.thru S6 (by simp; omega)).trans S7
  have O7 := ownX_keep O T7 (by simp)
  refine ⟨⟨rfl, by decide, by decide, by decide⟩, ownX_more O7 (by decide) (by omega) (e := rngC x) ⟨_, _, rfl, ⟨rfl, rfl⟩, .inr ⟨p7, 0, rfl, .inr ⟨_, _, _, c7, rfl⟩⟩⟩ fun v' H8 p8 e8 O8 S8 => ?_⟩
  refine addI (by omega) ⟨k + 1, by dsimp only; omega, .inl ⟨by omega, (S.trans T7).thru S8 (fun y hy => .inr ?_), ⟨some p8, ?_, fun i hi => ?_⟩, ds, r22, r23, by show vint _ = vint _; congr 1⟩⟩
  · cases o with
    | none => simp at hy
    | some i =>
      simp at hy
      rw [hy]
      exact ho i rfl
  · rw [htake, List.flatMap_append, List.flatMap_singleton]
    exact O8
  · cases hi
    have := T7.1
    omega
end
def mead : Pas := ⟨12, 20, 1, 4, 3, 2⟩
def seas : SkyR := ⟨3, 2, 2⟩
def fives : List Int := [5, 5, 5]
theorem x_asks : askE mead fives [100, 119, 100] = 0 := by decide +kernel
theorem x_ends : endsZ mead fives [100, 119, 100] 3 = [8, 7, 2] := by decide +kernel
theorem x_ckd : ckdE mead fives seas = 0 := by decide +kernel
theorem x_spans : spansR mead fives seas = [(8, 11, true), (4, 10, true), (0, 6, true)] := by decide +kernel
theorem x_worst : wstV mead fives seas = ([100, 100, 119], 2, 0) := by decide +kernel
theorem x_heads : headN mead seas 0 3 = 4 ∧ headE mead seas 0 3 = 0 := by decide +kernel
theorem x_turn : foundR [mead, mead] seas 6 2 0 = some [0, 0, 1] := by decide +kernel
section
variable {main : Bool} {J : JT} {h H : List AObj} {K : Value → List AObj → Prop} {KV : Value → Prop} {HL : List AObj → Prop} {n0 : Nat}
theorem good67 (hJ : Closed prog main J) (hK : ∀ H', SameX [] H H' → K (.agg ⟨mead.cells⟩) H') : Good prog J 67 [] H K := by
  refine g67 hJ fun ok => ?_
  rw [e67]
  refine qAl fun H1 p1 e1 S1 c1 l1 => ?_
  refine fillO (l := [vint 12]) rfl rfl rfl (by decide) (fillO (l := [vint 20]) rfl rfl rfl (by simp [wrAt_length]) (fillO (l := [vint 1]) rfl rfl rfl (by simp [wrAt_length]) (fillO (l := [vint 4]) rfl rfl rfl (by simp [wrAt_length]) (fillO (l := [vint 3]) rfl rfl rfl (by simp [wrAt_length]) (fillO (l := [vint 2]) rfl rfl rfl (by simp [wrAt_length]) (fillI ?_))))))
  refine qStA (c := mead.cells) c1 rfl rfl rfl fun H2 S2 c2 l2 => retQs rfl (resW_cell (gg := true) (s := 6) (by kernel_rfl) ?_)
  exact load_part (c := mead.cells) c2 (by simp [Pas.cells]) rfl rfl (resW_nil (hK H2 (S1.thru S2 (by simp; omega))))
theorem good68 (hJ : Closed prog main J) (hK : ∀ H', SameX [] H H' → K (.agg ⟨seas.cells⟩) H') : Good prog J 68 [] H K := by
  refine g68 hJ fun ok => ?_
  rw [e68]
  refine qAl fun H1 p1 e1 S1 c1 l1 => ?_
  refine fillO (l := [vint 3]) rfl rfl rfl (by decide) (fillO (l := [vint 2]) rfl rfl rfl (by simp [wrAt_length]) (fillO (l := [vint 2]) rfl rfl rfl (by simp [wrAt_length]) (fillI ?_)))
  refine qStA (c := seas.cells) c1 rfl rfl rfl fun H2 S2 c2 l2 => retQs rfl (resW_cell (gg := true) (s := 3) (by kernel_rfl) ?_)
  exact load_part (c := seas.cells) c2 (by simp [SkyR.cells]) rfl rfl (resW_nil (hK H2 (S1.thru S2 (by simp; omega))))
theorem teqR (x : Span) : teq prog 10000 61 (.agg ⟨rngC x⟩) (.agg ⟨rngC x⟩) = some true := by
  have : teq prog 10000 61 (.agg ⟨rngC x⟩) (.agg ⟨rngC x⟩) = mB (some (x.1 == x.1)) (mB (some (x.2.1 == x.2.1)) (some true)) := by kernel_rfl
  rw [this]
  simp [mB_some]
theorem neqR {x : Span} (hk : KV (.bool false)) : aBin prog .neq 61 (.agg ⟨rngC x⟩) (.agg ⟨rngC x⟩) KV := by
  show aEq prog true 61 (.agg ⟨rngC x⟩) (.agg ⟨rngC x⟩) KV
  unfold aEq
  rw [teqR]
  exact ⟨by kernel_rfl, hk⟩
theorem good53 (hJ : Closed prog main J) {av bv : Value} {xs : List Span} (ha : SliE H av 2 rngC xs) (hb : SliE H bv 2 rngC xs) (hl : xs.length < 1000000) (hK : K (.bool true) H) : Good prog J 53 [av, bv] H K := by
  refine g53 hJ fun ok => ?_
  rw [e53, sliE_len ha, sliE_len hb]
  refine neqI (cndI (fun h => absurd rfl h) fun _ => ?_)
  refine l53_1 hJ (fun k : Nat => xs.length - k) (fun k F H' => H' = H ∧ k ≤ xs.length ∧ F.ds = [] ∧ F.r 0 = av ∧ F.r 1 = bv ∧ F.r 5 = vint (k : Nat)) ?_ (s := 0)
    (.inl ⟨rfl, by omega, rfl, rfl, rfl, rfl⟩)
  rintro k F H' ⟨rfl, hk, ds, r0, r1, r5⟩ okc hnc
  rw [s53_1, r0, r1, r5, ds, sliE_len ha]
  refine lssI (cndI (fun hlt => ?_) fun hge => retL_same (by simp [unk]) hK)
  have hkl : k < xs.length := by omega
  obtain ⟨b, o, cs, wr, sz, hidx, hbb, hos, htk, hkn⟩ := sliE_elem (s := 2) (fun _ => rfl) (by decide) ha hkl
  obtain ⟨b', o', cs', wr', sz', hidx', hbb', hos', htk', hkn'⟩ := sliE_elem (s := 2) (fun _ => rfl) (by decide) hb hkl
  refine hidx _ (load_part hbb hos htk hkn (hidx' _ (load_part hbb' hos' htk' hkn' ?_)))
  exact neqR (cnd_false.2 (addI (by omega) ⟨k + 1, by dsimp only; omega, .inl ⟨rfl, by omega, ds, r0, r1, by show vint _ = vint _; congr 1⟩⟩))
theorem eqlStr {KV : Value → Prop} (hk : KV (.bool true)) : aBin prog .eql 9 (strV [100, 100, 119]) (Value.string { data := #[100, 100, 119] }) KV := by
  have e : aBin prog .eql 9 (strV [100, 100, 119]) (Value.string { data := #[100, 100, 119] }) KV = KV (.bool true) := by kernel_rfl
  rw [e]
  exact hk
theorem fill3 {a b c : Int} {KL : List Value → Prop} (hk : KL [vint a, vint b, vint c]) : aFill (zrep [vint 0] 3) [(0, 1, vint a), (1, 1, vint b), (2, 1, vint c)] KL :=
  fillO (l := [vint a]) rfl rfl rfl (by decide) (fillO (l := [vint b]) rfl rfl rfl (by rw [wrAt_length]; decide) (fillO (l := [vint c]) rfl rfl rfl (by rw [wrAt_length, wrAt_length]; decide) (fillI hk)))
theorem sli3 {p : Nat} {a b c : Int} (hc : H[p]? = some (.cells [vint a, vint b, vint c] true 0)) : Sli H (.slice (some ⟨p, 0, none⟩) 3 3) 1 ([a, b, c] : List Int).length (([a, b, c] : List Int).map vint) := ownX_sli (ownX_new (s := 1) (n := 3) hc rfl rfl)
theorem good21 {W0 : World} {Post : Value → World → Prop} (hK : ∀ H', SameX [] (unch H) H' → K (.bool true) H') : Good prog (J2 prog W0 Post) 21 [] H K := by
  have hJ := J2.closed prog W0 Post
  refine g21 hJ fun ok => ?_
  rw [e21]
  refine good67 hJ fun H1 S1 => ⟨⟨by decide, by decide, rfl⟩, fill3 (qNew fun H2 p2 e2 S2 c2 l2 => ?_)⟩
  refine good32 hJ (p := mead) (heads := fives) (w := [100, 119, 100]) (sli3 c2) (by decide) (by decide) (fun h => absurd x_asks h) fun _ H3 v3 S3 s3 => ext0 (ext1 ?_)
  rw [show ([100, 119, 100] : List UInt8).length = 3 from rfl, x_ends] at s3
  refine good67 hJ fun H4 S4 => ⟨⟨by decide, by decide, rfl⟩, fill3 (qNew fun H5 p5 e5 S5 c5 l5 => good68 hJ fun H6 S6 => ?_)⟩
  refine good41 hJ (p := mead) (s := seas) (hs := fives) (S6.sli (sli3 c5) (by simp)) (by decide) (fun h => absurd x_ckd h) fun _ H7 v7 S7 s7 => ext0 (ext1 ?_)
  rw [x_spans] at s7
  refine good67 hJ fun H8 S8 => ⟨⟨by decide, by decide, rfl⟩, fill3 (qNew fun H9 p9 e9 S9 c9 l9 => good68 hJ fun H10 S10 => ?_)⟩
  refine good51 hJ (p := mead) (s := seas) (hs := fives) (S10.sli (sli3 c9) (by simp)) (by decide) fun H11 S11 => ?_
  rw [x_worst]
  refine ext30 (ext31 (ext32 ?_))
  refine good67 hJ fun H12 S12 => good68 hJ fun H13 S13 => good33 hJ (p := mead) (s := seas) (fr := 0) (dy := 3) fun H14 S14 => ?_
  rw [x_heads.1, x_heads.2]
  refine ext0 (ext1 (good67 hJ fun H15 S15 => good67 hJ fun H16 S16 => ⟨⟨by decide, by decide, rfl⟩, ?_⟩))
  refine fillO (l := mead.cells) rfl rfl rfl (by decide) (fillO (l := mead.cells) rfl rfl rfl (by rw [wrAt_length]; decide) (fillI (qNew fun H17 p17 e17 S17 c17 l17 => good68 hJ fun H18 S18 => ?_)))
  have c17 : H17[p17]? = some (.cells ([mead, mead].flatMap Pas.cells) true 0) := c17
  have hl : SliE H18 (.slice (some ⟨p17, 0, none⟩) 2 2) 6 Pas.cells [mead, mead] := S18.sli (ownX_sli (ownX_new (s := 6) (n := 2) c17 rfl rfl)) (by simp)
  refine good27 (q := mead) (s := seas) (heads := 6) (by decide) (by decide) (by decide) 2 rfl hl ?_
  rw [x_turn]
  intro H19 v19 S19 s19
  have T318 : SameX [] H3 H18 := (((((((((((((S4.trans S5).trans S6).trans S7).trans S8).trans S9).trans S10).trans S11).trans S12).trans S13).trans S14).trans S15).trans S16).trans S17).trans S18
  have T718 : SameX [] H7 H18 := (((((((((S8.trans S9).trans S10).trans S11).trans S12).trans S13).trans S14).trans S15).trans S16).trans S17).trans S18
  have T18 : SameX [] H H18 := ((S1.trans S2).trans S3).trans T318
  have TU : SameX [] (unch H) H19 := by
    refine SameX.trans ⟨by rw [unch_len, unch_len]; exact T18.1, fun i hi _ => ?_⟩ S19
    rw [unch_len] at hi
    unfold unch
    rw [List.getElem?_map, List.getElem?_map, T18.2 i hi (by simp)]
  have s3' := S19.sli (unch_sli (T318.sli s3 (by simp))) (by simp)
  have s7' := S19.sli (unch_sli (T718.sli s7 (by simp))) (by simp)
  refine ext0 (ext1 ?_)
  refine eqlI (cndI (fun _ => ?_) fun h => absurd rfl h)
  refine eqlI (cndI (fun _ => ?_) fun h => absurd rfl h)
  refine eqlI (cndI (fun _ => ?_) fun h => absurd rfl h)
  refine eqlI (cndI (fun _ => ?_) fun h => absurd rfl h)
  refine eqlI (cndI (fun _ => ?_) fun h => absurd rfl h)
  refine eqlStr (cnd_true.2 ?_)
  refine eqlI (cndI (fun _ => ?_) fun h => absurd rfl h)
  refine eqlI (cndI (fun _ => ?_) fun h => absurd rfl h)
  refine ⟨⟨by decide, by decide, rfl⟩, fill3 (qNew fun H20 p20 e20 S20 c20 l20 => ?_)⟩
  refine good29 hJ (xs := [8, 7, 2]) (ys := [8, 7, 2]) (S20.sli s3' (by simp)) (sli3 c20) (by decide) (cndI (fun _ => ?_) fun h => absurd rfl h)
  refine fillO (l := [vint 8]) rfl rfl rfl (by decide) (fillO (l := [vint 11]) rfl rfl rfl (by decide) (fillI ?_))
  refine fillO (l := [vint 4]) rfl rfl rfl (by decide) (fillO (l := [vint 10]) rfl rfl rfl (by decide) (fillI ?_))
  refine fillO (l := [vint 6]) rfl rfl rfl (by decide) (fillI ?_)
  refine ⟨⟨by decide, by decide, rfl⟩, fillO (l := [vint 8, vint 11]) rfl rfl rfl (by decide) (fillO (l := [vint 4, vint 10]) rfl rfl rfl (by rw [wrAt_length]; decide) (fillO (l := [vint 0, vint 6]) rfl rfl rfl (by rw [wrAt_length, wrAt_length]; decide) (fillI (qNew fun H21 p21 e21 S21 c21 l21 => ?_))))⟩
  have c21 : H21[p21]? = some (.cells (([(8, 11, true), (4, 10, true), (0, 6, true)] : List Span).flatMap rngC) true 0) := c21
  have T21 := S20.trans S21
  refine good53 hJ (xs := [(8, 11, true), (4, 10, true), (0, 6, true)]) (T21.sli s7' (by simp)) (ownX_sli (ownX_new (s := 2) (n := 3) c21 rfl rfl)) (by decide) (cnd_true.2 ?_)
  refine ⟨⟨by decide, by decide, rfl⟩, fill3 (qNew fun H22 p22 e22 S22 c22 l22 => ?_)⟩
  refine good29 hJ (xs := [0, 0, 1]) (ys := [0, 0, 1]) ((T21.trans S22).sli s19 (by simp)) (sli3 c22) (by decide) (retL_same (by simp [unk]) ?_)
  have := hK H22 (TU.trans (T21.trans S22))
  simpa [pack] using this
end
end Go.Proofs.Ythnccaajpdnndaa
namespace Go.Proofs.Ythnccaajpdnndaa
open Go.Conc Go.Proofs.Try
set_option maxRecDepth 100000
set_option maxHeartbeats 4000000
set_option linter.unusedVariables false
section
variable {main : Bool} {J : JT} {n0 : Nat} {h : List AObj} {K : Value → List AObj → Prop}
theorem at45 : prog.funcs[45]? = some f45 := by kernel_rfl
theorem body45 : f45.body = some (codeOf f45) := by kernel_rfl
def pl45 : Plans := [(1, false, .take 0 (.take 2 (.last 1 true (.last 3 true (.last 4 true (.last 5 true (.take 6 (.fin))))))))]
def ct45 : Cuts := .bin (.go) (.bin (.go) (.bin (.go) (.bin (.go) (.bin (.go) (.bin (.un (.un (.bin (.bin (.go) (.cut (.go))) (.go)))) (.go))))))
theorem pok45 : plansOk prog pl45 (codeOf f45) = true := by kernel_rfl
theorem e45 {a0 a1 a2 a3 : Value} : W prog J 48 h.length 45 (codeOf f45) (RG.mk (regs [a0, a1, a2, a3]) []) h (RetQ prog [.tmp 8, .tmp 9] h.length K) =
(aBox a0 h fun v1 h2 =>
 aBox a1 h2 fun v3 h4 =>
(∃ B, aLoad true 6 v1 h4 fun v5 =>
 RdOk (some B) (ptrBlk v1) ∧ (aLoad true 3 v3 h4 fun v6 =>
 RdOk (some B) (ptrBlk v3) ∧ (Good prog J 36 [v5] h4 fun v7 h8 =>
 SameB (some B) h4 h8 ∧ (Good prog J 72 [v6] h8 fun v9 h10 =>
 SameB (some B) h4 h10 ∧ ((((2 * 1 : Nat) ≤ 16777216 ∧ (2 : Nat) ≤ 16777216 ∧ List.length [(vint 0)] = 1) ∧ aFill (zrep [(vint 0)] 2) [(0, 1, v7), (1, 1, v9)] fun c11 =>
 aNewS 2 c11 h10 fun v12 h13 =>
 SameB (some B) h4 h13 ∧ (Good prog J 88 [v12] h13 fun v14 h15 =>
 SameB (some B) h4 h15 ∧ (aBin prog .neq 37 v14 (vint 0) fun v16 =>
 cnd v16
(retL h.length K [] [(vint 0), v14] h15)
(Good prog J 73 [a2, (vint 0), (vint 40)] h15 fun v17 h18 =>
 aUn .not v17 fun v19 =>
 cnd v19
(retL h.length K [] [(vint 0), (vint 1)] h18)
(aOff v3 0 fun v20 =>
 aLoad false 1 v20 h18 fun v21 =>
 aBin prog .sub 3 v21 (vint 1) fun v22 =>
 Good prog J 73 [a3, (vint 0), v22] h18 fun v23 h24 =>
 aUn .not v23 fun v25 =>
 cnd v25
(retL h.length K [] [(vint 0), (vint 3)] h24)
(aOff v3 0 fun v26 =>
 aLoad false 1 v26 h24 fun v27 =>
 aBin prog .sub 3 v27 a3 fun v28 =>
 Sem J 48 h.length 45 (subC [1, 1, 1, 1, 1, 0, 0] (codeOf f45)) (RG.p (RG.p (RG.p (RG.p (RG.p (RG.p (RG.p (RG.p (RG.p (RG.p (RG.p (RG.p (RG.p (RG.p (RG.p (RG.p (RG.p (RG.p (RG.p (RG.p (RG.p (RG.p (RG.p (RG.p (RG.p (RG.p (RG.p (RG.mk (regs [a0, a1, a2, a3]) []) 4 v1) 5 v3) 8 (vint 0)) 9 (vint 0)) 12 v5) 14 v6) 13 v7) 15 v9) 16 v12) 17 v14) 10 v14) 18 v14) 19 v16) 21 a2) 22 v17) 23 v19) 24 a3) 25 v20) 26 v21) 27 v22) 28 v23) 29 v25) 30 v26) 31 v27) 32 a3) 33 v28) 11 v28) h24 (contX pl45 prog J 48 h.length 45 ct45 [1, 1, 1, 1, 1, 0, 0] (codeOf f45) [] (RetQ prog [.tmp 8, .tmp 9] h.length K)))))))))))))) := top_eq pok45 ct45 (by kernel_rfl)
theorem g45 (hJ : Closed prog main J) {a0 a1 a2 a3 : Value} (hs : heapOk h → W prog J 48 h.length 45 (codeOf f45) (RG.mk (regs [a0, a1, a2, a3]) []) h (RetQ prog [.tmp 8, .tmp 9] h.length K)) : Good prog J 45 [a0, a1, a2, a3] h K :=
  good_of_W hJ mixed at45 body45 (by kernel_rfl) (Nat.le_of_ble_eq_true rfl) hs
theorem s45_1 {f : RG} {nx0 : RG → List AObj → Prop} : W prog J 48 n0 45 (subC [1, 1, 1, 1, 1, 0, 0, 0] (codeOf f45)) f h (thenK nx0 (contX pl45 prog J 48 n0 45 ct45 [1, 1, 1, 1, 1, 0, 0] (codeOf f45) [] (RetQ prog [.tmp 8, .tmp 9] n0 K))) =
(aBin prog .gtr 3 (f.r 11) (vint 0) fun v1 =>
 cnd v1
(aLoad true 6 (f.r 4) h fun v2 =>
 aLoad true 3 (f.r 5) h fun v3 =>
 Good prog J 89 [v2, v3, (f.r 2), (f.r 3), (f.r 11)] h fun v4 h5 =>
 aUn .not v4 fun v6 =>
 Hold (W prog J 48 n0 45 (subC [1, 1, 1, 1, 1, 0, 0, 0, 0, 1] (codeOf f45)) (RG.p (RG.p (RG.p (RG.p (RG.p (RG.p (RG.p (RG.p (RG.p (RG.p (RG.p (RG.p f 34 (f.r 11)) 35 v1) 36 v1) 36 (Value.bool true)) 37 v2) 38 v3) 39 (f.r 2)) 40 (f.r 3)) 41 (f.r 11)) 42 v4) 43 v6) 44 v6) h5 (contX pl45 prog J 48 n0 45 ct45 [1, 1, 1, 1, 1, 0, 0, 0, 0, 1] (codeOf f45) [nx0] (RetQ prog [.tmp 8, .tmp 9] n0 K))))
(Hold (W prog J 48 n0 45 (subC [1, 1, 1, 1, 1, 0, 0, 0, 0, 1] (codeOf f45)) (RG.p (RG.p (RG.p (RG.p (RG.p (RG.p (RG.p (RG.p (RG.p (RG.p (RG.p (RG.p f 34 (f.r 11)) 35 v1) 36 v1) 36 (Value.bool false)) 37 undef) 38 undef) 39 undef) 40 undef) 41 undef) 42 undef) 43 undef) 44 (Value.bool false)) h (contX pl45 prog J 48 n0 45 ct45 [1, 1, 1, 1, 1, 0, 0, 0, 0, 1] (codeOf f45) [nx0] (RetQ prog [.tmp 8, .tmp 9] n0 K))))) := sub_eq pok45 ct45 (by kernel_rfl)
theorem l45_1 (hJ : Closed prog main J) {S : Type} (μ : S → Nat) (I : S → RG → List AObj → Prop) (hI : ∀ s f h, I s f h → heapOk h → n0 ≤ h.length → W prog J 48 n0 45 (subC [1, 1, 1, 1, 1, 0, 0, 0] (codeOf f45)) f h (thenK (Nx n0 μ I s) (contX pl45 prog J 48 n0 45 ct45 [1, 1, 1, 1, 1, 0, 0] (codeOf f45) [] (RetQ prog [.tmp 8, .tmp 9] n0 K))))
  {s : S} {f : RG} (hi : Gets n0 I s f h) : Sem J 48 n0 45 (subC [1, 1, 1, 1, 1, 0, 0] (codeOf f45)) f h (contX pl45 prog J 48 n0 45 ct45 [1, 1, 1, 1, 1, 0, 0] (codeOf f45) [] (RetQ prog [.tmp 8, .tmp 9] n0 K)) :=
  loop_rule hJ mixed (b := subC [1, 1, 1, 1, 1, 0, 0, 0] (codeOf f45)) (by kernel_rfl) μ I hI hi
theorem s45_2 {f : RG} {nx0 : RG → List AObj → Prop} : W prog J 48 n0 45 (subC [1, 1, 1, 1, 1, 0, 0, 0, 0, 1] (codeOf f45)) f h (contX pl45 prog J 48 n0 45 ct45 [1, 1, 1, 1, 1, 0, 0, 0, 0, 1] (codeOf f45) [nx0] (RetQ prog [.tmp 8, .tmp 9] n0 K)) =
(cnd (f.r 44)
(aBin prog .sub 3 (f.r 11) (vint 1) fun v1 =>
 nx0 (RG.p (RG.p (RG.p f 45 (f.r 11)) 46 v1) 11 v1) h)
(retL n0 K f.ds [(f.r 11), (vint 0)] h)) := sub_eq pok45 ct45 (by kernel_rfl)
theorem at54 : prog.funcs[54]? = some f54 := by kernel_rfl
theorem body54 : f54.body = some (codeOf f54) := by kernel_rfl
def pl54 : Plans := [(1, false, .take 0 (.take 1 (.take 2 (.take 3 (.take 4 (.take 5 (.take 7 (.last 6 true (.last 8 true (.take 9 (.take 10 (.take 11 (.take 12 (.take 13 (.fin)))))))))))))))]
def ct54 : Cuts := .go
theorem pok54 : plansOk prog pl54 (codeOf f54) = true := by kernel_rfl
theorem e54 {a0 a1 a2 a3 a4 : Value} : W prog J 30 h.length 54 (codeOf f54) (RG.mk (regs [a0, a1, a2, a3, a4]) []) h (RetQ prog [.tmp 10, .tmp 11] h.length K) =
(aBox a0 h fun v1 h2 =>
 aBox a1 h2 fun v3 h4 =>
(∃ B, aLoad true 6 v1 h4 fun v5 =>
 RdOk (some B) (ptrBlk v1) ∧ (aOff v3 0 fun v6 =>
 aLoad false 1 v6 h4 fun v7 =>
 RdOk (some B) (ptrBlk v6) ∧ (aLoad true 3 v3 h4 fun v8 =>
 RdOk (some B) (ptrBlk v3) ∧ (Good prog J 100 [v7, a2, a3, a4] h4 fun v9 h10 =>
 SameB (some B) h4 h10 ∧ (Good prog J 49 [v5, v9, v8] h10 fun v11 h12 =>
 SameB (some B) h4 h12 ∧ (aExt v11 0 fun v13 =>
 aExt v11 1 fun v14 =>
 aBin prog .eql 3 v13 (vint 1) fun v15 =>
 aBin prog .eql 37 v14 (vint 0) fun v16 =>
 retL h.length K [] [v15, v16] h12))))))) := top_eq pok54 ct54 (by kernel_rfl)
theorem g54 (hJ : Closed prog main J) {a0 a1 a2 a3 a4 : Value} (hs : heapOk h → W prog J 30 h.length 54 (codeOf f54) (RG.mk (regs [a0, a1, a2, a3, a4]) []) h (RetQ prog [.tmp 10, .tmp 11] h.length K)) : Good prog J 54 [a0, a1, a2, a3, a4] h K :=
  good_of_W hJ mixed at54 body54 (by kernel_rfl) (Nat.le_of_ble_eq_true rfl) hs
end
section
variable {main : Bool} {J : JT} {n0 : Nat} {h : List AObj} {K : Value → List AObj → Prop}
theorem at100 : prog.funcs[100]? = some f100 := by kernel_rfl
theorem body100 : f100.body = some (codeOf f100) := by kernel_rfl
def pl100 : Plans := []
def ct100 : Cuts := .go
theorem pok100 : plansOk prog pl100 (codeOf f100) = true := by kernel_rfl
theorem e100 {a0 a1 a2 a3 : Value} : W prog J 26 h.length 100 (codeOf f100) (RG.mk (regs [a0, a1, a2, a3]) []) h (RetQ prog [.tmp 8] h.length K) =
(((List.length [(vint 0)] = 1 ∧ (8 : Nat) ≤ 1024) ∧ aMkS [(vint 0)] a0 a0 h fun v1 h2 =>
 Sem J 26 h.length 100 (subC [1, 1, 0, 1, 0] (codeOf f100)) (RG.p (RG.p (RG.p (RG.p (RG.p (RG.p (RG.mk (regs [a0, a1, a2, a3]) []) 8 (Value.slice none 0 0)) 11 a0) 12 v1) 9 v1) 13 a2) 10 a2) h2 (contX pl100 prog J 26 h.length 100 ct100 [1, 1, 0, 1, 0] (codeOf f100) [] (RetQ prog [.tmp 8] h.length K)))) := top_eq pok100 ct100 (by kernel_rfl)
theorem g100 (hJ : Closed prog main J) {a0 a1 a2 a3 : Value} (hs : heapOk h → W prog J 26 h.length 100 (codeOf f100) (RG.mk (regs [a0, a1, a2, a3]) []) h (RetQ prog [.tmp 8] h.length K)) : Good prog J 100 [a0, a1, a2, a3] h K :=
  good_of_W hJ mixed at100 body100 (by kernel_rfl) (Nat.le_of_ble_eq_true rfl) hs
theorem s100_1 {f : RG} {nx0 : RG → List AObj → Prop} : W prog J 26 n0 100 (subC [1, 1, 0, 1, 0, 0] (codeOf f100)) f h (thenK nx0 (contX pl100 prog J 26 n0 100 ct100 [1, 1, 0, 1, 0] (codeOf f100) [] (RetQ prog [.tmp 8] n0 K))) =
(aBin prog .add 3 (f.r 2) (f.r 3) fun v1 =>
 aBin prog .lss 3 (f.r 10) v1 fun v2 =>
 cnd v2
(aIdx 1 (f.r 9) (f.r 10) fun v3 =>
 aStore 1 v3 (f.r 1) h fun h4 =>
 aBin prog .add 3 (f.r 10) (vint 1) fun v5 =>
 nx0 (RG.p (RG.p (RG.p (RG.p (RG.p (RG.p (RG.p (RG.p (RG.p (RG.p (RG.p (RG.p f 14 (f.r 10)) 15 (f.r 2)) 16 (f.r 3)) 17 v1) 18 v2) 21 (f.r 9)) 22 (f.r 10)) 23 (f.r 1)) 24 v3) 19 (f.r 10)) 20 v5) 10 v5) h4)
(retL n0 K f.ds [(f.r 9)] h)) := sub_eq pok100 ct100 (by kernel_rfl)
theorem l100_1 (hJ : Closed prog main J) {S : Type} (μ : S → Nat) (I : S → RG → List AObj → Prop) (hI : ∀ s f h, I s f h → heapOk h → n0 ≤ h.length → W prog J 26 n0 100 (subC [1, 1, 0, 1, 0, 0] (codeOf f100)) f h (thenK (Nx n0 μ I s) (contX pl100 prog J 26 n0 100 ct100 [1, 1, 0, 1, 0] (codeOf f100) [] (RetQ prog [.tmp 8] n0 K))))
  {s : S} {f : RG} (hi : Gets n0 I s f h) : Sem J 26 n0 100 (subC [1, 1, 0, 1, 0] (codeOf f100)) f h (contX pl100 prog J 26 n0 100 ct100 [1, 1, 0, 1, 0] (codeOf f100) [] (RetQ prog [.tmp 8] n0 K)) :=
  loop_rule hJ mixed (b := subC [1, 1, 0, 1, 0, 0] (codeOf f100)) (by kernel_rfl) μ I hI hi
end
section
variable {main : Bool} {J : JT} {n0 : Nat} {h : List AObj} {K : Value → List AObj → Prop}
theorem at82 : prog.funcs[82]? = some f82 := by kernel_rfl
theorem body82 : f82.body = some (codeOf f82) := by kernel_rfl
def pl82 : Plans := []
def ct82 : Cuts := .go
theorem pok82 : plansOk prog pl82 (codeOf f82) = true := by kernel_rfl
theorem e82 {a0 a1 a2 : Value} : W prog J 15 h.length 82 (codeOf f82) (RG.mk (regs [a0, a1, a2]) []) h (RetQ prog [.tmp 6] h.length K) =
(aBin prog .geq 3 a0 a1 fun v1 =>
 cnd v1
(aBin prog .leq 3 a0 a2 fun v2 =>
 retL h.length K [] [v2] h)
(retL h.length K [] [(Value.bool false)] h)) := top_eq pok82 ct82 (by kernel_rfl)
theorem g82 (hJ : Closed prog main J) {a0 a1 a2 : Value} (hs : heapOk h → W prog J 15 h.length 82 (codeOf f82) (RG.mk (regs [a0, a1, a2]) []) h (RetQ prog [.tmp 6] h.length K)) : Good prog J 82 [a0, a1, a2] h K :=
  good_of_W hJ mixed at82 body82 (by kernel_rfl) (Nat.le_of_ble_eq_true rfl) hs
theorem at37 : prog.funcs[37]? = some f37 := by kernel_rfl
theorem body37 : f37.body = some (codeOf f37) := by kernel_rfl
def pl37 : Plans := []
def ct37 : Cuts := .bin (.go) (.bin (.bin (.go) (.cut (.go))) (.go))
theorem pok37 : plansOk prog pl37 (codeOf f37) = true := by kernel_rfl
theorem e37 {a0 : Value} : W prog J 43 h.length 37 (codeOf f37) (RG.mk (regs [a0]) []) h (RetQ prog [.tmp 2] h.length K) =
(aBox a0 h fun v1 h2 =>
 aOff v1 1 fun v3 =>
 aLoad false 1 v3 h2 fun v4 =>
 Good prog J 82 [v4, (vint 1), (vint 99)] h2 fun v5 h6 =>
 aUn .not v5 fun v7 =>
 cnd v7
(Hold (W prog J 43 h.length 37 (subC [1, 0, 1] (codeOf f37)) (RG.p (RG.p (RG.p (RG.p (RG.p (RG.p (RG.p (RG.p (RG.p (RG.p (RG.p (RG.p (RG.p (RG.p (RG.p (RG.p (RG.p (RG.p (RG.p (RG.p (RG.p (RG.p (RG.p (RG.p (RG.p (RG.p (RG.p (RG.p (RG.p (RG.p (RG.p (RG.p (RG.p (RG.p (RG.p (RG.p (RG.p (RG.p (RG.p (RG.p (RG.p (RG.p (RG.p (RG.p (RG.p (RG.p (RG.p (RG.mk (regs [a0]) []) 1 v1) 2 (vint 0)) 3 v3) 4 v4) 5 v5) 6 v7) 7 v7) 7 (Value.bool true)) 8 undef) 9 undef) 10 undef) 11 undef) 12 undef) 13 undef) 14 (Value.bool true)) 15 (Value.bool true)) 15 (Value.bool true)) 16 undef) 17 undef) 18 undef) 19 undef) 20 (Value.bool true)) 21 (Value.bool true)) 21 (Value.bool true)) 22 undef) 23 undef) 24 undef) 25 undef) 26 undef) 27 undef) 28 (Value.bool true)) 29 (Value.bool true)) 29 (Value.bool true)) 30 undef) 31 undef) 32 undef) 33 undef) 34 undef) 35 undef) 36 (Value.bool true)) 37 (Value.bool true)) 37 (Value.bool true)) 38 undef) 39 undef) 40 undef) 41 undef) 42 (Value.bool true)) h6 (contX pl37 prog J 43 h.length 37 ct37 [1, 0, 1] (codeOf f37) [] (RetQ prog [.tmp 2] h.length K))))
(aOff v1 0 fun v8 =>
 aLoad false 1 v8 h6 fun v9 =>
 aOff v1 1 fun v10 =>
 aLoad false 1 v10 h6 fun v11 =>
 Good prog J 82 [v9, (vint 0), v11] h6 fun v12 h13 =>
 aUn .not v12 fun v14 =>
 cnd v14
(Hold (W prog J 43 h.length 37 (subC [1, 0, 1] (codeOf f37)) (RG.p (RG.p (RG.p (RG.p (RG.p (RG.p (RG.p (RG.p (RG.p (RG.p (RG.p (RG.p (RG.p (RG.p (RG.p (RG.p (RG.p (RG.p (RG.p (RG.p (RG.p (RG.p (RG.p (RG.p (RG.p (RG.p (RG.p (RG.p (RG.p (RG.p (RG.p (RG.p (RG.p (RG.p (RG.p (RG.p (RG.p (RG.p (RG.p (RG.p (RG.p (RG.p (RG.p (RG.p (RG.p (RG.p (RG.p (RG.mk (regs [a0]) []) 1 v1) 2 (vint 0)) 3 v3) 4 v4) 5 v5) 6 v7) 7 v7) 7 (Value.bool false)) 8 v8) 9 v9) 10 v10) 11 v11) 12 v12) 13 v14) 14 v14) 15 v14) 15 (Value.bool true)) 16 undef) 17 undef) 18 undef) 19 undef) 20 (Value.bool true)) 21 (Value.bool true)) 21 (Value.bool true)) 22 undef) 23 undef) 24 undef) 25 undef) 26 undef) 27 undef) 28 (Value.bool true)) 29 (Value.bool true)) 29 (Value.bool true)) 30 undef) 31 undef) 32 undef) 33 undef) 34 undef) 35 undef) 36 (Value.bool true)) 37 (Value.bool true)) 37 (Value.bool true)) 38 undef) 39 undef) 40 undef) 41 undef) 42 (Value.bool true)) h13 (contX pl37 prog J 43 h.length 37 ct37 [1, 0, 1] (codeOf f37) [] (RetQ prog [.tmp 2] h.length K))))
(aOff v1 2 fun v15 =>
 aLoad false 1 v15 h13 fun v16 =>
 Good prog J 82 [v16, (vint 0), (vint 9)] h13 fun v17 h18 =>
 aUn .not v17 fun v19 =>
 cnd v19
(Hold (W prog J 43 h.length 37 (subC [1, 0, 1] (codeOf f37)) (RG.p (RG.p (RG.p (RG.p (RG.p (RG.p (RG.p (RG.p (RG.p (RG.p (RG.p (RG.p (RG.p (RG.p (RG.p (RG.p (RG.p (RG.p (RG.p (RG.p (RG.p (RG.p (RG.p (RG.p (RG.p (RG.p (RG.p (RG.p (RG.p (RG.p (RG.p (RG.p (RG.p (RG.p (RG.p (RG.p (RG.p (RG.p (RG.p (RG.p (RG.p (RG.p (RG.p (RG.p (RG.p (RG.p (RG.p (RG.mk (regs [a0]) []) 1 v1) 2 (vint 0)) 3 v3) 4 v4) 5 v5) 6 v7) 7 v7) 7 (Value.bool false)) 8 v8) 9 v9) 10 v10) 11 v11) 12 v12) 13 v14) 14 v14) 15 v14) 15 (Value.bool false)) 16 v15) 17 v16) 18 v17) 19 v19) 20 v19) 21 v19) 21 (Value.bool true)) 22 undef) 23 undef) 24 undef) 25 undef) 26 undef) 27 undef) 28 (Value.bool true)) 29 (Value.bool true)) 29 (Value.bool true)) 30 undef) 31 undef) 32 undef) 33 undef) 34 undef) 35 undef) 36 (Value.bool true)) 37 (Value.bool true)) 37 (Value.bool true)) 38 undef) 39 undef) 40 undef) 41 undef) 42 (Value.bool true)) h18 (contX pl37 prog J 43 h.length 37 ct37 [1, 0, 1] (codeOf f37) [] (RetQ prog [.tmp 2] h.length K))))
(aOff v1 3 fun v20 =>
 aLoad false 1 v20 h18 fun v21 =>
 aOff v1 2 fun v22 =>
 aLoad false 1 v22 h18 fun v23 =>
 Good prog J 82 [v21, v23, (vint 9)] h18 fun v24 h25 =>
 aUn .not v24 fun v26 =>
 cnd v26
(Hold (W prog J 43 h.length 37 (subC [1, 0, 1] (codeOf f37)) (RG.p (RG.p (RG.p (RG.p (RG.p (RG.p (RG.p (RG.p (RG.p (RG.p (RG.p (RG.p (RG.p (RG.p (RG.p (RG.p (RG.p (RG.p (RG.p (RG.p (RG.p (RG.p (RG.p (RG.p (RG.p (RG.p (RG.p (RG.p (RG.p (RG.p (RG.p (RG.p (RG.p (RG.p (RG.p (RG.p (RG.p (RG.p (RG.p (RG.p (RG.p (RG.p (RG.p (RG.p (RG.p (RG.p (RG.p (RG.mk (regs [a0]) []) 1 v1) 2 (vint 0)) 3 v3) 4 v4) 5 v5) 6 v7) 7 v7) 7 (Value.bool false)) 8 v8) 9 v9) 10 v10) 11 v11) 12 v12) 13 v14) 14 v14) 15 v14) 15 (Value.bool false)) 16 v15) 17 v16) 18 v17) 19 v19) 20 v19) 21 v19) 21 (Value.bool false)) 22 v20) 23 v21) 24 v22) 25 v23) 26 v24) 27 v26) 28 v26) 29 v26) 29 (Value.bool true)) 30 undef) 31 undef) 32 undef) 33 undef) 34 undef) 35 undef) 36 (Value.bool true)) 37 (Value.bool true)) 37 (Value.bool true)) 38 undef) 39 undef) 40 undef) 41 undef) 42 (Value.bool true)) h25 (contX pl37 prog J 43 h.length 37 ct37 [1, 0, 1] (codeOf f37) [] (RetQ prog [.tmp 2] h.length K))))
(aOff v1 4 fun v27 =>
 aLoad false 1 v27 h25 fun v28 =>
 aOff v1 1 fun v29 =>
 aLoad false 1 v29 h25 fun v30 =>
 Good prog J 82 [v28, (vint 0), v30] h25 fun v31 h32 =>
 aUn .not v31 fun v33 =>
 cnd v33
(Hold (W prog J 43 h.length 37 (subC [1, 0, 1] (codeOf f37)) (RG.p (RG.p (RG.p (RG.p (RG.p (RG.p (RG.p (RG.p (RG.p (RG.p (RG.p (RG.p (RG.p (RG.p (RG.p (RG.p (RG.p (RG.p (RG.p (RG.p (RG.p (RG.p (RG.p (RG.p (RG.p (RG.p (RG.p (RG.p (RG.p (RG.p (RG.p (RG.p (RG.p (RG.p (RG.p (RG.p (RG.p (RG.p (RG.p (RG.p (RG.p (RG.p (RG.p (RG.p (RG.p (RG.p (RG.p (RG.mk (regs [a0]) []) 1 v1) 2 (vint 0)) 3 v3) 4 v4) 5 v5) 6 v7) 7 v7) 7 (Value.bool false)) 8 v8) 9 v9) 10 v10) 11 v11) 12 v12) 13 v14) 14 v14) 15 v14) 15 (Value.bool false)) 16 v15) 17 v16) 18 v17) 19 v19) 20 v19) 21 v19) 21 (Value.bool false)) 22 v20) 23 v21) 24 v22) 25 v23) 26 v24) 27 v26) 28 v26) 29 v26) 29 (Value.bool false)) 30 v27) 31 v28) 32 v29) 33 v30) 34 v31) 35 v33) 36 v33) 37 v33) 37 (Value.bool true)) 38 undef) 39 undef) 40 undef) 41 undef) 42 (Value.bool true)) h32 (contX pl37 prog J 43 h.length 37 ct37 [1, 0, 1] (codeOf f37) [] (RetQ prog [.tmp 2] h.length K))))
(aOff v1 5 fun v34 =>
 aLoad false 1 v34 h32 fun v35 =>
 Good prog J 82 [v35, (vint 0), (vint 5)] h32 fun v36 h37 =>
 aUn .not v36 fun v38 =>
 Hold (W prog J 43 h.length 37 (subC [1, 0, 1] (codeOf f37)) (RG.p (RG.p (RG.p (RG.p (RG.p (RG.p (RG.p (RG.p (RG.p (RG.p (RG.p (RG.p (RG.p (RG.p (RG.p (RG.p (RG.p (RG.p (RG.p (RG.p (RG.p (RG.p (RG.p (RG.p (RG.p (RG.p (RG.p (RG.p (RG.p (RG.p (RG.p (RG.p (RG.p (RG.p (RG.p (RG.p (RG.p (RG.p (RG.p (RG.p (RG.p (RG.p (RG.p (RG.p (RG.p (RG.p (RG.p (RG.mk (regs [a0]) []) 1 v1) 2 (vint 0)) 3 v3) 4 v4) 5 v5) 6 v7) 7 v7) 7 (Value.bool false)) 8 v8) 9 v9) 10 v10) 11 v11) 12 v12) 13 v14) 14 v14) 15 v14) 15 (Value.bool false)) 16 v15) 17 v16) 18 v17) 19 v19) 20 v19) 21 v19) 21 (Value.bool false)) 22 v20) 23 v21) 24 v22) 25 v23) 26 v24) 27 v26) 28 v26) 29 v26) 29 (Value.bool false)) 30 v27) 31 v28) 32 v29) 33 v30) 34 v31) 35 v33) 36 v33) 37 v33) 37 (Value.bool false)) 38 v34) 39 v35) 40 v36) 41 v38) 42 v38) h37 (contX pl37 prog J 43 h.length 37 ct37 [1, 0, 1] (codeOf f37) [] (RetQ prog [.tmp 2] h.length K))))))))) := top_eq pok37 ct37 (by kernel_rfl)
theorem g37 (hJ : Closed prog main J) {a0 : Value} (hs : heapOk h → W prog J 43 h.length 37 (codeOf f37) (RG.mk (regs [a0]) []) h (RetQ prog [.tmp 2] h.length K)) : Good prog J 37 [a0] h K :=
  good_of_W hJ mixed at37 body37 (by kernel_rfl) (Nat.le_of_ble_eq_true rfl) hs
theorem s37_1 {f : RG} : W prog J 43 n0 37 (subC [1, 0, 1] (codeOf f37)) f h (contX pl37 prog J 43 n0 37 ct37 [1, 0, 1] (codeOf f37) [] (RetQ prog [.tmp 2] n0 K)) =
(cnd (f.r 42)
(retL n0 K f.ds [(vint 1)] h)
(retL n0 K f.ds [(vint 0)] h)) := sub_eq pok37 ct37 (by kernel_rfl)
theorem at81 : prog.funcs[81]? = some f81 := by kernel_rfl
theorem body81 : f81.body = some (codeOf f81) := by kernel_rfl
def pl81 : Plans := []
def ct81 : Cuts := .bin (.go) (.bin (.bin (.go) (.cut (.go))) (.go))
theorem pok81 : plansOk prog pl81 (codeOf f81) = true := by kernel_rfl
theorem e81 {a0 : Value} : W prog J 23 h.length 81 (codeOf f81) (RG.mk (regs [a0]) []) h (RetQ prog [.tmp 2] h.length K) =
(aBox a0 h fun v1 h2 =>
 aOff v1 0 fun v3 =>
 aLoad false 1 v3 h2 fun v4 =>
 Good prog J 82 [v4, (vint 1), (vint 8)] h2 fun v5 h6 =>
 aUn .not v5 fun v7 =>
 cnd v7
(Hold (W prog J 23 h.length 81 (subC [1, 0, 1] (codeOf f81)) (RG.p (RG.p (RG.p (RG.p (RG.p (RG.p (RG.p (RG.p (RG.p (RG.p (RG.p (RG.p (RG.p (RG.p (RG.p (RG.p (RG.p (RG.p (RG.p (RG.p (RG.p (RG.p (RG.p (RG.p (RG.mk (regs [a0]) []) 1 v1) 2 (vint 0)) 3 v3) 4 v4) 5 v5) 6 v7) 7 v7) 7 (Value.bool true)) 8 undef) 9 undef) 10 undef) 11 undef) 12 undef) 13 undef) 14 (Value.bool true)) 15 (Value.bool true)) 15 (Value.bool true)) 16 undef) 17 undef) 18 undef) 19 undef) 20 undef) 21 undef) 22 (Value.bool true)) h6 (contX pl81 prog J 23 h.length 81 ct81 [1, 0, 1] (codeOf f81) [] (RetQ prog [.tmp 2] h.length K))))
(aOff v1 1 fun v8 =>
 aLoad false 1 v8 h6 fun v9 =>
 aOff v1 0 fun v10 =>
 aLoad false 1 v10 h6 fun v11 =>
 Good prog J 82 [v9, (vint 1), v11] h6 fun v12 h13 =>
 aUn .not v12 fun v14 =>
 cnd v14
(Hold (W prog J 23 h.length 81 (subC [1, 0, 1] (codeOf f81)) (RG.p (RG.p (RG.p (RG.p (RG.p (RG.p (RG.p (RG.p (RG.p (RG.p (RG.p (RG.p (RG.p (RG.p (RG.p (RG.p (RG.p (RG.p (RG.p (RG.p (RG.p (RG.p (RG.p (RG.p (RG.mk (regs [a0]) []) 1 v1) 2 (vint 0)) 3 v3) 4 v4) 5 v5) 6 v7) 7 v7) 7 (Value.bool false)) 8 v8) 9 v9) 10 v10) 11 v11) 12 v12) 13 v14) 14 v14) 15 v14) 15 (Value.bool true)) 16 undef) 17 undef) 18 undef) 19 undef) 20 undef) 21 undef) 22 (Value.bool true)) h13 (contX pl81 prog J 23 h.length 81 ct81 [1, 0, 1] (codeOf f81) [] (RetQ prog [.tmp 2] h.length K))))
(aOff v1 2 fun v15 =>
 aLoad false 1 v15 h13 fun v16 =>
 aOff v1 0 fun v17 =>
 aLoad false 1 v17 h13 fun v18 =>
 Good prog J 82 [v16, (vint 1), v18] h13 fun v19 h20 =>
 aUn .not v19 fun v21 =>
 Hold (W prog J 23 h.length 81 (subC [1, 0, 1] (codeOf f81)) (RG.p (RG.p (RG.p (RG.p (RG.p (RG.p (RG.p (RG.p (RG.p (RG.p (RG.p (RG.p (RG.p (RG.p (RG.p (RG.p (RG.p (RG.p (RG.p (RG.p (RG.p (RG.p (RG.p (RG.p (RG.mk (regs [a0]) []) 1 v1) 2 (vint 0)) 3 v3) 4 v4) 5 v5) 6 v7) 7 v7) 7 (Value.bool false)) 8 v8) 9 v9) 10 v10) 11 v11) 12 v12) 13 v14) 14 v14) 15 v14) 15 (Value.bool false)) 16 v15) 17 v16) 18 v17) 19 v18) 20 v19) 21 v21) 22 v21) h20 (contX pl81 prog J 23 h.length 81 ct81 [1, 0, 1] (codeOf f81) [] (RetQ prog [.tmp 2] h.length K)))))) := top_eq pok81 ct81 (by kernel_rfl)
theorem g81 (hJ : Closed prog main J) {a0 : Value} (hs : heapOk h → W prog J 23 h.length 81 (codeOf f81) (RG.mk (regs [a0]) []) h (RetQ prog [.tmp 2] h.length K)) : Good prog J 81 [a0] h K :=
  good_of_W hJ mixed at81 body81 (by kernel_rfl) (Nat.le_of_ble_eq_true rfl) hs
theorem s81_1 {f : RG} : W prog J 23 n0 81 (subC [1, 0, 1] (codeOf f81)) f h (contX pl81 prog J 23 n0 81 ct81 [1, 0, 1] (codeOf f81) [] (RetQ prog [.tmp 2] n0 K)) =
(cnd (f.r 22)
(retL n0 K f.ds [(vint 1)] h)
(retL n0 K f.ds [(vint 0)] h)) := sub_eq pok81 ct81 (by kernel_rfl)
theorem at129 : prog.funcs[129]? = some f129 := by kernel_rfl
theorem body129 : f129.body = some (codeOf f129) := by kernel_rfl
def pl129 : Plans := [(7, true, .take 0 (.take 1 (.take 2 (.take 3 (.take 4 (.take 5 (.take 6 (.take 7 (.take 8 (.take 9 (.take 10 (.take 11 (.fin)))))))))))))]
def ct129 : Cuts := .bin (.go) (.bin (.go) (.bin (.go) (.bin (.bin (.go) (.un (.un (.bin (.go) (.bin (.un (.bin (.bin (.go) (.cut (.go))) (.cut (.bin (.go) (.cut (.go)))))) (.go)))))) (.go))))
theorem pok129 : plansOk prog pl129 (codeOf f129) = true := by kernel_rfl
theorem e129 {a0 a1 : Value} : W prog J 54 h.length 129 (codeOf f129) (RG.mk (regs [a0, a1]) []) h (RetQ prog [.tmp 4] h.length K) =
(aBox a0 h fun v1 h2 =>
 aLenStr a1 fun v3 =>
 aOff v1 0 fun v4 =>
 aLoad false 1 v4 h2 fun v5 =>
 aBin prog .neq 3 v3 v5 fun v6 =>
 cnd v6
(retL h.length K [] [(Value.bool false)] h2)
(Sem J 54 h.length 129 (subC [1, 1, 1, 0, 1, 0] (codeOf f129)) (RG.p (RG.p (RG.p (RG.p (RG.p (RG.p (RG.p (RG.p (RG.p (RG.mk (regs [a0, a1]) []) 2 v1) 4 (Value.bool false)) 7 a1) 8 v3) 9 v4) 10 v5) 11 v6) 5 (vint 0)) 6 (vint 0)) h2 (contX pl129 prog J 54 h.length 129 ct129 [1, 1, 1, 0, 1, 0] (codeOf f129) [] (RetQ prog [.tmp 4] h.length K)))) := top_eq pok129 ct129 (by kernel_rfl)
theorem g129 (hJ : Closed prog main J) {a0 a1 : Value} (hs : heapOk h → W prog J 54 h.length 129 (codeOf f129) (RG.mk (regs [a0, a1]) []) h (RetQ prog [.tmp 4] h.length K)) : Good prog J 129 [a0, a1] h K :=
  good_of_W hJ mixed at129 body129 (by kernel_rfl) (Nat.le_of_ble_eq_true rfl) hs
theorem s129_1 {f : RG} {nx0 : RG → List AObj → Prop} : W prog J 54 n0 129 (subC [1, 1, 1, 0, 1, 0, 0] (codeOf f129)) f h (thenK nx0 (contX pl129 prog J 54 n0 129 ct129 [1, 1, 1, 0, 1, 0] (codeOf f129) [] (RetQ prog [.tmp 4] n0 K))) =
(aLenStr (f.r 1) fun v1 =>
 aBin prog .lss 3 (f.r 6) v1 fun v2 =>
 cnd v2
(aBin prog .gtr 3 (f.r 6) (vint 0) fun v3 =>
 cnd v3
(aIdxStr (f.r 1) (f.r 6) fun v4 =>
 aBin prog .sub 3 (f.r 6) (vint 1) fun v5 =>
 aIdxStr (f.r 1) v5 fun v6 =>
 aBin prog .eql 5 v4 v6 fun v7 =>
 Hold (W prog J 54 n0 129 (subC [1, 1, 1, 0, 1, 0, 0, 1, 0, 0, 0, 1] (codeOf f129)) (RG.p (RG.p (RG.p (RG.p (RG.p (RG.p (RG.p (RG.p (RG.p (RG.p (RG.p (RG.p (RG.p (RG.p (RG.p (RG.p (RG.p f 12 (f.r 6)) 13 (f.r 1)) 14 v1) 15 v2) 18 (f.r 6)) 19 v3) 20 v3) 20 (Value.bool true)) 21 (f.r 1)) 22 (f.r 6)) 23 v4) 24 (f.r 1)) 25 (f.r 6)) 26 v5) 27 v6) 28 v7) 29 v7) h (contX pl129 prog J 54 n0 129 ct129 [1, 1, 1, 0, 1, 0, 0, 1, 0, 0, 0, 1] (codeOf f129) [nx0] (RetQ prog [.tmp 4] n0 K))))
(Hold (W prog J 54 n0 129 (subC [1, 1, 1, 0, 1, 0, 0, 1, 0, 0, 0, 1] (codeOf f129)) (RG.p (RG.p (RG.p (RG.p (RG.p (RG.p (RG.p (RG.p (RG.p (RG.p (RG.p (RG.p (RG.p (RG.p (RG.p (RG.p (RG.p f 12 (f.r 6)) 13 (f.r 1)) 14 v1) 15 v2) 18 (f.r 6)) 19 v3) 20 v3) 20 (Value.bool false)) 21 undef) 22 undef) 23 undef) 24 undef) 25 undef) 26 undef) 27 undef) 28 undef) 29 (Value.bool false)) h (contX pl129 prog J 54 n0 129 ct129 [1, 1, 1, 0, 1, 0, 0, 1, 0, 0, 0, 1] (codeOf f129) [nx0] (RetQ prog [.tmp 4] n0 K)))))
(retL n0 K f.ds [(Value.bool true)] h)) := sub_eq pok129 ct129 (by kernel_rfl)
theorem l129_1 (hJ : Closed prog main J) {S : Type} (μ : S → Nat) (I : S → RG → List AObj → Prop) (hI : ∀ s f h, I s f h → heapOk h → n0 ≤ h.length → W prog J 54 n0 129 (subC [1, 1, 1, 0, 1, 0, 0] (codeOf f129)) f h (thenK (Nx n0 μ I s) (contX pl129 prog J 54 n0 129 ct129 [1, 1, 1, 0, 1, 0] (codeOf f129) [] (RetQ prog [.tmp 4] n0 K))))
  {s : S} {f : RG} (hi : Gets n0 I s f h) : Sem J 54 n0 129 (subC [1, 1, 1, 0, 1, 0] (codeOf f129)) f h (contX pl129 prog J 54 n0 129 ct129 [1, 1, 1, 0, 1, 0] (codeOf f129) [] (RetQ prog [.tmp 4] n0 K)) :=
  loop_rule hJ mixed (b := subC [1, 1, 1, 0, 1, 0, 0] (codeOf f129)) (by kernel_rfl) μ I hI hi
theorem s129_2 {f : RG} {nx0 : RG → List AObj → Prop} : W prog J 54 n0 129 (subC [1, 1, 1, 0, 1, 0, 0, 1, 0, 0, 0, 1] (codeOf f129)) f h (contX pl129 prog J 54 n0 129 ct129 [1, 1, 1, 0, 1, 0, 0, 1, 0, 0, 0, 1] (codeOf f129) [nx0] (RetQ prog [.tmp 4] n0 K)) =
(cnd (f.r 29)
(aBin prog .add 3 (f.r 5) (vint 1) fun v1 =>
 Hold (W prog J 54 n0 129 (subC [1, 1, 1, 0, 1, 0, 0, 1, 0, 0, 1] (codeOf f129)) (RG.p (RG.p (RG.p f 30 (f.r 5)) 31 v1) 5 v1) h (contX pl129 prog J 54 n0 129 ct129 [1, 1, 1, 0, 1, 0, 0, 1, 0, 0, 1] (codeOf f129) [nx0] (RetQ prog [.tmp 4] n0 K))))
(Hold (W prog J 54 n0 129 (subC [1, 1, 1, 0, 1, 0, 0, 1, 0, 0, 1] (codeOf f129)) (RG.p f 5 (vint 1)) h (contX pl129 prog J 54 n0 129 ct129 [1, 1, 1, 0, 1, 0, 0, 1, 0, 0, 1] (codeOf f129) [nx0] (RetQ prog [.tmp 4] n0 K))))) := sub_eq pok129 ct129 (by kernel_rfl)
theorem s129_3 {f : RG} {nx0 : RG → List AObj → Prop} : W prog J 54 n0 129 (subC [1, 1, 1, 0, 1, 0, 0, 1, 0, 0, 1] (codeOf f129)) f h (contX pl129 prog J 54 n0 129 ct129 [1, 1, 1, 0, 1, 0, 0, 1, 0, 0, 1] (codeOf f129) [nx0] (RetQ prog [.tmp 4] n0 K)) =
(aIdxStr (f.r 1) (f.r 6) fun v1 =>
 aBin prog .eql 5 v1 (Value.int .u8 100) fun v2 =>
 cnd v2
(aOff (f.r 2) 1 fun v3 =>
 aLoad false 1 v3 h fun v4 =>
 aBin prog .gtr 3 (f.r 5) v4 fun v5 =>
 cnd v5
(Hold (W prog J 54 n0 129 (subC [1, 1, 1, 0, 1, 0, 0, 1, 0, 0, 1, 1] (codeOf f129)) (RG.p (RG.p (RG.p (RG.p (RG.p (RG.p (RG.p (RG.p (RG.p (RG.p (RG.p (RG.p (RG.p (RG.p (RG.p (RG.p (RG.p (RG.p (RG.p (RG.p (RG.p (RG.p (RG.p (RG.p f 32 (f.r 1)) 33 (f.r 6)) 34 v1) 35 v2) 36 v2) 36 (Value.bool true)) 37 (f.r 5)) 38 v3) 39 v4) 40 v5) 41 v5) 42 v5) 42 (Value.bool true)) 43 undef) 44 undef) 45 undef) 46 undef) 47 undef) 48 undef) 49 undef) 50 undef) 51 undef) 52 undef) 53 (Value.bool true)) h (contX pl129 prog J 54 n0 129 ct129 [1, 1, 1, 0, 1, 0, 0, 1, 0, 0, 1, 1] (codeOf f129) [nx0] (RetQ prog [.tmp 4] n0 K))))
(aIdxStr (f.r 1) (f.r 6) fun v6 =>
 aBin prog .eql 5 v6 (Value.int .u8 119) fun v7 =>
 cnd v7
(aOff (f.r 2) 2 fun v8 =>
 aLoad false 1 v8 h fun v9 =>
 aBin prog .gtr 3 (f.r 5) v9 fun v10 =>
 Hold (W prog J 54 n0 129 (subC [1, 1, 1, 0, 1, 0, 0, 1, 0, 0, 1, 1] (codeOf f129)) (RG.p (RG.p (RG.p (RG.p (RG.p (RG.p (RG.p (RG.p (RG.p (RG.p (RG.p (RG.p (RG.p (RG.p (RG.p (RG.p (RG.p (RG.p (RG.p (RG.p (RG.p (RG.p (RG.p (RG.p (RG.p f 32 (f.r 1)) 33 (f.r 6)) 34 v1) 35 v2) 36 v2) 36 (Value.bool true)) 37 (f.r 5)) 38 v3) 39 v4) 40 v5) 41 v5) 42 v5) 42 (Value.bool false)) 43 (f.r 1)) 44 (f.r 6)) 45 v6) 46 v7) 47 v7) 47 (Value.bool true)) 48 (f.r 5)) 49 v8) 50 v9) 51 v10) 52 v10) 53 v10) h (contX pl129 prog J 54 n0 129 ct129 [1, 1, 1, 0, 1, 0, 0, 1, 0, 0, 1, 1] (codeOf f129) [nx0] (RetQ prog [.tmp 4] n0 K))))
(Hold (W prog J 54 n0 129 (subC [1, 1, 1, 0, 1, 0, 0, 1, 0, 0, 1, 1] (codeOf f129)) (RG.p (RG.p (RG.p (RG.p (RG.p (RG.p (RG.p (RG.p (RG.p (RG.p (RG.p (RG.p (RG.p (RG.p (RG.p (RG.p (RG.p (RG.p (RG.p (RG.p (RG.p (RG.p (RG.p (RG.p (RG.p f 32 (f.r 1)) 33 (f.r 6)) 34 v1) 35 v2) 36 v2) 36 (Value.bool true)) 37 (f.r 5)) 38 v3) 39 v4) 40 v5) 41 v5) 42 v5) 42 (Value.bool false)) 43 (f.r 1)) 44 (f.r 6)) 45 v6) 46 v7) 47 v7) 47 (Value.bool false)) 48 undef) 49 undef) 50 undef) 51 undef) 52 (Value.bool false)) 53 (Value.bool false)) h (contX pl129 prog J 54 n0 129 ct129 [1, 1, 1, 0, 1, 0, 0, 1, 0, 0, 1, 1] (codeOf f129) [nx0] (RetQ prog [.tmp 4] n0 K))))))
(aIdxStr (f.r 1) (f.r 6) fun v11 =>
 aBin prog .eql 5 v11 (Value.int .u8 119) fun v12 =>
 cnd v12
(aOff (f.r 2) 2 fun v13 =>
 aLoad false 1 v13 h fun v14 =>
 aBin prog .gtr 3 (f.r 5) v14 fun v15 =>
 Hold (W prog J 54 n0 129 (subC [1, 1, 1, 0, 1, 0, 0, 1, 0, 0, 1, 1] (codeOf f129)) (RG.p (RG.p (RG.p (RG.p (RG.p (RG.p (RG.p (RG.p (RG.p (RG.p (RG.p (RG.p (RG.p (RG.p (RG.p (RG.p (RG.p (RG.p (RG.p (RG.p (RG.p (RG.p (RG.p (RG.p (RG.p f 32 (f.r 1)) 33 (f.r 6)) 34 v1) 35 v2) 36 v2) 36 (Value.bool false)) 37 undef) 38 undef) 39 undef) 40 undef) 41 (Value.bool false)) 42 (Value.bool false)) 42 (Value.bool false)) 43 (f.r 1)) 44 (f.r 6)) 45 v11) 46 v12) 47 v12) 47 (Value.bool true)) 48 (f.r 5)) 49 v13) 50 v14) 51 v15) 52 v15) 53 v15) h (contX pl129 prog J 54 n0 129 ct129 [1, 1, 1, 0, 1, 0, 0, 1, 0, 0, 1, 1] (codeOf f129) [nx0] (RetQ prog [.tmp 4] n0 K))))
(Hold (W prog J 54 n0 129 (subC [1, 1, 1, 0, 1, 0, 0, 1, 0, 0, 1, 1] (codeOf f129)) (RG.p (RG.p (RG.p (RG.p (RG.p (RG.p (RG.p (RG.p (RG.p (RG.p (RG.p (RG.p (RG.p (RG.p (RG.p (RG.p (RG.p (RG.p (RG.p (RG.p (RG.p (RG.p (RG.p (RG.p (RG.p f 32 (f.r 1)) 33 (f.r 6)) 34 v1) 35 v2) 36 v2) 36 (Value.bool false)) 37 undef) 38 undef) 39 undef) 40 undef) 41 (Value.bool false)) 42 (Value.bool false)) 42 (Value.bool false)) 43 (f.r 1)) 44 (f.r 6)) 45 v11) 46 v12) 47 v12) 47 (Value.bool false)) 48 undef) 49 undef) 50 undef) 51 undef) 52 (Value.bool false)) 53 (Value.bool false)) h (contX pl129 prog J 54 n0 129 ct129 [1, 1, 1, 0, 1, 0, 0, 1, 0, 0, 1, 1] (codeOf f129) [nx0] (RetQ prog [.tmp 4] n0 K)))))) := sub_eq pok129 ct129 (by kernel_rfl)
theorem s129_4 {f : RG} {nx0 : RG → List AObj → Prop} : W prog J 54 n0 129 (subC [1, 1, 1, 0, 1, 0, 0, 1, 0, 0, 1, 1] (codeOf f129)) f h (contX pl129 prog J 54 n0 129 ct129 [1, 1, 1, 0, 1, 0, 0, 1, 0, 0, 1, 1] (codeOf f129) [nx0] (RetQ prog [.tmp 4] n0 K)) =
(cnd (f.r 53)
(retL n0 K f.ds [(Value.bool false)] h)
(aBin prog .add 3 (f.r 6) (vint 1) fun v1 =>
 nx0 (RG.p (RG.p (RG.p f 16 (f.r 6)) 17 v1) 6 v1) h)) := sub_eq pok129 ct129 (by kernel_rfl)
theorem at39 : prog.funcs[39]? = some f39 := by kernel_rfl
theorem body39 : f39.body = some (codeOf f39) := by kernel_rfl
def pl39 : Plans := []
def ct39 : Cuts := .go
theorem pok39 : plansOk prog pl39 (codeOf f39) = true := by kernel_rfl
theorem e39 {a0 : Value} : W prog J 42 h.length 39 (codeOf f39) (RG.mk (regs [a0]) []) h (RetQ prog [.tmp 2] h.length K) =
(aBin prog .eql 3 a0 (vint 0) fun v1 =>
 cnd v1
((((1 * 1 : Nat) ≤ 16777216 ∧ (1 : Nat) ≤ 16777216 ∧ List.length [(Value.string { data := #[] })] = 1) ∧ aFill (zrep [(Value.string { data := #[] })] 1) [(0, 1, (Value.string { data := #[] }))] fun c2 =>
 aNewS 1 c2 h fun v3 h4 =>
 retL h.length K [] [v3] h4))
(aBin prog .sub 3 a0 (vint 1) fun v5 =>
 Good prog J 39 [v5] h fun v6 h7 =>
 Sem J 42 h.length 39 (subC [1, 1, 1, 1, 0, 1, 0] (codeOf f39)) (RG.p (RG.p (RG.p (RG.p (RG.p (RG.p (RG.p (RG.p (RG.p (RG.mk (regs [a0]) []) 2 (Value.slice none 0 0)) 7 a0) 8 v1) 3 (Value.slice none 0 0)) 10 a0) 11 v5) 12 v6) 4 v6) 5 (vint 0)) h7 (contX pl39 prog J 42 h.length 39 ct39 [1, 1, 1, 1, 0, 1, 0] (codeOf f39) [] (RetQ prog [.tmp 2] h.length K)))) := top_eq pok39 ct39 (by kernel_rfl)
theorem g39 (hJ : Closed prog main J) {a0 : Value} (hs : heapOk h → W prog J 42 h.length 39 (codeOf f39) (RG.mk (regs [a0]) []) h (RetQ prog [.tmp 2] h.length K)) : Good prog J 39 [a0] h K :=
  good_of_W hJ mixed at39 body39 (by kernel_rfl) (Nat.le_of_ble_eq_true rfl) hs
theorem s39_1 {f : RG} {nx0 : RG → List AObj → Prop} : W prog J 42 n0 39 (subC [1, 1, 1, 1, 0, 1, 0, 0] (codeOf f39)) f h (thenK nx0 (contX pl39 prog J 42 n0 39 ct39 [1, 1, 1, 1, 0, 1, 0] (codeOf f39) [] (RetQ prog [.tmp 2] n0 K))) =
(aLenS (f.r 4) fun v1 =>
 aBin prog .lss 3 (f.r 5) v1 fun v2 =>
 cnd v2
(aIdx 1 (f.r 4) (f.r 5) fun v3 =>
 aLoad false 1 v3 h fun v4 =>
 aBin prog .add 9 (Value.string { data := #[100] }) v4 fun v5 =>
(((1 * 1 : Nat) ≤ 16777216 ∧ (1 : Nat) ≤ 16777216 ∧ List.length [(Value.string { data := #[] })] = 1) ∧ aFill (zrep [(Value.string { data := #[] })] 1) [(0, 1, v5)] fun c6 =>
 aNewS 1 c6 h fun v7 h8 =>
((List.length [(Value.string { data := #[] })] = 1 ∧ 0 < (1 : Nat) ∧ 0 < (16 : Nat) ∧ (16 : Nat) ≤ 1024) ∧ aApp 1 (f.r 3) v7 h8 fun v9 h10 =>
 aBin prog .add 3 (f.r 5) (vint 1) fun v11 =>
 nx0 (RG.p (RG.p (RG.p (RG.p (RG.p (RG.p (RG.p (RG.p (RG.p (RG.p (RG.p (RG.p (RG.p (RG.p (RG.p (RG.p f 13 (f.r 5)) 14 (f.r 4)) 15 v1) 16 v2) 19 (f.r 3)) 20 (f.r 4)) 21 (f.r 5)) 22 v3) 23 v4) 24 v5) 25 v7) 26 v9) 3 v9) 17 (f.r 5)) 18 v11) 5 v11) h10)))
(Sem J 42 n0 39 (subC [1, 1, 1, 1, 1, 0, 1, 0] (codeOf f39)) (RG.p (RG.p (RG.p (RG.p (RG.p f 13 (f.r 5)) 14 (f.r 4)) 15 v1) 16 v2) 6 (vint 0)) h (contX pl39 prog J 42 n0 39 ct39 [1, 1, 1, 1, 1, 0, 1, 0] (codeOf f39) [] (RetQ prog [.tmp 2] n0 K)))) := sub_eq pok39 ct39 (by kernel_rfl)
theorem l39_1 (hJ : Closed prog main J) {S : Type} (μ : S → Nat) (I : S → RG → List AObj → Prop) (hI : ∀ s f h, I s f h → heapOk h → n0 ≤ h.length → W prog J 42 n0 39 (subC [1, 1, 1, 1, 0, 1, 0, 0] (codeOf f39)) f h (thenK (Nx n0 μ I s) (contX pl39 prog J 42 n0 39 ct39 [1, 1, 1, 1, 0, 1, 0] (codeOf f39) [] (RetQ prog [.tmp 2] n0 K))))
  {s : S} {f : RG} (hi : Gets n0 I s f h) : Sem J 42 n0 39 (subC [1, 1, 1, 1, 0, 1, 0] (codeOf f39)) f h (contX pl39 prog J 42 n0 39 ct39 [1, 1, 1, 1, 0, 1, 0] (codeOf f39) [] (RetQ prog [.tmp 2] n0 K)) :=
  loop_rule hJ mixed (b := subC [1, 1, 1, 1, 0, 1, 0, 0] (codeOf f39)) (by kernel_rfl) μ I hI hi
theorem s39_2 {f : RG} {nx0 : RG → List AObj → Prop} : W prog J 42 n0 39 (subC [1, 1, 1, 1, 1, 0, 1, 0, 0] (codeOf f39)) f h (thenK nx0 (contX pl39 prog J 42 n0 39 ct39 [1, 1, 1, 1, 1, 0, 1, 0] (codeOf f39) [] (RetQ prog [.tmp 2] n0 K))) =
(aLenS (f.r 4) fun v1 =>
 aBin prog .lss 3 (f.r 6) v1 fun v2 =>
 cnd v2
(aIdx 1 (f.r 4) (f.r 6) fun v3 =>
 aLoad false 1 v3 h fun v4 =>
 aBin prog .add 9 (Value.string { data := #[119] }) v4 fun v5 =>
(((1 * 1 : Nat) ≤ 16777216 ∧ (1 : Nat) ≤ 16777216 ∧ List.length [(Value.string { data := #[] })] = 1) ∧ aFill (zrep [(Value.string { data := #[] })] 1) [(0, 1, v5)] fun c6 =>
 aNewS 1 c6 h fun v7 h8 =>
((List.length [(Value.string { data := #[] })] = 1 ∧ 0 < (1 : Nat) ∧ 0 < (16 : Nat) ∧ (16 : Nat) ≤ 1024) ∧ aApp 1 (f.r 3) v7 h8 fun v9 h10 =>
 aBin prog .add 3 (f.r 6) (vint 1) fun v11 =>
 nx0 (RG.p (RG.p (RG.p (RG.p (RG.p (RG.p (RG.p (RG.p (RG.p (RG.p (RG.p (RG.p (RG.p (RG.p (RG.p (RG.p f 27 (f.r 6)) 28 (f.r 4)) 29 v1) 30 v2) 33 (f.r 3)) 34 (f.r 4)) 35 (f.r 6)) 36 v3) 37 v4) 38 v5) 39 v7) 40 v9) 3 v9) 31 (f.r 6)) 32 v11) 6 v11) h10)))
(retL n0 K f.ds [(f.r 3)] h)) := sub_eq pok39 ct39 (by kernel_rfl)
theorem l39_2 (hJ : Closed prog main J) {S : Type} (μ : S → Nat) (I : S → RG → List AObj → Prop) (hI : ∀ s f h, I s f h → heapOk h → n0 ≤ h.length → W prog J 42 n0 39 (subC [1, 1, 1, 1, 1, 0, 1, 0, 0] (codeOf f39)) f h (thenK (Nx n0 μ I s) (contX pl39 prog J 42 n0 39 ct39 [1, 1, 1, 1, 1, 0, 1, 0] (codeOf f39) [] (RetQ prog [.tmp 2] n0 K))))
  {s : S} {f : RG} (hi : Gets n0 I s f h) : Sem J 42 n0 39 (subC [1, 1, 1, 1, 1, 0, 1, 0] (codeOf f39)) f h (contX pl39 prog J 42 n0 39 ct39 [1, 1, 1, 1, 1, 0, 1, 0] (codeOf f39) [] (RetQ prog [.tmp 2] n0 K)) :=
  loop_rule hJ mixed (b := subC [1, 1, 1, 1, 1, 0, 1, 0, 0] (codeOf f39)) (by kernel_rfl) μ I hI hi
theorem at91 : prog.funcs[91]? = some f91 := by kernel_rfl
theorem body91 : f91.body = some (codeOf f91) := by kernel_rfl
def pl91 : Plans := [(6, true, .take 0 (.take 1 (.take 2 (.take 3 (.take 4 (.last 5 false (.fin)))))))]
def ct91 : Cuts := .go
theorem pok91 : plansOk prog pl91 (codeOf f91) = true := by kernel_rfl
theorem e91 {a0 : Value} : W prog J 29 h.length 91 (codeOf f91) (RG.mk (regs [a0]) []) h (RetQ prog [.tmp 2] h.length K) =
(aBox a0 h fun v1 h2 =>
 aOff v1 0 fun v3 =>
 aLoad false 1 v3 h2 fun v4 =>
 Good prog J 39 [v4] h2 fun v5 h6 =>
 Sem J 29 h.length 91 (subC [1, 1, 1, 0, 1, 0] (codeOf f91)) (RG.p (RG.p (RG.p (RG.p (RG.p (RG.p (RG.p (RG.p (RG.mk (regs [a0]) []) 1 v1) 2 (Value.slice none 0 0)) 3 (Value.slice none 0 0)) 6 v3) 7 v4) 8 v5) 4 v5) 5 (vint 0)) h6 (contX pl91 prog J 29 h.length 91 ct91 [1, 1, 1, 0, 1, 0] (codeOf f91) [] (RetQ prog [.tmp 2] h.length K))) := top_eq pok91 ct91 (by kernel_rfl)
theorem g91 (hJ : Closed prog main J) {a0 : Value} (hs : heapOk h → W prog J 29 h.length 91 (codeOf f91) (RG.mk (regs [a0]) []) h (RetQ prog [.tmp 2] h.length K)) : Good prog J 91 [a0] h K :=
  good_of_W hJ mixed at91 body91 (by kernel_rfl) (Nat.le_of_ble_eq_true rfl) hs
theorem s91_1 {f : RG} {nx0 : RG → List AObj → Prop} : W prog J 29 n0 91 (subC [1, 1, 1, 0, 1, 0, 0] (codeOf f91)) f h (thenK nx0 (contX pl91 prog J 29 n0 91 ct91 [1, 1, 1, 0, 1, 0] (codeOf f91) [] (RetQ prog [.tmp 2] n0 K))) =
(aLenS (f.r 4) fun v1 =>
 aBin prog .lss 3 (f.r 5) v1 fun v2 =>
 cnd v2
(aLoad true 3 (f.r 1) h fun v3 =>
 aIdx 1 (f.r 4) (f.r 5) fun v4 =>
 aLoad false 1 v4 h fun v5 =>
 Good prog J 129 [v3, v5] h fun v6 h7 =>
 cnd v6
(aIdx 1 (f.r 4) (f.r 5) fun v8 =>
 aLoad false 1 v8 h7 fun v9 =>
(((1 * 1 : Nat) ≤ 16777216 ∧ (1 : Nat) ≤ 16777216 ∧ List.length [(Value.string { data := #[] })] = 1) ∧ aFill (zrep [(Value.string { data := #[] })] 1) [(0, 1, v9)] fun c10 =>
 aNewS 1 c10 h7 fun v11 h12 =>
((List.length [(Value.string { data := #[] })] = 1 ∧ 0 < (1 : Nat) ∧ 0 < (16 : Nat) ∧ (16 : Nat) ≤ 1024) ∧ aApp 1 (f.r 3) v11 h12 fun v13 h14 =>
 aBin prog .add 3 (f.r 5) (vint 1) fun v15 =>
 nx0 (RG.p (RG.p (RG.p (RG.p (RG.p (RG.p (RG.p (RG.p (RG.p (RG.p (RG.p (RG.p (RG.p (RG.p (RG.p (RG.p (RG.p (RG.p (RG.p (RG.p (RG.p f 9 (f.r 5)) 10 (f.r 4)) 11 v1) 12 v2) 15 v3) 16 (f.r 4)) 17 (f.r 5)) 18 v4) 19 v5) 20 v6) 21 (f.r 3)) 22 (f.r 4)) 23 (f.r 5)) 24 v8) 25 v9) 26 v11) 27 v13) 3 v13) 13 (f.r 5)) 14 v15) 5 v15) h14)))
(aBin prog .add 3 (f.r 5) (vint 1) fun v16 =>
 nx0 (RG.p (RG.p (RG.p (RG.p (RG.p (RG.p (RG.p (RG.p (RG.p (RG.p (RG.p (RG.p (RG.p f 9 (f.r 5)) 10 (f.r 4)) 11 v1) 12 v2) 15 v3) 16 (f.r 4)) 17 (f.r 5)) 18 v4) 19 v5) 20 v6) 13 (f.r 5)) 14 v16) 5 v16) h7))
(retL n0 K f.ds [(f.r 3)] h)) := sub_eq pok91 ct91 (by kernel_rfl)
theorem l91_1 (hJ : Closed prog main J) {S : Type} (μ : S → Nat) (I : S → RG → List AObj → Prop) (hI : ∀ s f h, I s f h → heapOk h → n0 ≤ h.length → W prog J 29 n0 91 (subC [1, 1, 1, 0, 1, 0, 0] (codeOf f91)) f h (thenK (Nx n0 μ I s) (contX pl91 prog J 29 n0 91 ct91 [1, 1, 1, 0, 1, 0] (codeOf f91) [] (RetQ prog [.tmp 2] n0 K))))
  {s : S} {f : RG} (hi : Gets n0 I s f h) : Sem J 29 n0 91 (subC [1, 1, 1, 0, 1, 0] (codeOf f91)) f h (contX pl91 prog J 29 n0 91 ct91 [1, 1, 1, 0, 1, 0] (codeOf f91) [] (RetQ prog [.tmp 2] n0 K)) :=
  loop_rule hJ mixed (b := subC [1, 1, 1, 0, 1, 0, 0] (codeOf f91)) (by kernel_rfl) μ I hI hi
end
end Go.Proofs.Ythnccaajpdnndaa
namespace Go.Proofs.Ythnccaajpdnndaa
open Go.Conc Go.Proofs.Try
set_option maxRecDepth 100000
def strsB : Nat → List (List UInt8)
  | 0 => [[]]
  | n + 1 => (strsB n).map (100 :: ·) ++ (strsB n).map (119 :: ·)
def fallX (s : SkyR) : Spl → List UInt8 → Bool
  | _, [] => true
  | x, c :: u => nextOk s x c && fallX s (nextX x c) u
theorem growB_strs {s : SkyR} : ∀ {n : Nat} {w : List UInt8} {x : Spl}, growB s n w x = ((strsB n).filter (fallX s x)).map (w ++ ·)
  | 0, w, x => by
    have e : List.filter (fallX s x) [[]] = [[]] := by
      rw [List.filter_cons, if_pos (show fallX s x [] = true by unfold fallX; rfl)]
      rfl
    show [w] = (List.filter (fallX s x) [[]]).map (w ++ ·)
    rw [e]
    simp
  | n + 1, w, x => by
    have part : ∀ c : UInt8, (if nextOk s x c = true then growB s n (w ++ [c]) (nextX x c) else []) = (((strsB n).map (c :: ·)).filter (fallX s x)).map (w ++ ·) := by
      intro c
      rw [List.filter_map]
      by_cases h : nextOk s x c = true
      · rw [if_pos h, growB_strs]
        have : (fallX s x ∘ fun x => c :: x) = fallX s (nextX x c) := by
          funext u
          show (nextOk s x c && fallX s (nextX x c) u) = _
          rw [h, Bool.true_and]
        rw [this, List.map_map]
        congr 1
        funext u
        simp
      · rw [if_neg h]
        have h' : nextOk s x c = false := by simpa using h
        have : (fallX s x ∘ fun x => c :: x) = fun _ => false := by
          funext u
          show (nextOk s x c && fallX s (nextX x c) u) = _
          rw [h', Bool.false_and]
        rw [this]
        simp
    unfold growB strsB
    rw [part, part, List.filter_append, List.map_append]
theorem rainsB_strs {s : SkyR} : rainsB s = (strsB s.days.toNat).filter (fallX s (0, 0)) := by
  unfold rainsB
  rw [growB_strs]
  simp
theorem strsB_len : ∀ {n : Nat}, ∀ u ∈ strsB n, u.length = n ∧ ∀ c ∈ u, c = 100 ∨ c = 119
  | 0, u, hu => by
    rw [List.mem_singleton.1 hu]
    exact ⟨rfl, by simp⟩
  | n + 1, u, hu => by
    unfold strsB at hu
    rcases List.mem_append.1 hu with hu | hu <;> obtain ⟨v, hv, rfl⟩ := List.mem_map.1 hu <;> obtain ⟨h1, h2⟩ := strsB_len v hv
    · exact ⟨by rw [List.length_cons, h1], fun c hc => by
        rcases List.mem_cons.1 hc with h | h
        · exact .inl h
        · exact h2 c h⟩
    · exact ⟨by rw [List.length_cons, h1], fun c hc => by
        rcases List.mem_cons.1 hc with h | h
        · exact .inr h
        · exact h2 c h⟩
theorem strsB_few : ∀ {n : Nat}, (strsB n).length = 2 ^ n
  | 0 => rfl
  | n + 1 => by
    unfold strsB
    rw [List.length_append, List.length_map, List.length_map, strsB_few, Nat.pow_succ]
    omega
def splN (w : List UInt8) : Nat → Spl
  | 0 => (0, 0)
  | k + 1 => nextX (splN w k) (w.getD k 0)
theorem splN_row {w : List UInt8} : ∀ k, 0 ≤ (splN w k).2 ∧ (splN w k).2 ≤ k
  | 0 => ⟨Int.le_refl _, Int.le_refl _⟩
  | k + 1 => by
    have := splN_row (w := w) k
    unfold splN nextX
    split
    · exact ⟨by dsimp only; omega, by dsimp only; omega⟩
    · exact ⟨by dsimp only; omega, by dsimp only; omega⟩
theorem splN_letter {w : List UInt8} {k : Nat} : (splN w (k + 1)).1 = w.getD k 0 := by
  unfold splN nextX
  split <;> rfl
theorem fallX_drop {s : SkyR} {w : List UInt8} : ∀ {n k : Nat}, k + n = w.length → (fallX s (splN w k) (w.drop k) = true ↔ ∀ i, k ≤ i → i < w.length → nextOk s (splN w i) (w.getD i 0) = true)
  | 0, k, h => by
    rw [List.drop_of_length_le (by omega)]
    exact ⟨fun _ i h1 h2 => absurd h2 (by omega), fun _ => rfl⟩
  | n + 1, k, h => by
    have hk : k < w.length := by omega
    rw [List.drop_eq_getElem_cons hk]
    have hg : w[k] = w.getD k 0 := by
      rw [List.getD_eq_getElem?_getD, List.getElem?_eq_getElem hk]
      rfl
    rw [hg]
    show (nextOk s (splN w k) (w.getD k 0) && fallX s (nextX (splN w k) (w.getD k 0)) (w.drop (k + 1))) = true ↔ _
    have hs : nextX (splN w k) (w.getD k 0) = splN w (k + 1) := rfl
    rw [hs, Bool.and_eq_true, fallX_drop (n := n) (by omega)]
    constructor
    · rintro ⟨h1, h2⟩ i hi1 hi2
      by_cases e : i = k
      · rw [e]
        exact h1
      · exact h2 i (by omega) hi2
    · intro hh
      exact ⟨hh k (Nat.le_refl _) hk, fun i h1 h2 => hh i (by omega) h2⟩
theorem fallX_all {s : SkyR} {w : List UInt8} : fallX s (0, 0) w = true ↔ ∀ i, i < w.length → nextOk s (splN w i) (w.getD i 0) = true := by
  have := fallX_drop (s := s) (w := w) (n := w.length) (k := 0) (by omega)
  rw [List.drop_zero] at this
  exact this.trans ⟨fun h i hi => h i (Nat.zero_le _) hi, fun h i _ hi => h i hi⟩
theorem fallX_no {s : SkyR} {w : List UInt8} {i : Nat} (hi : i < w.length) (h : nextOk s (splN w i) (w.getD i 0) = false) : fallX s (0, 0) w = false := by
  cases e : fallX s (0, 0) w with
  | false => rfl
  | true =>
    have := fallX_all.1 e i hi
    rw [h] at this
    cases this
theorem next_row {s : SkyR} (g : skyOk s) {w : List UInt8} {i : Nat} : nextOk s (splN w i) (w.getD i 0) = decide (¬ (splN w (i + 1)).2 > (if w.getD i 0 = 119 then s.flood else s.drought)) := by
  obtain ⟨g1, g2, g3⟩ := g
  have e : splN w (i + 1) = nextX (splN w i) (w.getD i 0) := rfl
  rw [e]
  unfold nextOk nextX
  by_cases h : (splN w i).1 ≠ w.getD i 0
  · rw [if_pos h, if_pos h]
    refine (decide_eq_true ?_).symm
    dsimp only
    split <;> omega
  · rw [if_neg h, if_neg h]
    refine decide_eq_decide.2 ?_
    dsimp only
    split <;> omega
section
variable {main : Bool} {J : JT} {h H : List AObj} {K : Value → List AObj → Prop} {KV : Value → Prop} {HL : List AObj → Prop} {n0 : Nat}
theorem good82 (hJ : Closed prog main J) {n lo hi : Int} (hK : K (.bool (decide (lo ≤ n ∧ n ≤ hi))) h) : Good prog J 82 [vint n, vint lo, vint hi] h K := by
  refine g82 hJ fun ok => ?_
  rw [e82]
  refine geqI (cndI (fun h1 => leqI (retL_same (by simp [unk]) ?_)) fun h1 => retL_same (by simp [unk]) ?_)
  · simpa [pack, h1] using hK
  · simpa [pack, h1] using hK
theorem good37 (hJ : Closed prog main J) {p : Pas} (hK : K (vint (pasE p)) h) : Good prog J 37 [.agg ⟨p.cells⟩] h K := by
  refine g37 hJ fun ok => ?_
  rw [e37]
  refine qBox (l := p.cells) rfl fun H1 p1 e1 S1 c1 l1 => ?_
  have fin : ∀ e : Int, pasE p = e → retL h.length K [] [vint e] H1 := fun e he => by
    subst he
    exact retX ok (Nat.le_refl _) S1 (by simp) (by simp [unk]) (by simp [pack, VOk]) hK
  have no : ∀ {q : Prop}, (pasOk p → q) → ¬ q → retL h.length K [] [vint 1] H1 := fun a b => fin 1 (by unfold pasE; rw [if_neg fun x => b (a x)])
  refine offI (ldI (v := vint p.bears) c1 rfl rfl (good82 hJ (notI (cndN (fun h1 => hold.2 ?_) fun h1 => ?_))))
  · rw [s37_1]
    exact cnd_true.2 (no (fun x => x.1) h1)
  refine offI (ldI (v := vint p.grass) c1 rfl rfl (offI (ldI (v := vint p.bears) c1 rfl rfl (good82 hJ (notI (cndN (fun h2 => hold.2 ?_) fun h2 => ?_))))))
  · rw [s37_1]
    exact cnd_true.2 (no (fun x => x.2.1) h2)
  refine offI (ldI (v := vint p.dry) c1 rfl rfl (good82 hJ (notI (cndN (fun h3 => hold.2 ?_) fun h3 => ?_))))
  · rw [s37_1]
    exact cnd_true.2 (no (fun x => x.2.2.1) h3)
  refine offI (ldI (v := vint p.wet) c1 rfl rfl (offI (ldI (v := vint p.dry) c1 rfl rfl (good82 hJ (notI (cndN (fun h4 => hold.2 ?_) fun h4 => ?_))))))
  · rw [s37_1]
    exact cnd_true.2 (no (fun x => x.2.2.2.1) h4)
  refine offI (ldI (v := vint p.stubble) c1 rfl rfl (offI (ldI (v := vint p.bears) c1 rfl rfl (good82 hJ (notI (cndN (fun h5 => hold.2 ?_) fun h5 => ?_))))))
  · rw [s37_1]
    exact cnd_true.2 (no (fun x => x.2.2.2.2.1) h5)
  refine offI (ldI (v := vint p.sleep) c1 rfl rfl (good82 hJ (notI (hold.2 ?_))))
  rw [s37_1]
  refine cndN (fun h6 => no (fun x => x.2.2.2.2.2) h6) fun h6 => fin 0 ?_
  unfold pasE
  rw [if_pos ⟨h1, h2, h3, h4, h5, h6⟩]
theorem good81 (hJ : Closed prog main J) {s : SkyR} (hK : K (vint (skyE s)) h) : Good prog J 81 [.agg ⟨s.cells⟩] h K := by
  refine g81 hJ fun ok => ?_
  rw [e81]
  refine qBox (l := s.cells) rfl fun H1 p1 e1 S1 c1 l1 => ?_
  have fin : ∀ e : Int, skyE s = e → retL h.length K [] [vint e] H1 := fun e he => by
    subst he
    exact retX ok (Nat.le_refl _) S1 (by simp) (by simp [unk]) (by simp [pack, VOk]) hK
  have no : ∀ {q : Prop}, (skyOk s → q) → ¬ q → retL h.length K [] [vint 1] H1 := fun a b => fin 1 (by unfold skyE; rw [if_neg fun x => b (a x)])
  refine offI (ldI (v := vint s.days) c1 rfl rfl (good82 hJ (notI (cndN (fun h1 => hold.2 ?_) fun h1 => ?_))))
  · rw [s81_1]
    exact cnd_true.2 (no (fun x => x.1) h1)
  refine offI (ldI (v := vint s.drought) c1 rfl rfl (offI (ldI (v := vint s.days) c1 rfl rfl (good82 hJ (notI (cndN (fun h2 => hold.2 ?_) fun h2 => ?_))))))
  · rw [s81_1]
    exact cnd_true.2 (no (fun x => x.2.1) h2)
  refine offI (ldI (v := vint s.flood) c1 rfl rfl (offI (ldI (v := vint s.days) c1 rfl rfl (good82 hJ (notI (hold.2 ?_))))))
  rw [s81_1]
  refine cndN (fun h3 => no (fun x => x.2.2) h3) fun h3 => fin 0 ?_
  unfold skyE
  rw [if_pos ⟨h1, h2, h3⟩]
theorem good129 (hJ : Closed prog main J) {s : SkyR} {w : List UInt8} (g : skyOk s) (hl : (w.length : Int) = s.days) (hw : ∀ c ∈ w, c = 100 ∨ c = 119) (hK : ∀ H', SameX [] H H' → K (.bool (fallX s (0, 0) w)) H') : Good prog J 129 [.agg ⟨s.cells⟩, strV w] H K := by
  refine g129 hJ fun ok => ?_
  rw [e129]
  obtain ⟨g1, g2, g3⟩ := id g
  refine qBox (l := s.cells) rfl fun H1 p1 e1 S1 c1 l1 => lenStrI (offI (ldI (v := vint s.days) c1 rfl rfl (neqI (cndI (fun hne => absurd hl hne) fun _ => ?_))))
  refine l129_1 hJ (fun i : Nat => w.length - i) (fun i F H' => SameX [] H1 H' ∧ i ≤ w.length ∧ (∀ j, j < i → nextOk s (splN w j) (w.getD j 0) = true) ∧ F.ds = [] ∧ F.r 1 = strV w ∧ F.r 2 = ptr p1 0 ∧ F.r 5 = vint (splN w i).2 ∧ F.r 6 = vint (i : Nat)) ?_ (s := 0)
    (.inl ⟨SameX.refl, by omega, fun j hj => absurd hj (Nat.not_lt_zero _), rfl, rfl, rfl, rfl, rfl⟩)
  rintro i F H' ⟨S, hi, hno, ds, r1, r2, r5, r6⟩ okc hnc
  rw [s129_1, r1, r6, ds]
  refine lenStrI (lssI (cndI (fun hlt => ?_) fun hge => ?_))
  rotate_left
  · have : i = w.length := by omega
    subst this
    have := hK H' (S1.trans S)
    rw [fallX_all.2 hno] at this
    exact retL_same (by simp [unk]) this
  have hil : i < w.length := by omega
  have gi : w[i]? = some (w.getD i 0) := by rw [List.getD_eq_getElem?_getD, List.getElem?_eq_getElem hil]; rfl
  have hrow := splN_row (w := w) (i + 1)
  have hrow0 := splN_row (w := w) i
  have hlet := hw _ (List.mem_of_getElem? gi)
  have hnext := next_row g (w := w) (i := i)
  have cp := S.get c1 (by simp)
  -- behind the counting
  have post3 : ∀ {F' : RG}, F'.ds = [] → F'.r 1 = strV w → F'.r 2 = ptr p1 0 → F'.r 5 = vint (splN w (i + 1)).2 → F'.r 6 = vint (i : Nat) →
      W prog J 54 H.length 129 (subC [1, 1, 1, 0, 1, 0, 0, 1, 0, 0, 1] (codeOf f129)) F' H' (contX pl129 prog J 54 H.length 129 ct129 [1, 1, 1, 0, 1, 0, 0, 1, 0, 0, 1] (codeOf f129) [Nx H.length (fun i : Nat => w.length - i) (fun i F H' => SameX [] H1 H' ∧ i ≤ w.length ∧ (∀ j, j < i → nextOk s (splN w j) (w.getD j 0) = true) ∧ F.ds = [] ∧ F.r 1 = strV w ∧ F.r 2 = ptr p1 0 ∧ F.r 5 = vint (splN w i).2 ∧ F.r 6 = vint (i : Nat)) i] (RetQ prog [.tmp 4] H.length K)) := by
    intro F' ds r1 r2 r5 r6
    rw [s129_3, r1, r2, r5, r6]
    have e100 : (Value.int .u8 100) = .int .u8 (100 : UInt8).toNat := rfl
    have bad : ∀ {F2 : RG}, nextOk s (splN w i) (w.getD i 0) = false → F2.ds = [] → F2.r 53 = .bool true →
        W prog J 54 H.length 129 (subC [1, 1, 1, 0, 1, 0, 0, 1, 0, 0, 1, 1] (codeOf f129)) F2 H' (contX pl129 prog J 54 H.length 129 ct129 [1, 1, 1, 0, 1, 0, 0, 1, 0, 0, 1, 1] (codeOf f129) [Nx H.length (fun i : Nat => w.length - i) (fun i F H' => SameX [] H1 H' ∧ i ≤ w.length ∧ (∀ j, j < i → nextOk s (splN w j) (w.getD j 0) = true) ∧ F.ds = [] ∧ F.r 1 = strV w ∧ F.r 2 = ptr p1 0 ∧ F.r 5 = vint (splN w i).2 ∧ F.r 6 = vint (i : Nat)) i] (RetQ prog [.tmp 4] H.length K)) := by
      intro F2 hb d2 q53
      rw [s129_4, q53, d2]
      have := hK H' (S1.trans S)
      rw [fallX_no hil hb] at this
      exact cnd_true.2 (retL_same (by simp [unk]) this)
    have fine : ∀ {F2 : RG}, nextOk s (splN w i) (w.getD i 0) = true → F2.ds = [] → F2.r 1 = strV w → F2.r 2 = ptr p1 0 → F2.r 5 = vint (splN w (i + 1)).2 → F2.r 6 = vint (i : Nat) → F2.r 53 = .bool false →
        W prog J 54 H.length 129 (subC [1, 1, 1, 0, 1, 0, 0, 1, 0, 0, 1, 1] (codeOf f129)) F2 H' (contX pl129 prog J 54 H.length 129 ct129 [1, 1, 1, 0, 1, 0, 0, 1, 0, 0, 1, 1] (codeOf f129) [Nx H.length (fun i : Nat => w.length - i) (fun i F H' => SameX [] H1 H' ∧ i ≤ w.length ∧ (∀ j, j < i → nextOk s (splN w j) (w.getD j 0) = true) ∧ F.ds = [] ∧ F.r 1 = strV w ∧ F.r 2 = ptr p1 0 ∧ F.r 5 = vint (splN w i).2 ∧ F.r 6 = vint (i : Nat)) i] (RetQ prog [.tmp 4] H.length K)) := by
      intro F2 hb d2 q1 q2 q5 q6 q53
      rw [s129_4, q53, q6]
      refine cnd_false.2 (addI (by omega) ⟨i + 1, by dsimp only; omega, .inl ⟨S, by omega, fun j hj => ?_, d2, q1, q2, q5, by show vint _ = vint _; congr 1⟩⟩)
      by_cases e : j = i
      · rw [e]
        exact hb
      · exact hno j (by omega)
    refine byteI gi ?_
    rw [e100]
    refine eqlU (cndI (fun hd => ?_) fun hd => ?_)
    · have hno9 : ¬ w.getD i 0 = 119 := by rw [hd]; decide
      rw [if_neg hno9] at hnext
      refine offI (ldI (v := vint s.drought) cp rfl rfl (gtrI (cndI (fun hgt => hold.2 (bad ?_ ds rfl)) fun hle => byteI gi (eqlW ?_))))
      · rw [hnext]
        exact decide_eq_false (not_not_intro hgt)
      · have : wetB (w.getD i 0) = false := decide_eq_false hno9
        rw [this]
        refine cnd_false.2 (hold.2 (fine ?_ ds r1 r2 r5 r6 rfl))
        rw [hnext]
        exact decide_eq_true hle
    · have h9 : w.getD i 0 = 119 := hlet.resolve_left hd
      rw [if_pos h9] at hnext
      refine byteI gi (eqlW ?_)
      have : wetB (w.getD i 0) = true := decide_eq_true h9
      rw [this]
      refine cnd_true.2 (offI (ldI (v := vint s.flood) cp rfl rfl (gtrI (hold.2 ?_))))
      by_cases hgt : (splN w (i + 1)).2 > s.flood
      · rw [decide_eq_true hgt]
        refine bad ?_ ds rfl
        rw [hnext]
        exact decide_eq_false (not_not_intro hgt)
      · rw [decide_eq_false hgt]
        refine fine ?_ ds r1 r2 r5 r6 rfl
        rw [hnext]
        exact decide_eq_true hgt
  have post2 : ∀ {F' : RG} {z : Bool}, z = decide ((splN w i).1 = w.getD i 0 ∧ 0 < i) → F'.ds = [] → F'.r 1 = strV w → F'.r 2 = ptr p1 0 → F'.r 5 = vint (splN w i).2 → F'.r 6 = vint (i : Nat) → F'.r 29 = .bool z →
      W prog J 54 H.length 129 (subC [1, 1, 1, 0, 1, 0, 0, 1, 0, 0, 0, 1] (codeOf f129)) F' H' (contX pl129 prog J 54 H.length 129 ct129 [1, 1, 1, 0, 1, 0, 0, 1, 0, 0, 0, 1] (codeOf f129) [Nx H.length (fun i : Nat => w.length - i) (fun i F H' => SameX [] H1 H' ∧ i ≤ w.length ∧ (∀ j, j < i → nextOk s (splN w j) (w.getD j 0) = true) ∧ F.ds = [] ∧ F.r 1 = strV w ∧ F.r 2 = ptr p1 0 ∧ F.r 5 = vint (splN w i).2 ∧ F.r 6 = vint (i : Nat)) i] (RetQ prog [.tmp 4] H.length K)) := by
    intro F' z hz ds r1 r2 r5 r6 r29
    rw [s129_2, r29, r5]
    have e : splN w (i + 1) = nextX (splN w i) (w.getD i 0) := rfl
    cases z with
    | true =>
      have hc := of_decide_eq_true hz.symm
      refine cnd_true.2 (addI (by omega) (hold.2 (post3 ds r1 r2 ?_ r6)))
      rw [e]
      unfold nextX
      rw [if_neg (not_not_intro hc.1)]
      rfl
    | false =>
      have hc := of_decide_eq_false hz.symm
      refine cnd_false.2 (hold.2 (post3 ds r1 r2 ?_ r6))
      rw [e]
      unfold nextX
      by_cases hne : (splN w i).1 ≠ w.getD i 0
      · rw [if_pos hne]
        rfl
      · have hi0 : i = 0 := by
          rcases Nat.eq_zero_or_pos i with x | x
          · exact x
          · exact absurd ⟨Classical.not_not.1 hne, x⟩ hc
        have : (0 : UInt8) = w.getD i 0 := by
          have := Classical.not_not.1 hne
          rw [hi0] at this ⊢
          exact this
        rcases hlet with x | x <;> rw [x] at this <;> cases this
  refine gtrI (cndI (fun hpos => ?_) fun hz => hold.2 ?_)
  · have hip : 0 < i := by omega
    obtain ⟨k, rfl⟩ : ∃ k, i = k + 1 := ⟨i - 1, by omega⟩
    have gk : w[k]? = some (w.getD k 0) := by rw [List.getD_eq_getElem?_getD, List.getElem?_eq_getElem (by omega)]; rfl
    refine byteI gi (subI (by omega) ?_)
    rw [show (((k + 1 : Nat) : Int) - 1) = ((k : Nat) : Int) by omega]
    refine byteI gk (eqlU (hold.2 (post2 ?_ ds r1 r2 r5 r6 rfl)))
    refine decide_eq_decide.2 ?_
    rw [splN_letter]
    exact ⟨fun e => ⟨e.symm, by omega⟩, fun e => e.1.symm⟩
  · refine post2 (z := false) ?_ ds r1 r2 r5 r6 rfl
    exact (decide_eq_false fun e => hz (by omega)).symm
end
def strL (l : List (List UInt8)) : List Value := l.map strV
def daysR (q : Nat → Bool) (k : Nat) : List Int := ((List.range k).filter q).map Int.ofNat
theorem daysR_succ {q : Nat → Bool} {k : Nat} : daysR q (k + 1) = daysR q k ++ (if q k = true then [(k : Int)] else []) := by
  unfold daysR
  rw [List.range_succ, List.filter_append, List.map_append]
  congr 1
  by_cases h : q k = true
  · rw [if_pos h]
    simp [h]
  · rw [if_neg h]
    simp [h]
theorem daysR_few {q : Nat → Bool} {k : Nat} : (daysR q k).length ≤ k := by
  unfold daysR
  rw [List.length_map]
  have := List.length_filter_le q (List.range k)
  rw [List.length_range] at this
  exact this
theorem daysR_none {q : Nat → Bool} {k : Nat} : (daysR q k).length = 0 ↔ fstH q k < 0 := by
  constructor
  · intro h
    have : fstH q k = -1 := fstH_none fun i hi => by
      cases e : q i with
      | false => rfl
      | true =>
        have hm : (i : Int) ∈ daysR q k := List.mem_map.2 ⟨i, List.mem_filter.2 ⟨List.mem_range.2 hi, e⟩, rfl⟩
        rw [List.length_eq_zero_iff.1 h] at hm
        cases hm
    rw [this]
    decide
  · intro h
    rw [List.length_eq_zero_iff]
    cases e : daysR q k with
    | nil => rfl
    | cons x l =>
      have hm : x ∈ daysR q k := by rw [e]; exact List.mem_cons_self
      unfold daysR at hm
      obtain ⟨i, hi, _⟩ := List.mem_map.1 hm
      obtain ⟨h1, h2⟩ := List.mem_filter.1 hi
      have := fstH_pos h2 (List.mem_range.1 h1)
      omega
section
variable {main : Bool} {J : JT} {h H : List AObj} {K : Value → List AObj → Prop} {KV : Value → Prop} {HL : List AObj → Prop} {n0 : Nat}
theorem strAdd {c : UInt8} {u : List UInt8} {t : TypeId} (hu : u.length ≤ 1000000) (hk : KV (strV (c :: u))) : aBin prog .add t (Value.string { data := #[c] }) (strV u) KV := by
  have hrm : (2000000 : Nat) < room := by decide
  show (ByteArray.mk #[c]).size + (ByteArray.mk ⟨u⟩).size ≤ room ∧ KV (.string (ByteArray.mk #[c] ++ ByteArray.mk ⟨u⟩))
  have e1 : (ByteArray.mk #[c]).size = 1 := rfl
  have e2 : (ByteArray.mk ⟨u⟩).size = u.length := rfl
  have e3 : ByteArray.mk #[c] ++ ByteArray.mk ⟨u⟩ = ByteArray.mk ⟨c :: u⟩ := by
    apply ByteArray.ext
    rw [ByteArray.data_append]
    apply Array.ext'
    rw [Array.toList_append]
    rfl
  rw [e1, e2, e3]
  exact ⟨by omega, hk⟩
theorem strGet {v : Value} {L : List (List UInt8)} {c : List Value} (hc : c = strL L) (hs : Sli H v 1 L.length c) {i : Nat} {u : List UInt8} (hu : L[i]? = some u) {K2 : Value → Value → Prop} (hK : ∀ p, K2 p (strV u)) : aIdx 1 v (vint (i : Nat)) fun p => aLoad false 1 p H (K2 p) := by
  subst hc
  have hi := (List.getElem?_eq_some_iff.1 hu).1
  exact idx_load hs ⟨by omega, by omega⟩ (by rw [Int.toNat_natCast]; unfold strL; rw [List.getElem?_map, hu]; rfl) hK
theorem strMore {v : Value} {L : List (List UInt8)} {o : Option Nat} {u : List UInt8} (O : OwnX H 1 (strL L) L.length v o) (hl : L.length < 90000)
    (hk : ∀ v' H' o', SameX o.toList H H' → OwnX H' 1 (strL (L ++ [u])) (L ++ [u]).length v' (some o') → H.length ≤ o' → K v' H') :
    (((1 * 1 : Nat) ≤ 16777216 ∧ (1 : Nat) ≤ 16777216 ∧ List.length [(Value.string { data := #[] })] = 1) ∧ aFill (zrep [(Value.string { data := #[] })] 1) [(0, 1, strV u)] fun c6 => aNewS 1 c6 H fun v7 h8 =>
      ((List.length [(Value.string { data := #[] })] = 1 ∧ 0 < (1 : Nat) ∧ 0 < (16 : Nat) ∧ (16 : Nat) ≤ 1024) ∧ aApp 1 v v7 h8 K)) := by
  refine ⟨by decide, fillO (l := [strV u]) rfl rfl rfl (by decide) (fillI (qNew fun H1 p1 e1 S1 c1 l1 => ⟨by decide, ?_⟩))⟩
  have c1 : H1[p1]? = some (.cells [strV u] true 0) := c1
  have h1 := S1.1
  refine ownX_more (ownX_keep O S1 (by simp)) (by omega) (by omega) (ownX_sli (ownX_new (s := 1) (n := 1) c1 rfl rfl)) fun v' H' p' e' O' S' => hk v' H' p' (S1.weak0.trans S') ?_ (by omega)
  unfold strL at O' ⊢
  rw [List.map_append, List.length_append]
  exact O'
theorem good39 (hJ : Closed prog main J) : ∀ (n : Nat) {H : List AObj} {K : Value → List AObj → Prop}, n ≤ 8 → (∀ H' v o, SameX [] H H' → OwnX H' 1 (strL (strsB n)) (strsB n).length v (some o) → H.length ≤ o → K v H') → Good prog J 39 [vint (n : Nat)] H K
  | 0, H, K, _, hK => by
    refine g39 hJ fun ok => ?_
    rw [e39]
    refine eqlI (cndI (fun _ => ?_) fun hx => absurd rfl hx)
    refine ⟨by decide, fillO (l := [strV []]) rfl rfl rfl (by decide) (fillI (qNew fun H1 p1 e1 S1 c1 l1 => ?_))⟩
    have c1 : H1[p1]? = some (.cells [strV []] true 0) := c1
    have O := ownX_new (s := 1) (n := 1) c1 rfl rfl
    exact retL_same (by simp [unk]) (hK H1 _ p1 S1 O (by omega))
  | n + 1, H, K, hn, hK => by
    refine g39 hJ fun ok => ?_
    rw [e39]
    refine eqlI (cndI (fun hx => absurd hx (by omega)) fun _ => subI (by omega) ?_)
    rw [show (((n + 1 : Nat) : Int) - 1) = ((n : Nat) : Int) by omega]
    refine good39 hJ n (by omega) fun H1 av ao S1 A1 hao => ?_
    have hlen := strsB_few (n := n)
    have hpow : 2 ^ n ≤ 2 ^ 8 := Nat.pow_le_pow_right (by decide) (by omega)
    have hu : ∀ (i : Nat) (u : List UInt8), (strsB n)[i]? = some u → u.length ≤ 8 := fun i u hi => by
      have := (strsB_len u (List.mem_of_getElem? hi)).1
      omega
    let A := (strsB n).map (100 :: ·)
    refine l39_1 hJ (fun i : Nat => (strsB n).length - i) (fun i F H' => ∃ v o, SameX [] H1 H' ∧ i ≤ (strsB n).length ∧ OwnX H' 1 (strL (A.take i)) (A.take i).length v o ∧ (∀ j, o = some j → H1.length ≤ j) ∧ F.ds = [] ∧ F.r 3 = v ∧ F.r 4 = av ∧ F.r 5 = vint (i : Nat)) ?_ (s := 0)
      (.inl ⟨.slice none 0 0, none, SameX.refl, by omega, ⟨rfl, rfl, .inl ⟨rfl, rfl, rfl⟩⟩, by simp, rfl, rfl, rfl, rfl⟩)
    rintro i F Hc ⟨v, o, Sc, hi, O, ho, ds, r3, r4, r5⟩ okc hnc
    have Ac := ownX_keep A1 Sc (by simp)
    rw [s39_1, r3, r4, r5]
    refine lenI (ownX_sli Ac) (lssI (cndI (fun hlt => ?_) fun hge => ?_))
    · have hil : i < (strsB n).length := by omega
      have hui : (strsB n)[i]? = some (strsB n)[i] := List.getElem?_eq_getElem hil
      refine strGet rfl (ownX_sli Ac) hui fun p => strAdd (by have := hu i _ hui; omega) (strMore O (by simp [A]; omega) fun v' H5 o5 S5 O5 ho5 => addI (by omega) ⟨i + 1, by dsimp only; omega, .inl ⟨v', some o5, Sc.thru S5 fun y hy => .inr (ho y (by simpa using hy)), by omega, ?_, fun j hj => by cases hj; have := Sc.1; omega, ds, rfl, r4, by show vint _ = vint _; congr 1⟩⟩)
      have e : A.take (i + 1) = A.take i ++ [100 :: (strsB n)[i]] := by
        rw [List.take_add_one]
        congr 1
        rw [List.getElem?_map, hui]
        rfl
      rw [e]
      exact O5
    have hie : i = (strsB n).length := by omega
    subst hie
    have eA : A.take (strsB n).length = A := List.take_of_length_le (by simp [A])
    rw [eA] at O
    let B := (strsB n).map (119 :: ·)
    refine l39_2 hJ (fun i : Nat => (strsB n).length - i) (fun i F H' => ∃ v o, SameX [] H1 H' ∧ i ≤ (strsB n).length ∧ OwnX H' 1 (strL (A ++ B.take i)) (A ++ B.take i).length v o ∧ (∀ j, o = some j → H1.length ≤ j) ∧ F.ds = [] ∧ F.r 3 = v ∧ F.r 4 = av ∧ F.r 6 = vint (i : Nat)) ?_ (s := 0)
      (.inl ⟨v, o, Sc, by omega, by simpa using O, ho, ds, r3, r4, rfl⟩)
    clear ds r3 r4 r5 okc hnc O ho Ac Sc
    rintro i F Hd ⟨v, o, Sc, hi, O, ho, ds, r3, r4, r6⟩ okc hnc
    have Ac := ownX_keep A1 Sc (by simp)
    rw [s39_2, r3, r4, r6, ds]
    refine lenI (ownX_sli Ac) (lssI (cndI (fun hlt => ?_) fun hge => ?_))
    · have hil : i < (strsB n).length := by omega
      have hui : (strsB n)[i]? = some (strsB n)[i] := List.getElem?_eq_getElem hil
      refine strGet rfl (ownX_sli Ac) hui fun p => strAdd (by have := hu i _ hui; omega) (strMore O (by simp [A, B]; omega) fun v' H5 o5 S5 O5 ho5 => addI (by omega) ⟨i + 1, by dsimp only; omega, .inl ⟨v', some o5, Sc.thru S5 fun y hy => .inr (ho y (by simpa using hy)), by omega, ?_, fun j hj => by cases hj; have := Sc.1; omega, ds, rfl, r4, by show vint _ = vint _; congr 1⟩⟩)
      have e : B.take (i + 1) = B.take i ++ [119 :: (strsB n)[i]] := by
        rw [List.take_add_one]
        congr 1
        rw [List.getElem?_map, hui]
        rfl
      rw [e, ← List.append_assoc]
      exact O5
    · have hie : i = (strsB n).length := by omega
      subst hie
      have eB : B.take (strsB n).length = B := List.take_of_length_le (by simp [B])
      rw [eB] at O
      have hAB : strsB (n + 1) = A ++ B := rfl
      rw [← hAB] at O
      have hS1 := S1.1
      have hne : ∃ j, o = some j := by
        obtain ⟨_, _, ⟨h0, _, _⟩ | ⟨j, _, _, e, _⟩⟩ := id O
        · rw [strsB_few] at h0
          have := Nat.pow_pos (n := n + 1) (show 0 < 2 by decide)
          omega
        · exact ⟨j, e⟩
      obtain ⟨j, rfl⟩ := hne
      exact retL_same (by simpa using ownU O) (hK Hd v j (S1.trans Sc) O (by have := ho j rfl; omega))
theorem good91 (hJ : Closed prog main J) {s : SkyR} (g : skyOk s) (hK : ∀ H' v o, SameX [] H H' → OwnX H' 1 (strL (rainsB s)) (rainsB s).length v o → (∀ j, o = some j → H.length ≤ j) → K v H') : Good prog J 91 [.agg ⟨s.cells⟩] H K := by
  refine g91 hJ fun ok => ?_
  rw [e91]
  obtain ⟨g1, g2, g3⟩ := id g
  obtain ⟨n, hn⟩ := Int.eq_ofNat_of_zero_le (by omega : (0 : Int) ≤ s.days)
  have en : s.days.toNat = n := by omega
  refine qBox (l := s.cells) rfl fun H1 p1 e1 S1 c1 l1 => offI (ldI (v := vint s.days) c1 rfl rfl ?_)
  rw [hn]
  refine good39 hJ n (by omega) fun H2 av ao S2 A2 hao => ?_
  have hlen := strsB_few (n := n)
  have hpow : 2 ^ n ≤ 2 ^ 8 := Nat.pow_le_pow_right (by decide) (by omega)
  have T2 := S1.trans S2
  refine l91_1 hJ (fun i : Nat => (strsB n).length - i) (fun i F H' => ∃ v o, SameX [] H2 H' ∧ i ≤ (strsB n).length ∧ OwnX H' 1 (strL (((strsB n).take i).filter (fallX s (0, 0)))) (((strsB n).take i).filter (fallX s (0, 0))).length v o ∧ (∀ j, o = some j → H2.length ≤ j) ∧ F.ds = [] ∧ F.r 1 = ptr p1 0 ∧ F.r 3 = v ∧ F.r 4 = av ∧ F.r 5 = vint (i : Nat)) ?_ (s := 0)
    (.inl ⟨.slice none 0 0, none, SameX.refl, by omega, ⟨rfl, rfl, .inl ⟨rfl, rfl, rfl⟩⟩, by simp, rfl, rfl, rfl, rfl, rfl⟩)
  rintro i F Hc ⟨v, o, Sc, hi, O, ho, ds, r1, r3, r4, r5⟩ okc hnc
  have Ac := ownX_keep A2 Sc (by simp)
  rw [s91_1, r1, r3, r4, r5, ds]
  have hsc := Sc.1
  refine lenI (ownX_sli Ac) (lssI (cndI (fun hlt => ?_) fun hge => ?_))
  · have hil : i < (strsB n).length := by omega
    have hui : (strsB n)[i]? = some (strsB n)[i] := List.getElem?_eq_getElem hil
    have hw := strsB_len _ (List.getElem_mem hil)
    have et : (strsB n).take (i + 1) = (strsB n).take i ++ [(strsB n)[i]] := by
      rw [List.take_add_one, hui]
      rfl
    have hfl : (((strsB n).take i).filter (fallX s (0, 0))).length ≤ i := by
      have := List.length_filter_le (fallX s (0, 0)) ((strsB n).take i)
      rw [List.length_take] at this
      omega
    refine load_part (c := s.cells) ((S2.trans Sc).get c1 (by simp)) (by simp [SkyR.cells]) rfl rfl (strGet rfl (ownX_sli Ac) hui fun p => ?_)
    refine good129 hJ g (by rw [hw.1]; omega) hw.2 fun H3 S3 => cndB (fun hy => ?_) fun hno => ?_
    · refine strGet rfl (ownX_sli (ownX_keep Ac S3 (by simp))) hui fun p2 => strMore (ownX_keep O S3 (by simp)) (by omega) fun v' H5 o5 S5 O5 ho5 => addI (by omega) ⟨i + 1, by dsimp only; omega, .inl ⟨v', some o5, (Sc.trans S3).thru S5 fun y hy => .inr (ho y (by simpa using hy)), by omega, ?_, fun j hj => by cases hj; have := S3.1; omega, ds, r1, rfl, r4, by show vint _ = vint _; congr 1⟩⟩
      have e : ((strsB n).take (i + 1)).filter (fallX s (0, 0)) = ((strsB n).take i).filter (fallX s (0, 0)) ++ [(strsB n)[i]] := by
        rw [et, List.filter_append]
        simp [hy]
      rw [e]
      exact O5
    · refine addI (by omega) ⟨i + 1, by dsimp only; omega, .inl ⟨v, o, Sc.trans S3, by omega, ?_, ho, ds, r1, r3, r4, by show vint _ = vint _; congr 1⟩⟩
      have e : ((strsB n).take (i + 1)).filter (fallX s (0, 0)) = ((strsB n).take i).filter (fallX s (0, 0)) := by
        rw [et, List.filter_append]
        simp [hno]
      rw [e]
      exact ownX_keep O S3 (by simp)
  · have hie : i = (strsB n).length := by omega
    subst hie
    rw [List.take_of_length_le (Nat.le_refl _)] at O
    have er : rainsB s = (strsB n).filter (fallX s (0, 0)) := by rw [rainsB_strs, en]
    rw [← er] at O
    have hT2 := T2.1
    exact retL_same (by simpa using ownU O) (hK Hc v o (T2.trans Sc) O fun j hj => by have := ho j hj; omega)
end
section
variable {main : Bool} {J : JT} {h H Hb : List AObj} {K : Value → List AObj → Prop} {KV : Value → Prop} {HL : List AObj → Prop} {n0 : Nat}
def TillN (n : Nat) (H H' : List AObj) : Prop := H.length ≤ H'.length ∧ ∀ i, i < n → H'[i]? = H[i]?
theorem TillN.same {X : List Nat} (T : TillN Hb.length H h) (S : SameX X Hb H) : SameX X Hb h := ⟨Nat.le_trans S.1 T.1, fun i hi hx => by rw [T.2 i hi]; exact S.2 i hi hx⟩
theorem TillN.trans {n : Nat} {H1 H2 H3 : List AObj} (a : TillN n H1 H2) (b : TillN n H2 H3) : TillN n H1 H3 := ⟨Nat.le_trans a.1 b.1, fun i hi => (b.2 i hi).trans (a.2 i hi)⟩
theorem tillN_of {n : Nat} {X : List Nat} {H1 H2 : List AObj} (S : SameX X H1 H2) (hn : n ≤ H1.length) (hX : ∀ x ∈ X, n ≤ x) : TillN n H1 H2 := ⟨S.1, fun i hi => S.2 i (by omega) fun hx => by have := hX i hx; omega⟩
def Own3 (n : Nat) (H : List AObj) (a b c : List Int) (va vb vc : Value) : Prop :=
  ∃ oa ob oc, OwnX H 1 (a.map vint) a.length va oa ∧ OwnX H 1 (b.map vint) b.length vb ob ∧ OwnX H 1 (c.map vint) c.length vc oc ∧ (∀ j, oa = some j → n ≤ j ∧ ob ≠ some j ∧ oc ≠ some j) ∧ (∀ j, ob = some j → n ≤ j ∧ oc ≠ some j) ∧ (∀ j, oc = some j → n ≤ j)
theorem Own3.keep {n : Nat} {a b c : List Int} {va vb vc : Value} {X : List Nat} {H' : List AObj} (O : Own3 n H a b c va vb vc) (S : SameX X H H') (hX : ∀ x ∈ X, x < n) : Own3 n H' a b c va vb vc := by
  obtain ⟨oa, ob, oc, A, B, C, h1, h2, h3⟩ := O
  refine ⟨oa, ob, oc, ownX_keep A S fun i hi hx => ?_, ownX_keep B S fun i hi hx => ?_, ownX_keep C S fun i hi hx => ?_, h1, h2, h3⟩
  · have := h1 i hi; have := hX i hx; omega
  · have := h2 i hi; have := hX i hx; omega
  · have := h3 i hi; have := hX i hx; omega
theorem Own3.nil {n : Nat} : Own3 n H [] [] [] (.slice none 0 0) (.slice none 0 0) (.slice none 0 0) := ⟨none, none, none, ⟨rfl, rfl, .inl ⟨rfl, rfl, rfl⟩⟩, ⟨rfl, rfl, .inl ⟨rfl, rfl, rfl⟩⟩, ⟨rfl, rfl, .inl ⟨rfl, rfl, rfl⟩⟩, by simp, by simp, by simp⟩
theorem Own3.add {n : Nat} {a b c : List Int} {va vb vc : Value} {x : Int} {K : Value → Value → List AObj → Prop} (O : Own3 n H a b c va vb vc) (hl : a.length < 90000) (hn : n ≤ H.length)
    (hK : ∀ y v' H', TillN n H H' → Own3 n H' (a ++ [x]) b c v' vb vc → K y v' H') :
    (((1 * 1 : Nat) ≤ 16777216 ∧ (1 : Nat) ≤ 16777216 ∧ List.length [(vint 0)] = 1) ∧ aFill (zrep [(vint 0)] 1) [(0, 1, vint x)] fun c6 => aNewS 1 c6 H fun v7 h8 =>
      ((List.length [(vint 0)] = 1 ∧ 0 < (1 : Nat) ∧ 0 < (8 : Nat) ∧ (8 : Nat) ≤ 1024) ∧ aApp 1 va v7 h8 (K v7))) := by
  obtain ⟨oa, ob, oc, A, B, C, h1, h2, h3⟩ := O
  refine ⟨by decide, fillO (l := [vint x]) rfl rfl rfl (by decide) (fillI (qNew fun H1 p1 e1 S1 c1 l1 => ⟨by decide, ?_⟩))⟩
  have c1 : H1[p1]? = some (.cells [vint x] true 0) := c1
  have hS := S1.1
  refine ownX_more (ownX_keep A S1 (by simp)) (by omega) (by omega) (ownX_sli (ownX_new (s := 1) (n := 1) c1 rfl rfl)) fun v' H' p' e' O' S' => ?_
  have hb1 := ownX_lt B
  have hc1 := ownX_lt C
  have na : ∀ z ∈ oa.toList, n ≤ z := fun z hz => (h1 z (Option.mem_toList.1 hz)).1
  refine hK _ v' H' ((tillN_of S1 hn (by simp)).trans (tillN_of S' (by omega) na)) ⟨some p', ob, oc, ?_, ownX_keep (ownX_keep B S1 (by simp)) S' fun j hj hm => (h1 j (Option.mem_toList.1 hm)).2.1 hj, ownX_keep (ownX_keep C S1 (by simp)) S' fun j hj hm => (h1 j (Option.mem_toList.1 hm)).2.2 hj, fun j hj => ?_, h2, h3⟩
  · rw [List.map_append, List.length_append]
    exact O'
  · cases hj
    exact ⟨by omega, fun e => by have := hb1 _ e; omega, fun e => by have := hc1 _ e; omega⟩
set_option maxHeartbeats 800000 in
/-- A rain, day by day. -/
theorem good100 (hJ : Closed prog main J) {a fr dy : Nat} {n : Int} (ha : a ≤ 8) (hfd : fr + dy ≤ a) (hK : ∀ H' v o, SameX [] H H' → OwnX H' 1 ((stayH a fr dy n).map vint) (stayH a fr dy n).length v (some o) → H.length ≤ o → K v H') : Good prog J 100 [vint (a : Nat), vint n, vint (fr : Nat), vint (dy : Nat)] H K := by
  refine g100 hJ fun ok => ?_
  rw [e100]
  have hrm : (2000 : Nat) < room := by decide
  refine ⟨by decide, by omega, Int.le_refl _, by omega, ?_⟩
  rw [Int.toNat_natCast]
  have zl : ∀ k, zrep [vint 0] k = (List.replicate k (0 : Int)).map vint := by
    intro k
    induction k with
    | zero => rfl
    | succ k ih =>
      show [vint 0] ++ zrep [vint 0] k = _
      rw [ih, List.replicate_succ]
      rfl
  generalize hH5 : H ++ [AObj.cells (zrep [vint 0] a) true 0] = H5
  have c5 : H5[H.length]? = some (.cells ((stayH a fr 0 n).map vint) true 0) := by rw [← hH5, zl, stayH_zero]; simp
  have S5 : SameX [] H H5 := by rw [← hH5]; exact SameX.refl.app
  generalize hpl : H.length = pl at c5
  refine l100_1 hJ (fun i : Nat => dy - i) (fun i F H' => i ≤ dy ∧ SameX [pl] H5 H' ∧ H'[pl]? = some (.cells ((stayH a fr i n).map vint) true 0) ∧ F.ds = [] ∧ F.r 1 = vint n ∧ F.r 2 = vint (fr : Nat) ∧ F.r 3 = vint (dy : Nat) ∧ F.r 9 = .slice (some ⟨pl, 0, none⟩) a a ∧ F.r 10 = vint ((fr + i : Nat) : Int)) ?_ (s := 0)
    (.inl ⟨by omega, SameX.refl, c5, rfl, rfl, rfl, rfl, rfl, rfl⟩)
  rintro i F H' ⟨hi, S, cl, ds, r1, r2, r3, r9, r10⟩ okc hnc
  rw [s100_1, r1, r2, r3, r9, r10, ds]
  refine addI (by omega) (lssI (cndI (fun hlt => ?_) fun hge => ?_))
  · refine idxI ⟨by omega, by omega⟩ ?_
    have e1 : 0 + ((fr + i : Nat) : Int).toNat * 1 = fr + i := by omega
    rw [e1]
    refine qSt cl (by simp [stayH_len]; omega) rfl rfl fun H8 S8 c8' l8 => addI (by omega) ⟨i + 1, by dsimp only; omega, .inl ⟨by omega, S.trans S8, ?_, ds, r1, r2, r3, r9, by show vint _ = vint _; congr 1⟩⟩
    rw [c8', ← List.map_set, stayH_set (by omega)]
  · have hid : i = dy := by omega
    subst hid
    refine retL_same (by simp [unk]) (hK H' (.slice (some ⟨pl, 0, none⟩) a a) pl (S5.thru S (by simp; omega)) ⟨by simp, knV _, .inr ⟨pl, a, 0, rfl, by rw [stayH_len], cl, .inr (by rw [stayH_len])⟩⟩ (by omega))
end
def lngD (q : Nat → Bool) : Nat → Nat
  | 0 => 0
  | d + 1 => if q (d + 1) = true then d + 1 else lngD q d
theorem lngD_le {q : Nat → Bool} : ∀ d, lngD q d ≤ d
  | 0 => Nat.le_refl _
  | d + 1 => by
    unfold lngD
    split
    · exact Nat.le_refl _
    · exact Nat.le_succ_of_le (lngD_le d)
theorem lngD_no {q : Nat → Bool} : ∀ d, ∀ k, lngD q d < k → k ≤ d → q k = false
  | 0, k, h1, h2 => by unfold lngD at h1; omega
  | d + 1, k, h1, h2 => by
    unfold lngD at h1
    split at h1
    · omega
    · rename_i hq
      by_cases e : k = d + 1
      · rw [e]
        simpa using hq
      · exact lngD_no d k h1 (by omega)
theorem lngD_yes {q : Nat → Bool} (h0 : q 0 = true) : ∀ d, q (lngD q d) = true
  | 0 => h0
  | d + 1 => by
    unfold lngD
    split
    · assumption
    · exact lngD_yes h0 d
section
variable {main : Bool} {J : JT} {h H : List AObj} {K : Value → List AObj → Prop} {KV : Value → Prop} {HL : List AObj → Prop} {n0 : Nat}
theorem good45 (hJ : Closed prog main J) {p : Pas} {s : SkyR} {n : Int} {fr D : Nat} (f : pasOk p) (g : skyOk s) (hn : 0 ≤ n ∧ n ≤ 40) (hD : s.days = ((fr + D : Nat) : Int)) (hD1 : 1 ≤ D)
    (hK : ∀ H', SameX [] H H' → K (.tuple ⟨[vint (lngD (fun d => stayB p s n fr d) D : Nat), vint 0]⟩) H') : Good prog J 45 [.agg ⟨p.cells⟩, .agg ⟨s.cells⟩, vint n, vint (fr : Nat)] H K := by
  refine g45 hJ fun ok => ?_
  rw [e45]
  obtain ⟨g1, g2, g3⟩ := id g
  refine qBox (l := p.cells) rfl fun H1 p4 e1 S1 c4 l1 => qBox (l := s.cells) rfl fun H2 p5 e2 S2 c5 l2 => ?_
  have c42 := S2.get c4 (by simp)
  have T2 := S1.trans S2
  have b4 := lt_of_get c42
  have b5 := lt_of_get c5
  refine ⟨[p4, p5], load_part (c := p.cells) c42 (by simp [Pas.cells]) rfl rfl ⟨by simp [RdOk, ptrBlk], load_part (c := s.cells) c5 (by simp [SkyR.cells]) rfl rfl ⟨by simp [RdOk, ptrBlk], ?_⟩⟩⟩
  have sb : ∀ {H'}, SameX [] H2 H' → SameB (some [p4, p5]) H2 H' := fun S => sbTwo S b4 b5 (by simp) (by simp)
  refine good36 hJ ⟨sb SameX.refl, good72 hJ ⟨sb SameX.refl, by decide, fillP2 ⟨rfl, rfl⟩ ⟨rfl, rfl⟩ (qNew fun H3 p3 e3 S3 c3 l3 => ⟨sb S3, ?_⟩)⟩⟩
  have z1 : pasE p = 0 := by unfold pasE; rw [if_pos f]
  have z2 : skyE s = 0 := by unfold skyE; rw [if_pos g]
  have z3 : fst2 (pasE p) (skyE s) = 0 := by rw [z1, z2]; rfl
  refine good88 hJ (ownX_sli (ownX_new (s := 1) (n := 2) c3 rfl rfl)) ⟨sb S3, ?_⟩
  have T3 := T2.trans S3
  have c43 := S3.get c42 (by simp)
  have c53 := S3.get c5 (by simp)
  refine neqI (cndI (fun h1 => absurd z3 h1) fun _ => ?_)
  refine good73 hJ (notI (cndN (fun h1 => absurd hn h1) fun _ => ?_))
  refine offI (ldI (v := vint s.days) c53 rfl rfl (subI (by omega) (good73 hJ (notI (cndN (fun h1 => absurd (by omega) h1) fun _ => ?_)))))
  refine offI (ldI (v := vint s.days) c53 rfl rfl (subI (by omega) ?_))
  have eD : s.days - (fr : Int) = (D : Int) := by omega
  rw [eD]
  refine l45_1 hJ (fun d : Nat => d) (fun d F H' => d ≤ D ∧ SameX [] H H' ∧ H'[p4]? = some (.cells p.cells true 0) ∧ H'[p5]? = some (.cells s.cells true 0) ∧ lngD (fun d => stayB p s n fr d) D = lngD (fun d => stayB p s n fr d) d ∧ F.ds = [] ∧ F.r 2 = vint n ∧ F.r 3 = vint (fr : Nat) ∧ F.r 4 = ptr p4 0 ∧ F.r 5 = ptr p5 0 ∧ F.r 11 = vint (d : Nat)) ?_ (s := D)
    (.inl ⟨Nat.le_refl _, T3, c43, c53, rfl, rfl, rfl, rfl, rfl, rfl, rfl⟩)
  rintro d F H' ⟨hd, S, d4, d5, hq, ds, r2, r3, r4, r5, r11⟩ okc hnc
  rw [s45_1, r2, r3, r4, r5, r11]
  have stop : ∀ {F2 : RG} {H2 : List AObj}, SameX [] H H2 → lngD (fun d => stayB p s n fr d) D = d → F2.ds = [] → F2.r 11 = vint (d : Nat) → F2.r 44 = .bool false →
      W prog J 48 H.length 45 (subC [1, 1, 1, 1, 1, 0, 0, 0, 0, 1] (codeOf f45)) F2 H2 (contX pl45 prog J 48 H.length 45 ct45 [1, 1, 1, 1, 1, 0, 0, 0, 0, 1] (codeOf f45) [Nx H.length (fun d : Nat => d) (fun d F H' => d ≤ D ∧ SameX [] H H' ∧ H'[p4]? = some (.cells p.cells true 0) ∧ H'[p5]? = some (.cells s.cells true 0) ∧ lngD (fun d => stayB p s n fr d) D = lngD (fun d => stayB p s n fr d) d ∧ F.ds = [] ∧ F.r 2 = vint n ∧ F.r 3 = vint (fr : Nat) ∧ F.r 4 = ptr p4 0 ∧ F.r 5 = ptr p5 0 ∧ F.r 11 = vint (d : Nat)) d] (RetQ prog [.tmp 8, .tmp 9] H.length K)) := by
    intro F2 H2 S2 he ds2 q11 q44
    rw [s45_2, q44, q11, ds2]
    have := hK H2 S2
    rw [he] at this
    exact cnd_false.2 (retL_same (nu2 (by simp [unk]) (by simp [unk])) this)
  refine gtrI (cndI (fun hpos => ?_) fun hz => hold.2 ?_)
  · obtain ⟨e, rfl⟩ : ∃ e, d = e + 1 := ⟨d - 1, by omega⟩
    refine load_part (c := p.cells) d4 (by simp [Pas.cells]) rfl rfl (load_part (c := s.cells) d5 (by simp [SkyR.cells]) rfl rfl ?_)
    refine good89 hJ f g hn (by omega) fun H4 S4 => notI (hold.2 ?_)
    cases hb : stayB p s n (fr : Nat) ((e + 1 : Nat) : Int) with
    | true =>
      refine stop (S.trans S4) ?_ ds r11 rfl
      rw [hq]
      unfold lngD
      rw [if_pos hb]
    | false =>
      rw [s45_2]
      refine cnd_true.2 ?_
      show aBin prog .sub 3 (F.r 11) (vint 1) _
      rw [r11]
      refine subI (by omega) ⟨e, by dsimp only; omega, .inl ⟨by omega, S.trans S4, S4.get d4 (by simp), S4.get d5 (by simp), ?_, ds, r2, r3, r4, r5, ?_⟩⟩
      · rw [hq]
        conv => lhs; unfold lngD
        rw [if_neg (by rw [hb]; decide)]
      · show vint _ = vint _
        congr 1
        omega
  · have : d = 0 := by omega
    subst this
    exact stop S (by rw [hq]; rfl) ds r11 rfl
theorem good54 (hJ : Closed prog main J) {p : Pas} {s : SkyR} {n : Int} {a fr dy : Nat} (ha : s.days = (a : Int)) (ha8 : a ≤ 8) (hfd : fr + dy ≤ a)
    (hK : ∀ H', SameX [] H H' → K (.tuple ⟨[.bool (decide (feedN p (stayH a fr dy n) s = 1)), .bool (decide (ckdE p (stayH a fr dy n) s = 0))]⟩) H') : Good prog J 54 [.agg ⟨p.cells⟩, .agg ⟨s.cells⟩, vint n, vint (fr : Nat), vint (dy : Nat)] H K := by
  refine g54 hJ fun ok => ?_
  rw [e54]
  refine qBox (l := p.cells) rfl fun H1 p4 e1 S1 c4 l1 => qBox (l := s.cells) rfl fun H2 p5 e2 S2 c5 l2 => ?_
  have c42 := S2.get c4 (by simp)
  have T2 := S1.trans S2
  have b4 := lt_of_get c42
  have b5 := lt_of_get c5
  have sb : ∀ {H'}, SameX [] H2 H' → SameB (some [p4, p5]) H2 H' := fun S => sbTwo S b4 b5 (by simp) (by simp)
  refine ⟨[p4, p5], load_part (c := p.cells) c42 (by simp [Pas.cells]) rfl rfl ⟨by simp [RdOk, ptrBlk], offI (ldI (v := vint s.days) c5 rfl rfl ⟨by simp [RdOk, ptrBlk], load_part (c := s.cells) c5 (by simp [SkyR.cells]) rfl rfl ⟨by simp [RdOk, ptrBlk], ?_⟩⟩)⟩⟩
  rw [ha]
  refine good100 hJ ha8 hfd fun H3 v o S3 O ho => ⟨sb S3, ?_⟩
  refine good49 hJ (ownX_sli O) (by rw [stayH_len]; omega) fun H4 S4 => ⟨sb (S3.trans S4), ext0 (ext1 (eqlI (eqlI (retL_same (nu2 (by simp [unk]) (by simp [unk])) (hK H4 ((T2.trans S3).trans S4))))))⟩
end
end Go.Proofs.Ythnccaajpdnndaa
namespace Go.Proofs.Ythnccaajpdnndaa
open Go.Conc Go.Proofs.Try
set_option maxRecDepth 100000
set_option maxHeartbeats 4000000
set_option linter.unusedVariables false
section
variable {main : Bool} {J : JT} {n0 : Nat} {h : List AObj} {K : Value → List AObj → Prop}
theorem at24 : prog.funcs[24]? = some f24 := by kernel_rfl
theorem body24 : f24.body = some (codeOf f24) := by kernel_rfl
def pl24 : Plans := [(2, false, .take 0 (.take 1 (.take 2 (.take 3 (.take 4 (.take 5 (.take 7 (.take 8 (.take 9 (.take 10 (.take 11 (.take 12 (.last 6 true (.last 13 true (.last 14 true (.last 15 true (.take 16 (.last 17 false (.fin))))))))))))))))))),
  (4, false, .take 0 (.take 1 (.take 2 (.take 3 (.take 4 (.take 6 (.take 7 (.take 8 (.last 5 true (.last 9 true (.last 10 true (.last 11 true (.take 12 (.last 13 false (.fin)))))))))))))))]
def ct24 : Cuts := .go
theorem pok24 : plansOk prog pl24 (codeOf f24) = true := by kernel_rfl
theorem e24 {a0 : Value} : W prog J 55 h.length 24 (codeOf f24) (RG.mk (regs [a0]) []) h (RetQ prog [.cell 2 31] h.length K) =
(aAlloc [(vint 0), (vint 0), (vint 0), (vint 0), (vint 0), (vint 0)] h fun v1 h2 =>
 Good prog J 23 [a0, (vint 3), (vint 30)] h2 fun v3 h4 =>
(((3 * 1 : Nat) ≤ 16777216 ∧ (3 : Nat) ≤ 16777216 ∧ List.length [(vint 0)] = 1) ∧ aFill (zrep [(vint 0)] 3) [(0, 1, (vint 1)), (1, 1, (vint 1)), (2, 1, (vint 2))] fun c5 =>
 aNewS 3 c5 h4 fun v6 h7 =>
 Good prog J 69 [a0, (vint 0), v6] h7 fun v8 h9 =>
 Good prog J 26 [a0, (vint 5)] h9 fun v10 h11 =>
(((3 * 1 : Nat) ≤ 16777216 ∧ (3 : Nat) ≤ 16777216 ∧ List.length [(vint 0)] = 1) ∧ aFill (zrep [(vint 0)] 3) [(0, 1, (vint 1)), (1, 1, (vint 2)), (2, 1, v10)] fun c12 =>
 aNewS 3 c12 h11 fun v13 h14 =>
 Good prog J 69 [a0, (vint 0), v13] h14 fun v15 h16 =>
 aFill [(vint 0), (vint 0), (vint 0), (vint 0), (vint 0), (vint 0)] [(1, 1, v3), (2, 1, v8), (5, 1, v15)] fun c17 =>
 aAlloc [(vint 0), (vint 0), (vint 0), (vint 0), (vint 0), (vint 0)] h16 fun v18 h19 =>
 aStore 6 v18 (Value.agg ⟨c17⟩) h19 fun h20 =>
(∃ B, aOff v18 1 fun v21 =>
 aLoad false 1 v21 h20 fun v22 =>
 RdOk (some B) (ptrBlk v21) ∧ (aOff v18 1 fun v23 =>
 aLoad false 1 v23 h20 fun v24 =>
 RdOk (some B) (ptrBlk v23) ∧ (aOff v18 1 fun v25 =>
 aLoad false 1 v25 h20 fun v26 =>
 RdOk (some B) (ptrBlk v25) ∧ (aBin prog .quo 3 v26 (vint 2) fun v27 =>
 aOff v18 1 fun v28 =>
 aLoad false 1 v28 h20 fun v29 =>
 RdOk (some B) (ptrBlk v28) ∧ (Good prog J 26 [a0, v24] h20 fun v30 h31 =>
 SameB (some B) h20 h31 ∧ (Good prog J 23 [a0, v27, v29] h31 fun v32 h33 =>
 SameB (some B) h20 h33 ∧ ((((2 * 1 : Nat) ≤ 16777216 ∧ (2 : Nat) ≤ 16777216 ∧ List.length [(vint 0)] = 1) ∧ aFill (zrep [(vint 0)] 2) [(0, 1, v30), (1, 1, v32)] fun c34 =>
 aNewS 2 c34 h33 fun v35 h36 =>
 SameB (some B) h20 h36 ∧ (Good prog J 69 [a0, v22, v35] h36 fun v37 h38 =>
 SameB (some B) h20 h38 ∧ (aOff v18 0 fun v39 =>
 aStore 1 v39 v37 h38 fun h40 =>
 aOff v18 2 fun v41 =>
 aLoad false 1 v41 h40 fun v42 =>
 aOff v18 2 fun v43 =>
 aLoad false 1 v43 h40 fun v44 =>
 aBin prog .add 3 v44 (vint 5) fun v45 =>
 aMin (vint 9) [v45] fun v46 =>
 Good prog J 23 [a0, v42, v46] h40 fun v47 h48 =>
 aOff v18 3 fun v49 =>
 aStore 1 v49 v47 h48 fun h50 =>
(∃ B, aOff v18 1 fun v51 =>
 aLoad false 1 v51 h50 fun v52 =>
 RdOk (some B) (ptrBlk v51) ∧ (aBin prog .quo 3 v52 (vint 2) fun v53 =>
 aOff v18 1 fun v54 =>
 aLoad false 1 v54 h50 fun v55 =>
 RdOk (some B) (ptrBlk v54) ∧ (Good prog J 26 [a0, v53] h50 fun v56 h57 =>
 SameB (some B) h50 h57 ∧ (Good prog J 26 [a0, v55] h57 fun v58 h59 =>
 SameB (some B) h50 h59 ∧ ((((4 * 1 : Nat) ≤ 16777216 ∧ (4 : Nat) ≤ 16777216 ∧ List.length [(vint 0)] = 1) ∧ aFill (zrep [(vint 0)] 4) [(0, 1, (vint 1)), (1, 1, (vint 2)), (2, 1, v56), (3, 1, v58)] fun c60 =>
 aNewS 4 c60 h59 fun v61 h62 =>
 SameB (some B) h50 h62 ∧ (Good prog J 69 [a0, (vint 0), v61] h62 fun v63 h64 =>
 SameB (some B) h50 h64 ∧ (aOff v18 4 fun v65 =>
 aStore 1 v65 v63 h64 fun h66 =>
 aLoad true 6 v18 h66 fun v67 =>
 aStore 6 v1 v67 h66 fun h68 =>
 RetQ prog [.cell 2 31] h.length K .ret (RG.p (RG.p (RG.p (RG.p (RG.p (RG.p (RG.p (RG.p (RG.p (RG.p (RG.p (RG.p (RG.p (RG.p (RG.p (RG.p (RG.p (RG.p (RG.p (RG.p (RG.p (RG.p (RG.p (RG.p (RG.p (RG.p (RG.p (RG.p (RG.p (RG.p (RG.p (RG.p (RG.p (RG.p (RG.p (RG.p (RG.p (RG.p (RG.p (RG.p (RG.p (RG.p (RG.p (RG.p (RG.p (RG.p (RG.p (RG.p (RG.p (RG.p (RG.p (RG.p (RG.p (RG.mk (regs [a0]) []) 2 v1) 4 a0) 5 v3) 6 a0) 7 v6) 8 v8) 9 a0) 10 a0) 11 v10) 12 v13) 13 v15) 14 (Value.agg ⟨c17⟩)) 3 v18) 15 a0) 16 v21) 17 v22) 18 a0) 19 v23) 20 v24) 22 a0) 23 v25) 24 v26) 25 v27) 26 v28) 27 v29) 21 v30) 28 v32) 29 v35) 30 v37) 31 v39) 32 a0) 33 v41) 34 v42) 35 v43) 36 v44) 37 v45) 38 v46) 39 v47) 40 v49) 41 a0) 42 a0) 43 v51) 44 v52) 45 v53) 47 a0) 48 v54) 49 v55) 46 v56) 50 v58) 51 v61) 52 v63) 53 v65) 54 v67) h68))))))))))))))))))))) := top_eq pok24 ct24 (by kernel_rfl)
theorem g24 (hJ : Closed prog main J) {a0 : Value} (hs : heapOk h → W prog J 55 h.length 24 (codeOf f24) (RG.mk (regs [a0]) []) h (RetQ prog [.cell 2 31] h.length K)) : Good prog J 24 [a0] h K :=
  good_of_W hJ mixed at24 body24 (by kernel_rfl) (Nat.le_of_ble_eq_true rfl) hs
theorem at25 : prog.funcs[25]? = some f25 := by kernel_rfl
theorem body25 : f25.body = some (codeOf f25) := by kernel_rfl
def pl25 : Plans := [(2, false, .take 0 (.take 1 (.take 2 (.take 4 (.take 5 (.take 6 (.last 3 true (.take 8 (.last 7 true (.last 9 false (.take 10 (.last 11 false (.fin)))))))))))))]
def ct25 : Cuts := .go
theorem pok25 : plansOk prog pl25 (codeOf f25) = true := by kernel_rfl
theorem e25 {a0 a1 : Value} : W prog J 21 h.length 25 (codeOf f25) (RG.mk (regs [a0, a1]) []) h (RetQ prog [.cell 4 24] h.length K) =
(aAlloc [(vint 0), (vint 0), (vint 0)] h fun v1 h2 =>
 Good prog J 23 [a0, (vint 1), a1] h2 fun v3 h4 =>
 aFill [(vint 0), (vint 0), (vint 0)] [(0, 1, v3)] fun c5 =>
 aAlloc [(vint 0), (vint 0), (vint 0)] h4 fun v6 h7 =>
 aStore 3 v6 (Value.agg ⟨c5⟩) h7 fun h8 =>
(∃ B, aOff v6 0 fun v9 =>
 aLoad false 1 v9 h8 fun v10 =>
 RdOk (some B) (ptrBlk v9) ∧ (aOff v6 0 fun v11 =>
 aLoad false 1 v11 h8 fun v12 =>
 RdOk (some B) (ptrBlk v11) ∧ (Good prog J 23 [a0, (vint 1), v10] h8 fun v13 h14 =>
 SameB (some B) h8 h14 ∧ (aOff v6 1 fun v15 =>
 Good prog J 23 [a0, (vint 1), v12] h14 fun v16 h17 =>
 SameB (some B) h8 h17 ∧ (aStore 1 v15 v13 h17 fun h18 =>
 aOff v6 2 fun v19 =>
 aStore 1 v19 v16 h18 fun h20 =>
 aLoad true 3 v6 h20 fun v21 =>
 aStore 3 v1 v21 h20 fun h22 =>
 RetQ prog [.cell 4 24] h.length K .ret (RG.p (RG.p (RG.p (RG.p (RG.p (RG.p (RG.p (RG.p (RG.p (RG.p (RG.p (RG.p (RG.p (RG.p (RG.p (RG.p (RG.p (RG.mk (regs [a0, a1]) []) 4 v1) 6 a0) 7 a1) 8 v3) 9 (Value.agg ⟨c5⟩)) 5 v6) 10 a0) 11 v9) 12 v10) 14 a0) 15 v11) 16 v12) 13 v13) 18 v15) 17 v16) 19 v19) 20 v21) h22)))))) := top_eq pok25 ct25 (by kernel_rfl)
theorem g25 (hJ : Closed prog main J) {a0 a1 : Value} (hs : heapOk h → W prog J 21 h.length 25 (codeOf f25) (RG.mk (regs [a0, a1]) []) h (RetQ prog [.cell 4 24] h.length K)) : Good prog J 25 [a0, a1] h K :=
  good_of_W hJ mixed at25 body25 (by kernel_rfl) (Nat.le_of_ble_eq_true rfl) hs
end
end Go.Proofs.Ythnccaajpdnndaa
namespace Go.Proofs.Ythnccaajpdnndaa
open Go.Conc Go.Proofs.Try
set_option maxRecDepth 100000
section
variable {main : Bool} {J : JT} {h H : List AObj} {K : Value → List AObj → Prop} {KV : Value → Prop} {HL : List AObj → Prop} {n0 : Nat} {ns : List Int} {k : Nat}
theorem quoZ {t : TypeId} {a b : Int} (ha : 0 ≤ a ∧ a ≤ 1000000) (hb : 0 < b) (hk : KV (vint (a / b))) : aBin prog .quo t (vint a) (vint b) KV := by
  have h1 : Int.tdiv a b = a / b := Int.tdiv_eq_ediv_of_nonneg ha.1
  have h2 : 0 ≤ a / b := Int.ediv_nonneg ha.1 (by omega)
  have h3 : a / b ≤ a := Int.ediv_le_self _ ha.1
  simp only [aBin, aInt, true_and]
  rw [h1, wrap64 (by omega) (by omega)]
  exact ⟨by omega, hk⟩
theorem hxLt (a : HX h H ns k) : h.length < H.length := by
  obtain ⟨nv, k1, s, rest, rfl, _⟩ := a
  rw [hf_len]
  omega
theorem ofZ (hJ : Closed prog main J) (a : HX h H ns k) (hk : k < 1000000) {x : Int} {others : List Int} {p n c : Nat} (hp : H[p]? = some (.cells (others.map vint) true 0)) (hne : p ≠ h.length) (hn : others.length = n) (hl : n < 1000)
    (hK : ∀ y H', (y = x ∨ y ∈ others) → SameX [h.length] H H' → H'.length = H.length → HX h H' ns (k + 1) → K (vint y) H') : Good prog J 69 [ptr h.length 0, vint x, .slice (some ⟨p, 0, none⟩) n c] H K := by
  subst hn
  obtain ⟨nv, k1, s, rest, rfl, b1, b2, b3⟩ := a
  refine good69 hJ (hf_hand b3.list b3.sane (by omega) b2.1 b2.2) (others := others) (fun h' hd => ?_) (by omega) fun y h1 hy hd => ?_
  · obtain ⟨k', s', c1, c2, c3, rfl⟩ := hf_dealt hd
    have S := hf_same (h := h) (nv := nv) (k1 := k1) (k2 := k') (s1 := s) (s2 := s') (rest := rest) (g := [])
    rw [List.append_nil] at S
    exact sli_new (wr := true) (sz := 0) (S.get hp (by simpa using hne)) (by simp) (kn_ints _)
  · obtain ⟨k', s', c1, c2, c3, rfl⟩ := hf_dealt hd
    have S := hf_same (h := h) (nv := nv) (k1 := k1) (k2 := k') (s1 := s) (s2 := s') (rest := rest) (g := [])
    rw [List.append_nil] at S
    exact hK y _ hy S (by simp [hf_len]) ⟨nv, k', s', rest, rfl, by omega, ⟨c2, c3⟩, b3⟩
theorem good25 (hJ : Closed prog main J) (a : HX h H ns k) (hk : k < 400000) {D : Int} (hD : 1 ≤ D ∧ D ≤ 8)
    (hK : ∀ s H', skyOk s → s.days ≤ D → SameX [h.length] H H' → HX h H' ns (k + 3) → K (.agg ⟨s.cells⟩) H') : Good prog J 25 [ptr h.length 0, vint D] H K := by
  refine g25 hJ fun ok => ?_
  rw [e25]
  have hlt := hxLt a
  refine qAl fun H1 p1 e1 S1 c1 l1 => ?_
  have a1 := a.same S1 (by simp)
  refine amX hJ a1 (by omega) (by omega) (by omega) fun d H2 b1 b2 S2 l2 a2 => ?_
  refine fillO (l := [vint d]) rfl rfl rfl (Nat.le_of_ble_eq_true rfl) (fillI ?_)
  refine qAl fun H3 p3 e3 S3 c3 l3 => qStA (c := [vint d, vint 0, vint 0]) c3 rfl rfl rfl fun H4 S4 c4 l4 => ?_
  have a4 := (a2.same S3 (by simp)).same S4 (by simp; omega)
  have hp4 : p3 < H4.length := lt_of_get c4
  refine ⟨[p3], offI (ldI (v := vint d) c4 rfl rfl ⟨by simp [RdOk, ptrBlk], offI (ldI (v := vint d) c4 rfl rfl ⟨by simp [RdOk, ptrBlk], ?_⟩)⟩)⟩
  refine amX hJ a4 (by omega) (by omega) (by omega) fun u H5 d1 d2 S5 l5 a5 => ⟨sbOne S5 hp4 (by simp; omega), offI ?_⟩
  refine amX hJ a5 (by omega) (by omega) (by omega) fun w H6 f1 f2 S6 l6 a6 => ⟨sbOne (S5.trans S6) hp4 (by simp; omega), ?_⟩
  have T6 : SameX [h.length] H4 H6 := S5.trans S6
  refine qSt (T6.get c4 (by simp; omega)) (by simp) rfl rfl fun H7 S7 c7 l7 => offI (qSt c7 (by simp) rfl rfl fun H8 S8 c8 l8 => ?_)
  refine load_part (c := (⟨d, u, w⟩ : SkyR).cells) c8 (by simp) rfl rfl ?_
  have T4 : SameX [h.length] H H4 := (((S1.weak0).trans S2).trans S3.weak0).thru S4 (by simp; omega)
  have T8 : SameX [h.length] H H8 := ((T4.trans T6).thru S7 (by simp; omega)).thru S8 (by simp; omega)
  have c1' := S8.get (S7.get (T6.get (S4.get (S3.get (S2.get c1 (by simp; omega)) (by simp)) (by simp; omega)) (by simp; omega)) (by simp; omega)) (by simp; omega)
  refine qStA (c := (⟨d, u, w⟩ : SkyR).cells) c1' rfl rfl rfl fun H9 S9 c9 l9 => ?_
  refine retQs rfl (resW_cell (gg := true) (s := 3) (by kernel_rfl) (load_part (c := (⟨d, u, w⟩ : SkyR).cells) c9 (by simp [SkyR.cells]) rfl rfl (resW_nil ?_)))
  refine hK ⟨d, u, w⟩ H9 ⟨by show 1 ≤ d ∧ d ≤ 8; omega, by show 1 ≤ u ∧ u ≤ d; omega, by show 1 ≤ w ∧ w ≤ d; omega⟩ (by show d ≤ D; omega) (T8.thru S9 (by simp; omega)) (((a6.same S7 (by simp; omega)).same S8 (by simp; omega)).same S9 (by simp; omega))
set_option maxHeartbeats 800000 in
theorem good24 (hJ : Closed prog main J) (a : HX h H ns k) (hk : k < 400000)
    (hK : ∀ p H', pasOk p → 3 ≤ p.bears ∧ p.bears ≤ 30 → SameX [h.length] H H' → HX h H' ns (k + 12) → K (.agg ⟨p.cells⟩) H') : Good prog J 24 [ptr h.length 0] H K := by
  refine g24 hJ fun ok => ?_
  rw [e24]
  have hlt := hxLt a
  refine qAl fun H1 p1 e1 S1 c1 l1 => ?_
  have a1 := a.same S1 (by simp)
  refine amX hJ a1 (by omega) (by omega) (by omega) fun b H2 b1 b2 S2 l2 a2 => ?_
  refine ⟨by decide, fillO (l := [vint 1]) rfl rfl rfl (Nat.le_of_ble_eq_true rfl) (fillO (l := [vint 1]) rfl rfl rfl (Nat.le_of_ble_eq_true rfl) (fillO (l := [vint 2]) rfl rfl rfl (Nat.le_of_ble_eq_true rfl) (fillI (qNew fun H3 p3 e3 S3 c3 l3 => ?_))))⟩
  have c3 : H3[p3]? = some (.cells (([1, 1, 2] : List Int).map vint) true 0) := c3
  refine ofZ hJ (a2.same S3 (by simp)) (by omega) c3 (by omega) rfl (by simp) fun dr H4 m4 S4 l4 a4 => ?_
  refine upX hJ a4 (by omega) (by omega) fun u5 H5 d1 d2 S5 l5 a5 => ?_
  refine ⟨by decide, fillO (l := [vint 1]) rfl rfl rfl (Nat.le_of_ble_eq_true rfl) (fillO (l := [vint 2]) rfl rfl rfl (Nat.le_of_ble_eq_true rfl) (fillO (l := [vint u5]) rfl rfl rfl (Nat.le_of_ble_eq_true rfl) (fillI (qNew fun H6 p6 e6 S6 c6 l6 => ?_))))⟩
  have c6 : H6[p6]? = some (.cells (([1, 2, u5] : List Int).map vint) true 0) := c6
  refine ofZ hJ (a5.same S6 (by simp)) (by omega) c6 (by omega) rfl (by simp) fun sl H7 m7 S7 l7 a7 => ?_
  refine fillO (l := [vint b]) rfl rfl rfl (Nat.le_of_ble_eq_true rfl) (fillO (l := [vint dr]) rfl rfl rfl (Nat.le_of_ble_eq_true rfl) (fillO (l := [vint sl]) rfl rfl rfl (Nat.le_of_ble_eq_true rfl) (fillI ?_)))
  refine qAl fun H8 p8 e8 S8 c8 l8 => qStA (c := [vint 0, vint b, vint dr, vint 0, vint 0, vint sl]) c8 rfl rfl rfl fun H9 S9 c9 l9 => ?_
  have a9 := (a7.same S8 (by simp)).same S9 (by simp; omega)
  have hp9 : p8 < H9.length := lt_of_get c9
  have hdr : 0 ≤ dr ∧ dr ≤ 2 := by
    rcases m4 with h | h
    · omega
    · simp only [List.mem_cons, List.not_mem_nil, or_false] at h
      omega
  have hsl : 0 ≤ sl ∧ sl ≤ 5 := by
    rcases m7 with h | h
    · omega
    · simp only [List.mem_cons, List.not_mem_nil, or_false] at h
      omega
  refine ⟨[p8], offI (ldI (v := vint b) c9 rfl rfl ⟨by simp [RdOk, ptrBlk], offI (ldI (v := vint b) c9 rfl rfl ⟨by simp [RdOk, ptrBlk], offI (ldI (v := vint b) c9 rfl rfl ⟨by simp [RdOk, ptrBlk], quoZ (by omega) (by decide) (offI (ldI (v := vint b) c9 rfl rfl ⟨by simp [RdOk, ptrBlk], ?_⟩))⟩)⟩)⟩)⟩
  have T9 : ∀ {H'}, SameX [h.length] H9 H' → SameB (some [p8]) H9 H' := fun S => sbOne S hp9 (by simp; omega)
  refine upX hJ a9 (by omega) (by omega) fun u10 H10 f1 f2 S10 l10 a10 => ⟨T9 S10, ?_⟩
  refine amX hJ a10 (by omega) (by omega) (by omega) fun u11 H11 g1 g2 S11 l11 a11 => ⟨T9 (S10.trans S11), ?_⟩
  have Q11 : SameX [h.length] H9 H11 := S10.trans S11
  refine ⟨by decide, fillO (l := [vint u10]) rfl rfl rfl (Nat.le_of_ble_eq_true rfl) (fillO (l := [vint u11]) rfl rfl rfl (Nat.le_of_ble_eq_true rfl) (fillI (qNew fun H12 p12 e12 S12 c12 l12 => ⟨T9 (Q11.trans S12.weak0), ?_⟩)))⟩
  have c12 : H12[p12]? = some (.cells (([u10, u11] : List Int).map vint) true 0) := c12
  have hl11 := hxLt a11
  refine ofZ hJ (a11.same S12 (by simp)) (by omega) c12 (by omega) rfl (by simp) fun gr H13 m13 S13 l13 a13 => ?_
  have Q13 : SameX [h.length] H9 H13 := (Q11.trans S12.weak0).trans S13
  refine ⟨T9 Q13, offI ?_⟩
  have hgr : 0 ≤ gr ∧ gr ≤ b := by
    rcases m13 with h | h
    · omega
    · simp only [List.mem_cons, List.not_mem_nil, or_false] at h
      omega
  refine qSt (Q13.get c9 (by simp; omega)) (by simp) rfl rfl fun H14 S14 c14 l14 => ?_
  have c14 : H14[p8]? = some (.cells [vint gr, vint b, vint dr, vint 0, vint 0, vint sl] true 0) := c14
  have a14 := a13.same S14 (by simp; omega)
  refine offI (ldI (v := vint dr) c14 rfl rfl (offI (ldI (v := vint dr) c14 rfl rfl (addI (by omega) (minI ?_)))))
  refine amX hJ a14 (by omega) (by omega) (by omega) fun wt H15 h1 h2 S15 l15 a15 => offI ?_
  refine qSt (S15.get c14 (by simp; omega)) (by simp) rfl rfl fun H16 S16 c16 l16 => ?_
  have c16 : H16[p8]? = some (.cells [vint gr, vint b, vint dr, vint wt, vint 0, vint sl] true 0) := c16
  have a16 := a15.same S16 (by simp; omega)
  have hp16 : p8 < H16.length := lt_of_get c16
  have T16 : ∀ {H'}, SameX [h.length] H16 H' → SameB (some [p8]) H16 H' := fun S => sbOne S hp16 (by simp; omega)
  refine ⟨[p8], offI (ldI (v := vint b) c16 rfl rfl ⟨by simp [RdOk, ptrBlk], quoZ (by omega) (by decide) (offI (ldI (v := vint b) c16 rfl rfl ⟨by simp [RdOk, ptrBlk], ?_⟩))⟩)⟩
  refine upX hJ a16 (by omega) (by omega) fun u17 H17 q1 q2 S17 l17 a17 => ⟨T16 S17, ?_⟩
  refine upX hJ a17 (by omega) (by omega) fun u18 H18 q3 q4 S18 l18 a18 => ⟨T16 (S17.trans S18), ?_⟩
  have Q18 : SameX [h.length] H16 H18 := S17.trans S18
  refine ⟨by decide, fillO (l := [vint 1]) rfl rfl rfl (Nat.le_of_ble_eq_true rfl) (fillO (l := [vint 2]) rfl rfl rfl (Nat.le_of_ble_eq_true rfl) (fillO (l := [vint u17]) rfl rfl rfl (Nat.le_of_ble_eq_true rfl) (fillO (l := [vint u18]) rfl rfl rfl (Nat.le_of_ble_eq_true rfl) (fillI (qNew fun H19 p19 e19 S19 c19 l19 => ⟨T16 (Q18.trans S19.weak0), ?_⟩)))))⟩
  have c19 : H19[p19]? = some (.cells (([1, 2, u17, u18] : List Int).map vint) true 0) := c19
  have hl18 := hxLt a18
  refine ofZ hJ (a18.same S19 (by simp)) (by omega) c19 (by omega) rfl (by simp) fun st H20 m20 S20 l20 a20 => ?_
  have Q20 : SameX [h.length] H16 H20 := (Q18.trans S19.weak0).trans S20
  have hst : 0 ≤ st ∧ st ≤ b := by
    rcases m20 with h | h
    · omega
    · simp only [List.mem_cons, List.not_mem_nil, or_false] at h
      omega
  refine ⟨T16 Q20, offI (qSt (Q20.get c16 (by simp; omega)) (by simp) rfl rfl fun H21 S21 c21 l21 => ?_)⟩
  have c21 : H21[p8]? = some (.cells (⟨gr, b, dr, wt, st, sl⟩ : Pas).cells true 0) := c21
  refine load_part (c := (⟨gr, b, dr, wt, st, sl⟩ : Pas).cells) c21 (by simp [Pas.cells]) rfl rfl ?_
  have U7 : SameX [h.length] H H7 := ((((((S1.weak0).trans S2).trans S3.weak0).trans S4).trans S5).trans S6.weak0).trans S7
  have U9 : SameX [h.length] H H9 := (U7.trans S8.weak0).thru S9 (by have := U7.1; simp; omega)
  have U21 : SameX [h.length] H H21 := ((((U9.trans Q13).thru S14 (by have := U7.1; simp; omega)).trans S15).thru S16 (by have := U7.1; simp; omega)).trans Q20 |>.thru S21 (by have := U7.1; simp; omega)
  have V1 : SameX [h.length] H1 H7 := ((((S2.trans S3.weak0).trans S4).trans S5).trans S6.weak0).trans S7
  have hv1 := V1.1
  have V9 : SameX [h.length, p8] H1 H9 := ((V1.trans S8.weak0).weak (by simp)).trans (S9.weak (by simp))
  have V21 : SameX [h.length, p8] H1 H21 := (((((V9.trans (Q13.weak (by simp))).trans (S14.weak (by simp))).trans (S15.weak (by simp))).trans (S16.weak (by simp))).trans (Q20.weak (by simp))).trans (S21.weak (by simp))
  have c1' := V21.get c1 (by simp; omega)
  refine qStA (c := (⟨gr, b, dr, wt, st, sl⟩ : Pas).cells) c1' rfl rfl rfl fun H22 S22 c22 l22 => ?_
  refine retQs rfl (resW_cell (gg := true) (s := 6) (by kernel_rfl) (load_part (c := (⟨gr, b, dr, wt, st, sl⟩ : Pas).cells) c22 (by simp [Pas.cells]) rfl rfl (resW_nil ?_)))
  refine hK ⟨gr, b, dr, wt, st, sl⟩ H22 ⟨by show 1 ≤ b ∧ b ≤ 99; omega, hgr, by show 0 ≤ dr ∧ dr ≤ 9; omega, by show dr ≤ wt ∧ wt ≤ 9; omega, hst, hsl⟩ (by show 3 ≤ b ∧ b ≤ 30; omega) (U21.thru S22 (by simp; omega)) ?_
  have z21 := a20.same S21 (by simp; omega)
  have z22 := z21.same S22 (by simp; omega)
  exact z22.mono (by omega)
end
def better (a b : Std) : Prop := b.1 ≤ a.1 ∧ a.2 ≤ b.2
structure MoreG (q p : Pas) : Prop where
  grass : p.grass ≤ q.grass
  bears : q.bears = p.bears
  dry : q.dry = p.dry
  wet : q.wet = p.wet
  stubble : q.stubble = p.stubble
  sleep : q.sleep = p.sleep
theorem MoreG.refl {p : Pas} : MoreG p p := ⟨Int.le_refl _, rfl, rfl, rfl, rfl, rfl⟩
theorem stdR_sleep {p : Pas} {heads : List Int} {w : List UInt8} (f : pasOk p) : ∀ k, (stdR p heads w k).2 ≤ p.sleep
  | 0 => by
    show (0 : Int) ≤ p.sleep
    exact f.2.2.2.2.2.1
  | k + 1 => by
    have ih := stdR_sleep (heads := heads) (w := w) f k
    have := f.2.2.2.2.2.1
    show (dayR p (stdR p heads w k) (heads.getD k 0) (wetB (w.getD k 0))).2 ≤ p.sleep
    unfold dayR
    split
    · exact Int.le_refl _
    · split
      · dsimp only; omega
      · dsimp only; omega
theorem dayR_better {q p : Pas} (G : MoreG q p) (fp : pasOk p) {a b : Std} {m n : Int} {w : Bool} (h : better a b) (o : StdOk p b) (hs : a.2 ≤ p.sleep) (hm : 0 ≤ m) (hmn : m ≤ n) : better (dayR q a m w) (dayR p b n w) := by
  obtain ⟨h1, h2⟩ := h
  obtain ⟨g1, g2, g3, g4, g5, g6⟩ := G
  obtain ⟨f1, f2, f3, f4, f5, f6⟩ := fp
  have hl : leftR b n ≤ leftR a m := by unfold leftR; omega
  have hb := leftR_bd o (by omega : 0 ≤ n)
  have ho := o.g
  have hsh : shortR q a m = true → shortR p b n = true := by
    unfold shortR
    rw [Bool.and_eq_true, Bool.and_eq_true, decide_eq_true_eq, decide_eq_true_eq, decide_eq_true_eq, decide_eq_true_eq]
    rintro ⟨x, y⟩
    exact ⟨by omega, by omega⟩
  have hg : 0 ≤ (if w = true then p.wet else p.dry) := by split <;> omega
  have hgq : (if w = true then q.wet else q.dry) = (if w = true then p.wet else p.dry) := by rw [g4, g3]
  unfold better dayR
  rw [hgq, g2]
  generalize (if w = true then p.wet else p.dry) = gr at *
  by_cases s1 : shortR q a m = true
  · rw [if_pos s1, if_pos (hsh s1)]
    dsimp only
    omega
  · rw [if_neg s1]
    by_cases s2 : shortR p b n = true
    · rw [if_pos s2]
      split
      · dsimp only; exact ⟨hl, by omega⟩
      · dsimp only
        exact ⟨by omega, hs⟩
    · rw [if_neg s2]
      by_cases ha : a.2 > 0
      · rw [if_pos ha, if_pos (by omega)]
        exact ⟨hl, by dsimp only; omega⟩
      · rw [if_neg ha]
        split
        · exact ⟨by dsimp only; omega, by dsimp only; omega⟩
        · exact ⟨by dsimp only; omega, h2⟩
theorem stdR_better {q p : Pas} (G : MoreG q p) (fp : pasOk p) (fq : pasOk q) {hs' hs : List Int} {w : List UInt8} (hh : headsOk hs) (h : ∀ i, 0 ≤ hs'.getD i 0 ∧ hs'.getD i 0 ≤ hs.getD i 0) : ∀ k, better (stdR q hs' w k) (stdR p hs w k)
  | 0 => ⟨G.grass, Int.le_refl _⟩
  | k + 1 => dayR_better G fp (stdR_better G fp fq hh h k) (stdR_ok fp hh k) (by rw [← G.sleep]; exact stdR_sleep fq k) (h k).1 (h k).2
theorem hung_less {q p : Pas} (G : MoreG q p) (fp : pasOk p) (fq : pasOk q) {hs' hs : List Int} {w : List UInt8} (hh : headsOk hs) (h : ∀ i, 0 ≤ hs'.getD i 0 ∧ hs'.getD i 0 ≤ hs.getD i 0) (k : Nat) (hx : hungAt q hs' w k = true) : hungAt p hs w k = true := by
  have b := (stdR_better G fp fq (w := w) hh h k).1
  have := (h k).2
  unfold hungAt hungR at *
  rw [decide_eq_true_eq] at *
  omega
theorem starv_less {q p : Pas} (G : MoreG q p) (fp : pasOk p) (fq : pasOk q) {hs' hs : List Int} {w : List UInt8} (hh : headsOk hs) (h : ∀ i, 0 ≤ hs'.getD i 0 ∧ hs'.getD i 0 ≤ hs.getD i 0) (hx : starvR p hs w < 0) : starvR q hs' w < 0 := by
  by_cases e : starvR q hs' w < 0
  · exact e
  · unfold starvR at *
    obtain ⟨h1, h2, _⟩ := fstH_iff (show 0 ≤ fstH (hungAt q hs' w) w.length by omega)
    have := fstH_pos (hung_less G fp fq hh h _ h2) h1
    omega
theorem fed_less {q p : Pas} (G : MoreG q p) (fp : pasOk p) (fq : pasOk q) {hs' hs : List Int} {s : SkyR} (hh : headsOk hs) (h : ∀ i, 0 ≤ hs'.getD i 0 ∧ hs'.getD i 0 ≤ hs.getD i 0) (hx : fedB p hs s = true) : fedB q hs' s = true := by
  unfold fedB at *
  rw [List.all_eq_true] at *
  intro w hw
  have := hx w hw
  rw [decide_eq_true_eq] at *
  exact starv_less G fp fq hh h this
theorem stayH_le {a f d d' : Nat} {n n' : Int} (hn : 0 ≤ n') (hnn : n' ≤ n) (hd : d' ≤ d) (i : Nat) : 0 ≤ (stayH a f d' n').getD i 0 ∧ (stayH a f d' n').getD i 0 ≤ (stayH a f d n).getD i 0 := by
  by_cases hi : i < a
  · rw [stayH_getD hi, stayH_getD hi]
    split
    · split
      · omega
      · omega
    · split
      · omega
      · omega
  · rw [List.getD_eq_getElem?_getD, List.getD_eq_getElem?_getD, List.getElem?_eq_none (by rw [stayH_len]; omega), List.getElem?_eq_none (by rw [stayH_len]; omega)]
    exact ⟨Int.le_refl _, Int.le_refl _⟩
theorem stay_less {q p : Pas} (G : MoreG q p) (fp : pasOk p) (fq : pasOk q) {s : SkyR} {n n' : Int} {fr dy dy' : Int} (h0 : 0 ≤ n') (hnn : n' ≤ n) (hn : n ≤ 40) (hd : dy' ≤ dy) (hx : stayB p s n fr dy = true) : stayB q s n' fr dy' = true :=
  fed_less G fp fq (stayH_ok ⟨by omega, hn⟩) (fun i => stayH_le h0 hnn (by omega) i) hx
theorem stay_zero {p : Pas} (fp : pasOk p) {s : SkyR} {fr dy : Int} : stayB p s 0 fr dy = true := by
  unfold stayB fedB
  rw [List.all_eq_true]
  intro w _
  rw [decide_eq_true_eq]
  unfold starvR
  rw [fstH_none fun i _ => ?_]
  · decide
  · have z : (stayH s.days.toNat fr.toNat dy.toNat 0).getD i 0 = 0 := by
      by_cases hi : i < s.days.toNat
      · rw [stayH_getD hi]
        split <;> rfl
      · rw [List.getD_eq_getElem?_getD, List.getElem?_eq_none (by rw [stayH_len]; omega)]
        rfl
    have o := (stdR_ok (rain := w) fp (stayH_ok (a := s.days.toNat) (f := fr.toNat) (d := dy.toNat) (n := 0) (by decide)) i).g
    unfold hungAt hungR
    rw [z]
    exact decide_eq_false (by omega)
theorem topH_mono {q q' : Int → Bool} : ∀ {N : Nat}, (∀ k : Nat, k ≤ N → q k = true → q' k = true) → topH q N ≤ topH q' N
  | 0, _ => Int.le_refl _
  | N + 1, h => by
    have b : ∀ {q : Int → Bool} {N : Nat}, topH q N ≤ N := by
      intro q N
      induction N with
      | zero => exact Int.le_refl _
      | succ N ih => unfold topH; split <;> omega
    unfold topH
    split
    · rename_i x
      rw [if_pos (h _ (Nat.le_refl _) x)]
      exact Int.le_refl _
    · split
      · have := b (q := q) (N := N)
        omega
      · exact topH_mono fun k hk => h k (by omega)
end Go.Proofs.Ythnccaajpdnndaa
