/- Parts of the proof, 6. No conditions. -/
import Derived.Test.YthnccaajpdnndaaK5
import Derived.Test.YthnccaajpdnndaaK2
import Derived.Test.YthnccaajpdnndaaK3
set_option linter.unusedSimpArgs false
set_option linter.unusedVariables false
namespace Go.Proofs.Ythnccaajpdnndaa
open Go.Conc Go.Proofs.Try
set_option maxRecDepth 100000
def strL (l : List (List UInt8)) : List Value := l.map strV
def endsR (p : Pas) (heads : List Int) (w : List UInt8) (k : Nat) : List Int := (List.range k).map fun i => (stdR p heads w (i + 1)).1
def daysR (q : Nat → Bool) (k : Nat) : List Int := ((List.range k).filter q).map Int.ofNat
theorem endsR_succ {p : Pas} {heads : List Int} {w : List UInt8} {k : Nat} : endsR p heads w (k + 1) = endsR p heads w k ++ [(stdR p heads w (k + 1)).1] := by simp [endsR, List.range_succ]
theorem daysR_succ {q : Nat → Bool} {k : Nat} : daysR q (k + 1) = daysR q k ++ (if q k = true then [(k : Int)] else []) := by
 unfold daysR
 rw [List.range_succ, List.filter_append, List.map_append]
 congr 1
 by_cases h : q k = true
 ·rw [if_pos h]
  simp [h]
 ·rw [if_neg h]
  simp [h]
theorem daysR_few {q : Nat → Bool} {k : Nat} : (daysR q k).length ≤ k := by
 unfold daysR
 rw [List.length_map]
 have := List.length_filter_le q (List.range k)
 rw [List.length_range] at this
 exact this
theorem daysR_none {q : Nat → Bool} {k : Nat} : (daysR q k).length = 0 ↔ fstH q k < 0 := by
 constructor
 ·intro h
  have : fstH q k = -1 := fstH_none fun i hi => by
   cases e : q i with
   | false => rfl
   | true =>
    have hm : (i : Int) ∈ daysR q k := List.mem_map.2 ⟨i, List.mem_filter.2 ⟨List.mem_range.2 hi, e⟩, rfl⟩
    rw [List.length_eq_zero_iff.1 h] at hm
    cases hm
  rw [this]
  decide
 ·intro h
  rw [List.length_eq_zero_iff]
  cases e : daysR q k with
  | nil => rfl
  | cons x l =>
   have hm : x ∈ daysR q k := by rw [e]; exact List.mem_cons_self
   unfold daysR at hm
   obtain ⟨i, hi, _⟩ := List.mem_map.1 hm
   obtain ⟨h1, h2⟩ := List.mem_filter.1 hi
   have := fstH_pos h2 (List.mem_range.1 h1)
   omega
section
variable {main : Bool} {J : JT} {h H : List AObj} {K : Value → List AObj → Prop} {KV : Value → Prop} {HL : List AObj → Prop} {n0 : Nat}
theorem strAdd {c : UInt8} {u : List UInt8} {t : TypeId} (hu : u.length ≤ 1000000) (hk : KV (strV (c :: u))) : aBin prog .add t (Value.string { data := #[c] }) (strV u) KV := by
 have hrm : (2000000 : Nat) < room := by decide
 show (ByteArray.mk #[c]).size + (ByteArray.mk ⟨u⟩).size ≤ room ∧ KV (.string (ByteArray.mk #[c] ++ ByteArray.mk ⟨u⟩))
 have e1 : (ByteArray.mk #[c]).size = 1 := rfl
 have e2 : (ByteArray.mk ⟨u⟩).size = u.length := rfl
 have e3 : ByteArray.mk #[c] ++ ByteArray.mk ⟨u⟩ = ByteArray.mk ⟨c :: u⟩ := by
  apply ByteArray.ext
  rw [ByteArray.data_append]
  apply Array.ext'
  rw [Array.toList_append]
  rfl
 rw [e1, e2, e3]
 exact ⟨by omega, hk⟩
theorem strGet {v : Value} {L : List (List UInt8)} {c : List Value} (hc : c = strL L) (hs : Sli H v 1 L.length c) {i : Nat} {u : List UInt8} (hu : L[i]? = some u) {K2 : Value → Value → Prop} (hK : ∀ p, K2 p (strV u)) : aIdx 1 v (vint (i : Nat)) fun p => aLoad false 1 p H (K2 p) := by
 subst hc
 have hi := (List.getElem?_eq_some_iff.1 hu).1
 exact idx_load hs ⟨by omega, by omega⟩ (by rw [Int.toNat_natCast]; unfold strL; rw [List.getElem?_map, hu]; rfl) hK
theorem strMore {v : Value} {L : List (List UInt8)} {o : Option Nat} {u : List UInt8} (O : OwnX H 1 (strL L) L.length v o) (hl : L.length < 90000)
  (hk : ∀ v' H' o', SameX o.toList H H' → OwnX H' 1 (strL (L ++ [u])) (L ++ [u]).length v' (some o') → H.length ≤ o' → K v' H') :
  (((1 * 1 : Nat) ≤ 16777216 ∧ (1 : Nat) ≤ 16777216 ∧ List.length [(Value.string { data := #[] })] = 1) ∧ aFill (zrep [(Value.string { data := #[] })] 1) [(0, 1, strV u)] fun c6 => aNewS 1 c6 H fun v7 h8 =>
   ((List.length [(Value.string { data := #[] })] = 1 ∧ 0 < (1 : Nat) ∧ 0 < (16 : Nat) ∧ (16 : Nat) ≤ 1024) ∧ aApp 1 v v7 h8 K)) := by
 refine ⟨by decide, fillO (l := [strV u]) rfl rfl rfl (by decide) (fillI (qNew fun H1 p1 e1 S1 c1 l1 => ⟨by decide, ?_⟩))⟩
 have c1 : H1[p1]? = some (.cells [strV u] true 0) := c1
 have h1 := S1.1
 refine ownX_more (ownX_keep O S1 (by simp)) (by omega) (by omega) (ownX_sli (ownX_new (s := 1) (n := 1) c1 rfl rfl)) fun v' H' p' e' O' S' => hk v' H' p' (S1.weak0.trans S') ?_ (by omega)
 unfold strL at O' ⊢
 rw [List.map_append, List.length_append]
 exact O'
theorem good39 (hJ : Closed prog main J) : ∀ (n : Nat) {H : List AObj} {K : Value → List AObj → Prop}, n ≤ 8 → (∀ H' v o, SameX [] H H' → OwnX H' 1 (strL (strsB n)) (strsB n).length v (some o) → H.length ≤ o → K v H') → Good prog J 39 [vint (n : Nat)] H K
 | 0, H, K, _, hK => by
  refine g39 hJ fun ok => ?_
  rw [e39]
  refine eqlI (cndI (fun _ => ?_) fun hx => absurd rfl hx)
  refine ⟨by decide, fillO (l := [strV []]) rfl rfl rfl (by decide) (fillI (qNew fun H1 p1 e1 S1 c1 l1 => ?_))⟩
  have c1 : H1[p1]? = some (.cells [strV []] true 0) := c1
  have O := ownX_new (s := 1) (n := 1) c1 rfl rfl
  exact retL_same (by simp [unk]) (hK H1 _ p1 S1 O (by omega))
 | n + 1, H, K, hn, hK => by
  refine g39 hJ fun ok => ?_
  rw [e39]
  refine eqlI (cndI (fun hx => absurd hx (by omega)) fun _ => subI (by omega) ?_)
  rw [show (((n + 1 : Nat) : Int) - 1) = ((n : Nat) : Int) by omega]
  refine good39 hJ n (by omega) fun H1 av ao S1 A1 hao => ?_
  have hlen := strsB_few (n := n)
  have hpow : 2 ^ n ≤ 2 ^ 8 := Nat.pow_le_pow_right (by decide) (by omega)
  have hu : ∀ (i : Nat) (u : List UInt8), (strsB n)[i]? = some u → u.length ≤ 8 := fun i u hi => by
   have := (strsB_len u (List.mem_of_getElem? hi)).1
   omega
  let A := (strsB n).map (100 :: ·)
  refine l39_1 hJ (fun i : Nat => (strsB n).length - i) (fun i F H' => ∃ v o, SameX [] H1 H' ∧ i ≤ (strsB n).length ∧ OwnX H' 1 (strL (A.take i)) (A.take i).length v o ∧ (∀ j, o = some j → H1.length ≤ j) ∧ F.ds = [] ∧ F.r 3 = v ∧ F.r 4 = av ∧ F.r 5 = vint (i : Nat)) ?_ (s := 0)
   (.inl ⟨.slice none 0 0, none, SameX.refl, by omega, ⟨rfl, rfl, .inl ⟨rfl, rfl, rfl⟩⟩, by simp, rfl, rfl, rfl, rfl⟩)
  rintro i F Hc ⟨v, o, Sc, hi, O, ho, ds, r3, r4, r5⟩ okc hnc
  have Ac := ownX_keep A1 Sc (by simp)
  rw [s39_1, r3, r4, r5]
  refine lenI (ownX_sli Ac) (lssI (cndI (fun hlt => ?_) fun hge => ?_))
  ·have hil : i < (strsB n).length := by omega
   have hui : (strsB n)[i]? = some (strsB n)[i] := List.getElem?_eq_getElem hil
   refine strGet rfl (ownX_sli Ac) hui fun p => strAdd (by have := hu i _ hui; omega) (strMore O (by simp [A]; omega) fun v' H5 o5 S5 O5 ho5 => addI (by omega) ⟨i + 1, by dsimp only; omega, .inl ⟨v', some o5, Sc.thru S5 fun y hy => .inr (ho y (by simpa using hy)), by omega, ?_, fun j hj => by cases hj; have := Sc.1; omega, ds, rfl, r4, by show vint _ = vint _; congr 1⟩⟩)
   have e : A.take (i + 1) = A.take i ++ [100 :: (strsB n)[i]] := by
    rw [List.take_add_one]
    congr 1
    rw [List.getElem?_map, hui]
    rfl
   rw [e]
   exact O5
  have hie : i = (strsB n).length := by omega
  subst hie
  have eA : A.take (strsB n).length = A := List.take_of_length_le (by simp [A])
  rw [eA] at O
  let B := (strsB n).map (119 :: ·)
  refine l39_2 hJ (fun i : Nat => (strsB n).length - i) (fun i F H' => ∃ v o, SameX [] H1 H' ∧ i ≤ (strsB n).length ∧ OwnX H' 1 (strL (A ++ B.take i)) (A ++ B.take i).length v o ∧ (∀ j, o = some j → H1.length ≤ j) ∧ F.ds = [] ∧ F.r 3 = v ∧ F.r 4 = av ∧ F.r 6 = vint (i : Nat)) ?_ (s := 0)
   (.inl ⟨v, o, Sc, by omega, by simpa using O, ho, ds, r3, r4, rfl⟩)
  clear ds r3 r4 r5 okc hnc O ho Ac Sc
  rintro i F Hd ⟨v, o, Sc, hi, O, ho, ds, r3, r4, r6⟩ okc hnc
  have Ac := ownX_keep A1 Sc (by simp)
  rw [s39_2, r3, r4, r6, ds]
  refine lenI (ownX_sli Ac) (lssI (cndI (fun hlt => ?_) fun hge => ?_))
  ·have hil : i < (strsB n).length := by omega
   have hui : (strsB n)[i]? = some (strsB n)[i] := List.getElem?_eq_getElem hil
   refine strGet rfl (ownX_sli Ac) hui fun p => strAdd (by have := hu i _ hui; omega) (strMore O (by simp [A, B]; omega) fun v' H5 o5 S5 O5 ho5 => addI (by omega) ⟨i + 1, by dsimp only; omega, .inl ⟨v', some o5, Sc.thru S5 fun y hy => .inr (ho y (by simpa using hy)), by omega, ?_, fun j hj => by cases hj; have := Sc.1; omega, ds, rfl, r4, by show vint _ = vint _; congr 1⟩⟩)
   have e : B.take (i + 1) = B.take i ++ [119 :: (strsB n)[i]] := by
    rw [List.take_add_one]
    congr 1
    rw [List.getElem?_map, hui]
    rfl
   rw [e, ← List.append_assoc]
   exact O5
  ·have hie : i = (strsB n).length := by omega
   subst hie
   have eB : B.take (strsB n).length = B := List.take_of_length_le (by simp [B])
   rw [eB] at O
   have hAB : strsB (n + 1) = A ++ B := rfl
   rw [← hAB] at O
   have hS1 := S1.1
   have hne : ∃ j, o = some j := by
    obtain ⟨_, _, ⟨h0, _, _⟩ | ⟨j, _, _, e, _⟩⟩ := id O
    ·rw [strsB_few] at h0
     have := Nat.pow_pos (n := n + 1) (show 0 < 2 by decide)
     omega
    ·exact ⟨j, e⟩
   obtain ⟨j, rfl⟩ := hne
   exact retL_same (by simpa using ownU O) (hK Hd v j (S1.trans Sc) O (by have := ho j rfl; omega))
theorem good91 (hJ : Closed prog main J) {s : SkyR} (g : skyOk s) (hK : ∀ H' v o, SameX [] H H' → OwnX H' 1 (strL (rainsB s)) (rainsB s).length v o → (∀ j, o = some j → H.length ≤ j) → K v H') : Good prog J 91 [.agg ⟨s.cells⟩] H K := by
 refine g91 hJ fun ok => ?_
 rw [e91]
 obtain ⟨g1, g2, g3⟩ := id g
 obtain ⟨n, hn⟩ := Int.eq_ofNat_of_zero_le (by omega : (0 : Int) ≤ s.days)
 have en : s.days.toNat = n := by omega
 refine qBox (l := s.cells) rfl fun H1 p1 e1 S1 c1 l1 => offI (ldI (v := vint s.days) c1 rfl rfl ?_)
 rw [hn]
 refine good39 hJ n (by omega) fun H2 av ao S2 A2 hao => ?_
 have hlen := strsB_few (n := n)
 have hpow : 2 ^ n ≤ 2 ^ 8 := Nat.pow_le_pow_right (by decide) (by omega)
 have T2 := S1.trans S2
 refine l91_1 hJ (fun i : Nat => (strsB n).length - i) (fun i F H' => ∃ v o, SameX [] H2 H' ∧ i ≤ (strsB n).length ∧ OwnX H' 1 (strL (((strsB n).take i).filter (fallX s (0, 0)))) (((strsB n).take i).filter (fallX s (0, 0))).length v o ∧ (∀ j, o = some j → H2.length ≤ j) ∧ F.ds = [] ∧ F.r 1 = ptr p1 0 ∧ F.r 3 = v ∧ F.r 4 = av ∧ F.r 5 = vint (i : Nat)) ?_ (s := 0)
  (.inl ⟨.slice none 0 0, none, SameX.refl, by omega, ⟨rfl, rfl, .inl ⟨rfl, rfl, rfl⟩⟩, by simp, rfl, rfl, rfl, rfl, rfl⟩)
 rintro i F Hc ⟨v, o, Sc, hi, O, ho, ds, r1, r3, r4, r5⟩ okc hnc
 have Ac := ownX_keep A2 Sc (by simp)
 rw [s91_1, r1, r3, r4, r5, ds]
 have hsc := Sc.1
 refine lenI (ownX_sli Ac) (lssI (cndI (fun hlt => ?_) fun hge => ?_))
 ·have hil : i < (strsB n).length := by omega
  have hui : (strsB n)[i]? = some (strsB n)[i] := List.getElem?_eq_getElem hil
  have hw := strsB_len _ (List.getElem_mem hil)
  have et : (strsB n).take (i + 1) = (strsB n).take i ++ [(strsB n)[i]] := by
   rw [List.take_add_one, hui]
   rfl
  have hfl : (((strsB n).take i).filter (fallX s (0, 0))).length ≤ i := by
   have := List.length_filter_le (fallX s (0, 0)) ((strsB n).take i)
   rw [List.length_take] at this
   omega
  refine load_part (c := s.cells) ((S2.trans Sc).get c1 (by simp)) (by simp [SkyR.cells]) rfl rfl (strGet rfl (ownX_sli Ac) hui fun p => ?_)
  refine good129 hJ g (by rw [hw.1]; omega) hw.2 fun H3 S3 => cndB (fun hy => ?_) fun hno => ?_
  ·refine strGet rfl (ownX_sli (ownX_keep Ac S3 (by simp))) hui fun p2 => strMore (ownX_keep O S3 (by simp)) (by omega) fun v' H5 o5 S5 O5 ho5 => addI (by omega) ⟨i + 1, by dsimp only; omega, .inl ⟨v', some o5, (Sc.trans S3).thru S5 fun y hy => .inr (ho y (by simpa using hy)), by omega, ?_, fun j hj => by cases hj; have := S3.1; omega, ds, r1, rfl, r4, by show vint _ = vint _; congr 1⟩⟩
   have e : ((strsB n).take (i + 1)).filter (fallX s (0, 0)) = ((strsB n).take i).filter (fallX s (0, 0)) ++ [(strsB n)[i]] := by
    rw [et, List.filter_append]
    simp [hy]
   rw [e]
   exact O5
  ·refine addI (by omega) ⟨i + 1, by dsimp only; omega, .inl ⟨v, o, Sc.trans S3, by omega, ?_, ho, ds, r1, r3, r4, by show vint _ = vint _; congr 1⟩⟩
   have e : ((strsB n).take (i + 1)).filter (fallX s (0, 0)) = ((strsB n).take i).filter (fallX s (0, 0)) := by
    rw [et, List.filter_append]
    simp [hno]
   rw [e]
   exact ownX_keep O S3 (by simp)
 ·have hie : i = (strsB n).length := by omega
  subst hie
  rw [List.take_of_length_le (Nat.le_refl _)] at O
  have er : rainsB s = (strsB n).filter (fallX s (0, 0)) := by rw [rainsB_strs, en]
  rw [← er] at O
  have hT2 := T2.1
  exact retL_same (by simpa using ownU O) (hK Hc v o (T2.trans Sc) O fun j hj => by have := ho j hj; omega)
end
section
variable {main : Bool} {J : JT} {h H Hb : List AObj} {K : Value → List AObj → Prop} {KV : Value → Prop} {HL : List AObj → Prop} {n0 : Nat}
def TillN (n : Nat) (H H' : List AObj) : Prop := H.length ≤ H'.length ∧ ∀ i, i < n → H'[i]? = H[i]?
theorem TillN.same {X : List Nat} (T : TillN Hb.length H h) (S : SameX X Hb H) : SameX X Hb h := ⟨Nat.le_trans S.1 T.1, fun i hi hx => by rw [T.2 i hi]; exact S.2 i hi hx⟩
theorem TillN.trans {n : Nat} {H1 H2 H3 : List AObj} (a : TillN n H1 H2) (b : TillN n H2 H3) : TillN n H1 H3 := ⟨Nat.le_trans a.1 b.1, fun i hi => (b.2 i hi).trans (a.2 i hi)⟩
theorem tillN_of {n : Nat} {X : List Nat} {H1 H2 : List AObj} (S : SameX X H1 H2) (hn : n ≤ H1.length) (hX : ∀ x ∈ X, n ≤ x) : TillN n H1 H2 := ⟨S.1, fun i hi => S.2 i (by omega) fun hx => by have := hX i hx; omega⟩
def Own3 (n : Nat) (H : List AObj) (a b c : List Int) (va vb vc : Value) : Prop :=
 ∃ oa ob oc, OwnX H 1 (a.map vint) a.length va oa ∧ OwnX H 1 (b.map vint) b.length vb ob ∧ OwnX H 1 (c.map vint) c.length vc oc ∧ (∀ j, oa = some j → n ≤ j ∧ ob ≠ some j ∧ oc ≠ some j) ∧ (∀ j, ob = some j → n ≤ j ∧ oc ≠ some j) ∧ (∀ j, oc = some j → n ≤ j)
theorem Own3.rot {n : Nat} {a b c : List Int} {va vb vc : Value} (O : Own3 n H a b c va vb vc) : Own3 n H b c a vb vc va := by
 obtain ⟨oa, ob, oc, A, B, C, h1, h2, h3⟩ := O
 exact ⟨ob, oc, oa, B, C, A, fun j hj => ⟨(h2 j hj).1, (h2 j hj).2, fun e => (h1 j e).2.1 hj⟩, fun j hj => ⟨h3 j hj, fun e => (h1 j e).2.2 hj⟩, fun j hj => (h1 j hj).1⟩
theorem Own3.keep {n : Nat} {a b c : List Int} {va vb vc : Value} {X : List Nat} {H' : List AObj} (O : Own3 n H a b c va vb vc) (S : SameX X H H') (hX : ∀ x ∈ X, x < n) : Own3 n H' a b c va vb vc := by
 obtain ⟨oa, ob, oc, A, B, C, h1, h2, h3⟩ := O
 refine ⟨oa, ob, oc, ownX_keep A S fun i hi hx => ?_, ownX_keep B S fun i hi hx => ?_, ownX_keep C S fun i hi hx => ?_, h1, h2, h3⟩
 ·have := h1 i hi; have := hX i hx; omega
 ·have := h2 i hi; have := hX i hx; omega
 ·have := h3 i hi; have := hX i hx; omega
theorem Own3.nil {n : Nat} : Own3 n H [] [] [] (.slice none 0 0) (.slice none 0 0) (.slice none 0 0) := ⟨none, none, none, ⟨rfl, rfl, .inl ⟨rfl, rfl, rfl⟩⟩, ⟨rfl, rfl, .inl ⟨rfl, rfl, rfl⟩⟩, ⟨rfl, rfl, .inl ⟨rfl, rfl, rfl⟩⟩, by simp, by simp, by simp⟩
theorem Own3.add {n : Nat} {a b c : List Int} {va vb vc : Value} {x : Int} {K : Value → Value → List AObj → Prop} (O : Own3 n H a b c va vb vc) (hl : a.length < 90000) (hn : n ≤ H.length)
  (hK : ∀ y v' H', TillN n H H' → Own3 n H' (a ++ [x]) b c v' vb vc → K y v' H') :
  (((1 * 1 : Nat) ≤ 16777216 ∧ (1 : Nat) ≤ 16777216 ∧ List.length [(vint 0)] = 1) ∧ aFill (zrep [(vint 0)] 1) [(0, 1, vint x)] fun c6 => aNewS 1 c6 H fun v7 h8 =>
   ((List.length [(vint 0)] = 1 ∧ 0 < (1 : Nat) ∧ 0 < (8 : Nat) ∧ (8 : Nat) ≤ 1024) ∧ aApp 1 va v7 h8 (K v7))) := by
 obtain ⟨oa, ob, oc, A, B, C, h1, h2, h3⟩ := O
 refine ⟨by decide, fillO (l := [vint x]) rfl rfl rfl (by decide) (fillI (qNew fun H1 p1 e1 S1 c1 l1 => ⟨by decide, ?_⟩))⟩
 have c1 : H1[p1]? = some (.cells [vint x] true 0) := c1
 have hS := S1.1
 refine ownX_more (ownX_keep A S1 (by simp)) (by omega) (by omega) (ownX_sli (ownX_new (s := 1) (n := 1) c1 rfl rfl)) fun v' H' p' e' O' S' => ?_
 have hb1 := ownX_lt B
 have hc1 := ownX_lt C
 have na : ∀ z ∈ oa.toList, n ≤ z := fun z hz => (h1 z (Option.mem_toList.1 hz)).1
 refine hK _ v' H' ((tillN_of S1 hn (by simp)).trans (tillN_of S' (by omega) na)) ⟨some p', ob, oc, ?_, ownX_keep (ownX_keep B S1 (by simp)) S' fun j hj hm => (h1 j (Option.mem_toList.1 hm)).2.1 hj, ownX_keep (ownX_keep C S1 (by simp)) S' fun j hj hm => (h1 j (Option.mem_toList.1 hm)).2.2 hj, fun j hj => ?_, h2, h3⟩
 ·rw [List.map_append, List.length_append]
  exact O'
 ·cases hj
  exact ⟨by omega, fun e => by have := hb1 _ e; omega, fun e => by have := hc1 _ e; omega⟩
set_option maxHeartbeats 800000 in
theorem good97 (hJ : Closed prog main J) {p : Pas} {heads : List Int} {w : List UInt8} {hv : Value} (f : pasOk p) (hh : headsOk heads) (sh : Sli H hv 1 heads.length (heads.map vint)) (hl : w.length ≤ heads.length) (hw : w.length ≤ 1000)
  (hK : ∀ H' ev bv nv, SameX [] H H' → Own3 H.length H' (endsR p heads w w.length) (daysR (shortAt p heads w) w.length) (daysR (hungAt p heads w) w.length) ev bv nv → K (.tuple ⟨[ev, bv, nv]⟩) H') : Good prog J 97 [.agg ⟨p.cells⟩, hv, strV w] H K := by
 refine g97 hJ fun ok => ?_
 rw [e97]
 refine qBox (l := p.cells) rfl fun H1 p3 e1 S1 c3 l1 => offI (ldI (v := vint p.grass) c3 rfl rfl ?_)
 refine fillO (l := [vint p.grass]) rfl rfl rfl (by decide) (fillO (l := [vint 0]) rfl rfl rfl (by rw [wrAt_length]; decide) (fillI ?_))
 refine qAl fun H2 px e2 S2 cx l2 => qStA (c := stC (p.grass, 0)) cx rfl rfl rfl fun Hb Sb cx' lb => ?_
 have c3b : Hb[p3]? = some (.cells p.cells true 0) := Sb.get (S2.get c3 (by simp)) (by simp; omega)
 have Tb : SameX [] H Hb := (S1.trans S2).thru Sb (by simp; omega)
 have hlb : H.length ≤ Hb.length := Tb.1
 refine l97_1 hJ (fun k : Nat => w.length - k) (fun k F H' => ∃ ev bv nv, k ≤ w.length ∧ SameX [px] Hb H' ∧ H'[px]? = some (.cells (stC (stdR p heads w k)) true 0) ∧ Own3 Hb.length H' (endsR p heads w k) (daysR (shortAt p heads w) k) (daysR (hungAt p heads w) k) ev bv nv ∧ F.ds = [] ∧ F.r 1 = hv ∧ F.r 2 = strV w ∧ F.r 3 = ptr p3 0 ∧ F.r 9 = ev ∧ F.r 10 = bv ∧ F.r 11 = nv ∧ F.r 12 = ptr px 0 ∧ F.r 13 = vint (k : Nat)) ?_ (s := 0)
  (.inl ⟨_, _, _, by omega, SameX.refl, cx', Own3.nil, rfl, rfl, rfl, rfl, rfl, rfl, rfl, rfl, rfl⟩)
 rintro k F Hc ⟨ev, bv, nv, hk, S, cxc, O, ds, r1, r2, r3, r9, r10, r11, r12, r13⟩ okc hnc
 rw [s97_1, r1, r2, r3, r9, r10, r11, r12, r13, ds]
 have TH : SameX [] H Hc := Tb.thru S (by simp; omega)
 refine lenStrI (lssI (cndI (fun hlt => ?_) fun hge => ?_))
 rotate_left
 ·have hkw : k = w.length := by omega
  subst hkw
  obtain ⟨oa, ob, oc, A, B, C, h1, h2, h3⟩ := id O
  refine retL_same ?_ (hK Hc ev bv nv TH ?_)
  ·intro v hv
   simp only [List.mem_cons, List.not_mem_nil, or_false] at hv
   rcases hv with rfl | rfl | rfl
   ·exact ownU A
   ·exact ownU B
   ·exact ownU C
  ·exact ⟨oa, ob, oc, A, B, C, fun j hj => ⟨by have := (h1 j hj).1; omega, (h1 j hj).2⟩, fun j hj => ⟨by have := (h2 j hj).1; omega, (h2 j hj).2⟩, fun j hj => by have := h3 j hj; omega⟩
 have hkl : k < w.length := by omega
 have hb : w[k]? = some (w.getD k 0) := by rw [List.getD_eq_getElem?_getD, List.getElem?_eq_getElem hkl]; rfl
 have hx : heads[k]? = some (heads.getD k 0) := by rw [List.getD_eq_getElem?_getD, List.getElem?_eq_getElem (by omega)]; rfl
 have hbd := headsOk_getD hh k
 have so := stdR_ok (rain := w) f hh k
 have shc := TH.sli sh (by simp)
 obtain ⟨hb0, hbl, get⟩ := sliBlk shc (by omega)
 have c3c := S.get c3b (by simp; omega)
 have l3 := lt_of_get c3c
 have lx := lt_of_get cxc
 have hSc := S.1
 have lxb := lt_of_get cx'
 -- behind a day
 have post : ∀ {F' : RG} {H4 : List AObj} {pq : Nat}, F'.ds = [] → F'.r 1 = hv → F'.r 2 = strV w → F'.r 3 = ptr p3 0 → F'.r 9 = ev → F'.r 10 = bv → F'.r 11 = nv → F'.r 12 = ptr px 0 → F'.r 13 = vint (k : Nat) → F'.r 14 = ptr pq 0 → F'.r 15 = .bool (shortAt p heads w k) → F'.r 16 = .bool (hungAt p heads w k) → SameX [] Hc H4 → H4[pq]? = some (.cells (stC (stdR p heads w (k + 1))) true 0) → Hc.length ≤ pq →
   W prog J 60 H.length 97 (subC [1, 1, 1, 0, 1, 0, 0, 1, 0, 0, 1] (codeOf f97)) F' H4 (contX pl97 prog J 60 H.length 97 ct97 [1, 1, 1, 0, 1, 0, 0, 1, 0, 0, 1] (codeOf f97) [Nx H.length (fun k : Nat => w.length - k) (fun k F H' => ∃ ev bv nv, k ≤ w.length ∧ SameX [px] Hb H' ∧ H'[px]? = some (.cells (stC (stdR p heads w k)) true 0) ∧ Own3 Hb.length H' (endsR p heads w k) (daysR (shortAt p heads w) k) (daysR (hungAt p heads w) k) ev bv nv ∧ F.ds = [] ∧ F.r 1 = hv ∧ F.r 2 = strV w ∧ F.r 3 = ptr p3 0 ∧ F.r 9 = ev ∧ F.r 10 = bv ∧ F.r 11 = nv ∧ F.r 12 = ptr px 0 ∧ F.r 13 = vint (k : Nat)) k] (RetQ prog [.tmp 6, .tmp 7, .tmp 8] H.length K)) := by
  intro F' H4 pq q0 q1 q2 q3 q9 q10 q11 q12 q13 q14 q15 q16 S4 cq hpq
  rw [s97_2, q9, q10, q12, q13, q14, q15]
  have cx4 := S4.get cxc (by simp)
  have h4 := S4.1
  refine load_part (c := stC (stdR p heads w (k + 1))) cq (by simp [stC]) rfl rfl (qStA (c := stC (stdR p heads w (k + 1))) cx4 rfl rfl rfl fun H5 S5 cx5 l5 => offI (ldI (v := vint (stdR p heads w (k + 1)).1) cx5 rfl rfl ?_))
  have O5 : Own3 Hb.length H5 (endsR p heads w k) (daysR (shortAt p heads w) k) (daysR (hungAt p heads w) k) ev bv nv := (O.keep S4 (by simp)).keep S5 (by simp; omega)
  have Q5 : SameX [px] Hb H5 := (S.trans S4.weak0).trans S5
  have d1 : (endsR p heads w k).length ≤ 1000 := by simp [endsR]; omega
  have d2 := daysR_few (q := shortAt p heads w) (k := k)
  have d3 := daysR_few (q := hungAt p heads w) (k := k)
  refine O5.add (by omega) (by have := Q5.1; omega) fun _ ev' H6 T6 O6 => ?_
  rw [← endsR_succ] at O6
  have Q6 : SameX [px] Hb H6 := T6.same Q5
  have cx6 : H6[px]? = some (.cells (stC (stdR p heads w (k + 1))) true 0) := by rw [T6.2 px lxb]; exact cx5
  -- behind the bites
  have post2 : ∀ {F2 : RG} {H7 : List AObj} {bv' : Value}, F2.ds = [] → F2.r 1 = hv → F2.r 2 = strV w → F2.r 3 = ptr p3 0 → F2.r 9 = ev' → F2.r 10 = bv' → F2.r 11 = nv → F2.r 12 = ptr px 0 → F2.r 13 = vint (k : Nat) → F2.r 16 = .bool (hungAt p heads w k) → TillN Hb.length H6 H7 → Own3 Hb.length H7 (endsR p heads w (k + 1)) (daysR (shortAt p heads w) (k + 1)) (daysR (hungAt p heads w) k) ev' bv' nv →
    W prog J 60 H.length 97 (subC [1, 1, 1, 0, 1, 0, 0, 1, 0, 0, 1, 1, 1, 1] (codeOf f97)) F2 H7 (contX pl97 prog J 60 H.length 97 ct97 [1, 1, 1, 0, 1, 0, 0, 1, 0, 0, 1, 1, 1, 1] (codeOf f97) [Nx H.length (fun k : Nat => w.length - k) (fun k F H' => ∃ ev bv nv, k ≤ w.length ∧ SameX [px] Hb H' ∧ H'[px]? = some (.cells (stC (stdR p heads w k)) true 0) ∧ Own3 Hb.length H' (endsR p heads w k) (daysR (shortAt p heads w) k) (daysR (hungAt p heads w) k) ev bv nv ∧ F.ds = [] ∧ F.r 1 = hv ∧ F.r 2 = strV w ∧ F.r 3 = ptr p3 0 ∧ F.r 9 = ev ∧ F.r 10 = bv ∧ F.r 11 = nv ∧ F.r 12 = ptr px 0 ∧ F.r 13 = vint (k : Nat)) k] (RetQ prog [.tmp 6, .tmp 7, .tmp 8] H.length K)) := by
   intro F2 H7 bv' t0 t1 t2 t3 t9 t10 t11 t12 t13 t16 T7 O7
   rw [s97_3, t11, t13, t16]
   have Q7 := T7.same Q6
   have cx7 : H7[px]? = some (.cells (stC (stdR p heads w (k + 1))) true 0) := by rw [T7.2 px lxb]; exact cx6
   refine cndB (fun hy => ?_) fun hno => ?_
   ·refine O7.rot.rot.add (by omega) (by have := Q7.1; omega) fun _ nv' H8 T8 O8 => addI (by omega) ⟨k + 1, by dsimp only; omega, .inl ⟨ev', bv', nv', by omega, T8.same Q7, by rw [T8.2 px lxb]; exact cx7, ?_, t0, t1, t2, t3, t9, t10, rfl, t12, by show vint _ = vint _; congr 1⟩⟩
    have := O8.rot
    rw [daysR_succ (q := hungAt p heads w), if_pos hy]
    exact this
   ·refine addI (by omega) ⟨k + 1, by dsimp only; omega, .inl ⟨ev', bv', nv, by omega, Q7, cx7, ?_, t0, t1, t2, t3, t9, t10, t11, t12, by show vint _ = vint _; congr 1⟩⟩
    rw [daysR_succ (q := hungAt p heads w), if_neg (by rw [hno]; decide), List.append_nil]
    exact O7
  refine cndB (fun hy => ?_) fun hno => hold.2 ?_
  ·refine O6.rot.add (by omega) (by have := Q6.1; omega) fun _ bv' H7 T7 O7 => hold.2 (post2 q0 q1 q2 q3 rfl rfl q11 q12 q13 q16 T7 ?_)
   have := O7.rot.rot
   rw [daysR_succ (q := shortAt p heads w), if_pos hy]
   exact this
  ·refine post2 q0 q1 q2 q3 rfl q10 q11 q12 q13 q16 ⟨Nat.le_refl _, fun _ _ => rfl⟩ ?_
   rw [daysR_succ (q := shortAt p heads w), if_neg (by rw [hno]; decide), List.append_nil]
   exact O6
 have sb : ∀ {H'}, SameX [] Hc H' → SameB (some [p3, px, hb0]) Hc H' := fun S' b hb' => S'.2 b (by simp at hb'; rcases hb' with rfl | rfl | rfl <;> omega) (by simp)
 refine ⟨[p3, px, hb0], load_part (c := p.cells) c3c (by simp [Pas.cells]) rfl rfl ⟨by simp [RdOk, ptrBlk], load_part (c := stC (stdR p heads w k)) cxc (by simp [stC]) rfl rfl ⟨by simp [RdOk, ptrBlk], get SameX.refl hx fun o => ⟨by simp [RdOk, ptrBlk], byteI hb (eqlW ⟨?_, ?_⟩)⟩⟩⟩⟩
 ·refine good133 hJ f so ⟨hbd.1, by omega⟩ fun H3 S3 => ext30 (ext31 (ext32 (qAl fun H4 pq e4 S4 cq l4 => ⟨sb (S3.trans S4), ?_⟩)))
  have h3 := S3.1
  refine qStA (c := stC (stdR p heads w (k + 1))) cq rfl rfl rfl fun H5 S5 cq5 l5 => hold.2 ?_
  exact post ds r1 r2 r3 r9 r10 r11 r12 r13 rfl rfl rfl ((S3.trans S4).thru S5 (by simp; omega)) cq5 (by omega)
 ·refine qAl fun H3 pq e3 S3 cq l3 => ⟨sb S3, ?_⟩
  refine good133 hJ f so ⟨hbd.1, by omega⟩ fun H4 S4 => ext30 (ext31 (ext32 ?_))
  have h4 := S4.1
  refine qStA (c := stC (stdR p heads w (k + 1))) (S4.get cq (by simp)) rfl rfl rfl fun H5 S5 cq5 l5 => hold.2 ?_
  exact post ds r1 r2 r3 r9 r10 r11 r12 r13 rfl rfl rfl ((S3.trans S4).thru S5 (by simp; omega)) cq5 (by omega)
theorem good100 (hJ : Closed prog main J) {a fr dy : Nat} {n : Int} (ha : a ≤ 8) (hfd : fr + dy ≤ a) (hK : ∀ H' v o, SameX [] H H' → OwnX H' 1 ((stayH a fr dy n).map vint) (stayH a fr dy n).length v (some o) → H.length ≤ o → K v H') : Good prog J 100 [vint (a : Nat), vint n, vint (fr : Nat), vint (dy : Nat)] H K := by
 refine g100 hJ fun ok => ?_
 rw [e100]
 have hrm : (2000 : Nat) < room := by decide
 refine ⟨by decide, by omega, Int.le_refl _, by omega, ?_⟩
 rw [Int.toNat_natCast]
 have zl : ∀ k, zrep [vint 0] k = (List.replicate k (0 : Int)).map vint := by
  intro k
  induction k with
  | zero => rfl
  | succ k ih =>
   show [vint 0] ++ zrep [vint 0] k = _
   rw [ih, List.replicate_succ]
   rfl
 generalize hH5 : H ++ [AObj.cells (zrep [vint 0] a) true 0] = H5
 have c5 : H5[H.length]? = some (.cells ((stayH a fr 0 n).map vint) true 0) := by rw [← hH5, zl, stayH_zero]; simp
 have S5 : SameX [] H H5 := by rw [← hH5]; exact SameX.refl.app
 generalize hpl : H.length = pl at c5
 refine l100_1 hJ (fun i : Nat => dy - i) (fun i F H' => i ≤ dy ∧ SameX [pl] H5 H' ∧ H'[pl]? = some (.cells ((stayH a fr i n).map vint) true 0) ∧ F.ds = [] ∧ F.r 1 = vint n ∧ F.r 2 = vint (fr : Nat) ∧ F.r 3 = vint (dy : Nat) ∧ F.r 9 = .slice (some ⟨pl, 0, none⟩) a a ∧ F.r 10 = vint ((fr + i : Nat) : Int)) ?_ (s := 0)
  (.inl ⟨by omega, SameX.refl, c5, rfl, rfl, rfl, rfl, rfl, rfl⟩)
 rintro i F H' ⟨hi, S, cl, ds, r1, r2, r3, r9, r10⟩ okc hnc
 rw [s100_1, r1, r2, r3, r9, r10, ds]
 refine addI (by omega) (lssI (cndI (fun hlt => ?_) fun hge => ?_))
 ·refine idxI ⟨by omega, by omega⟩ ?_
  have e1 : 0 + ((fr + i : Nat) : Int).toNat * 1 = fr + i := by omega
  rw [e1]
  refine qSt cl (by simp [stayH_len]; omega) rfl rfl fun H8 S8 c8' l8 => addI (by omega) ⟨i + 1, by dsimp only; omega, .inl ⟨by omega, S.trans S8, ?_, ds, r1, r2, r3, r9, by show vint _ = vint _; congr 1⟩⟩
  rw [c8', ← List.map_set, stayH_set (by omega)]
 ·have hid : i = dy := by omega
  subst hid
  refine retL_same (by simp [unk]) (hK H' (.slice (some ⟨pl, 0, none⟩) a a) pl (S5.thru S (by simp; omega)) ⟨by simp, knV _, .inr ⟨pl, a, 0, rfl, by rw [stayH_len], cl, .inr (by rw [stayH_len])⟩⟩ (by omega))
theorem good99 (hJ : Closed prog main J) {p : Pas} {heads : List Int} {s : SkyR} {hv : Value} (f : pasOk p) (g : skyOk s) (hh : headsOk heads) (sh : Sli H hv 1 heads.length (heads.map vint)) (hl : s.days ≤ heads.length)
  (hK : ∀ H', SameX [] H H' → K (.tuple ⟨[vint (((rainsB s).filter fun w => decide (starvR p heads w < 0)).length : Nat), vint ((rainsB s).length : Nat)]⟩) H') : Good prog J 99 [.agg ⟨p.cells⟩, hv, .agg ⟨s.cells⟩] H K := by
 refine g99 hJ fun ok => ?_
 rw [e99]
 obtain ⟨g1, g2, g3⟩ := id g
 refine qBox (l := p.cells) rfl fun H1 p3 e1 S1 c3 l1 => qBox (l := s.cells) rfl fun H2 p5 e2 S2 c5 l2 => load_part (c := s.cells) c5 (by simp [SkyR.cells]) rfl rfl ?_
 refine good91 hJ g fun H3 av ao S3 A3 hao => ?_
 have T3 := (S1.trans S2).trans S3
 have c33 := S3.get (S2.get c3 (by simp)) (by simp)
 have hfew := rainsB_few g
 refine l99_1 hJ (fun i : Nat => (rainsB s).length - i) (fun i F H' => SameX [] H3 H' ∧ i ≤ (rainsB s).length ∧ F.ds = [] ∧ F.r 1 = hv ∧ F.r 3 = ptr p3 0 ∧ F.r 8 = vint ((((rainsB s).take i).filter fun w => decide (starvR p heads w < 0)).length : Nat) ∧ F.r 9 = av ∧ F.r 10 = vint (i : Nat)) ?_ (s := 0)
  (.inl ⟨SameX.refl, by omega, rfl, rfl, rfl, rfl, rfl, rfl⟩)
 rintro i F Hc ⟨S, hi, ds, r1, r3, r8, r9, r10⟩ okc hnc
 have Ac := ownX_keep A3 S (by simp)
 rw [s99_1, r1, r3, r8, r9, r10, ds]
 refine lenI (ownX_sli Ac) (lssI (cndI (fun hlt => ?_) fun hge => ?_))
 rotate_left
 ·have hie : i = (rainsB s).length := by omega
  subst hie
  rw [List.take_of_length_le (Nat.le_refl _)]
  exact lenI (ownX_sli Ac) (retL_same (nu2 (by simp [unk]) (by simp [unk])) (hK Hc (T3.trans S)))
 have hil : i < (rainsB s).length := by omega
 have hui : (rainsB s)[i]? = some (rainsB s)[i] := List.getElem?_eq_getElem hil
 have hwl := rainsB_len (List.getElem_mem hil)
 have et : (rainsB s).take (i + 1) = (rainsB s).take i ++ [(rainsB s)[i]] := by
  rw [List.take_add_one, hui]
  rfl
 have hfl : (((rainsB s).take i).filter fun w => decide (starvR p heads w < 0)).length ≤ i := by
  have := List.length_filter_le (fun w => decide (starvR p heads w < 0)) ((rainsB s).take i)
  rw [List.length_take] at this
  omega
 refine load_part (c := p.cells) (S.get c33 (by simp)) (by simp [Pas.cells]) rfl rfl (strGet rfl (ownX_sli Ac) hui fun q => ?_)
 refine good97 hJ f hh ((T3.trans S).sli sh (by simp)) (by omega) (by omega) fun H4 ev bv nv S4 O4 => ext30 (ext31 (ext32 ?_))
 obtain ⟨_, _, oc, _, _, C, _, _, _⟩ := O4
 have hz := daysR_none (q := hungAt p heads (rainsB s)[i]) (k := (rainsB s)[i].length)
 refine lenI (ownX_sli C) (eqlI (cndI (fun h0 => ?_) fun h0 => ?_))
 ·refine addI (by omega) (addI (by omega) ⟨i + 1, by dsimp only; omega, .inl ⟨S.trans S4, by omega, ds, r1, r3, ?_, r9, by show vint _ = vint _; congr 1⟩⟩)
  have hs : starvR p heads (rainsB s)[i] < 0 := hz.1 (by omega)
  show vint _ = vint _
  rw [et, List.filter_append, List.length_append]
  simp [hs]
 ·refine addI (by omega) ⟨i + 1, by dsimp only; omega, .inl ⟨S.trans S4, by omega, ds, r1, r3, ?_, r9, by show vint _ = vint _; congr 1⟩⟩
  have hs : ¬ starvR p heads (rainsB s)[i] < 0 := fun e => h0 (by have := hz.2 e; omega)
  show F.r 8 = _
  rw [r8, et, List.filter_append, List.length_append]
  simp [hs]
theorem good95 (hJ : Closed prog main J) {p : Pas} {s : SkyR} {n : Int} {fr dy : Nat} (f : pasOk p) (g : skyOk s) (hn : 0 ≤ n ∧ n ≤ 40) (hfd : ((fr + dy : Nat) : Int) ≤ s.days)
  (hK : ∀ H', SameX [] H H' → K (.bool (stayB p s n fr dy)) H') : Good prog J 95 [.agg ⟨p.cells⟩, .agg ⟨s.cells⟩, vint n, vint (fr : Nat), vint (dy : Nat)] H K := by
 refine g95 hJ fun ok => ?_
 rw [e95]
 obtain ⟨g1, g2, g3⟩ := id g
 obtain ⟨a, ha⟩ := Int.eq_ofNat_of_zero_le (by omega : (0 : Int) ≤ s.days)
 have ea : s.days.toNat = a := by omega
 refine qBox (l := p.cells) rfl fun H1 p1 e1 S1 c1 l1 => qBox (l := s.cells) rfl fun H2 p2 e2 S2 c2 l2 => ?_
 have c12 := S2.get c1 (by simp)
 have b1 := lt_of_get c12
 have b2 := lt_of_get c2
 have T2 := S1.trans S2
 refine ⟨[p1, p2], load_part (c := p.cells) c12 (by simp [Pas.cells]) rfl rfl ⟨by simp [RdOk, ptrBlk], offI (ldI (v := vint s.days) c2 rfl rfl ⟨by simp [RdOk, ptrBlk], load_part (c := s.cells) c2 (by simp [SkyR.cells]) rfl rfl ⟨by simp [RdOk, ptrBlk], ?_⟩⟩)⟩⟩
 rw [ha]
 refine good100 hJ (a := a) (by omega) (by omega) fun H3 v o S3 O3 ho => ⟨sbTwo S3 b1 b2 (by simp) (by simp), ?_⟩
 refine good99 hJ f g (stayH_ok hn) (ownX_sli O3) (by rw [stayH_len]; omega) fun H4 S4 => ⟨sbTwo (S3.trans S4) b1 b2 (by simp) (by simp), ext0 (ext1 (eqlI (retL_same (by simp [unk]) ?_)))⟩
 have := hK H4 ((T2.trans S3).trans S4)
 have e : decide ((((rainsB s).filter fun w => decide (starvR p (stayH a fr dy n) w < 0)).length : Int) = ((rainsB s).length : Int)) = stayB p s n fr dy := by
  unfold stayB fedB
  rw [ea, Int.toNat_natCast, Int.toNat_natCast]
  cases hall : (rainsB s).all fun w => decide (starvR p (stayH a fr dy n) w < 0) with
  | true =>
   rw [List.filter_eq_self.2 (fun w hw => List.all_eq_true.1 hall w hw)]
   exact decide_eq_true rfl
  | false =>
   refine decide_eq_false fun e => ?_
   have e' : ((rainsB s).filter fun w => decide (starvR p (stayH a fr dy n) w < 0)).length = (rainsB s).length := by omega
   have := List.length_filter_eq_length_iff.1 e'
   rw [List.all_eq_false] at hall
   obtain ⟨w, hw, hno⟩ := hall
   exact hno (this w hw)
 rw [e]
 exact this
end
end Go.Proofs.Ythnccaajpdnndaa
namespace Go.Proofs.Ythnccaajpdnndaa
open Go.Conc Go.Proofs.Try
set_option maxRecDepth 100000
set_option maxHeartbeats 4000000
set_option linter.unusedVariables false
section
variable {main : Bool} {J : JT} {n0 : Nat} {h : List AObj} {K : Value → List AObj → Prop}
theorem at24 : prog.funcs[24]? = some f24 := by kernel_rfl
theorem body24 : f24.body = some (codeOf f24) := by kernel_rfl
def pl24 : Plans := [(2, false, .take 0 (.take 1 (.take 2 (.take 3 (.take 4 (.take 5 (.take 7 (.take 8 (.take 9 (.take 10 (.take 11 (.take 12 (.last 6 true (.last 13 true (.last 14 true (.last 15 true (.take 16 (.last 17 false (.fin))))))))))))))))))),
 (4, false, .take 0 (.take 1 (.take 2 (.take 3 (.take 4 (.take 6 (.take 7 (.take 8 (.last 5 true (.last 9 true (.last 10 true (.last 11 true (.take 12 (.last 13 false (.fin)))))))))))))))]
def ct24 : Cuts := .go
theorem pok24 : plansOk prog pl24 (codeOf f24) = true := by kernel_rfl
theorem e24 {a0 : Value} : W prog J 55 h.length 24 (codeOf f24) (RG.mk (regs [a0]) []) h (RetQ prog [.cell 2 31] h.length K) =
(aAlloc [(vint 0), (vint 0), (vint 0), (vint 0), (vint 0), (vint 0)] h fun v1 h2 =>
 Good prog J 23 [a0, (vint 3), (vint 30)] h2 fun v3 h4 =>
(((3 * 1 : Nat) ≤ 16777216 ∧ (3 : Nat) ≤ 16777216 ∧ List.length [(vint 0)] = 1) ∧ aFill (zrep [(vint 0)] 3) [(0, 1, (vint 1)), (1, 1, (vint 1)), (2, 1, (vint 2))] fun c5 =>
 aNewS 3 c5 h4 fun v6 h7 =>
 Good prog J 69 [a0, (vint 0), v6] h7 fun v8 h9 =>
 Good prog J 26 [a0, (vint 5)] h9 fun v10 h11 =>
(((3 * 1 : Nat) ≤ 16777216 ∧ (3 : Nat) ≤ 16777216 ∧ List.length [(vint 0)] = 1) ∧ aFill (zrep [(vint 0)] 3) [(0, 1, (vint 1)), (1, 1, (vint 2)), (2, 1, v10)] fun c12 =>
 aNewS 3 c12 h11 fun v13 h14 =>
 Good prog J 69 [a0, (vint 0), v13] h14 fun v15 h16 =>
 aFill [(vint 0), (vint 0), (vint 0), (vint 0), (vint 0), (vint 0)] [(1, 1, v3), (2, 1, v8), (5, 1, v15)] fun c17 =>
 aAlloc [(vint 0), (vint 0), (vint 0), (vint 0), (vint 0), (vint 0)] h16 fun v18 h19 =>
 aStore 6 v18 (Value.agg ⟨c17⟩) h19 fun h20 =>
(∃ B, aOff v18 1 fun v21 =>
 aLoad false 1 v21 h20 fun v22 =>
 RdOk (some B) (ptrBlk v21) ∧ (aOff v18 1 fun v23 =>
 aLoad false 1 v23 h20 fun v24 =>
 RdOk (some B) (ptrBlk v23) ∧ (aOff v18 1 fun v25 =>
 aLoad false 1 v25 h20 fun v26 =>
 RdOk (some B) (ptrBlk v25) ∧ (aBin prog .quo 3 v26 (vint 2) fun v27 =>
 aOff v18 1 fun v28 =>
 aLoad false 1 v28 h20 fun v29 =>
 RdOk (some B) (ptrBlk v28) ∧ (Good prog J 26 [a0, v24] h20 fun v30 h31 =>
 SameB (some B) h20 h31 ∧ (Good prog J 23 [a0, v27, v29] h31 fun v32 h33 =>
 SameB (some B) h20 h33 ∧ ((((2 * 1 : Nat) ≤ 16777216 ∧ (2 : Nat) ≤ 16777216 ∧ List.length [(vint 0)] = 1) ∧ aFill (zrep [(vint 0)] 2) [(0, 1, v30), (1, 1, v32)] fun c34 =>
 aNewS 2 c34 h33 fun v35 h36 =>
 SameB (some B) h20 h36 ∧ (Good prog J 69 [a0, v22, v35] h36 fun v37 h38 =>
 SameB (some B) h20 h38 ∧ (aOff v18 0 fun v39 =>
 aStore 1 v39 v37 h38 fun h40 =>
 aOff v18 2 fun v41 =>
 aLoad false 1 v41 h40 fun v42 =>
 aOff v18 2 fun v43 =>
 aLoad false 1 v43 h40 fun v44 =>
 aBin prog .add 3 v44 (vint 5) fun v45 =>
 aMin (vint 9) [v45] fun v46 =>
 Good prog J 23 [a0, v42, v46] h40 fun v47 h48 =>
 aOff v18 3 fun v49 =>
 aStore 1 v49 v47 h48 fun h50 =>
(∃ B, aOff v18 1 fun v51 =>
 aLoad false 1 v51 h50 fun v52 =>
 RdOk (some B) (ptrBlk v51) ∧ (aBin prog .quo 3 v52 (vint 2) fun v53 =>
 aOff v18 1 fun v54 =>
 aLoad false 1 v54 h50 fun v55 =>
 RdOk (some B) (ptrBlk v54) ∧ (Good prog J 26 [a0, v53] h50 fun v56 h57 =>
 SameB (some B) h50 h57 ∧ (Good prog J 26 [a0, v55] h57 fun v58 h59 =>
 SameB (some B) h50 h59 ∧ ((((4 * 1 : Nat) ≤ 16777216 ∧ (4 : Nat) ≤ 16777216 ∧ List.length [(vint 0)] = 1) ∧ aFill (zrep [(vint 0)] 4) [(0, 1, (vint 1)), (1, 1, (vint 2)), (2, 1, v56), (3, 1, v58)] fun c60 =>
 aNewS 4 c60 h59 fun v61 h62 =>
 SameB (some B) h50 h62 ∧ (Good prog J 69 [a0, (vint 0), v61] h62 fun v63 h64 =>
 SameB (some B) h50 h64 ∧ (aOff v18 4 fun v65 =>
 aStore 1 v65 v63 h64 fun h66 =>
 aLoad true 6 v18 h66 fun v67 =>
 aStore 6 v1 v67 h66 fun h68 =>
 RetQ prog [.cell 2 31] h.length K .ret (RG.p (RG.p (RG.p (RG.p (RG.p (RG.p (RG.p (RG.p (RG.p (RG.p (RG.p (RG.p (RG.p (RG.p (RG.p (RG.p (RG.p (RG.p (RG.p (RG.p (RG.p (RG.p (RG.p (RG.p (RG.p (RG.p (RG.p (RG.p (RG.p (RG.p (RG.p (RG.p (RG.p (RG.p (RG.p (RG.p (RG.p (RG.p (RG.p (RG.p (RG.p (RG.p (RG.p (RG.p (RG.p (RG.p (RG.p (RG.p (RG.p (RG.p (RG.p (RG.p (RG.p (RG.mk (regs [a0]) []) 2 v1) 4 a0) 5 v3) 6 a0) 7 v6) 8 v8) 9 a0) 10 a0) 11 v10) 12 v13) 13 v15) 14 (Value.agg ⟨c17⟩)) 3 v18) 15 a0) 16 v21) 17 v22) 18 a0) 19 v23) 20 v24) 22 a0) 23 v25) 24 v26) 25 v27) 26 v28) 27 v29) 21 v30) 28 v32) 29 v35) 30 v37) 31 v39) 32 a0) 33 v41) 34 v42) 35 v43) 36 v44) 37 v45) 38 v46) 39 v47) 40 v49) 41 a0) 42 a0) 43 v51) 44 v52) 45 v53) 47 a0) 48 v54) 49 v55) 46 v56) 50 v58) 51 v61) 52 v63) 53 v65) 54 v67) h68))))))))))))))))))))) := top_eq pok24 ct24 (by kernel_rfl)
theorem g24 (hJ : Closed prog main J) {a0 : Value} (hs : heapOk h → W prog J 55 h.length 24 (codeOf f24) (RG.mk (regs [a0]) []) h (RetQ prog [.cell 2 31] h.length K)) : Good prog J 24 [a0] h K :=
 good_of_W hJ mixed at24 body24 (by kernel_rfl) (Nat.le_of_ble_eq_true rfl) hs
theorem at25 : prog.funcs[25]? = some f25 := by kernel_rfl
theorem body25 : f25.body = some (codeOf f25) := by kernel_rfl
def pl25 : Plans := [(2, false, .take 0 (.take 1 (.take 2 (.take 4 (.take 5 (.take 6 (.last 3 true (.take 8 (.last 7 true (.last 9 false (.take 10 (.last 11 false (.fin)))))))))))))]
def ct25 : Cuts := .go
theorem pok25 : plansOk prog pl25 (codeOf f25) = true := by kernel_rfl
theorem e25 {a0 a1 : Value} : W prog J 21 h.length 25 (codeOf f25) (RG.mk (regs [a0, a1]) []) h (RetQ prog [.cell 4 24] h.length K) =
(aAlloc [(vint 0), (vint 0), (vint 0)] h fun v1 h2 =>
 Good prog J 23 [a0, (vint 1), a1] h2 fun v3 h4 =>
 aFill [(vint 0), (vint 0), (vint 0)] [(0, 1, v3)] fun c5 =>
 aAlloc [(vint 0), (vint 0), (vint 0)] h4 fun v6 h7 =>
 aStore 3 v6 (Value.agg ⟨c5⟩) h7 fun h8 =>
(∃ B, aOff v6 0 fun v9 =>
 aLoad false 1 v9 h8 fun v10 =>
 RdOk (some B) (ptrBlk v9) ∧ (aOff v6 0 fun v11 =>
 aLoad false 1 v11 h8 fun v12 =>
 RdOk (some B) (ptrBlk v11) ∧ (Good prog J 23 [a0, (vint 1), v10] h8 fun v13 h14 =>
 SameB (some B) h8 h14 ∧ (aOff v6 1 fun v15 =>
 Good prog J 23 [a0, (vint 1), v12] h14 fun v16 h17 =>
 SameB (some B) h8 h17 ∧ (aStore 1 v15 v13 h17 fun h18 =>
 aOff v6 2 fun v19 =>
 aStore 1 v19 v16 h18 fun h20 =>
 aLoad true 3 v6 h20 fun v21 =>
 aStore 3 v1 v21 h20 fun h22 =>
 RetQ prog [.cell 4 24] h.length K .ret (RG.p (RG.p (RG.p (RG.p (RG.p (RG.p (RG.p (RG.p (RG.p (RG.p (RG.p (RG.p (RG.p (RG.p (RG.p (RG.p (RG.p (RG.mk (regs [a0, a1]) []) 4 v1) 6 a0) 7 a1) 8 v3) 9 (Value.agg ⟨c5⟩)) 5 v6) 10 a0) 11 v9) 12 v10) 14 a0) 15 v11) 16 v12) 13 v13) 18 v15) 17 v16) 19 v19) 20 v21) h22)))))) := top_eq pok25 ct25 (by kernel_rfl)
theorem g25 (hJ : Closed prog main J) {a0 a1 : Value} (hs : heapOk h → W prog J 21 h.length 25 (codeOf f25) (RG.mk (regs [a0, a1]) []) h (RetQ prog [.cell 4 24] h.length K)) : Good prog J 25 [a0, a1] h K :=
 good_of_W hJ mixed at25 body25 (by kernel_rfl) (Nat.le_of_ble_eq_true rfl) hs
end
end Go.Proofs.Ythnccaajpdnndaa
namespace Go.Proofs.Ythnccaajpdnndaa
open Go.Conc Go.Proofs.Try
set_option maxRecDepth 100000
section
variable {main : Bool} {J : JT} {h H : List AObj} {K : Value → List AObj → Prop} {KV : Value → Prop} {HL : List AObj → Prop} {n0 : Nat} {ns : List Int} {k : Nat}
theorem quoZ {t : TypeId} {a b : Int} (ha : 0 ≤ a ∧ a ≤ 1000000) (hb : 0 < b) (hk : KV (vint (a / b))) : aBin prog .quo t (vint a) (vint b) KV := by
 have h1 : Int.tdiv a b = a / b := Int.tdiv_eq_ediv_of_nonneg ha.1
 have h2 : 0 ≤ a / b := Int.ediv_nonneg ha.1 (by omega)
 have h3 : a / b ≤ a := Int.ediv_le_self _ ha.1
 simp only [aBin, aInt, true_and]
 rw [h1, wrap64 (by omega) (by omega)]
 exact ⟨by omega, hk⟩
theorem hxLt (a : HX h H ns k) : h.length < H.length := by
 obtain ⟨nv, k1, s, rest, rfl, _⟩ := a
 rw [hf_len]
 omega
theorem ofZ (hJ : Closed prog main J) (a : HX h H ns k) (hk : k < 1000000) {x : Int} {others : List Int} {p n c : Nat} (hp : H[p]? = some (.cells (others.map vint) true 0)) (hne : p ≠ h.length) (hn : others.length = n) (hl : n < 1000)
  (hK : ∀ y H', (y = x ∨ y ∈ others) → SameX [h.length] H H' → H'.length = H.length → HX h H' ns (k + 1) → K (vint y) H') : Good prog J 69 [ptr h.length 0, vint x, .slice (some ⟨p, 0, none⟩) n c] H K := by
 subst hn
 obtain ⟨nv, k1, s, rest, rfl, b1, b2, b3⟩ := a
 refine good69 hJ (hf_hand b3.list b3.sane (by omega) b2.1 b2.2) (others := others) (fun h' hd => ?_) (by omega) fun y h1 hy hd => ?_
 ·obtain ⟨k', s', c1, c2, c3, rfl⟩ := hf_dealt hd
  have S := hf_same (h := h) (nv := nv) (k1 := k1) (k2 := k') (s1 := s) (s2 := s') (rest := rest) (g := [])
  rw [List.append_nil] at S
  exact sli_new (wr := true) (sz := 0) (S.get hp (by simpa using hne)) (by simp) (kn_ints _)
 ·obtain ⟨k', s', c1, c2, c3, rfl⟩ := hf_dealt hd
  have S := hf_same (h := h) (nv := nv) (k1 := k1) (k2 := k') (s1 := s) (s2 := s') (rest := rest) (g := [])
  rw [List.append_nil] at S
  exact hK y _ hy S (by simp [hf_len]) ⟨nv, k', s', rest, rfl, by omega, ⟨c2, c3⟩, b3⟩
theorem good25 (hJ : Closed prog main J) (a : HX h H ns k) (hk : k < 400000) {D : Int} (hD : 1 ≤ D ∧ D ≤ 8)
  (hK : ∀ s H', skyOk s → s.days ≤ D → SameX [h.length] H H' → HX h H' ns (k + 3) → K (.agg ⟨s.cells⟩) H') : Good prog J 25 [ptr h.length 0, vint D] H K := by
 refine g25 hJ fun ok => ?_
 rw [e25]
 have hlt := hxLt a
 refine qAl fun H1 p1 e1 S1 c1 l1 => ?_
 have a1 := a.same S1 (by simp)
 refine amX hJ a1 (by omega) (by omega) (by omega) fun d H2 b1 b2 S2 l2 a2 => ?_
 refine fillO (l := [vint d]) rfl rfl rfl (Nat.le_of_ble_eq_true rfl) (fillI ?_)
 refine qAl fun H3 p3 e3 S3 c3 l3 => qStA (c := [vint d, vint 0, vint 0]) c3 rfl rfl rfl fun H4 S4 c4 l4 => ?_
 have a4 := (a2.same S3 (by simp)).same S4 (by simp; omega)
 have hp4 : p3 < H4.length := lt_of_get c4
 refine ⟨[p3], offI (ldI (v := vint d) c4 rfl rfl ⟨by simp [RdOk, ptrBlk], offI (ldI (v := vint d) c4 rfl rfl ⟨by simp [RdOk, ptrBlk], ?_⟩)⟩)⟩
 refine amX hJ a4 (by omega) (by omega) (by omega) fun u H5 d1 d2 S5 l5 a5 => ⟨sbOne S5 hp4 (by simp; omega), offI ?_⟩
 refine amX hJ a5 (by omega) (by omega) (by omega) fun w H6 f1 f2 S6 l6 a6 => ⟨sbOne (S5.trans S6) hp4 (by simp; omega), ?_⟩
 have T6 : SameX [h.length] H4 H6 := S5.trans S6
 refine qSt (T6.get c4 (by simp; omega)) (by simp) rfl rfl fun H7 S7 c7 l7 => offI (qSt c7 (by simp) rfl rfl fun H8 S8 c8 l8 => ?_)
 refine load_part (c := (⟨d, u, w⟩ : SkyR).cells) c8 (by simp) rfl rfl ?_
 have T4 : SameX [h.length] H H4 := (((S1.weak0).trans S2).trans S3.weak0).thru S4 (by simp; omega)
 have T8 : SameX [h.length] H H8 := ((T4.trans T6).thru S7 (by simp; omega)).thru S8 (by simp; omega)
 have c1' := S8.get (S7.get (T6.get (S4.get (S3.get (S2.get c1 (by simp; omega)) (by simp)) (by simp; omega)) (by simp; omega)) (by simp; omega)) (by simp; omega)
 refine qStA (c := (⟨d, u, w⟩ : SkyR).cells) c1' rfl rfl rfl fun H9 S9 c9 l9 => ?_
 refine retQs rfl (resW_cell (gg := true) (s := 3) (by kernel_rfl) (load_part (c := (⟨d, u, w⟩ : SkyR).cells) c9 (by simp [SkyR.cells]) rfl rfl (resW_nil ?_)))
 refine hK ⟨d, u, w⟩ H9 ⟨by show 1 ≤ d ∧ d ≤ 8; omega, by show 1 ≤ u ∧ u ≤ d; omega, by show 1 ≤ w ∧ w ≤ d; omega⟩ (by show d ≤ D; omega) (T8.thru S9 (by simp; omega)) (((a6.same S7 (by simp; omega)).same S8 (by simp; omega)).same S9 (by simp; omega))
set_option maxHeartbeats 800000 in
theorem good24 (hJ : Closed prog main J) (a : HX h H ns k) (hk : k < 400000)
  (hK : ∀ p H', pasOk p → 3 ≤ p.bears ∧ p.bears ≤ 30 → SameX [h.length] H H' → HX h H' ns (k + 12) → K (.agg ⟨p.cells⟩) H') : Good prog J 24 [ptr h.length 0] H K := by
 refine g24 hJ fun ok => ?_
 rw [e24]
 have hlt := hxLt a
 refine qAl fun H1 p1 e1 S1 c1 l1 => ?_
 have a1 := a.same S1 (by simp)
 refine amX hJ a1 (by omega) (by omega) (by omega) fun b H2 b1 b2 S2 l2 a2 => ?_
 refine ⟨by decide, fillO (l := [vint 1]) rfl rfl rfl (Nat.le_of_ble_eq_true rfl) (fillO (l := [vint 1]) rfl rfl rfl (Nat.le_of_ble_eq_true rfl) (fillO (l := [vint 2]) rfl rfl rfl (Nat.le_of_ble_eq_true rfl) (fillI (qNew fun H3 p3 e3 S3 c3 l3 => ?_))))⟩
 have c3 : H3[p3]? = some (.cells (([1, 1, 2] : List Int).map vint) true 0) := c3
 refine ofZ hJ (a2.same S3 (by simp)) (by omega) c3 (by omega) rfl (by simp) fun dr H4 m4 S4 l4 a4 => ?_
 refine upX hJ a4 (by omega) (by omega) fun u5 H5 d1 d2 S5 l5 a5 => ?_
 refine ⟨by decide, fillO (l := [vint 1]) rfl rfl rfl (Nat.le_of_ble_eq_true rfl) (fillO (l := [vint 2]) rfl rfl rfl (Nat.le_of_ble_eq_true rfl) (fillO (l := [vint u5]) rfl rfl rfl (Nat.le_of_ble_eq_true rfl) (fillI (qNew fun H6 p6 e6 S6 c6 l6 => ?_))))⟩
 have c6 : H6[p6]? = some (.cells (([1, 2, u5] : List Int).map vint) true 0) := c6
 refine ofZ hJ (a5.same S6 (by simp)) (by omega) c6 (by omega) rfl (by simp) fun sl H7 m7 S7 l7 a7 => ?_
 refine fillO (l := [vint b]) rfl rfl rfl (Nat.le_of_ble_eq_true rfl) (fillO (l := [vint dr]) rfl rfl rfl (Nat.le_of_ble_eq_true rfl) (fillO (l := [vint sl]) rfl rfl rfl (Nat.le_of_ble_eq_true rfl) (fillI ?_)))
 refine qAl fun H8 p8 e8 S8 c8 l8 => qStA (c := [vint 0, vint b, vint dr, vint 0, vint 0, vint sl]) c8 rfl rfl rfl fun H9 S9 c9 l9 => ?_
 have a9 := (a7.same S8 (by simp)).same S9 (by simp; omega)
 have hp9 : p8 < H9.length := lt_of_get c9
 have hdr : 0 ≤ dr ∧ dr ≤ 2 := by
  rcases m4 with h | h
  ·omega
  ·simp only [List.mem_cons, List.not_mem_nil, or_false] at h
   omega
 have hsl : 0 ≤ sl ∧ sl ≤ 5 := by
  rcases m7 with h | h
  ·omega
  ·simp only [List.mem_cons, List.not_mem_nil, or_false] at h
   omega
 refine ⟨[p8], offI (ldI (v := vint b) c9 rfl rfl ⟨by simp [RdOk, ptrBlk], offI (ldI (v := vint b) c9 rfl rfl ⟨by simp [RdOk, ptrBlk], offI (ldI (v := vint b) c9 rfl rfl ⟨by simp [RdOk, ptrBlk], quoZ (by omega) (by decide) (offI (ldI (v := vint b) c9 rfl rfl ⟨by simp [RdOk, ptrBlk], ?_⟩))⟩)⟩)⟩)⟩
 have T9 : ∀ {H'}, SameX [h.length] H9 H' → SameB (some [p8]) H9 H' := fun S => sbOne S hp9 (by simp; omega)
 refine upX hJ a9 (by omega) (by omega) fun u10 H10 f1 f2 S10 l10 a10 => ⟨T9 S10, ?_⟩
 refine amX hJ a10 (by omega) (by omega) (by omega) fun u11 H11 g1 g2 S11 l11 a11 => ⟨T9 (S10.trans S11), ?_⟩
 have Q11 : SameX [h.length] H9 H11 := S10.trans S11
 refine ⟨by decide, fillO (l := [vint u10]) rfl rfl rfl (Nat.le_of_ble_eq_true rfl) (fillO (l := [vint u11]) rfl rfl rfl (Nat.le_of_ble_eq_true rfl) (fillI (qNew fun H12 p12 e12 S12 c12 l12 => ⟨T9 (Q11.trans S12.weak0), ?_⟩)))⟩
 have c12 : H12[p12]? = some (.cells (([u10, u11] : List Int).map vint) true 0) := c12
 have hl11 := hxLt a11
 refine ofZ hJ (a11.same S12 (by simp)) (by omega) c12 (by omega) rfl (by simp) fun gr H13 m13 S13 l13 a13 => ?_
 have Q13 : SameX [h.length] H9 H13 := (Q11.trans S12.weak0).trans S13
 refine ⟨T9 Q13, offI ?_⟩
 have hgr : 0 ≤ gr ∧ gr ≤ b := by
  rcases m13 with h | h
  ·omega
  ·simp only [List.mem_cons, List.not_mem_nil, or_false] at h
   omega
 refine qSt (Q13.get c9 (by simp; omega)) (by simp) rfl rfl fun H14 S14 c14 l14 => ?_
 have c14 : H14[p8]? = some (.cells [vint gr, vint b, vint dr, vint 0, vint 0, vint sl] true 0) := c14
 have a14 := a13.same S14 (by simp; omega)
 refine offI (ldI (v := vint dr) c14 rfl rfl (offI (ldI (v := vint dr) c14 rfl rfl (addI (by omega) (minI ?_)))))
 refine amX hJ a14 (by omega) (by omega) (by omega) fun wt H15 h1 h2 S15 l15 a15 => offI ?_
 refine qSt (S15.get c14 (by simp; omega)) (by simp) rfl rfl fun H16 S16 c16 l16 => ?_
 have c16 : H16[p8]? = some (.cells [vint gr, vint b, vint dr, vint wt, vint 0, vint sl] true 0) := c16
 have a16 := a15.same S16 (by simp; omega)
 have hp16 : p8 < H16.length := lt_of_get c16
 have T16 : ∀ {H'}, SameX [h.length] H16 H' → SameB (some [p8]) H16 H' := fun S => sbOne S hp16 (by simp; omega)
 refine ⟨[p8], offI (ldI (v := vint b) c16 rfl rfl ⟨by simp [RdOk, ptrBlk], quoZ (by omega) (by decide) (offI (ldI (v := vint b) c16 rfl rfl ⟨by simp [RdOk, ptrBlk], ?_⟩))⟩)⟩
 refine upX hJ a16 (by omega) (by omega) fun u17 H17 q1 q2 S17 l17 a17 => ⟨T16 S17, ?_⟩
 refine upX hJ a17 (by omega) (by omega) fun u18 H18 q3 q4 S18 l18 a18 => ⟨T16 (S17.trans S18), ?_⟩
 have Q18 : SameX [h.length] H16 H18 := S17.trans S18
 refine ⟨by decide, fillO (l := [vint 1]) rfl rfl rfl (Nat.le_of_ble_eq_true rfl) (fillO (l := [vint 2]) rfl rfl rfl (Nat.le_of_ble_eq_true rfl) (fillO (l := [vint u17]) rfl rfl rfl (Nat.le_of_ble_eq_true rfl) (fillO (l := [vint u18]) rfl rfl rfl (Nat.le_of_ble_eq_true rfl) (fillI (qNew fun H19 p19 e19 S19 c19 l19 => ⟨T16 (Q18.trans S19.weak0), ?_⟩)))))⟩
 have c19 : H19[p19]? = some (.cells (([1, 2, u17, u18] : List Int).map vint) true 0) := c19
 have hl18 := hxLt a18
 refine ofZ hJ (a18.same S19 (by simp)) (by omega) c19 (by omega) rfl (by simp) fun st H20 m20 S20 l20 a20 => ?_
 have Q20 : SameX [h.length] H16 H20 := (Q18.trans S19.weak0).trans S20
 have hst : 0 ≤ st ∧ st ≤ b := by
  rcases m20 with h | h
  ·omega
  ·simp only [List.mem_cons, List.not_mem_nil, or_false] at h
   omega
 refine ⟨T16 Q20, offI (qSt (Q20.get c16 (by simp; omega)) (by simp) rfl rfl fun H21 S21 c21 l21 => ?_)⟩
 have c21 : H21[p8]? = some (.cells (⟨gr, b, dr, wt, st, sl⟩ : Pas).cells true 0) := c21
 refine load_part (c := (⟨gr, b, dr, wt, st, sl⟩ : Pas).cells) c21 (by simp [Pas.cells]) rfl rfl ?_
 have U7 : SameX [h.length] H H7 := ((((((S1.weak0).trans S2).trans S3.weak0).trans S4).trans S5).trans S6.weak0).trans S7
 have U9 : SameX [h.length] H H9 := (U7.trans S8.weak0).thru S9 (by have := U7.1; simp; omega)
 have U21 : SameX [h.length] H H21 := ((((U9.trans Q13).thru S14 (by have := U7.1; simp; omega)).trans S15).thru S16 (by have := U7.1; simp; omega)).trans Q20 |>.thru S21 (by have := U7.1; simp; omega)
 have V1 : SameX [h.length] H1 H7 := ((((S2.trans S3.weak0).trans S4).trans S5).trans S6.weak0).trans S7
 have hv1 := V1.1
 have V9 : SameX [h.length, p8] H1 H9 := ((V1.trans S8.weak0).weak (by simp)).trans (S9.weak (by simp))
 have V21 : SameX [h.length, p8] H1 H21 := (((((V9.trans (Q13.weak (by simp))).trans (S14.weak (by simp))).trans (S15.weak (by simp))).trans (S16.weak (by simp))).trans (Q20.weak (by simp))).trans (S21.weak (by simp))
 have c1' := V21.get c1 (by simp; omega)
 refine qStA (c := (⟨gr, b, dr, wt, st, sl⟩ : Pas).cells) c1' rfl rfl rfl fun H22 S22 c22 l22 => ?_
 refine retQs rfl (resW_cell (gg := true) (s := 6) (by kernel_rfl) (load_part (c := (⟨gr, b, dr, wt, st, sl⟩ : Pas).cells) c22 (by simp [Pas.cells]) rfl rfl (resW_nil ?_)))
 refine hK ⟨gr, b, dr, wt, st, sl⟩ H22 ⟨by show 1 ≤ b ∧ b ≤ 99; omega, hgr, by show 0 ≤ dr ∧ dr ≤ 9; omega, by show dr ≤ wt ∧ wt ≤ 9; omega, hst, hsl⟩ (by show 3 ≤ b ∧ b ≤ 30; omega) (U21.thru S22 (by simp; omega)) ?_
 have z21 := a20.same S21 (by simp; omega)
 have z22 := z21.same S22 (by simp; omega)
 exact z22.mono (by omega)
end
end Go.Proofs.Ythnccaajpdnndaa
