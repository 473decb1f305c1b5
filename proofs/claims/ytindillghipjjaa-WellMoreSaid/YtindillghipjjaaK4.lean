/- Parts of the proof, 4. No conditions. -/
import Derived.Test.YtindillghipjjaaK2
import Derived.Test.YtindillghipjjaaK3

namespace Go.Proofs.Ytindillghipjjaa
open Go.Conc Go.Proofs.Try
structure HandAt (h : List AObj) (b : Nat) (nv : Value) (nums : List Int) (k : Nat) (s : Int) : Prop where
  at_ : h[b]? = some (.cells [nv, vint k, .int .u64 s] true 0)
  list : Sli h nv 1 nums.length (nums.map vint)
  sane : nums.length < 4611686018427387904
  few : k < 4611686018427387904
  lo : 0 ≤ s
  hi : s < 18446744073709551616

section
variable {main : Bool} {J : JT} {h : List AObj} {K : Value → List AObj → Prop}
theorem nil_ok {b o : Nat} {K : Value → Prop} : aNil (ptr b o) K = K (ptr b o) := rfl
theorem off_ok {b o d : Nat} {K : Value → Prop} : aOff (ptr b o) d K = K (ptr b (o + d)) := rfl
theorem conv_u {n : Int} {K : Value → Prop} (hk : ∀ y, 0 ≤ y → y < 18446744073709551616 → K (.int .u64 y)) : aConvI .u64 (vint n) K := hk _ (wrapU _).1 (wrapU _).2

theorem u_shr11 {t : TypeId} {y : Int} (h1 : 0 ≤ y) (h2 : y < 18446744073709551616) {K : Value → Prop} : aBin prog .shr t (.int .u64 y) (.int .u64 11) K = K (.int .u64 (y / 2048)) := by
  have e : min (Int.toNat 11) IntKind.u64.bits = 11 := by decide
  simp only [aBin, aShift, e]
  rw [Int.fdiv_eq_ediv_of_nonneg _ (by decide)]
  simp

theorem set_twice {b : Nat} {x y : AObj} (hb : h[b]? = some x) : (h.set b y)[b]? = some y := by
  have : b < h.length := (List.getElem?_eq_some_iff.1 hb).1
  simp [this]

theorem good69 (hJ : Closed prog main J) {b : Nat} {nv : Value} {nums : List Int} {k : Nat} {s : Int} (H : HandAt h b nv nums k s)
    (hK : ∀ x s', 0 ≤ x → x < 9007199254740992 → 0 ≤ s' → s' < 18446744073709551616 → K (.int .u64 x) (h.set b (.cells [nv, vint (k + 1), .int .u64 s'] true 0))) : Good prog J 69 [ptr b 0] h K := by
  refine g69 hJ fun ok => ?_
  rw [e69]
  obtain ⟨hb, hl, hsane, hfew, hlo, hhi⟩ := H
  have hnv : kn1 nv = true := by
    obtain ⟨_, _, rfl, _⟩ := hl
    rfl
  have l0 : ∀ K, aLoad false 1 (ptr b 0) h K = K nv := fun K => load_cell hb rfl hnv
  have l1 : ∀ K, aLoad false 1 (ptr b 1) h K = K (vint k) := fun K => load_cell hb rfl rfl
  -- what stands behind the joining of the ways
  have rest : ∀ x : Int, aBin prog .add 3 (vint k) (vint 1) fun v25 =>
      aStore 1 (ptr b 1) v25 h fun h28 =>
      aLoad false 1 (ptr b 2) h28 fun v31 =>
      aBin prog .mul 86 (.int .u64 x) (Value.int .u64 11400714819323198485) fun v32 =>
      aBin prog .xor 86 v31 v32 fun v33 =>
      aBin prog .shl 86 v33 (Value.int .u64 13) fun v34 =>
      aBin prog .xor 86 v33 v34 fun v35 =>
      aBin prog .shr 86 v35 (Value.int .u64 7) fun v36 =>
      aBin prog .xor 86 v35 v36 fun v37 =>
      aBin prog .shl 86 v37 (Value.int .u64 17) fun v38 =>
      aBin prog .xor 86 v37 v38 fun v39 =>
      aBin prog .add 86 v39 (Value.int .u64 7146057691288625177) fun v40 =>
      aStore 1 (ptr b 2) v40 h28 fun h43 =>
      aBin prog .shr 86 v39 (Value.int .u64 31) fun v44 =>
      aBin prog .xor 86 v39 v44 fun v45 =>
      aBin prog .mul 86 v45 (Value.int .u64 13787848793156543929) fun v46 =>
      aBin prog .shr 86 v46 (Value.int .u64 29) fun v47 =>
      aBin prog .xor 86 v46 v47 fun v48 =>
      aBin prog .shr 86 v48 (Value.int .u64 11) fun v49 =>
      retL h.length K [] [v49] h43 := by
    intro x
    rw [b_add (by omega)]
    refine store_cell hb (by simp) rfl rfl ?_
    have hb2 : (h.set b (.cells ([nv, vint k, .int .u64 s].set 1 (vint (k + 1))) true 0))[b]? = some (.cells [nv, vint (k + 1), .int .u64 s] true 0) := set_twice hb
    rw [load_cell hb2 rfl rfl]
    refine u_mul fun y1 a1 b1 => u_xor fun y2 a2 b2 => u_shl (by omega) fun y3 a3 b3 => u_xor fun y4 a4 b4 => u_shr (by omega) a4 b4 fun y5 a5 b5 => u_xor fun y6 a6 b6 => u_shl (by omega) fun y7 a7 b7 => u_xor fun y8 a8 b8 => u_add fun y9 a9 b9 => ?_
    refine store_cell hb2 (by simp) rfl rfl ?_
    refine u_shr (by omega) a8 b8 fun z1 c1 d1 => u_xor fun z2 c2 d2 => u_mul fun z3 c3 d3 => u_shr (by omega) c3 d3 fun z4 c4 d4 => u_xor fun z5 c5 d5 => ?_
    rw [u_shr11 c5 d5]
    refine retL_same (by simp [unk]) ?_
    rw [List.set_set]
    exact hK _ _ (by omega) (by omega) a9 b9
  simp only [nil_ok, off_ok, Nat.zero_add, l0, l1]
  refine conv_u fun x0 _ _ => ?_
  simp only [sli_len hl, b_lss, cnd_dec]
  refine ⟨fun hlt => idx_load hl ⟨by omega, by omega⟩ (map_get (by simpa using hlt)) fun p => conv_u fun x1 _ _ => rest x1, fun _ => rest x0⟩

def Dealt (h : List AObj) (b : Nat) (nv : Value) (k n : Nat) (h' : List AObj) : Prop :=
  ∃ (k' : Nat) (s' : Int), k' ≤ k + n ∧ 0 ≤ s' ∧ s' < 18446744073709551616 ∧ h' = h.set b (.cells [nv, vint k', .int .u64 s'] true 0)

theorem good23 (hJ : Closed prog main J) {b : Nat} {nv : Value} {nums : List Int} {k : Nat} {s m : Int} (H : HandAt h b nv nums k s) (hm : m < 9223372036854775807)
    (hK : ∀ y h', 0 ≤ y → (y ≤ m ∨ y = 0) → Dealt h b nv k 1 h' → K (vint y) h') : Good prog J 23 [ptr b 0, vint m] h K := by
  refine g23 hJ fun ok => ?_
  rw [e23]
  simp only [b_leq, cnd_dec]
  refine ⟨fun h0 => retL_same (by simp [unk]) (hK 0 h (by omega) (.inr rfl) ⟨k, s, by omega, H.lo, H.hi, ?_⟩), fun h0 => ?_⟩
  · have hb : b < h.length := (List.getElem?_eq_some_iff.1 H.at_).1
    apply List.ext_getElem?
    intro i
    rw [List.getElem?_set]
    split
    · rename_i e
      subst e
      exact H.at_
    · rfl
  · refine good69 hJ H fun x s' hx hx2 hs hs2 => ?_
    rw [b_add (by omega)]
    have e1 : ∀ n : Int, 0 ≤ n → n < 9223372036854775808 → IntKind.u64.wrap n = n := fun n a b => by
      simp only [IntKind.wrap, IntKind.bits, IntKind.signed]
      simp
      omega
    have hmod : Int.tmod x (m + 1) = x % (m + 1) := Int.tmod_eq_emod_of_nonneg hx
    have h1 := Int.emod_nonneg x (b := m + 1) (by omega)
    have h2 := Int.emod_lt_of_pos x (b := m + 1) (by omega)
    simp only [aConvI, e1 (m + 1) (by omega) (by omega), aBin, aInt, true_and]
    rw [hmod, wrap64 (by omega) (by omega)]
    exact ⟨by omega, retL_same (by simp [unk]) (hK _ _ h1 (.inl (by omega)) ⟨k + 1, s', by omega, hs, hs2, rfl⟩)⟩

theorem good33 (hJ : Closed prog main J) {b : Nat} {nv : Value} {nums : List Int} {k : Nat} {s lo hi : Int} (H : HandAt h b nv nums k s) (h1 : -1000000000000 ≤ lo ∧ lo ≤ 1000000000000) (h2 : -1000000000000 ≤ hi ∧ hi ≤ 1000000000000)
    (hK : ∀ y h', lo ≤ y → (y ≤ hi ∨ y = lo) → Dealt h b nv k 1 h' → K (vint y) h') : Good prog J 33 [ptr b 0, vint lo, vint hi] h K := by
  refine g33 hJ fun ok => ?_
  rw [e33, b_sub (by omega)]
  refine good23 hJ H (by omega) fun y h' hy hy2 hd => ?_
  rw [b_add (by omega)]
  exact retL_same (by simp [unk]) (hK _ _ (by omega) (by omega) hd)

theorem good20 (hJ : Closed prog main J) {base : Option Addr} {n c : Nat}
    (hK : K (ptr h.length 0) (h ++ [.cells [.slice base n c, vint 0, .int .u64 88172645463325252] true 0])) : Good prog J 20 [.slice base n c] h K := by
  refine g20 hJ fun ok => ?_
  rw [e20]
  simp [aFill, aBox, wrAt, Value.cells, one]
  exact retL_same (vs := [ptr h.length 0]) (by simp [unk]) hK

theorem good22 (hJ : Closed prog main J) {b : Nat} {nv ov : Value} {nums others : List Int} {k : Nat} {s a : Int} (H : HandAt h b nv nums k s) (ho : ∀ h', Dealt h b nv k 1 h' → Sli h' ov 1 others.length (others.map vint)) (hl : others.length < 1000000)
    (hK : ∀ y h', (y = a ∨ y ∈ others) → Dealt h b nv k 1 h' → K (vint y) h') : Good prog J 22 [ptr b 0, vint a, ov] h K := by
  refine g22 hJ fun ok => ?_
  rw [e22]
  have hd0 : Dealt h b nv k 1 h := by
    refine ⟨k, s, by omega, H.lo, H.hi, ?_⟩
    apply List.ext_getElem?
    intro i
    rw [List.getElem?_set]
    split
    · rename_i e
      subst e
      have hb : b < h.length := (List.getElem?_eq_some_iff.1 H.at_).1
      rw [if_pos hb]
      exact H.at_
    · rfl
  rw [sli_len (ho h hd0)]
  refine good23 hJ H (by omega) fun y h' hy hy2 hd => ?_
  simp only [b_gtr, cnd_dec]
  refine ⟨fun hg => ?_, fun _ => retL_same (by simp [unk]) (hK _ _ (.inl rfl) hd)⟩
  rw [b_sub (by omega)]
  refine idx_load (ho h' hd) ⟨by omega, by omega⟩ (map_get (by omega)) fun p => ?_
  refine retL_same (by simp [unk]) (hK _ _ (.inr ?_) hd)
  have : (y - 1).toNat < others.length := by omega
  simp only [List.getD_eq_getElem?_getD, List.getElem?_eq_getElem this, Option.getD_some]
  exact List.getElem_mem this
end
end Go.Proofs.Ytindillghipjjaa
namespace Go.Proofs.Ytindillghipjjaa
open Go.Conc Go.Proofs.Try
section
variable {main : Bool} {J : JT} {h : List AObj} {K : Value → List AObj → Prop}
theorem good28 (hJ : Closed prog main J) {av bv : Value} {xs ys : List Int} (ha : Sli h av 1 xs.length (xs.map vint)) (hb : Sli h bv 1 ys.length (ys.map vint)) (hl : xs.length < 4611686018427387904)
    (hK : K (.bool (decide (xs = ys))) h) : Good prog J 28 [av, bv] h K := by
  refine g28 hJ fun ok => ?_
  rw [e28]
  simp only [sli_len ha, sli_len hb, b_neq, cnd_dec]
  refine ⟨fun hne => retL_same (by simp [unk]) ?_, fun heq => ?_⟩
  · have : xs ≠ ys := fun e => hne (by rw [e])
    simpa [pack, this] using hK
  · have hlen : xs.length = ys.length := by omega
    refine l28_1 hJ (fun i => xs.length - i) (fun i f h' => h' = h ∧ f.ds = [] ∧ f.r 0 = av ∧ f.r 1 = bv ∧ f.r 5 = vint (i : Nat) ∧ i ≤ xs.length ∧ xs.take i = ys.take i) ?_ (s := 0) (.inl ⟨rfl, rfl, rfl, rfl, rfl, by omega, by simp⟩)
    rintro i f h' ⟨rfl, hds, h0, h1, h5, hi, ht⟩ _ hn
    rw [s28_1]
    simp only [h0, h1, h5, hds, sli_len ha, b_lss, cnd_dec]
    refine ⟨fun hlt => ?_, fun hge => ?_⟩
    · have e1 : i < xs.length := by omega
      refine idx_load ha ⟨by omega, by omega⟩ (map_get (by omega)) fun p1 => ?_
      refine idx_load hb ⟨by omega, by omega⟩ (map_get (by omega)) fun p2 => ?_
      simp only [b_neq, cnd_dec, Int.toNat_natCast]
      refine ⟨fun hne => retL_same (by simp [unk]) ?_, fun heq => ?_⟩
      · have : xs ≠ ys := fun e => hne (by rw [e])
        simpa [pack, this] using hK
      · rw [b_add (by omega)]
        refine ⟨i + 1, by dsimp only; omega, .inl ⟨rfl, hds, h0, h1, rfl, by omega, ?_⟩⟩
        have heq : xs.getD i 0 = ys.getD i 0 := by simpa using heq
        simp only [List.getD_eq_getElem?_getD, List.getElem?_eq_getElem e1, List.getElem?_eq_getElem (show i < ys.length by omega), Option.getD_some] at heq
        rw [List.take_add_one, List.take_add_one, ht, List.getElem?_eq_getElem e1, List.getElem?_eq_getElem (show i < ys.length by omega), heq]
    · have : i = xs.length := by omega
      subst this
      rw [List.take_length, hlen, List.take_length] at ht
      refine retL_same (by simp [unk]) ?_
      simpa [pack, ht] using hK

theorem ints_ok (n : Nat) (xs : List Int) : LOk n (xs.map vint) := by
  rw [LOk_iff]
  intro v hv
  obtain ⟨x, _, rfl⟩ := List.mem_map.1 hv
  simp [VOk]

end
end Go.Proofs.Ytindillghipjjaa
namespace Go.Proofs.Ytindillghipjjaa
open Go.Conc Go.Proofs.Try
section
variable {main : Bool} {J : JT} {h : List AObj} {K : Value → List AObj → Prop}
def HF (h : List AObj) (nv : Value) (k : Nat) (s : Int) (rest : List AObj) : List AObj := h ++ (.cells [nv, vint k, .int .u64 s] true 0 :: rest)

theorem hf_len {h : List AObj} {nv : Value} {k : Nat} {s : Int} {rest : List AObj} : (HF h nv k s rest).length = h.length + 1 + rest.length := by
  simp [HF]; omega
theorem hf_app {h : List AObj} {nv : Value} {k : Nat} {s : Int} {rest g : List AObj} : HF h nv k s rest ++ g = HF h nv k s (rest ++ g) := by
  simp [HF]
theorem hf_hand {h : List AObj} {nv : Value} {ns : List Int} {k : Nat} {s : Int} {rest : List AObj} (sn : Sli h nv 1 ns.length (ns.map vint)) (hln : ns.length < 4611686018427387904) (hk : k < 1000000) (h0 : 0 ≤ s) (h1 : s < 18446744073709551616) :
    HandAt (HF h nv k s rest) h.length nv ns k s :=
  ⟨by simp [HF], sli_app sn, hln, by omega, h0, h1⟩
theorem hf_dealt {h h' : List AObj} {nv : Value} {k n : Nat} {s : Int} {rest : List AObj} (hd : Dealt (HF h nv k s rest) h.length nv k n h') : ∃ k' s', k' ≤ k + n ∧ 0 ≤ s' ∧ s' < 18446744073709551616 ∧ h' = HF h nv k' s' rest := by
  obtain ⟨k', s', a, b, c, rfl⟩ := hd
  refine ⟨k', s', a, b, c, ?_⟩
  simp [HF]
end
end Go.Proofs.Ytindillghipjjaa
namespace Go.Proofs.Ytindillghipjjaa
open Go.Conc Go.Proofs.Try
def SliE {α : Type} (h : List AObj) (v : Value) (s : Nat) (enc : α → List Value) (xs : List α) : Prop := Sli h v s xs.length (xs.flatMap enc)

theorem flat_take {α : Type} {enc : α → List Value} {s : Nat} (hen : ∀ x, (enc x).length = s) : ∀ (xs : List α) (i : Nat) (hi : i < xs.length), ((xs.flatMap enc).drop (i * s)).take s = enc xs[i]
  | [], i, hi => by simp at hi
  | x :: xs, 0, hi => by
    simp only [List.flatMap_cons, Nat.zero_mul, List.drop_zero, List.getElem_cons_zero]
    rw [List.take_append_of_le_length (by rw [hen]; exact Nat.le_refl _), List.take_of_length_le (by rw [hen]; exact Nat.le_refl _)]
  | x :: xs, i + 1, hi => by
    simp only [List.flatMap_cons, List.getElem_cons_succ]
    have : (i + 1) * s = (enc x).length + i * s := by rw [hen, Nat.succ_mul, Nat.add_comm]
    rw [this, ← List.drop_drop, List.drop_left]
    exact flat_take hen xs i (by simpa using hi)

section
variable {h g : List AObj} {K : Value → Prop}
theorem sliE_elem {α : Type} {v : Value} {s : Nat} {enc : α → List Value} {xs : List α} (hen : ∀ x, (enc x).length = s) (hpos : 0 < s) (hs : SliE h v s enc xs) {i : Nat} (hi : i < xs.length) :
    ∃ b o cs wr sz, (∀ K : Value → Prop, K (ptr b o) → aIdx s v (vint i) K) ∧ h[b]? = some (.cells cs wr sz) ∧ o + s ≤ cs.length ∧ (cs.drop o).take s = enc xs[i] ∧ kn (enc xs[i]) = true := by
  obtain ⟨base, c, rfl, ⟨hl, hkn⟩, hc⟩ := hs
  have hft := flat_take hen xs i hi
  have hmul : (i + 1) * s ≤ xs.length * s := Nat.mul_le_mul_right s (by omega)
  have hsucc : (i + 1) * s = i * s + s := Nat.succ_mul i s
  rcases hc with ⟨_, h0⟩ | ⟨b, o, rfl, h0 | ⟨cs, wr, sz, hb, hx⟩⟩
  · omega
  · omega
  · rw [← hx] at hl hft
    simp only [List.length_take, List.length_drop] at hl
    refine ⟨b, o + i * s, cs, wr, sz, fun K hK => ?_, hb, by omega, ?_, ?_⟩
    · rw [idx_ok]
      exact ⟨⟨by omega, by omega⟩, by simpa using hK⟩
    · rw [← hft, List.drop_take, List.drop_drop, List.take_take]
      congr 1
      omega
    · have : kn ((xs.flatMap enc).drop (i * s)) = true := by
        unfold kn at hkn ⊢
        rw [List.all_eq_true] at hkn ⊢
        exact fun y hy => hkn y (List.mem_of_mem_drop hy)
      rw [← flat_take hen xs i hi]
      unfold kn at this ⊢
      rw [List.all_eq_true] at this ⊢
      exact fun y hy => this y (List.mem_of_mem_take hy)

theorem part_get {cs e : List Value} {o s j : Nat} {x : Value} (ht : (cs.drop o).take s = e) (hx : e[j]? = some x) : cs[o + j]? = some x := by
  rw [← ht, List.getElem?_take] at hx
  split at hx
  · rw [List.getElem?_drop] at hx
    exact hx
  · cases hx
end
end Go.Proofs.Ytindillghipjjaa
namespace Go.Proofs.Ytindillghipjjaa
open Go.Conc Go.Proofs.Try
set_option maxRecDepth 100000
section
variable {main : Bool} {J : JT} {h A g : List AObj} {K : Value → List AObj → Prop} {KV : Value → Prop} {HL : List AObj → Prop} {H : Value → List AObj → Prop}
theorem a_min {a b : Int} : aMin (vint a) [vint b] KV = KV (vint (min a b)) := by
  show KV (vint (if b < a then b else a)) = _
  congr 2
  split <;> omega
theorem a_max {a b : Int} : aMax (vint a) [vint b] KV = KV (vint (max a b)) := by
  show KV (vint (if b > a then b else a)) = _
  congr 2
  split <;> omega
theorem back_get {i : Nat} : (A ++ g)[A.length + i]? = g[i]? := by
  rw [List.getElem?_append_right (by omega)]
  congr 1
  omega
theorem back_set {i : Nat} {o : AObj} : (A ++ g).set (A.length + i) o = A ++ g.set i o := by
  rw [List.set_append_right _ _ (by omega)]
  congr 2
  omega
def OwnE (n : Nat) (g : List AObj) (s : Nat) (cs : List Value) (len : Nat) (v : Value) (o : Option Nat) : Prop :=
  cs.length = len * s ∧ kn cs = true ∧ ((len = 0 ∧ v = .slice none 0 0 ∧ o = none) ∨ ∃ i c sz, o = some i ∧ v = .slice (some ⟨n + i, 0, none⟩) len c ∧ g[i]? = some (.cells cs true sz) ∧ ((c = fz ∧ sz = s) ∨ c = len))

theorem get_app {i : Nat} {x : AObj} {g' : List AObj} (hx : g[i]? = some x) : (g ++ g')[i]? = some x := by
  rw [List.getElem?_append_left (List.getElem?_eq_some_iff.1 hx).1]
  exact hx
theorem get_set {i j : Nat} {x y : AObj} (hx : g[i]? = some x) (hij : i ≠ j) : (g.set j y)[i]? = some x := by
  rw [List.getElem?_set, if_neg (fun e => hij e.symm)]
  exact hx
theorem ownE_at {n s len : Nat} {cs : List Value} {v : Value} {i : Nat} (ho : OwnE n g s cs len v (some i)) : ∃ sz, g[i]? = some (.cells cs true sz) := by
  obtain ⟨_, _, ⟨_, _, h⟩ | ⟨j, c, sz, h, _, h5, _⟩⟩ := ho
  · cases h
  · cases h
    exact ⟨sz, h5⟩
theorem ownE_lt {n s len : Nat} {cs : List Value} {v : Value} {o : Option Nat} (ho : OwnE n g s cs len v o) {i : Nat} (hi : o = some i) : i < g.length := by
  subst hi
  obtain ⟨sz, h⟩ := ownE_at ho
  exact (List.getElem?_eq_some_iff.1 h).1
theorem ownE_sli {s len : Nat} {cs : List Value} {v : Value} {o : Option Nat} (ho : OwnE A.length g s cs len v o) : Sli (A ++ g) v s len cs := by
  obtain ⟨h1, h2, ⟨rfl, rfl, _⟩ | ⟨i, c, sz, rfl, rfl, h5, _⟩⟩ := ho
  · have : cs = [] := List.length_eq_zero_iff.1 (by omega)
    subst this
    exact sli_nil
  · refine ⟨_, _, rfl, ⟨h1, h2⟩, .inr ⟨_, _, rfl, .inr ⟨cs, true, sz, ?_, by rw [List.drop_zero, List.take_of_length_le (by omega)]⟩⟩⟩
    rw [back_get]
    exact h5
theorem ownE_val {n s len : Nat} {cs : List Value} {v : Value} {o : Option Nat} (ho : OwnE n g s cs len v o) : v.cells = #[v] ∧ one v = true ∧ kn1 v = true := by
  obtain ⟨_, _, ⟨_, rfl, _⟩ | ⟨_, _, _, _, rfl, _⟩⟩ := ho <;> exact ⟨rfl, rfl, rfl⟩

theorem ownE_more {s len : Nat} {cs e : List Value} {v y : Value} {o : Option Nat} (ho : OwnE A.length g s cs len v o) (hs : 0 < s) (hl : len < 1000) (hy : Sli (A ++ g) y s 1 e)
    (hk : ∀ v' g', OwnE A.length g' s (cs ++ e) (len + 1) v' (some g.length) → (∀ i x, o ≠ some i → g[i]? = some x → g'[i]? = some x) → H v' (A ++ g')) : aApp s v y (A ++ g) H := by
  have hr : room = 1073741824 := rfl
  have hel : e.length = s := by
    have := sli_vlen hy
    omega
  have hek : kn e = true := by
    obtain ⟨_, _, _, ⟨_, h⟩, _⟩ := hy
    exact h
  have new : ∀ g1 : List AObj, g1.length = g.length → (∀ i x, o ≠ some i → g[i]? = some x → g1[i]? = some x) → cs.length = len * s → kn cs = true → H (.slice (some ⟨(A ++ g).length, 0, none⟩) (len + 1) fz) (A ++ (g1 ++ [.cells (cs ++ e) true s])) := by
    intro g1 hg1 hkeep h1 h2
    refine hk _ _ ⟨?_, ?_, .inr ⟨g.length, fz, s, rfl, by simp, by simp [← hg1], .inl ⟨rfl, rfl⟩⟩⟩ fun j x hj hx => get_app (hkeep j x hj hx)
    · rw [List.length_append, hel, h1, Nat.succ_mul]
    · unfold kn at *
      rw [List.all_append, h2, hek]
      rfl
  obtain ⟨h1, h2, ⟨rfl, rfl, rfl⟩ | ⟨i, c, sz, rfl, rfl, h5, h6⟩⟩ := ho
  · have hcs : cs = [] := List.length_eq_zero_iff.1 (by omega)
    subst hcs
    refine app_nil hs hy (by omega) (fun e => absurd e (by omega)) fun _ => ?_
    rw [List.append_assoc]
    exact new g rfl (fun _ _ _ hx => hx) h1 h2
  · have hlt := (List.getElem?_eq_some_iff.1 h5).1
    have ht : cs.take (len * s) = cs := List.take_of_length_le (by omega)
    rcases h6 with ⟨rfl, rfl⟩ | rfl
    · refine app_own (cs := cs) (by rw [back_get]; exact h5) (by omega) (by rw [ht]; exact h2) hs hy (by omega) ?_
      rw [back_set, List.append_assoc, ht]
      exact new _ (by simp) (fun j x hj hx => get_set hx fun e => hj (by rw [e])) h1 h2
    · refine app_copy (cs := cs) (by rw [back_get]; exact h5) (by omega) (by rw [List.drop_zero, ht]; exact h2) (by omega) hs hy (by omega) ?_
      rw [List.append_assoc, List.drop_zero, ht]
      exact new g rfl (fun _ _ _ hx => hx) h1 h2

theorem hfa {nv : Value} {k : Nat} {s : Int} {rest : List AObj} (hs : 0 ≤ s ∧ s < 18446744073709551616) (hk : k < 1000000) {ns : List Int} (sn : Sli h nv 1 ns.length (ns.map vint)) (hln : ns.length < 4611686018427387904) : HandAt (HF h nv k s rest ++ g) h.length nv ns k s := by
  rw [hf_app]
  exact hf_hand sn hln hk hs.1 hs.2
theorem hfd {nv : Value} {k n : Nat} {s : Int} {rest h' : List AObj} (hd : Dealt (HF h nv k s rest ++ g) h.length nv k n h') : ∃ k' s', k' ≤ k + n ∧ (0 ≤ s' ∧ s' < 18446744073709551616) ∧ h' = HF h nv k' s' rest ++ g := by
  rw [hf_app] at hd
  obtain ⟨k', s', a, b, c, rfl⟩ := hf_dealt hd
  exact ⟨k', s', a, ⟨b, c⟩, by rw [hf_app]⟩

structure Hnd (h : List AObj) (nv : Value) (ns : List Int) : Prop where
  list : Sli h nv 1 ns.length (ns.map vint)
  sane : ns.length < 4611686018427387904

variable {nv : Value} {ns : List Int} {rest : List AObj} {k : Nat} {s : Int}
section
variable {KV : Value → Prop} {a b : Int} {t : TypeId} {h : List AObj}
theorem offI {b o d : Nat} (hk : KV (ptr b (o + d))) : aOff (ptr b o) d KV := hk
theorem fillI {c : List Value} {KL : List Value → Prop} (hk : KL c) : aFill c [] KL := hk
theorem addI (h : -9223372036854775808 ≤ a + b ∧ a + b < 9223372036854775808) (hk : KV (vint (a + b))) : aBin prog .add t (vint a) (vint b) KV := by rw [b_add h]; exact hk
theorem subI (h : -9223372036854775808 ≤ a - b ∧ a - b < 9223372036854775808) (hk : KV (vint (a - b))) : aBin prog .sub t (vint a) (vint b) KV := by rw [b_sub h]; exact hk
theorem minI (hk : KV (vint (min a b))) : aMin (vint a) [vint b] KV := by rw [a_min]; exact hk
theorem maxI (hk : KV (vint (max a b))) : aMax (vint a) [vint b] KV := by rw [a_max]; exact hk
theorem lssI (hk : KV (.bool (decide (a < b)))) : aBin prog .lss t (vint a) (vint b) KV := by rw [b_lss]; exact hk
theorem gtrI (hk : KV (.bool (decide (a > b)))) : aBin prog .gtr t (vint a) (vint b) KV := by rw [b_gtr]; exact hk
theorem geqI (hk : KV (.bool (decide (a ≥ b)))) : aBin prog .geq t (vint a) (vint b) KV := by rw [b_geq]; exact hk
theorem leqI (hk : KV (.bool (decide (a ≤ b)))) : aBin prog .leq t (vint a) (vint b) KV := by rw [b_leq]; exact hk
theorem eqlI (hk : KV (.bool (decide (a = b)))) : aBin prog .eql t (vint a) (vint b) KV := by rw [b_eql]; exact hk
theorem neqI (hk : KV (.bool (decide (a ≠ b)))) : aBin prog .neq t (vint a) (vint b) KV := by rw [b_neq]; exact hk
theorem notI {x : Bool} (hk : KV (.bool (!x))) : aUn .not (.bool x) KV := hk
theorem cndI {p : Prop} [Decidable p] {A B : Prop} (h1 : p → A) (h2 : ¬ p → B) : cnd (.bool (decide p)) A B := cnd_dec.2 ⟨h1, h2⟩
theorem cndN {p : Prop} [Decidable p] {A B : Prop} (h1 : ¬ p → A) (h2 : p → B) : cnd (.bool (!decide p)) A B := cnd_ndec.2 ⟨h1, h2⟩
theorem lenI {v : Value} {s n : Nat} {cells : List Value} (hs : Sli h v s n cells) (hk : KV (vint n)) : aLenS v KV := by rw [sli_len hs]; exact hk
theorem ldI {b o s : Nat} {c : List Value} {wr : Bool} {sz : Nat} {v : Value} (hb : h[b]? = some (.cells c wr sz)) (hv : c[o]? = some v) (hn : kn1 v = true) (hk : KV v) : aLoad false s (ptr b o) h KV := by rw [load_cell hb hv hn]; exact hk
theorem idxI {s b o n c : Nat} {j : Int} (h1 : 0 ≤ j ∧ j < n) (hk : KV (ptr b (o + j.toNat * s))) : aIdx s (.slice (some ⟨b, o, none⟩) n c) (vint j) KV := by rw [idx_ok]; exact ⟨h1, hk⟩
theorem ext0 {a b : Value} (hk : KV a) : aExt (.tuple ⟨[a, b]⟩) 0 KV := hk
theorem ext1 {a b : Value} (hk : KV b) : aExt (.tuple ⟨[a, b]⟩) 1 KV := hk
end
theorem up (hJ : Closed prog main J) (hn : Hnd h nv ns) (hs : 0 ≤ s ∧ s < 18446744073709551616) (hk : k < 1000000) {m : Int} (hm : m < 1000000)
    (hK : ∀ y k' s', 0 ≤ y → (y ≤ m ∨ y = 0) → k' ≤ k + 1 → (0 ≤ s' ∧ s' < 18446744073709551616) → K (vint y) (HF h nv k' s' rest ++ g)) : Good prog J 23 [ptr h.length 0, vint m] (HF h nv k s rest ++ g) K := by
  refine good23 hJ (hfa hs hk hn.list hn.sane) (by omega) fun y h1 a b hd => ?_
  obtain ⟨k', s', c, d, rfl⟩ := hfd hd
  exact hK y k' s' a b c d
theorem amo (hJ : Closed prog main J) (hn : Hnd h nv ns) (hs : 0 ≤ s ∧ s < 18446744073709551616) (hk : k < 1000000) {lo hi : Int} (h1 : -1000000 ≤ lo ∧ lo ≤ 1000000) (h2 : -1000000 ≤ hi ∧ hi ≤ 1000000)
    (hK : ∀ y k' s', lo ≤ y → (y ≤ hi ∨ y = lo) → k' ≤ k + 1 → (0 ≤ s' ∧ s' < 18446744073709551616) → K (vint y) (HF h nv k' s' rest ++ g)) : Good prog J 33 [ptr h.length 0, vint lo, vint hi] (HF h nv k s rest ++ g) K := by
  refine good33 hJ (hfa hs hk hn.list hn.sane) (by omega) (by omega) fun y h1 a b hd => ?_
  obtain ⟨k', s', c, d, rfl⟩ := hfd hd
  exact hK y k' s' a b c d
end
end Go.Proofs.Ytindillghipjjaa
namespace Go.Proofs.Ytindillghipjjaa
open Go.Conc Go.Proofs.Try
set_option maxRecDepth 100000
def SameX (X : List Nat) (h H : List AObj) : Prop := h.length ≤ H.length ∧ ∀ i, i < h.length → i ∉ X → H[i]? = h[i]?

theorem SameX.refl {X : List Nat} {h : List AObj} : SameX X h h := ⟨Nat.le_refl _, fun _ _ _ => rfl⟩
theorem SameX.trans {X : List Nat} {h H H' : List AObj} (a : SameX X h H) (b : SameX X H H') : SameX X h H' :=
  ⟨Nat.le_trans a.1 b.1, fun i hi hx => by rw [b.2 i (Nat.lt_of_lt_of_le hi a.1) hx, a.2 i hi hx]⟩
theorem SameX.app {X : List Nat} {h H g : List AObj} (a : SameX X h H) : SameX X h (H ++ g) :=
  ⟨by have := a.1; simp; omega, fun i hi hx => by rw [List.getElem?_append_left (Nat.lt_of_lt_of_le hi a.1), a.2 i hi hx]⟩
theorem SameX.set {X : List Nat} {h H : List AObj} {i : Nat} {o : AObj} (a : SameX X h H) (hi : i ∈ X ∨ h.length ≤ i) : SameX X h (H.set i o) :=
  ⟨by have := a.1; simp; omega, fun j hj hx => by
    rw [List.getElem?_set, if_neg, a.2 j hj hx]
    rintro rfl
    rcases hi with hi | hi
    · exact hx hi
    · omega⟩
theorem SameX.get {X : List Nat} {h H : List AObj} {i : Nat} {o : AObj} (a : SameX X h H) (hx : h[i]? = some o) (hi : i ∉ X) : H[i]? = some o := by
  rw [a.2 i (List.getElem?_eq_some_iff.1 hx).1 hi, hx]
theorem SameX.pre {X : List Nat} {h0 g H : List AObj} (a : SameX X (h0 ++ g) H) (hX : ∀ x ∈ X, h0.length ≤ x) : ∃ g', H = h0 ++ g' := by
  refine ⟨H.drop h0.length, ?_⟩
  have : H.take h0.length = h0 := by
    apply List.ext_getElem?
    intro i
    rw [List.getElem?_take]
    split
    · rename_i hi
      rw [a.2 i (by simp; omega) (fun hx => by have := hX i hx; omega), List.getElem?_append_left hi]
    · rename_i hi
      rw [List.getElem?_eq_none (by omega)]
  conv => lhs; rw [← List.take_append_drop h0.length H, this]

end Go.Proofs.Ytindillghipjjaa
namespace Go.Proofs.Ytindillghipjjaa
open Go.Conc Go.Proofs.Try
set_option maxRecDepth 100000
def OwnX (H : List AObj) (s : Nat) (cs : List Value) (len : Nat) (v : Value) (o : Option Nat) : Prop :=
  cs.length = len * s ∧ kn cs = true ∧ ((len = 0 ∧ v = .slice none 0 0 ∧ o = none) ∨ ∃ i c sz, o = some i ∧ v = .slice (some ⟨i, 0, none⟩) len c ∧ H[i]? = some (.cells cs true sz) ∧ ((c = fz ∧ sz = s) ∨ c = len))

section
variable {h H : List AObj} {K : Value → List AObj → Prop} {KV : Value → Prop} {HL : List AObj → Prop} {n0 : Nat}
theorem SameX.weak {X Y : List Nat} {h H : List AObj} (a : SameX X h H) (hxy : ∀ x ∈ X, x ∈ Y) : SameX Y h H := ⟨a.1, fun i hi hx => a.2 i hi fun hm => hx (hxy i hm)⟩
theorem SameX.weak0 {Y : List Nat} {h H : List AObj} (a : SameX [] h H) : SameX Y h H := a.weak (by simp)
theorem SameX.thru {X Y : List Nat} {h H H' : List AObj} (a : SameX X h H) (b : SameX Y H H') (hy : ∀ y ∈ Y, y ∈ X ∨ h.length ≤ y) : SameX X h H' :=
  ⟨Nat.le_trans a.1 b.1, fun i hi hx => by
    rw [b.2 i (Nat.lt_of_lt_of_le hi a.1) fun hm => ?_, a.2 i hi hx]
    rcases hy i hm with h1 | h1
    · exact hx h1
    · omega⟩
theorem SameX.app0 {X : List Nat} {h H : List AObj} (a : SameX X h H) (hX : ∀ x ∈ X, h.length ≤ x) : ∃ g, H = h ++ g := by
  have := SameX.pre (h0 := h) (g := []) (X := X) (H := H) (by simpa using a) hX
  exact this
theorem lt_of_get {i : Nat} {o : AObj} (hx : H[i]? = some o) : i < H.length := (List.getElem?_eq_some_iff.1 hx).1
theorem SameX.sli {X : List Nat} {v : Value} {s n : Nat} {cs : List Value} (a : SameX X h H) (hs : Sli h v s n cs) (hX : ∀ x ∈ X, h.length ≤ x) : Sli H v s n cs := by
  obtain ⟨g, rfl⟩ := a.app0 hX
  exact sli_app hs

theorem qAl {l : List Value} (hk : ∀ H' p, p = H.length → SameX [] H H' → H'[p]? = some (.cells l true 0) → H'.length = p + 1 → K (ptr p 0) H') : aAlloc l H K :=
  hk _ _ rfl SameX.refl.app (by simp) (by simp)
theorem qBox {l : List Value} (h1 : l.all one = true) (hk : ∀ H' p, p = H.length → SameX [] H H' → H'[p]? = some (.cells l true 0) → H'.length = p + 1 → K (ptr p 0) H') : aBox (.agg ⟨l⟩) H K :=
  box_agg h1 (hk _ _ rfl SameX.refl.app (by simp) (by simp))
theorem qBox1 {v : Value} (hc : v.cells = #[v]) (h1 : one v = true) (hk : ∀ H' p, p = H.length → SameX [] H H' → H'[p]? = some (.cells [v] true 0) → H'.length = p + 1 → K (ptr p 0) H') : aBox v H K :=
  box_one hc h1 (hk _ _ rfl SameX.refl.app (by simp) (by simp))
theorem qNew {n : Nat} {l : List Value} (hk : ∀ H' p, p = H.length → SameX [] H H' → H'[p]? = some (.cells l true 0) → H'.length = p + 1 → K (.slice (some ⟨p, 0, none⟩) n n) H') : aNewS n l H K :=
  hk _ _ rfl SameX.refl.app (by simp) (by simp)
theorem qNewM (hk : ∀ H' p, p = H.length → SameX [] H H' → H'[p]? = some (.map [] true) → H'.length = p + 1 → K (.map (some p)) H') : aNewM H K :=
  hk _ _ rfl SameX.refl.app (by simp) (by simp)
theorem qSt {b o : Nat} {c : List Value} {sz : Nat} {v : Value} (hb : H[b]? = some (.cells c true sz)) (ho : o < c.length) (h1 : v.cells = #[v]) (h2 : one v = true) (hk : ∀ H', SameX [b] H H' → H'[b]? = some (.cells (c.set o v) true sz) → H'.length = H.length → HL H') : aStore 1 (ptr b o) v H HL :=
  store_cell hb ho h1 h2 (hk _ (SameX.refl.set (.inl (by simp))) (List.getElem?_set_self (lt_of_get hb)) (by simp))
theorem qStA {b n : Nat} {cs c : List Value} {sz : Nat} (hb : H[b]? = some (.cells cs true sz)) (hl : c.length = n) (hs : cs.length = n) (h1 : c.all one = true) (hk : ∀ H', SameX [b] H H' → H'[b]? = some (.cells c true sz) → H'.length = H.length → HL H') : aStore n (ptr b 0) (.agg ⟨c⟩) H HL :=
  store_agg hb hl hs h1 (hk _ (SameX.refl.set (.inl (by simp))) (List.getElem?_set_self (lt_of_get hb)) (by simp))
theorem ownX_iff {s len : Nat} {cs : List Value} {v : Value} {o : Option Nat} : OwnX H s cs len v o ↔ OwnE 0 H s cs len v o := by
  simp [OwnX, OwnE]
theorem ownX_keep {s len : Nat} {cs : List Value} {v : Value} {o : Option Nat} {H' : List AObj} {X : List Nat} (ho : OwnX H s cs len v o) (a : SameX X H H') (hX : ∀ i, o = some i → i ∉ X) : OwnX H' s cs len v o := by
  obtain ⟨h1, h2, h3 | ⟨i, c, sz, rfl, h4, h5, h6⟩⟩ := ho
  · exact ⟨h1, h2, .inl h3⟩
  · exact ⟨h1, h2, .inr ⟨i, c, sz, rfl, h4, a.get h5 (hX i rfl), h6⟩⟩
theorem ownX_sli {s len : Nat} {cs : List Value} {v : Value} {o : Option Nat} (ho : OwnX H s cs len v o) : Sli H v s len cs := by
  have := ownE_sli (A := []) (ownX_iff.1 ho)
  exact this
theorem ownX_val {s len : Nat} {cs : List Value} {v : Value} {o : Option Nat} (ho : OwnX H s cs len v o) : v.cells = #[v] ∧ one v = true ∧ kn1 v = true := ownE_val (ownX_iff.1 ho)
theorem ownX_lt {s len : Nat} {cs : List Value} {v : Value} {o : Option Nat} (ho : OwnX H s cs len v o) : ∀ i, o = some i → i < H.length := fun _ hi => ownE_lt (ownX_iff.1 ho) hi
theorem ownX_new {s n p : Nat} {l : List Value} (hp : H[p]? = some (.cells l true 0)) (hl : l.length = n * s) (hk : kn l = true) : OwnX H s l n (.slice (some ⟨p, 0, none⟩) n n) (some p) :=
  ⟨hl, hk, .inr ⟨p, n, 0, rfl, rfl, hp, .inr rfl⟩⟩

theorem ownX_more {s len : Nat} {cs e : List Value} {v y : Value} {o : Option Nat} (ho : OwnX H s cs len v o) (hs : 0 < s) (hl : len < 1000) (hy : Sli H y s 1 e)
    (hk : ∀ v' H' p, p = H.length → OwnX H' s (cs ++ e) (len + 1) v' (some p) → SameX o.toList H H' → K v' H') : aApp s v y H K := by
  have hlo := ownX_lt ho
  refine ownE_more (A := []) (g := H) (ownX_iff.1 ho) hs hl hy fun v' g' ho' hkeep => hk v' ([] ++ g') _ rfl (ownX_iff.2 ho') ⟨?_, fun i hi hx => ?_⟩
  · have := ownE_lt ho' rfl
    simp only [List.nil_append]
    omega
  · have hx' : o ≠ some i := fun e => hx (by rw [e]; simp)
    obtain ⟨x, hxx⟩ : ∃ x, H[i]? = some x := ⟨H[i], List.getElem?_eq_getElem hi⟩
    rw [hxx]
    exact hkeep i x hx' hxx

theorem retX {X : List Nat} {vs : List Value} (ok : heapOk h) (hn : n0 ≤ h.length) (S : SameX X h H) (hX : ∀ x ∈ X, h.length ≤ x) (hv : ∀ v ∈ vs, v ≠ unk) (hw : VOk h.length (pack vs)) (hk : K (pack vs) h) : retL n0 K [] vs H := by
  obtain ⟨g, rfl⟩ := S.app0 hX
  exact retL_drop ok hn hv hw hk
end
end Go.Proofs.Ytindillghipjjaa
namespace Go.Proofs.Ytindillghipjjaa
open Go.Conc Go.Proofs.Try
set_option maxRecDepth 100000
def HX (h H : List AObj) (ns : List Int) (k : Nat) : Prop := ∃ nv k' s rest, H = HF h nv k' s rest ∧ k' ≤ k ∧ (0 ≤ s ∧ s < 18446744073709551616) ∧ Hnd h nv ns

section
variable {main : Bool} {J : JT} {h H : List AObj} {K : Value → List AObj → Prop} {ns : List Int} {k : Nat}
theorem HX.mono {k' : Nat} (a : HX h H ns k) (hk : k ≤ k') : HX h H ns k' := by
  obtain ⟨nv, k1, s, rest, e, h1, h2, h3⟩ := a
  exact ⟨nv, k1, s, rest, e, by omega, h2, h3⟩
theorem HX.pre (a : HX h H ns k) : SameX [] h H := by
  obtain ⟨nv, k1, s, rest, rfl, _⟩ := a
  exact SameX.refl.app
theorem HX.same {X : List Nat} {H' : List AObj} (a : HX h H ns k) (S : SameX X H H') (hX : ∀ x ∈ X, h.length < x) : HX h H' ns k := by
  obtain ⟨nv, k1, s, rest, rfl, h1, h2, h3⟩ := a
  have e : HF h nv k1 s rest = (h ++ [.cells [nv, vint k1, .int .u64 s] true 0]) ++ rest := by simp [HF]
  rw [e] at S
  obtain ⟨g, hg⟩ := S.pre (fun x hx => by have := hX x hx; simp; omega)
  exact ⟨nv, k1, s, g, by rw [hg]; simp [HF], h1, h2, h3⟩
theorem hf_same {nv : Value} {k1 k2 : Nat} {s1 s2 : Int} {rest g : List AObj} : SameX [h.length] (HF h nv k1 s1 rest) (HF h nv k2 s2 rest ++ g) := by
  refine ⟨by rw [hf_app, hf_len, hf_len]; simp, fun i hi hx => ?_⟩
  simp at hx
  rw [List.getElem?_append_left (by rw [hf_len] at hi ⊢; omega)]
  unfold HF
  rcases Nat.lt_or_ge i h.length with x | x
  · rw [List.getElem?_append_left x, List.getElem?_append_left x]
  · rw [List.getElem?_append_right x, List.getElem?_append_right x]
    obtain ⟨j, hj⟩ : ∃ j, i - h.length = j + 1 := ⟨i - h.length - 1, by omega⟩
    rw [hj]
    rfl

theorem newX (hJ : Closed prog main J) {nv : Value} (sn : Sli h nv 1 ns.length (ns.map vint)) (hln : ns.length < 4611686018427387904)
    (hK : ∀ H, HX h H ns 0 → K (ptr h.length 0) H) : Good prog J 20 [nv] h K := by
  obtain ⟨nb, nc, hnv, _⟩ := id sn
  subst hnv
  exact good20 hJ (hK _ ⟨_, 0, 88172645463325252, [], rfl, Nat.le_refl _, by omega, ⟨sn, hln⟩⟩)
theorem upX (hJ : Closed prog main J) (a : HX h H ns k) (hk : k < 1000000) {m : Int} (hm : m < 1000000)
    (hK : ∀ y H', 0 ≤ y → (y ≤ m ∨ y = 0) → SameX [h.length] H H' → H'.length = H.length → HX h H' ns (k + 1) → K (vint y) H') : Good prog J 23 [ptr h.length 0, vint m] H K := by
  obtain ⟨nv, k1, s, rest, rfl, h1, h2, h3⟩ := a
  have := up (k := k1) (g := []) (rest := rest) (K := K) hJ h3 h2 (by omega) hm fun y k' s' a1 a2 a3 a4 => hK y _ a1 a2 hf_same (by simp [hf_len]) ⟨nv, k', s', rest, by simp, by omega, a4, h3⟩
  simpa using this
theorem amX (hJ : Closed prog main J) (a : HX h H ns k) (hk : k < 1000000) {lo hi : Int} (h1 : -1000000 ≤ lo ∧ lo ≤ 1000000) (h2 : -1000000 ≤ hi ∧ hi ≤ 1000000)
    (hK : ∀ y H', lo ≤ y → (y ≤ hi ∨ y = lo) → SameX [h.length] H H' → H'.length = H.length → HX h H' ns (k + 1) → K (vint y) H') : Good prog J 33 [ptr h.length 0, vint lo, vint hi] H K := by
  obtain ⟨nv, k1, s, rest, rfl, b1, b2, b3⟩ := a
  have := amo (k := k1) (g := []) (rest := rest) (K := K) hJ b3 b2 (by omega) h1 h2 fun y k' s' a1 a2 a3 a4 => hK y _ a1 a2 hf_same (by simp [hf_len]) ⟨nv, k', s', rest, by simp, by omega, a4, b3⟩
  simpa using this
end
end Go.Proofs.Ytindillghipjjaa
namespace Go.Proofs.Ytindillghipjjaa
open Go.Conc Go.Proofs.Try
set_option maxRecDepth 100000
section
variable {main : Bool} {J : JT} {h H : List AObj} {K : Value → List AObj → Prop} {KV : Value → Prop} {n0 : Nat}
theorem appX {s m p : Nat} {y : Value} {ys : List Value} (hp : H[p]? = some (.cells [] true 0)) (hs : 0 < s) (hm : m < 1000000) (hy : Sli H y s m ys)
    (hk : ∀ v' H' p', OwnX H' s ys m v' (some p') → SameX [] H H' → (p' = p ∨ p' = H.length) → K v' H') : aApp s (.slice (some ⟨p, 0, none⟩) 0 0) y H K := by
  have hr : room = 1073741824 := rfl
  have hy' := hy
  have hkn : kn ys = true := by
    obtain ⟨_, _, _, ⟨_, h⟩, _⟩ := hy
    exact h
  have hvl := sli_vlen hy
  by_cases h0 : m = 0
  · subst h0
    have hys : ys = [] := List.length_eq_zero_iff.1 (by omega)
    subst hys
    obtain ⟨yb, yc, rfl, _⟩ := hy
    refine ⟨by omega, src_sli hy' hs ?_⟩
    simp only [hp]
    have hf : fz = 1180591620717411303424 := rfl
    refine ⟨⟨by simp, by simp [kn]⟩, fun _ => ⟨fun _ => ⟨trivial, by simp, ?_⟩, fun x => absurd x (by simp)⟩, fun x => absurd x (by omega)⟩
    have e : H.set p (.cells (wrAt [] (0 + 0 * s) []) true 0) = H := by
      apply List.ext_getElem?
      intro i
      rw [List.getElem?_set]
      split
      · rename_i e
        subst e
        have := lt_of_get hp
        rw [if_pos this]
        simpa [wrAt] using hp.symm
      · rfl
    have := hk (.slice (some ⟨p, 0, none⟩) 0 0) H p ⟨by simp, rfl, .inr ⟨p, 0, 0, rfl, rfl, hp, .inr rfl⟩⟩ SameX.refl (.inl rfl)
    first
    | simpa [wrAt, e] using this
    | (rw [show (wrAt ([] : List Value) (0 + 0 * s) []) = [] from by simp [wrAt]] at e; simpa [wrAt, e] using this)
  · refine app_copy (n := 0) (m := m) (cs := []) (wr := true) (sz := 0) hp (by simp) (by simp [kn]) (by omega) hs hy' (by omega) ?_
    simp only [Nat.zero_mul, List.drop_nil, List.take_nil, List.nil_append, Nat.zero_add]
    exact hk _ _ H.length ⟨hvl, hkn, .inr ⟨H.length, fz, s, rfl, rfl, by simp, .inl ⟨rfl, rfl⟩⟩⟩ SameX.refl.app (.inr rfl)

end
end Go.Proofs.Ytindillghipjjaa

namespace Go.Proofs.Ytindillghipjjaa
open Go.Conc Go.Proofs.Try
set_option maxRecDepth 100000
structure Wel where
  now : Int
  holds : Int
  fill : Int
def Wel.cells (w : Wel) : List Value := [vint w.now, vint w.holds, vint w.fill]
def Wel.val (w : Wel) : Value := .agg ⟨w.cells⟩
structure Dro where
  drinks : Int
  every : Int
def Dro.cells (d : Dro) : List Value := [vint d.drinks, vint d.every]
structure Tro where
  well : Wel
  flocks : List Dro
def troCells (t : Tro) (fv : Value) : List Value := [vint t.well.now, vint t.well.holds, vint t.well.fill, fv]
theorem dro_len (d : Dro) : d.cells.length = 2 := rfl

structure TroAt (h : List AObj) (v : Value) (t : Tro) (fv : Value) : Prop where
  val : v = .agg ⟨troCells t fv⟩
  fl : SliE h fv 2 Dro.cells t.flocks

def fewE (n lo hi : Int) : Int := if n < lo then 7 else if n > hi then 6 else 0
def welE (w : Wel) : Int := if (1 ≤ w.holds ∧ w.holds ≤ 40) ∧ (0 ≤ w.now ∧ w.now ≤ w.holds) ∧ (0 ≤ w.fill ∧ w.fill ≤ 20) then 0 else 1
def droOk (d : Dro) : Prop := (1 ≤ d.drinks ∧ d.drinks ≤ 40) ∧ (1 ≤ d.every ∧ d.every ≤ 8)
instance (d : Dro) : Decidable (droOk d) := by unfold droOk; infer_instance
def troE (t : Tro) : Int := if welE t.well ≠ 0 then welE t.well else if fewE t.flocks.length 1 3 ≠ 0 then fewE t.flocks.length 1 3 else if ∀ d ∈ t.flocks, droOk d then 0 else 1

section
variable {main : Bool} {J : JT} {h H : List AObj} {K : Value → List AObj → Prop} {KV : Value → Prop}
theorem sli_val {v : Value} {s n : Nat} {cs : List Value} (hs : Sli h v s n cs) : v.cells = #[v] ∧ one v = true ∧ kn1 v = true := by
  obtain ⟨base, c, rfl, _⟩ := hs
  exact ⟨rfl, rfl, rfl⟩
theorem tro_one {v fv : Value} {t : Tro} (a : TroAt h v t fv) : (troCells t fv).all one = true := by
  have := (sli_val a.fl).2.1
  unfold troCells
  simp only [List.all_cons, List.all_nil, this]
  rfl
theorem tro_kn {v fv : Value} {t : Tro} (a : TroAt h v t fv) : kn (troCells t fv) = true := by
  have := (sli_val a.fl).2.2
  unfold troCells kn
  simp only [List.all_cons, List.all_nil, this]
  rfl

theorem good71 (hJ : Closed prog main J) {n lo hi : Int} (hK : K (.bool (decide (lo ≤ n ∧ n ≤ hi))) h) : Good prog J 71 [vint n, vint lo, vint hi] h K := by
  refine g71 hJ fun ok => ?_
  rw [e71]
  refine leqI (cndI (fun h1 => leqI (retL_same (by simp [unk]) ?_)) fun h1 => retL_same (by simp [unk]) ?_)
  · simpa [pack, h1] using hK
  · simpa [pack, h1] using hK
theorem good70 (hJ : Closed prog main J) {n lo hi : Int} (hK : K (vint (fewE n lo hi)) h) : Good prog J 70 [vint n, vint lo, vint hi] h K := by
  refine g70 hJ fun ok => ?_
  rw [e70]
  refine lssI (cndI (fun h1 => retL_same (by simp [unk]) ?_) fun h1 => gtrI (cndI (fun h2 => retL_same (by simp [unk]) ?_) fun h2 => retL_same (by simp [unk]) ?_))
  · simpa [fewE, h1, pack] using hK
  · simpa [fewE, h1, h2, pack] using hK
  · simpa [fewE, h1, h2, pack] using hK

theorem good77 (hJ : Closed prog main J) {w : Wel} (hK : K (vint (welE w)) h) : Good prog J 77 [w.val] h K := by
  refine g77 hJ fun ok => ?_
  rw [e77]
  refine qBox (l := w.cells) rfl fun H1 p1 e1 S1 c1 l1 => ?_
  have fin : ∀ e : Int, welE w = e → retL h.length K [] [vint e] H1 := fun e he => by
    subst he
    exact retX ok (Nat.le_refl _) S1 (by simp) (by simp [unk]) (by simp [pack, VOk]) hK
  refine offI (ldI (v := vint w.holds) c1 rfl rfl (good71 hJ (cndI (fun h1 => ?_) fun h1 => hold.2 ?_)))
  · refine offI (ldI (v := vint w.now) c1 rfl rfl (offI (ldI (v := vint w.holds) c1 rfl rfl (good71 hJ (cndI (fun h2 => ?_) fun h2 => hold.2 ?_)))))
    · refine offI (ldI (v := vint w.fill) c1 rfl rfl (good71 hJ (hold.2 ?_)))
      rw [s77_1]
      refine cndI (fun h3 => fin 0 ?_) fun h3 => fin 1 ?_
      · unfold welE; rw [if_pos ⟨h1, h2, h3⟩]
      · unfold welE; rw [if_neg fun x => h3 x.2.2]
    · rw [s77_1]
      exact cnd_false.2 (fin 1 (by unfold welE; rw [if_neg fun x => h2 x.2.1]))
  · rw [s77_1]
    exact cnd_false.2 (fin 1 (by unfold welE; rw [if_neg fun x => h1 x.1]))

theorem good48 (hJ : Closed prog main J) {v fv : Value} {t : Tro} (ht : TroAt h v t fv) (hK : K (vint (troE t)) h) : Good prog J 48 [v] h K := by
  refine g48 hJ fun ok => ?_
  rw [e48, ht.val]
  refine qBox (tro_one ht) fun H1 p1 e1 S1 c1 l1 => ?_
  have t1 : TroAt H1 (.agg ⟨troCells t fv⟩) t fv := ⟨rfl, S1.sli ht.fl (by simp)⟩
  have kf := (sli_val ht.fl).2.2
  have fin : ∀ {n0 : Nat} {H : List AObj} (e : Int), n0 = h.length → SameX [] h H → heapOk H → troE t = e → retL n0 K [] [vint e] H := fun e hn S okH he => by
    subst he hn
    exact retX ok (Nat.le_refl _) S (by simp) (by simp [unk]) (by simp [pack, VOk]) hK
  have fin1 : ∀ {H : List AObj} (e : Int), SameX [] h H → troE t = e → retL h.length K [] [vint e] H := fun e S he => by
    subst he
    exact retX ok (Nat.le_refl _) S (by simp) (by simp [unk]) (by simp [pack, VOk]) hK
  refine offI (load_part (c := t.well.cells) c1 (by simp [troCells]) rfl rfl (good77 hJ ?_))
  refine neqI (cndI (fun h1 => fin1 _ S1 ?_) fun h1 => ?_)
  · unfold troE; rw [if_pos h1]
  refine offI (ldI (v := fv) c1 rfl kf (lenI t1.fl (good70 hJ ?_)))
  refine neqI (cndI (fun h2 => fin1 _ S1 ?_) fun h2 => ?_)
  · unfold troE; rw [if_neg h1, if_pos h2]
  refine offI (ldI (v := fv) c1 rfl kf (lenI t1.fl ?_))
  have hlen : t.flocks.length ≤ 3 := by
    have : fewE t.flocks.length 1 3 = 0 := by simpa using h2
    unfold fewE at this
    split at this
    · cases this
    · split at this
      · cases this
      · omega
  refine l48_1 hJ (fun i : Nat => t.flocks.length - i) (fun i f H => SameX [] h H ∧ H[p1]? = some (.cells (troCells t fv) true 0) ∧ i ≤ t.flocks.length ∧ (∀ d ∈ t.flocks.take i, droOk d) ∧ f.ds = [] ∧ f.r 21 = fv ∧ f.r 22 = vint t.flocks.length ∧ f.r 23 = vint (i : Nat)) ?_ (s := 0)
    (.inl ⟨S1, c1, by omega, by simp, rfl, rfl, rfl, rfl⟩)
  rintro i f H ⟨S, cp, hi, hd, hds, r21, r22, r23⟩ ok' hn'
  rw [s48_1, r21, r22, r23, hds]
  refine lssI (cndI (fun hlt => ?_) fun hge => fin1 0 S (by
    have : i = t.flocks.length := by omega
    subst this
    rw [List.take_length] at hd
    unfold troE
    rw [if_neg h1, if_neg h2, if_pos hd]))
  have hil : i < t.flocks.length := by omega
  have tS : SliE H fv 2 Dro.cells t.flocks := S.sli ht.fl (by simp)
  obtain ⟨b, o, cs, wr, sz, hidx, hb, hol, hft, hkn⟩ := sliE_elem dro_len (by omega) tS hil
  refine hidx _ (load_part hb hol hft hkn ?_)
  refine qAl fun H2 p2 e2 S2 c2 l2 => qStA (c := t.flocks[i].cells) c2 rfl rfl rfl fun H3 S3 c3 l3 => ?_
  have S13 : SameX [] H H3 := (SameX.refl.trans S2).thru S3 (by simp; omega)
  have hta : ∀ (x : droOk t.flocks[i]), ∀ d ∈ t.flocks.take (i + 1), droOk d := fun x d hm => by
    rw [List.take_add_one, List.getElem?_eq_getElem hil] at hm
    rcases List.mem_append.1 hm with hm | hm
    · exact hd d hm
    · have : d = t.flocks[i] := by simpa using hm
      exact this ▸ x
  have hbad : ¬ droOk t.flocks[i] → troE t = 1 := fun x => by
    unfold troE
    rw [if_neg h1, if_neg h2, if_neg fun hall => x (hall _ (List.getElem_mem hil))]
  refine offI (ldI (v := vint t.flocks[i].drinks) c3 rfl rfl (good71 hJ (notI (cndN (fun g1 => hold.2 ?_) fun g1 => ?_))))
  · rw [s48_2]
    exact cnd_true.2 (by show retL h.length K f.ds [vint 1] H3; rw [hds]; exact fin1 1 (S.trans S13) (hbad fun x => g1 x.1))
  · refine offI (ldI (v := vint t.flocks[i].every) c3 rfl rfl (good71 hJ (notI (hold.2 ?_))))
    rw [s48_2]
    refine cndN (fun g2 => ?_) fun g2 => ?_
    · show retL h.length K f.ds [vint 1] H3
      rw [hds]
      exact fin1 1 (S.trans S13) (hbad fun x => g2 x.2)
    · show aBin prog .add 3 (f.r 23) (vint 1) _
      rw [r23]
      refine addI (by omega) ?_
      exact ⟨i + 1, by dsimp only; omega, .inl ⟨S.trans S13, S13.get cp (by simp), by omega, hta ⟨g1, g2⟩, hds, r21, r22, by show vint _ = vint _; congr 1⟩⟩
end
end Go.Proofs.Ytindillghipjjaa

namespace Go.Proofs.Ytindillghipjjaa
open Go.Conc Go.Proofs.Try
set_option maxRecDepth 100000
def Wel.filled (w : Wel) : Wel := { w with now := min w.holds (w.now + w.fill) }
def Wel.drunk (w : Wel) (n : Int) : Wel := { w with now := w.now - min w.now n }
def Wel.sm (w : Wel) : Prop := (-1000000 ≤ w.now ∧ w.now ≤ 1000000) ∧ (-1000000 ≤ w.holds ∧ w.holds ≤ 1000000) ∧ (-1000000 ≤ w.fill ∧ w.fill ≤ 1000000)

section
variable {main : Bool} {J : JT} {h H : List AObj} {K : Value → List AObj → Prop} {KV : Value → Prop}
theorem wel_ok {n : Nat} (w : Wel) : VOk n w.val := by simp [Wel.val, Wel.cells, VOk, AOk, LOk]

theorem good79 (hJ : Closed prog main J) {w : Wel} (hw : w.sm) (hK : K w.filled.val h) : Good prog J 79 [w.val] h K := by
  obtain ⟨_, _, _⟩ := hw
  refine g79 hJ fun ok => ?_
  rw [e79]
  refine qBox (l := w.cells) rfl fun H1 p1 e1 S1 c1 l1 => qAl fun H2 p2 e2 S2 c2 l2 => ?_
  have c1' := S2.get c1 (by simp)
  refine offI (offI (ldI (v := vint w.holds) c1' rfl rfl (offI (offI (ldI (v := vint w.now) c1' rfl rfl (offI (offI (ldI (v := vint w.fill) c1' rfl rfl (addI (by omega) (minI ?_))))))))))
  refine offI (offI (qSt c1' (by simp [Wel.cells]) rfl rfl fun H3 S3 c3 l3 => ?_))
  refine load_part (c := w.filled.cells) c3 (by simp [Wel.cells]) rfl rfl ?_
  have c2' := S3.get c2 (by simp; omega)
  refine qStA (c := w.filled.cells) c2' rfl rfl rfl fun H4 S4 c4 l4 => ?_
  have S : SameX [] h H4 := ((S1.trans S2).thru S3 (by simp; omega)).thru S4 (by simp; omega)
  obtain ⟨g, rfl⟩ := S.app0 (by simp)
  refine retQ_drop rfl ok (Nat.le_refl _) (resW_cell (gg := true) (s := 3) (by kernel_rfl) ?_)
  refine load_part (c := w.filled.cells) c4 (by simp [Wel.cells]) rfl rfl (resW_nil ⟨wel_ok _, hK⟩)

theorem good82 (hJ : Closed prog main J) {w : Wel} {n : Int} (hw : w.sm) (hn : -1000000 ≤ n ∧ n ≤ 1000000) (hK : K (.tuple ⟨[(w.drunk n).val, .bool (decide (w.now < n))]⟩) h) : Good prog J 82 [w.val, vint n] h K := by
  obtain ⟨_, _, _⟩ := hw
  refine g82 hJ fun ok => ?_
  rw [e82]
  refine qBox (l := w.cells) rfl fun H1 p1 e1 S1 c1 l1 => qAl fun H2 p2 e2 S2 c2 l2 => ?_
  have c1' := S2.get c1 (by simp)
  refine offI (offI (ldI (v := vint w.now) c1' rfl rfl (lssI (offI (offI (ldI (v := vint w.now) c1' rfl rfl (offI (offI (ldI (v := vint w.now) c1' rfl rfl (minI (subI (by omega) ?_)))))))))))
  refine offI (offI (qSt c1' (by simp [Wel.cells]) rfl rfl fun H3 S3 c3 l3 => ?_))
  refine load_part (c := (w.drunk n).cells) c3 (by simp [Wel.cells]) rfl rfl ?_
  have c2' := S3.get c2 (by simp; omega)
  refine qStA (c := (w.drunk n).cells) c2' rfl rfl rfl fun H4 S4 c4 l4 => ?_
  have S : SameX [] h H4 := ((S1.trans S2).thru S3 (by simp; omega)).thru S4 (by simp; omega)
  obtain ⟨g, rfl⟩ := S.app0 (by simp)
  refine retQ_drop rfl ok (Nat.le_refl _) (resW_cell (gg := true) (s := 3) (by kernel_rfl) ?_)
  refine load_part (c := (w.drunk n).cells) c4 (by simp [Wel.cells]) rfl rfl (resW_tmp (by intro e; cases e) (resW_nil ⟨?_, hK⟩))
  show VOk h.length (.tuple ⟨[(w.drunk n).val, .bool (decide (w.now < n))]⟩)
  simp [VOk, AOk, LOk, Wel.val, Wel.cells]
end
structure Srv where
  now : Int
  next : Nat
  hour : Nat
  wait : Int

def droAt (t : Tro) (i : Nat) : Dro := t.flocks.getD i ⟨0, 0⟩

def srvStep (t : Tro) (cs : List Int) (os : List Nat) (s : Srv) : Srv ⊕ Int :=
  let who := os.getD s.next 0
  if (s.hour : Int) ≥ cs.getD who 0 ∧ s.now ≥ (droAt t who).drinks then
    if s.next + 1 = os.length then .inr (s.wait + (s.hour - cs.getD who 0))
    else .inl ⟨min t.well.holds (s.now - (droAt t who).drinks + t.well.fill), s.next + 1, s.hour + 1, s.wait + (s.hour - cs.getD who 0)⟩
  else if min t.well.holds (s.now + t.well.fill) = s.now ∧ (s.hour : Int) ≥ cs.getD who 0 then .inr (-1)
    else .inl ⟨min t.well.holds (s.now + t.well.fill), s.next, s.hour + 1, s.wait⟩

def srvRun (t : Tro) (cs : List Int) (os : List Nat) : Nat → Srv → Int
  | 0, _ => -2
  | n + 1, s => match srvStep t cs os s with
    | .inr r => r
    | .inl s' => srvRun t cs os n s'

def srvM (t : Tro) (os : List Nat) (s : Srv) : Nat := (os.length - s.next) * 200 + (49 - s.hour) + (t.well.holds - s.now).toNat

structure SrvIn (t : Tro) (cs : List Int) (os : List Nat) : Prop where
  ok : troE t = 0
  len : cs.length = t.flocks.length
  hours : ∀ c ∈ cs, 0 ≤ c ∧ c ≤ 48
  pos : 0 < os.length
  few : os.length ≤ 3
  who : ∀ o ∈ os, o < t.flocks.length

structure SrvOk (t : Tro) (os : List Nat) (s : Srv) : Prop where
  lo : 0 ≤ s.now
  hi : s.now ≤ t.well.holds
  next : s.next < os.length

theorem troE_well {t : Tro} (h : troE t = 0) : ((1 ≤ t.well.holds ∧ t.well.holds ≤ 40) ∧ (0 ≤ t.well.now ∧ t.well.now ≤ t.well.holds) ∧ (0 ≤ t.well.fill ∧ t.well.fill ≤ 20)) ∧ (1 ≤ t.flocks.length ∧ t.flocks.length ≤ 3) ∧ ∀ d ∈ t.flocks, droOk d := by
  unfold troE at h
  split at h
  · rename_i x
    exact absurd h x
  · rename_i x
    split at h
    · rename_i y
      exact absurd h y
    · rename_i y
      split at h
      · rename_i z
        refine ⟨?_, ?_, z⟩
        · unfold welE at x
          split at x
          · assumption
          · exact absurd (by decide) x
        · unfold fewE at y
          split at y
          · exact absurd (by decide) y
          · split at y
            · exact absurd (by decide) y
            · omega
      · cases h

section
variable {t : Tro} {cs : List Int} {os : List Nat} {s s' : Srv}
theorem SrvIn.at_ (I : SrvIn t cs os) (O : SrvOk t os s) : ∃ o, os[s.next]? = some o ∧ os.getD s.next 0 = o ∧ o < t.flocks.length ∧ (∃ c, cs[o]? = some c ∧ cs.getD o 0 = c ∧ 0 ≤ c ∧ c ≤ 48) ∧ (∃ d, t.flocks[o]? = some d ∧ droAt t o = d ∧ 1 ≤ d.drinks ∧ d.drinks ≤ 40) := by
  have h0 := O.next
  have h1 := List.getElem?_eq_getElem O.next
  have h2 := I.who _ (List.getElem_mem O.next)
  have h3 : os[s.next] < cs.length := by rw [I.len]; exact h2
  have h4 := I.hours _ (List.getElem_mem h3)
  have h5 := (troE_well I.ok).2.2 _ (List.getElem_mem h2)
  exact ⟨os[s.next], h1, by rw [List.getD_eq_getElem?_getD, h1]; rfl, h2, ⟨_, List.getElem?_eq_getElem h3, by rw [List.getD_eq_getElem?_getD, List.getElem?_eq_getElem h3, Option.getD_some], h4⟩, ⟨_, List.getElem?_eq_getElem h2, by rw [droAt, List.getD_eq_getElem?_getD, List.getElem?_eq_getElem h2, Option.getD_some], h5.1⟩⟩

theorem srv_next (I : SrvIn t cs os) (O : SrvOk t os s) (hs : srvStep t cs os s = .inl s') : SrvOk t os s' ∧ srvM t os s' < srvM t os s ∧ s'.hour = s.hour + 1 := by
  obtain ⟨w, _, f⟩ := (troE_well I.ok).1
  obtain ⟨o, _, e1, _, ⟨c, _, e2, c1, c2⟩, d, _, e3, d1, d2⟩ := I.at_ O
  have hlo := O.lo
  have hhi := O.hi
  have hne := O.next
  unfold srvStep at hs
  simp only [e1, e2, e3] at hs
  split at hs
  · rename_i hc
    split at hs
    · cases hs
    · rename_i hn
      cases hs
      refine ⟨⟨by dsimp only; omega, by dsimp only; omega, by dsimp only; omega⟩, ?_, rfl⟩
      unfold srvM
      dsimp only
      have : (os.length - s.next) * 200 = (os.length - (s.next + 1)) * 200 + 200 := by omega
      omega
  · rename_i hc
    split at hs
    · cases hs
    · rename_i hn
      cases hs
      refine ⟨⟨by dsimp only; omega, by dsimp only; omega, hne⟩, ?_, rfl⟩
      unfold srvM
      dsimp only
      by_cases hh : (s.hour : Int) ≥ c
      · have : min t.well.holds (s.now + t.well.fill) ≠ s.now := fun e => hn ⟨e, hh⟩
        omega
      · omega

theorem srv_fuel (I : SrvIn t cs os) : ∀ (m n k : Nat) (s : Srv), srvM t os s = m → SrvOk t os s → m < n → m < k → srvRun t cs os n s = srvRun t cs os k s := by
  intro m
  induction m using Nat.strongRecOn with
  | ind m ih =>
    intro n k s hm O hn hk
    cases n with
    | zero => omega
    | succ n =>
      cases k with
      | zero => omega
      | succ k =>
        unfold srvRun
        cases hs : srvStep t cs os s with
        | inr r => rfl
        | inl s' =>
          obtain ⟨O', hl, _⟩ := srv_next I O hs
          exact ih _ (by omega) n k s' rfl O' (by omega) (by omega)

def srvFrom (t : Tro) (cs : List Int) (os : List Nat) (s : Srv) : Int := srvRun t cs os (srvM t os s + 1) s
def serveW (t : Tro) (cs : List Int) (os : List Nat) : Int := srvFrom t cs os ⟨t.well.now, 0, 0, 0⟩

theorem srvFrom_inl (I : SrvIn t cs os) (O : SrvOk t os s) (hs : srvStep t cs os s = .inl s') : srvFrom t cs os s = srvFrom t cs os s' := by
  obtain ⟨O', hl, _⟩ := srv_next I O hs
  have : srvFrom t cs os s = srvRun t cs os (srvM t os s) s' := by
    unfold srvFrom
    conv => lhs; unfold srvRun
    rw [hs]
  rw [this]
  exact srv_fuel I _ _ _ s' rfl O' hl (Nat.lt_succ_self _)
theorem srvFrom_inr {r : Int} (hs : srvStep t cs os s = .inr r) : srvFrom t cs os s = r := by
  unfold srvFrom srvRun
  rw [hs]
end
end Go.Proofs.Ytindillghipjjaa

namespace Go.Proofs.Ytindillghipjjaa
open Go.Conc Go.Proofs.Try
set_option maxRecDepth 100000
section
variable {main : Bool} {J : JT} {h H : List AObj} {K : Value → List AObj → Prop} {KV : Value → Prop}
theorem sli_num {v : Value} {xs : List Int} (hs : Sli h v 1 xs.length (xs.map vint)) {i : Nat} {x : Int} (hx : xs[i]? = some x) (hk : ∀ p, KV p → True) {K2 : Value → Value → Prop} (hK : ∀ p, K2 p (vint x)) : aIdx 1 v (vint (i : Nat)) fun p => aLoad false 1 p h (K2 p) := by
  have hi : i < xs.length := (List.getElem?_eq_some_iff.1 hx).1
  exact idx_load hs ⟨by omega, by omega⟩ (by rw [Int.toNat_natCast, List.getElem?_map, hx]; rfl) hK
theorem sli_num' {v : Value} {xs : List Int} (hs : Sli h v 1 xs.length (xs.map vint)) {i : Nat} {x : Int} (hx : xs[i]? = some x) {K2 : Value → Value → Prop} (hK : ∀ p, K2 p (vint x)) : aIdx 1 v (vint (i : Nat)) fun p => aLoad false 1 p h (K2 p) :=
  sli_num hs (KV := fun _ => True) hx (fun _ _ => trivial) hK

theorem vext0 {a b : Value} (hk : KV a) : aExt (.tuple ⟨[a, b]⟩) 0 KV := hk
theorem vext1 {a b : Value} (hk : KV b) : aExt (.tuple ⟨[a, b]⟩) 1 KV := hk

structure Reg74 (cv ov : Value) (p3 p7 : Nat) (s : Srv) (f : RG) : Prop where
  ds : f.ds = []
  r1 : f.r 1 = cv
  r2 : f.r 2 = ov
  r3 : f.r 3 = ptr p3 0
  r7 : f.r 7 = ptr p7 0
  r8 : f.r 8 = vint s.wait
  r9 : f.r 9 = vint (s.next : Nat)
  r10 : f.r 10 = vint (s.hour : Nat)

theorem good74 (hJ : Closed prog main J) {v fv cv ov : Value} {t : Tro} {cs : List Int} {os : List Nat} (ht : TroAt h v t fv) (hc : Sli h cv 1 cs.length (cs.map vint)) (ho : Sli h ov 1 (os.map Int.ofNat).length ((os.map Int.ofNat).map vint)) (I : SrvIn t cs os)
    (hK : K (vint (serveW t cs os)) h) : Good prog J 74 [v, cv, ov] h K := by
  obtain ⟨ww, wl, _⟩ := troE_well I.ok
  refine g74 hJ fun ok => ?_
  rw [e74, ht.val]
  refine qBox (tro_one ht) fun H1 p3 e1 S1 c1 l1 => ?_
  refine offI (load_part (c := t.well.cells) c1 (by simp [troCells]) rfl rfl ?_)
  have fill : ∀ {KL : List Value → Prop}, KL t.well.cells → aFill [vint 0, vint 0, vint 0] [(0, 3, .agg ⟨t.well.cells⟩)] KL := fun hk => ⟨rfl, rfl, Nat.le_refl _, hk⟩
  refine fill (qAl fun H2 p7 e2 S2 c2 l2 => qStA (c := t.well.cells) c2 rfl rfl rfl fun H3 S3 c3 l3 => ?_)
  have SH : SameX [] h H3 := (S1.trans S2).thru S3 (by simp; omega)
  have c13 := S3.get (S2.get c1 (by simp)) (by simp; omega)
  have hp7 : h.length ≤ p7 := by omega
  have kf := (sli_val ht.fl).2.2
  let s0 : Srv := ⟨t.well.now, 0, 0, 0⟩
  have O0 : SrvOk t os s0 := ⟨by show 0 ≤ t.well.now; omega, by show t.well.now ≤ _; omega, I.pos⟩
  have m0 : srvM t os s0 ≤ 700 := by
    have := I.few
    show (os.length - 0) * 200 + (49 - 0) + (t.well.holds - t.well.now).toNat ≤ 700
    omega
  refine l74_1 hJ (fun s : Srv => srvM t os s) (fun s f H => SameX [] h H ∧ H[p3]? = some (.cells (troCells t fv) true 0) ∧ H[p7]? = some (.cells ({ t.well with now := s.now } : Wel).cells true 0) ∧ SrvOk t os s ∧ srvFrom t cs os s = serveW t cs os ∧ s.hour + srvM t os s ≤ 700 ∧ (-100000 * (s.next : Int) ≤ s.wait ∧ s.wait ≤ 100000 * (s.next : Int)) ∧ Reg74 cv ov p3 p7 s f) ?_ (s := s0)
    (.inl ⟨SH, c13, c3, O0, rfl, by show 0 + _ ≤ 700; omega, by show -100000 * ((0 : Nat) : Int) ≤ 0 ∧ (0 : Int) ≤ 100000 * ((0 : Nat) : Int); omega, ⟨rfl, rfl, rfl, rfl, rfl, rfl, rfl, rfl⟩⟩)
  rintro s f H ⟨S, cp, cb, O, hF, hM, hW, R⟩ ok' hn'
  obtain ⟨o, o1, o2, o3, ⟨c, x1, x2, x3, x4⟩, d, y1, y2, y3, y4⟩ := I.at_ O
  have hnow := O.lo
  have hnow2 := O.hi
  have hnx := O.next
  have hfew := I.few
  have hcS : Sli H cv 1 cs.length (cs.map vint) := S.sli hc (by simp)
  have hoS : Sli H ov 1 (os.map Int.ofNat).length ((os.map Int.ofNat).map vint) := S.sli ho (by simp)
  have hfS : SliE H fv 2 Dro.cells t.flocks := S.sli ht.fl (by simp)
  have hoi : (os.map Int.ofNat)[s.next]? = some (o : Int) := by rw [List.getElem?_map, o1]; rfl
  rw [s74_1, R.r1, R.r2, R.r3, R.r7, R.r9, R.r10]
  refine sli_num' hoS hoi fun q1 => ?_
  refine offI (offI (ldI (v := vint s.now) cb rfl rfl ?_))
  refine sli_num' hcS x1 fun q2 => ?_
  have hl3 : o < t.flocks.length := o3
  obtain ⟨b, off, fcs, wr, sz, hidx, hb, hol, hft, hkn⟩ := sliE_elem dro_len (by omega) hfS hl3
  have hd : t.flocks[o] = d := by
    rw [List.getElem?_eq_getElem hl3] at y1
    exact Option.some.inj y1
  rw [hd] at hft hkn
  have hdr : fcs[off + 0]? = some (vint d.drinks) := part_get hft rfl
  -- the way on where nobody drinks
  have other : ∀ (F : RG) (g : Bool), ¬ ((s.hour : Int) ≥ c ∧ s.now ≥ d.drinks) → F.r 42 = .bool false → F.r 11 = vint (o : Nat) → F.r 12 = vint s.now → Reg74 cv ov p3 p7 s F →
      W prog J 86 h.length 74 (subC [1, 1, 1, 0, 0, 0, 0, 1, 1, 0, 1] (codeOf f74)) F H (contX pl74 prog J 86 h.length 74 ct74 [1, 1, 1, 0, 0, 0, 0, 1, 1, 0, 1] (codeOf f74) [Nx h.length (fun s : Srv => srvM t os s) (fun s f H => SameX [] h H ∧ H[p3]? = some (.cells (troCells t fv) true 0) ∧ H[p7]? = some (.cells ({ t.well with now := s.now } : Wel).cells true 0) ∧ SrvOk t os s ∧ srvFrom t cs os s = serveW t cs os ∧ s.hour + srvM t os s ≤ 700 ∧ (-100000 * (s.next : Int) ≤ s.wait ∧ s.wait ≤ 100000 * (s.next : Int)) ∧ Reg74 cv ov p3 p7 s f) s] (RetQ prog [.tmp 6] h.length K)) := by
    intro F g hno r42 r11 r12 R'
    rw [s74_2, r42, R'.r7, R'.r1, R'.r10, r11, r12]
    refine cnd_false.2 ?_
    refine load_part (c := ({ t.well with now := s.now } : Wel).cells) cb (Nat.le_refl _) rfl rfl ?_
    refine good79 (w := { t.well with now := s.now }) hJ ⟨by dsimp only; omega, by dsimp only; omega, by dsimp only; omega⟩ ?_
    refine qStA (c := ({ t.well with now := min t.well.holds (s.now + t.well.fill) } : Wel).cells) cb rfl rfl rfl fun H4 S4 c4 l4 => ?_
    have S4h : SameX [] h H4 := S.thru S4 (by simp; omega)
    have hcS4 : Sli H4 cv 1 cs.length (cs.map vint) := S4h.sli hc (by simp)
    have cp4 := S4.get cp (by simp; omega)
    refine offI (offI (ldI (v := vint (min t.well.holds (s.now + t.well.fill))) c4 rfl rfl ?_))
    -- the end, or the next hour
    have fin : ∀ (F2 : RG) (x : Bool), x = decide (min t.well.holds (s.now + t.well.fill) = s.now ∧ (s.hour : Int) ≥ c) → F2.r 85 = .bool x → F2.ds = [] → F2.r 1 = cv → F2.r 2 = ov → F2.r 3 = ptr p3 0 → F2.r 7 = ptr p7 0 → F2.r 8 = vint s.wait → F2.r 9 = vint (s.next : Nat) → F2.r 10 = vint (s.hour : Nat) →
        W prog J 86 h.length 74 (subC [1, 1, 1, 0, 0, 0, 0, 1, 1, 1, 1, 1] (codeOf f74)) F2 H4 (contX pl74 prog J 86 h.length 74 ct74 [1, 1, 1, 0, 0, 0, 0, 1, 1, 1, 1, 1] (codeOf f74) [Nx h.length (fun s : Srv => srvM t os s) (fun s f H => SameX [] h H ∧ H[p3]? = some (.cells (troCells t fv) true 0) ∧ H[p7]? = some (.cells ({ t.well with now := s.now } : Wel).cells true 0) ∧ SrvOk t os s ∧ srvFrom t cs os s = serveW t cs os ∧ s.hour + srvM t os s ≤ 700 ∧ (-100000 * (s.next : Int) ≤ s.wait ∧ s.wait ≤ 100000 * (s.next : Int)) ∧ Reg74 cv ov p3 p7 s f) s] (RetQ prog [.tmp 6] h.length K)) := by
      intro F2 x hx r85 ds q1 q2 q3 q7 q8 q9 q10
      rw [s74_3, r85, ds, q10]
      cases x with
      | true =>
        have hx := of_decide_eq_true hx.symm
        have hs : srvStep t cs os s = .inr (-1) := by
          unfold srvStep
          simp only [o2, x2, y2]
          rw [if_neg hno, if_pos hx]
        have hr := srvFrom_inr hs
        rw [hF] at hr
        refine cnd_true.2 (retX ok (Nat.le_refl _) S4h (by simp) (by simp [unk]) (by simp [pack, VOk]) ?_)
        show K (vint (-1)) h
        rw [← hr]
        exact hK
      | false =>
        have hx := of_decide_eq_false hx.symm
        have hs : srvStep t cs os s = .inl ⟨min t.well.holds (s.now + t.well.fill), s.next, s.hour + 1, s.wait⟩ := by
          unfold srvStep
          simp only [o2, x2, y2]
          rw [if_neg hno, if_neg hx]
        obtain ⟨O', hl, _⟩ := srv_next I O hs
        refine cnd_false.2 (addI (by omega) ?_)
        refine ⟨_, hl, .inl ⟨S4h, cp4, c4, O', by rw [← srvFrom_inl I O hs]; exact hF, by dsimp only; omega, hW, ⟨ds, q1, q2, q3, q7, q8, q9, ?_⟩⟩⟩
        show vint _ = vint _
        congr 1
    refine eqlI (cndI (fun g1 => ?_) fun g1 => hold.2 ?_)
    · refine sli_num' hcS4 x1 fun q3 => geqI (hold.2 ?_)
      refine fin _ (decide ((s.hour : Int) ≥ c)) ?_ rfl R'.ds R'.r1 R'.r2 R'.r3 R'.r7 R'.r8 R'.r9 R'.r10
      rw [decide_eq_decide]
      exact ⟨fun x => ⟨g1, x⟩, fun x => x.2⟩
    · refine fin _ false ?_ rfl R'.ds R'.r1 R'.r2 R'.r3 R'.r7 R'.r8 R'.r9 R'.r10
      rw [eq_comm, decide_eq_false_iff_not]
      exact fun x => g1 x.1
  -- the way on where a flock drinks
  have drink : ∀ (F : RG), (s.hour : Int) ≥ c → s.now ≥ d.drinks → F.r 42 = .bool true → F.r 11 = vint (o : Nat) → Reg74 cv ov p3 p7 s F →
      W prog J 86 h.length 74 (subC [1, 1, 1, 0, 0, 0, 0, 1, 1, 0, 1] (codeOf f74)) F H (contX pl74 prog J 86 h.length 74 ct74 [1, 1, 1, 0, 0, 0, 0, 1, 1, 0, 1] (codeOf f74) [Nx h.length (fun s : Srv => srvM t os s) (fun s f H => SameX [] h H ∧ H[p3]? = some (.cells (troCells t fv) true 0) ∧ H[p7]? = some (.cells ({ t.well with now := s.now } : Wel).cells true 0) ∧ SrvOk t os s ∧ srvFrom t cs os s = serveW t cs os ∧ s.hour + srvM t os s ≤ 700 ∧ (-100000 * (s.next : Int) ≤ s.wait ∧ s.wait ≤ 100000 * (s.next : Int)) ∧ Reg74 cv ov p3 p7 s f) s] (RetQ prog [.tmp 6] h.length K)) := by
    intro F g1 g2 r42 r11 R'
    rw [s74_2, r42]
    refine cnd_true.2 ?_
    refine ⟨[p7, p3, b], ?_⟩
    rw [R'.r7, R'.r3, R'.r1, R'.r2, R'.r8, R'.r9, R'.r10, R'.ds, r11]
    refine load_part (c := ({ t.well with now := s.now } : Wel).cells) cb (Nat.le_refl _) rfl rfl ⟨by simp [RdOk, ptrBlk, ptr], ?_⟩
    refine offI (ldI (v := fv) cp rfl kf ⟨by simp [RdOk, ptrBlk, ptr], ?_⟩)
    refine hidx _ (offI (ldI hb hdr rfl ⟨by simp [RdOk, ptrBlk, ptr], ?_⟩))
    refine good82 (w := { t.well with now := s.now }) (n := d.drinks) hJ ⟨by dsimp only; omega, by dsimp only; omega, by dsimp only; omega⟩ (by omega) ?_
    refine ⟨fun _ _ => rfl, ?_⟩
    refine vext0 (vext1 ?_)
    refine qStA (c := (({ t.well with now := s.now } : Wel).drunk d.drinks).cells) cb rfl rfl rfl fun H4 S4 c4 l4 => ?_
    have S4h : SameX [] h H4 := S.thru S4 (by simp; omega)
    have hcS4 : Sli H4 cv 1 cs.length (cs.map vint) := S4h.sli hc (by simp)
    have hoS4 : Sli H4 ov 1 (os.map Int.ofNat).length ((os.map Int.ofNat).map vint) := S4h.sli ho (by simp)
    have cp4 := S4.get cp (by simp; omega)
    have hos : ((os.map Int.ofNat).length : Int) = (os.length : Int) := by rw [List.length_map]
    refine sli_num' hcS4 x1 fun q3 => subI (by omega) (addI (by omega) (addI (by omega) (lenI hoS4 (eqlI ?_))))
    have hm : min s.now d.drinks = d.drinks := by omega
    refine cndI (fun g3 => ?_) fun g3 => ?_
    · have hs : srvStep t cs os s = .inr (s.wait + (s.hour - c)) := by
        unfold srvStep
        simp only [o2, x2, y2]
        rw [if_pos ⟨g1, g2⟩, if_pos (by omega)]
      have hr := srvFrom_inr hs
      rw [hF] at hr
      refine retX ok (Nat.le_refl _) S4h (by simp) (by simp [unk]) (by simp [pack, VOk]) ?_
      show K (vint (s.wait + (s.hour - c))) h
      rw [← hr]
      exact hK
    · have hs : srvStep t cs os s = .inl ⟨min t.well.holds (s.now - d.drinks + t.well.fill), s.next + 1, s.hour + 1, s.wait + (s.hour - c)⟩ := by
        unfold srvStep
        simp only [o2, x2, y2]
        rw [if_pos ⟨g1, g2⟩, if_neg (by omega)]
      obtain ⟨O', hl, _⟩ := srv_next I O hs
      refine load_part (c := (({ t.well with now := s.now } : Wel).drunk d.drinks).cells) c4 (Nat.le_refl _) rfl rfl ?_
      refine good79 (w := ({ t.well with now := s.now } : Wel).drunk d.drinks) hJ ⟨by simp only [Wel.drunk]; omega, by simp only [Wel.drunk]; omega, by simp only [Wel.drunk]; omega⟩ ?_
      have hfw : (({ t.well with now := s.now } : Wel).drunk d.drinks).filled = ({ t.well with now := min t.well.holds (s.now - d.drinks + t.well.fill) } : Wel) := by
        simp only [Wel.filled, Wel.drunk]
        rw [hm]
      rw [hfw]
      refine qStA (c := ({ t.well with now := min t.well.holds (s.now - d.drinks + t.well.fill) } : Wel).cells) c4 rfl rfl rfl fun H5 S5 c5 l5 => ?_
      have S5h : SameX [] h H5 := S4h.thru S5 (by simp; omega)
      have cp5 := S5.get cp4 (by simp; omega)
      refine addI (by omega) ?_
      refine ⟨_, hl, .inl ⟨S5h, cp5, c5, O', by rw [← srvFrom_inl I O hs]; exact hF, by dsimp only; omega, by dsimp only; omega, ⟨R'.ds, R'.r1, R'.r2, R'.r3, R'.r7, rfl, ?_, ?_⟩⟩⟩
      · show vint _ = vint _
        congr 1
      · show vint _ = vint _
        congr 1
  refine geqI (cndI (fun g1 => ?_) fun g1 => hold.2 (other _ true (fun x => g1 x.1) rfl rfl rfl ⟨R.ds, R.r1, R.r2, R.r3, R.r7, R.r8, R.r9, R.r10⟩))
  refine offI (offI (ldI (v := vint s.now) cb rfl rfl ?_))
  refine offI (ldI (v := fv) cp rfl kf ?_)
  refine hidx _ (offI (ldI hb hdr rfl (geqI (hold.2 ?_))))
  by_cases g2 : s.now ≥ d.drinks
  · have e2 : decide (s.now ≥ d.drinks) = true := decide_eq_true g2
    rw [e2]
    exact drink _ g1 g2 rfl rfl ⟨R.ds, R.r1, R.r2, R.r3, R.r7, R.r8, R.r9, R.r10⟩
  · have e2 : decide (s.now ≥ d.drinks) = false := decide_eq_false g2
    rw [e2]
    exact other _ true (fun x => g2 x.2) rfl rfl rfl ⟨R.ds, R.r1, R.r2, R.r3, R.r7, R.r8, R.r9, R.r10⟩
end
end Go.Proofs.Ytindillghipjjaa

namespace Go.Proofs.Ytindillghipjjaa
open Go.Conc Go.Proofs.Try
set_option maxRecDepth 100000
section
variable {main : Bool} {J : JT} {h H : List AObj} {K : Value → List AObj → Prop} {KV : Value → Prop} {n0 : Nat}
theorem good127 (hJ : Closed prog main J) {v : Value} {xs : List Int} {x : Int} (hs : Sli h v 1 xs.length (xs.map vint)) (hl : xs.length ≤ 1000) (hK : ∀ r : Int, (r ≥ 0 ↔ x ∈ xs) → K (vint r) h) : Good prog J 127 [v, vint x] h K := by
  refine g127 hJ fun ok => ?_
  rw [e127]
  refine lenI hs ?_
  have fin : ∀ r : Int, (r ≥ 0 ↔ x ∈ xs) → retL h.length K [] [vint r] h := fun r hr =>
    retX ok (Nat.le_refl _) SameX.refl (by simp : ∀ x ∈ ([] : List Nat), h.length ≤ x) (by simp [unk]) (by simp [pack, VOk]) (hK r hr)
  refine l127_1 hJ (fun i : Nat => xs.length - i) (fun i f H => h = H ∧ i ≤ xs.length ∧ (∀ j, j < i → xs[j]? ≠ some x) ∧ f.ds = [] ∧ f.r 0 = v ∧ f.r 1 = vint x ∧ f.r 7 = vint (xs.length : Nat) ∧ f.r 8 = vint (i : Nat)) ?_ (s := 0)
    (.inl ⟨rfl, by omega, by intro j hj; omega, rfl, rfl, rfl, rfl, rfl⟩)
  rintro i f H ⟨e, hi, hne, ds, r0, r1, r7, r8⟩ _ _
  subst e
  rw [s127_1, r0, r1, r7, r8, ds]
  refine lssI (cndI (fun g => ?_) fun g => fin _ ?_)
  · have hil : i < xs.length := by omega
    have hx := List.getElem?_eq_getElem hil
    refine sli_num' hs hx fun p => eqlI (cndI (fun e => ?_) fun e => addI (by omega) ?_)
    · refine fin _ ⟨fun _ => ?_, fun _ => by omega⟩
      rw [e]
      exact List.getElem_mem hil
    · refine ⟨i + 1, by show xs.length - (i + 1) < xs.length - i; omega, .inl ⟨rfl, by omega, fun j hj => ?_, ds, r0, r1, r7, ?_⟩⟩
      · by_cases hji : j = i
        · subst hji
          rw [hx]
          exact fun y => e (Option.some.inj y).symm
        · exact hne j (by omega)
      · show vint _ = vint _
        congr 1
  · refine ⟨fun y => absurd y (by decide), fun y => ?_⟩
    obtain ⟨j, hj⟩ := List.mem_iff_getElem?.1 y
    have := (List.getElem?_eq_some_iff.1 hj).1
    exact absurd hj (hne j (by omega))

theorem good108 (hJ : Closed prog main J) {v : Value} {xs : List Int} {x : Int} (hs : Sli h v 1 xs.length (xs.map vint)) (hl : xs.length ≤ 1000) (hK : K (.bool (decide (x ∈ xs))) h) : Good prog J 108 [v, vint x] h K := by
  refine g108 hJ fun ok => ?_
  rw [e108]
  refine good127 hJ hs hl fun r hr => geqI (retX ok (Nat.le_refl _) SameX.refl (by simp : ∀ x ∈ ([] : List Nat), h.length ≤ x) (by simp [unk]) (by simp [pack, VOk]) ?_)
  show K (.bool (decide (r ≥ 0))) h
  rw [decide_eq_decide.2 hr]
  exact hK

theorem ownX_nil {s : Nat} : OwnX H s [] 0 (.slice none 0 0) none := ⟨by simp, rfl, .inl ⟨rfl, rfl, rfl⟩⟩
theorem eqlNil {t e : TypeId} {base : Option Addr} {n c : Nat} (ht : prog.underlying t = some (.slice e)) (hg : prog.eqGuardType prog.depth t = false) (hk : KV (.bool base.isNone)) : aBin prog .eql t (.slice base n c) (.slice none 0 0) KV := by
  show aEq prog false t (.slice base n c) (.slice none 0 0) KV
  have : teq prog 10000 t (.slice base n c) (.slice none 0 0) = some base.isNone := by
    unfold teq
    rw [ht]
    cases base <;> rfl
  unfold aEq
  rw [this]
  exact ⟨hg, by simpa using hk⟩


theorem good109 (hJ : Closed prog main J) {a : Value} {l : List Int} (ha : Sli h a 1 l.length (l.map vint)) (hl : l.length < 1000)
    (hK : ∀ v H o, SameX [] h H → OwnX H 1 (l.map vint) l.length v o → (∀ i, o = some i → h.length ≤ i) → K v H) : Good prog J 109 [a] h K := by
  refine g109 hJ fun ok => ?_
  rw [e109]
  obtain ⟨base, c, rfl, hlk, hh⟩ := id ha
  refine eqlNil (e := 3) (by kernel_rfl) (by kernel_rfl) (cnd_bool.2 ⟨fun hb => ?_, fun hb => ?_⟩)
  · refine retL_same (by simp [unk]) ?_
    have h0 : l.length = 0 := by
      rcases hh with ⟨_, h0⟩ | ⟨b, o, hb2, _⟩
      · exact h0
      · rw [hb2] at hb
        cases hb
    have hl0 : l = [] := List.length_eq_zero_iff.1 h0
    subst hl0
    exact hK _ _ none SameX.refl ownX_nil (by simp)
  · refine ⟨by decide, fillI (qNew fun H1 p1 e1 S1 c1 l1 => ⟨by decide, appX c1 (by omega) (by omega) (S1.sli ha (by simp)) fun v H2 p2 O S2 hp2 => retL_same ?_ (hK v H2 (some p2) (S1.trans S2) O ?_)⟩)⟩
    · intro x hx
      simp at hx
      subst hx
      intro e
      have := (ownX_val O).2.2
      rw [e] at this
      exact absurd this (by decide)
    · intro i hi
      cases hi
      have := S1.1
      omega

theorem ownX_app {s len m : Nat} {cs e : List Value} {v y : Value} {o : Option Nat} (ho : OwnX H s cs len v o) (hs : 0 < s) (hl : len + m < 1000) (hm : 0 < m) (hy : Sli H y s m e)
    (hk : ∀ v' H' p, p = H.length → OwnX H' s (cs ++ e) (len + m) v' (some p) → SameX o.toList H H' → H'.length = p + 1 → K v' H') : aApp s v y H K := by
  have hr : room = 1073741824 := rfl
  have hel := sli_vlen hy
  have hek : kn e = true := by
    obtain ⟨_, _, _, ⟨_, h⟩, _⟩ := hy
    exact h
  have new : ∀ H1 : List AObj, H1.length = H.length → SameX o.toList H H1 → cs.length = len * s → kn cs = true → K (.slice (some ⟨H.length, 0, none⟩) (len + m) fz) (H1 ++ [.cells (cs ++ e) true s]) := by
    intro H1 hH1 S h1 h2
    refine hk _ _ H.length rfl ⟨?_, ?_, .inr ⟨H.length, fz, s, rfl, rfl, by simp [← hH1], .inl ⟨rfl, rfl⟩⟩⟩ ?_ (by simp [hH1])
    · rw [List.length_append, hel, h1, Nat.add_mul]
    · unfold kn at *
      rw [List.all_append, h2, hek]
      rfl
    · exact S.app
  obtain ⟨h1, h2, ⟨rfl, rfl, rfl⟩ | ⟨i, c, sz, rfl, rfl, h5, h6⟩⟩ := ho
  · have hcs : cs = [] := List.length_eq_zero_iff.1 (by omega)
    subst hcs
    refine app_nil hs hy (by omega) (fun e => absurd e (by omega)) fun _ => ?_
    have := new H rfl SameX.refl h1 h2
    simpa using this
  · have hlt := (List.getElem?_eq_some_iff.1 h5).1
    have ht : cs.take (len * s) = cs := List.take_of_length_le (by omega)
    rcases h6 with ⟨rfl, rfl⟩ | rfl
    · refine app_own (cs := cs) h5 (by omega) (by rw [ht]; exact h2) hs hy (by omega) ?_
      rw [ht]
      exact new _ (by simp) (SameX.refl.set (.inl (by simp))) h1 h2
    · refine app_copy (cs := cs) h5 (by omega) (by rw [List.drop_zero, ht]; exact h2) (by omega) hs hy (by omega) ?_
      rw [List.drop_zero, ht]
      exact new H rfl SameX.refl h1 h2
end
end Go.Proofs.Ytindillghipjjaa

namespace Go.Proofs.Ytindillghipjjaa
open Go.Conc Go.Proofs.Try
set_option maxRecDepth 100000
def nvs (os : List Nat) : List Value := (os.map Int.ofNat).map vint
theorem nvs_len (os : List Nat) : (nvs os).length = os.length := by simp [nvs]

def perms (n : Nat) : Nat → List Nat → List (List Nat)
  | 0, so => [so]
  | k + 1, so => ((List.range n).filter fun i => decide (i ∉ so)).flatMap fun i => perms n k (so ++ [i])

def permsTo (n k : Nat) (so : List Nat) (i : Nat) : List (List Nat) := ((List.range i).filter fun i => decide (i ∉ so)).flatMap fun i => perms n k (so ++ [i])
theorem permsTo_in {n k i : Nat} {so : List Nat} (h : i ∈ so) : permsTo n k so (i + 1) = permsTo n k so i := by
  unfold permsTo
  rw [List.range_succ, List.filter_append]
  simp [h]
theorem permsTo_out {n k i : Nat} {so : List Nat} (h : i ∉ so) : permsTo n k so (i + 1) = permsTo n k so i ++ perms n k (so ++ [i]) := by
  unfold permsTo
  rw [List.range_succ, List.filter_append]
  simp [h]

theorem len_flat {α β : Type} (f : α → List β) (c : Nat) : ∀ l : List α, (∀ x, (f x).length ≤ c) → (l.flatMap f).length ≤ l.length * c
  | [], _ => by simp
  | x :: l, h => by
    have := len_flat f c l h
    have := h x
    rw [List.flatMap_cons, List.length_append, List.length_cons, Nat.succ_mul]
    omega
theorem perms_few {n : Nat} (hn : n ≤ 3) : ∀ (k : Nat) (so : List Nat), (perms n k so).length ≤ 3 ^ k
  | 0, so => by simp [perms]
  | k + 1, so => by
    have h1 := len_flat (fun i => perms n k (so ++ [i])) (3 ^ k) ((List.range n).filter fun i => decide (i ∉ so)) fun i => perms_few hn k _
    have h2 := List.length_filter_le (fun i => decide (i ∉ so)) (List.range n)
    rw [List.length_range] at h2
    have h3 := Nat.mul_le_mul_right (3 ^ k) (Nat.le_trans h2 hn)
    rw [Nat.pow_succ]
    unfold perms
    omega
theorem permsTo_few {n : Nat} (hn : n ≤ 3) (k : Nat) (so : List Nat) {i : Nat} (hi : i ≤ n) : (permsTo n k so i).length ≤ 3 * 3 ^ k := by
  have h1 := len_flat (fun i => perms n k (so ++ [i])) (3 ^ k) ((List.range i).filter fun i => decide (i ∉ so)) fun i => perms_few hn k _
  have h2 := List.length_filter_le (fun i => decide (i ∉ so)) (List.range i)
  rw [List.length_range] at h2
  have h3 := Nat.mul_le_mul_right (3 ^ k) (Nat.le_trans h2 (Nat.le_trans hi hn))
  unfold permsTo
  omega
theorem free : ∀ (n : Nat) (so : List Nat), so.length < n → ∃ i, i < n ∧ i ∉ so
  | 0, so, h => by omega
  | n + 1, so, h => by
    by_cases hm : n ∈ so
    · have hl := List.length_erase_of_mem hm
      obtain ⟨i, hi, hx⟩ := free n (so.erase n) (by have := List.length_pos_of_mem hm; omega)
      exact ⟨i, by omega, fun y => hx ((List.mem_erase_of_ne (by omega)).2 y)⟩
    · exact ⟨n, by omega, hm⟩
theorem perms_some (n : Nat) : ∀ (k : Nat) (so : List Nat), so.length + k = n → ∃ x, x ∈ perms n k so
  | 0, so, _ => ⟨so, by simp [perms]⟩
  | k + 1, so, h => by
    obtain ⟨i, hi, hx⟩ := free n so (by omega)
    obtain ⟨y, hy⟩ := perms_some n k (so ++ [i]) (by rw [List.length_append, List.length_singleton]; omega)
    exact ⟨y, List.mem_flatMap.2 ⟨i, List.mem_filter.2 ⟨List.mem_range.2 hi, by simpa using hx⟩, hy⟩⟩

def Ele (H : List AObj) (lo : Nat) (o : Option Nat) (c : Value) (os : List Nat) : Prop :=
  ∃ b off cap cs wr sz, c = .slice (some ⟨b, off, none⟩) os.length cap ∧ lo ≤ b ∧ H[b]? = some (.cells cs wr sz) ∧ (cs.drop off).take os.length = nvs os ∧ some b ≠ o
def Eles (H : List AObj) (lo : Nat) (o : Option Nat) (cs : List Value) (oss : List (List Nat)) : Prop := ∀ (j : Nat) (os : List Nat), oss[j]? = some os → ∃ c, cs[j]? = some c ∧ Ele H lo o c os

theorem nvs_kn (os : List Nat) : kn (nvs os) = true := by
  unfold kn nvs
  rw [List.all_eq_true]
  intro x hx
  obtain ⟨y, _, rfl⟩ := List.mem_map.1 hx
  rfl
theorem Ele.sli {H : List AObj} {lo : Nat} {o : Option Nat} {c : Value} {os : List Nat} (a : Ele H lo o c os) : Sli H c 1 os.length (nvs os) := by
  obtain ⟨b, off, cap, cs, wr, sz, rfl, _, hb, ht, _⟩ := a
  exact ⟨_, _, rfl, ⟨by rw [nvs_len]; omega, nvs_kn os⟩, .inr ⟨b, off, rfl, .inr ⟨cs, wr, sz, hb, by rw [Nat.mul_one]; exact ht⟩⟩⟩
theorem Eles.keep {H H' : List AObj} {lo lo' : Nat} {o o' : Option Nat} {X : List Nat} {cs : List Value} {oss : List (List Nat)} (a : Eles H lo o cs oss) (S : SameX X H H') (hX : ∀ b, lo ≤ b → b < H.length → b ∈ X → some b = o) (hlo : lo' ≤ lo) (ho : ∀ b, lo ≤ b → b < H.length → some b = o' → some b = o) : Eles H' lo' o' cs oss := by
  intro j os hj
  obtain ⟨c, hc, b, off, cap, cs1, wr, sz, e, h1, hb, ht, hn⟩ := a j os hj
  exact ⟨c, hc, b, off, cap, cs1, wr, sz, e, by omega, S.get hb fun hm => hn (hX b h1 (lt_of_get hb) hm), ht, fun y => hn (ho b h1 (lt_of_get hb) y)⟩
theorem Eles.append {H : List AObj} {lo : Nat} {o : Option Nat} {cs cs' : List Value} {oss oss' : List (List Nat)} (a : Eles H lo o cs oss) (b : Eles H lo o cs' oss') (hl : cs.length = oss.length) : Eles H lo o (cs ++ cs') (oss ++ oss') := by
  intro j os hj
  by_cases h : j < oss.length
  · rw [List.getElem?_append_left h] at hj
    obtain ⟨c, hc, x⟩ := a j os hj
    exact ⟨c, by rw [List.getElem?_append_left (by omega)]; exact hc, x⟩
  · rw [List.getElem?_append_right (by omega)] at hj
    obtain ⟨c, hc, x⟩ := b _ os hj
    exact ⟨c, by rw [List.getElem?_append_right (by omega), hl]; exact hc, x⟩

section
variable {main : Bool} {J : JT}
theorem good72 (hJ : Closed prog main J) {n : Nat} (hn : 1 ≤ n ∧ n ≤ 3) : ∀ (k : Nat) {h : List AObj} {K : Value → List AObj → Prop} {sv : Value} {so : List Nat} {lo : Nat} (_ : so.length + k = n) (_ : Sli h sv 1 (so.map Int.ofNat).length ((so.map Int.ofNat).map vint)) (_ : lo ≤ h.length) (_ : so = [] ∨ Ele h lo none sv so)
    (_ : ∀ v H cs o, SameX [] h H → OwnX H 1 cs (perms n k so).length v o → (∀ i, o = some i → h.length ≤ i) → Eles H lo o cs (perms n k so) → K v H), Good prog J 72 [vint (n : Nat), sv] h K
  | 0, h, K, sv, so, lo, hk, hs, hlo, he, hK => by
    refine g72 hJ fun ok => ?_
    rw [e72]
    refine lenI hs (eqlI (cndI (fun _ => ?_) fun g => absurd g (by rw [List.length_map]; simp; omega)))
    obtain ⟨b, off, cap, cs, wr, sz, rfl, h1, hb, ht, hne⟩ := he.resolve_left (by rintro rfl; simp at hk; omega)
    refine ⟨by decide, ?_⟩
    refine ⟨rfl, rfl, Nat.le_refl _, fillI (qNew fun H1 p1 e1 S1 c1 l1 => retL_same (by simp [unk]) ?_)⟩
    have c1 : H1[p1]? = some (.cells [.slice (some ⟨b, off, none⟩) so.length cap] true 0) := c1
    refine hK _ _ _ (some p1) S1 (ownX_new c1 (by simp [zrep, perms]) (by rfl)) (fun i hi => by cases hi; omega) ?_
    intro j os hj
    have hj0 : j = 0 ∧ os = so := by
      cases j with
      | zero => simp [perms] at hj; exact ⟨rfl, hj.symm⟩
      | succ j => simp [perms] at hj
    obtain ⟨rfl, rfl⟩ := hj0
    exact ⟨_, rfl, b, off, cap, cs, wr, sz, rfl, h1, S1.get hb (by simp), ht, by have := lt_of_get hb; intro e; cases e; omega⟩
  | k + 1, h, K, sv, so, lo, hk, hs, hlo, he, hK => by
    refine g72 hJ fun ok => ?_
    rw [e72]
    refine lenI hs (eqlI (cndI (fun g => absurd g (by rw [List.length_map]; omega)) fun _ => ?_))
    have h3 : 3 * 3 ^ k ≤ 27 := by
      have : k ≤ 2 := by omega
      have := Nat.pow_le_pow_right (n := 3) (by omega) this
      omega
    refine l72_1 hJ (fun i : Nat => n - i) (fun i f H => SameX [] h H ∧ i ≤ n ∧ (∃ cs o, OwnX H 1 cs (permsTo n k so i).length (f.r 5) o ∧ (∀ p, o = some p → h.length ≤ p) ∧ Eles H lo o cs (permsTo n k so i)) ∧ f.ds = [] ∧ f.r 0 = vint (n : Nat) ∧ f.r 1 = sv ∧ f.r 13 = vint (n : Nat) ∧ f.r 14 = vint (i : Nat)) ?_ (s := 0)
      (.inl ⟨SameX.refl, by omega, ⟨[], none, ownX_nil, by simp, by intro j os hj; simp [permsTo] at hj⟩, rfl, rfl, rfl, rfl, rfl⟩)
    rintro i f H ⟨S, hi, ⟨cs, o, O, of_, E⟩, ds, r0, r1, r13, r14⟩ ok' hn'
    rw [s72_1, r0, r1, r13, r14, ds]
    refine lssI (cndI (fun g => ?_) fun g => ?_)
    · have hsH : Sli H sv 1 (so.map Int.ofNat).length ((so.map Int.ofNat).map vint) := S.sli hs (by simp)
      have hsl : (so.map Int.ofNat).length = so.length := by rw [List.length_map]
      have hil : i < n := by omega
      refine good108 hJ hsH (by omega) (notI (cndN (fun hno => ?_) fun hin => ?_))
      · have hno' : i ∉ so := fun y => hno (List.mem_map.2 ⟨i, y, rfl⟩)
        refine good109 hJ hsH (by omega) fun v5 H6 o5 S6 O5 of5 => ?_
        refine ⟨by decide, ?_⟩
        refine ⟨rfl, rfl, Nat.le_refl _, fillI (qNew fun H9 p8 e8 S9 c8 l8 => ⟨by decide, ?_⟩)⟩
        have c8 : H9[p8]? = some (.cells [vint (i : Nat)] true 0) := c8
        refine ownX_app (ownX_keep O5 S9 (by simp)) (by omega) (by omega) (by omega) (ownX_sli (ownX_new c8 rfl rfl)) fun v10 H11 p10 e10 O10 S11 l11 => ?_
        have eqv : (so.map Int.ofNat).map vint ++ [vint (i : Nat)] = nvs (so ++ [i]) := by simp [nvs]
        have hso' : (so ++ [i]).length = so.length + 1 := by simp
        have SS : SameX [] H H11 := (S6.trans S9).thru S11 (by
          intro x hx
          have := of5 x (by cases o5 <;> simp_all)
          omega)
        rw [eqv, hsl] at O10
        have OL := ownX_lt O10 _ rfl
        refine good72 hJ hn k (so := so ++ [i]) (lo := p10) (by rw [hso']; omega) (by
            have := ownX_sli O10
            unfold nvs at this
            rw [List.length_map, hso']
            exact this) (by omega) (.inr ?_) fun v12 H13 cs' o' S13 O13 of13 E13 => ?_
        · obtain ⟨_, _, ⟨h0, _⟩ | ⟨q, c, sz, hq, hv, hget, _⟩⟩ := O10
          · omega
          · cases hq
            exact ⟨p10, 0, c, _, true, sz, by rw [hv, hso'], Nat.le_refl _, hget, by rw [List.drop_zero, List.take_of_length_le (by rw [nvs_len]; omega)], by simp⟩
        · have S0 : SameX [] H H13 := SS.trans S13
          have O' := ownX_keep O S0 (by simp)
          have hb : p10 ≥ H.length := by
            have := S6.1
            have := S9.1
            omega
          have pos : 0 < (perms n k (so ++ [i])).length := by
            obtain ⟨x, hx⟩ := perms_some n k (so ++ [i]) (by rw [hso']; omega)
            exact List.length_pos_of_mem hx
          have f1 := permsTo_few hn.2 k so (i := i) hi
          have f2 := perms_few hn.2 k (so ++ [i])
          refine ⟨by decide, ownX_app O' (by omega) (by omega) pos (ownX_sli O13) fun v14 H15 p14 e14 O15 S15 l15 => addI (by omega) ?_⟩
          have olt : ∀ q, o = some q → q < H.length := ownX_lt O
          have S1 : SameX [] h H15 := (S.trans S0).thru S15 (by
            intro x hx
            exact .inr (of_ x (by cases o <;> simp_all)))
          refine ⟨i + 1, by show n - (i + 1) < n - i; omega, .inl ⟨S1, by omega, ⟨cs ++ cs', some p14, ?_, ?_, ?_⟩, ds, r0, r1, r13, ?_⟩⟩
          · rw [permsTo_out hno', List.length_append]
            exact O15
          · intro q hq
            cases hq
            have := S.1
            have := S0.1
            omega
          · rw [permsTo_out hno']
            have A : Eles H15 lo (some p14) cs (permsTo n k so i) := by
              refine Eles.keep (E.keep S0 (by simp) (Nat.le_refl _) (fun _ _ _ y => y)) S15 (fun b _ _ hm => by cases o <;> simp_all) (Nat.le_refl _) fun b _ hlt e => ?_
              cases e
              omega
            have B : Eles H15 lo (some p14) cs' (perms n k (so ++ [i])) := by
              refine E13.keep S15 (fun b hlo' _ hm => ?_) (by have := S.1; omega) fun b _ hlt e => ?_
              · have := olt b (by cases o <;> simp_all)
                omega
              · cases e
                omega
            refine A.append B ?_
            have := O.1
            omega
          · show vint _ = vint _
            congr 1
      · have hin' : i ∈ so := by
          obtain ⟨j, hj, e⟩ := List.mem_map.1 hin
          have : j = i := Int.ofNat.inj e
          rwa [← this]
        refine addI (by omega) ⟨i + 1, by show n - (i + 1) < n - i; omega, .inl ⟨S, by omega, ⟨cs, o, ?_, of_, ?_⟩, ds, r0, r1, r13, ?_⟩⟩
        · rw [permsTo_in hin']
          exact O
        · rw [permsTo_in hin']
          exact E
        · show vint _ = vint _
          congr 1
    · have hin : i = n := by omega
      subst hin
      refine retL_same ?_ (hK _ _ cs o S O of_ E)
      intro x hx
      simp at hx
      subst hx
      intro e
      have := (ownX_val O).2.2
      rw [e] at this
      exact absurd this (by decide)
end
end Go.Proofs.Ytindillghipjjaa

namespace Go.Proofs.Ytindillghipjjaa
open Go.Conc Go.Proofs.Try
set_option maxRecDepth 100000
noncomputable def pre73 : Array Oper := ops73_1.pop
def plan73 : Plan := .take 0 (.take 1 (.take 2 (.take 3 (.take 4 (.last 5 true (.take 6 .fin))))))
theorem last73 : lastOk ops73_1 pre73 7 7 (Array.replicate 8 false) (Array.replicate 7 false) = true := by kernel_rfl
theorem plan73_ok : planOk prog pre73 plan73 7 (Array.replicate 7 false) none = true := by kernel_rfl

section
variable {main : Bool} {J : JT} {h h' H : List AObj} {K : RG → List AObj → Prop} {f : RG} {B : List Nat}
theorem w73 : planW prog (Good prog J) 12 pre73 (some B) h plan73 true [] f h K =
(aLoad false 1 (f.r 0) h fun v1 =>
RdOk (some B) (ptrBlk (f.r 0)) ∧ (aLoad false 1 (f.r 1) h fun v2 =>
RdOk (some B) (ptrBlk (f.r 1)) ∧ (aLoad true 4 (f.r 2) h fun v3 =>
RdOk (some B) (ptrBlk (f.r 2)) ∧ (aLoad false 1 (f.r 3) h fun v4 =>
RdOk (some B) (ptrBlk (f.r 3)) ∧ (aLoad false 1 (f.r 4) h fun v5 =>
RdOk (some B) (ptrBlk (f.r 4)) ∧ (Good prog J 74 [v3, v4, v5] h fun v6 h7 =>
SameB (some B) h h7 ∧ (aFill [(vint 0), (vint 0)] [(0, 1, v2), (1, 1, v6)] fun c8 =>
K (RG.put (RG.put (RG.put (RG.put (RG.put (RG.put (RG.put f 5 v1) 6 v2) 7 v3) 8 v4) 9 v5) 10 v6) 11 (.agg ⟨c8⟩)) h7))))))) := by kernel_rfl

theorem same73 : ∀ (i : Nat) (o : Oper), pre73[i]? = some o → ops73_1[i]? = some o ∧ ∀ r, gd pre73 o r = gd ops73_1 o r := by
  intro i o hi
  have hz : pre73.size = 7 := by kernel_rfl
  have hlt : i < 7 := by
    have := (Array.getElem?_eq_some_iff.1 hi).1
    omega
  have hall : (List.range 7).all (fun j => (opGet pre73 j).guard.isNone) = true := by kernel_rfl
  have hg : (opGet pre73 i).guard = none := by
    have := List.all_eq_true.1 hall i (List.mem_range.2 hlt)
    simpa using this
  have ho : o = opGet pre73 i := by
    unfold opGet
    rw [Array.getD_eq_getD_getElem?, hi]
    rfl
  refine ⟨?_, fun r => ?_⟩
  · unfold pre73 at hi
    rw [Array.getElem?_pop] at hi
    split at hi
    · exact hi
    · cases hi
  · unfold gd
    rw [ho, hg]

def serveV (i : Nat) (t : Tro) (cs : List Int) (os : List Nat) : Value := .agg ⟨[vint (i : Nat), vint (serveW t cs os)]⟩

theorem work73 {ρ : Env} {FC : Frm} {w : World} {ft : Foot} (R : HRel ρ h FC w ft) {b0 b1 b2 b3 b4 c i : Nat} {fv cv ov : Value} {wr0 wr1 wr2 wr3 wr4 : Bool} {t : Tro} {cs : List Int} {os : List Nat}
    (h0 : h[b0]? = some (.cells [.chan (some c)] wr0 0)) (h1 : h[b1]? = some (.cells [vint (i : Nat)] wr1 0)) (h2 : h[b2]? = some (.cells (troCells t fv) wr2 0)) (h3 : h[b3]? = some (.cells [cv] wr3 0)) (h4 : h[b4]? = some (.cells [ov] wr4 0))
    (ht : SliE h fv 2 Dro.cells t.flocks) (hc : Sli h cv 1 cs.length (cs.map vint)) (ho : Sli h ov 1 (os.map Int.ofNat).length ((os.map Int.ofNat).map vint)) (I : SrvIn t cs os)
    {T : Crew} (hlt : c < h.length) (hcT : ρ.blk c = T.c) {k : Nat} (hphi : T.phi k (serveV i t cs os)) :
    Toward prog (AtSend prog T.c (T.phi k)) (G (Frame.enter prog 73 ⟨[ptr b0 0, ptr b1 0, ptr b2 0, ptr b3 0, ptr b4 0].map (ren ρ)⟩ .deferred) [base0 prog]) w ft := by
  have hJ := Toward.closed prog (AtSend prog T.c (T.phi k))
  have vp : ∀ {b : Nat} {x : AObj}, h[b]? = some x → VOk h.length (ptr b 0) := fun hb => by
    have := lt_of_get hb
    simp [VOk, ptr, AddrOk, this]
  refine At.enter (fn := f73) (args := [ptr b0 0, ptr b1 0, ptr b2 0, ptr b3 0, ptr b4 0]) at73 body73 (Nat.le_of_ble_eq_true rfl) ?_ R ?_
  · intro v hv
    simp only [List.mem_cons, List.not_mem_nil, or_false] at hv
    rcases hv with rfl | rfl | rfl | rfl | rfl
    · exact vp h0
    · exact vp h1
    · exact vp h2
    · exact vp h3
    · exact vp h4
  have e : codeOf f73 = .region 0 ops73_1 true := r73_1
  rw [e]
  have kf := (sli_val ht).2.2
  have kc := (sli_val hc).2.2
  have ko := (sli_val ho).2.2
  refine At.draw hJ mixed (by simp) same73 (n := 7) z73_1 (by kernel_rfl) last73 plan73_ok (B := some [b0, b1, b2, b3, b4]) (K := fun f h' => h' = h ∧ f.ds = [] ∧ f.r 5 = .chan (some c) ∧ f.r 11 = serveV i t cs os) ?_ (by simp) ?_
  · rw [show f73.ntmps = 12 from by kernel_rfl, w73]
    refine ldI h0 rfl rfl ⟨by simp [RdOk, ptrBlk, regs], ?_⟩
    refine ldI h1 rfl rfl ⟨by simp [RdOk, ptrBlk, regs], ?_⟩
    refine load_part (c := troCells t fv) h2 (by simp [troCells]) rfl (by simp [kn, troCells, kf]; exact ⟨rfl, rfl, rfl⟩) ⟨by simp [RdOk, ptrBlk, regs], ?_⟩
    refine ldI h3 rfl kc ⟨by simp [RdOk, ptrBlk, regs], ?_⟩
    refine ldI h4 rfl ko ⟨by simp [RdOk, ptrBlk, regs], ?_⟩
    refine good74 hJ (fv := fv) ⟨rfl, ht⟩ hc ho I ⟨fun _ _ => rfl, ?_⟩
    exact ⟨rfl, rfl, by decide, rfl, rfl, Nat.le_refl 2, rfl, rfl, rfl, rfl⟩
  · rintro f h' ⟨rfl, ds, r5, r11⟩
    intro a ρ' w' ft' A H' hu hm
    obtain ⟨o1, o2, o3, o4, o5⟩ := o73_1_7 (J := fun _ _ _ => True)
    refine send_stop rfl rfl o1 (o4 _) A ds o5 o2 r5 (by rw [(hu c hlt).1]; exact hcT) (v := serveV i t cs os) r11 (by simp [serveV, unk]) (by
      have : ren ρ' (serveV i t cs os) = serveV i t cs os := by simp [serveV, ren, renA, renL]
      rw [this]
      exact hphi) at73 (by kernel_rfl) (base_catches _)
end
end Go.Proofs.Ytindillghipjjaa

namespace Go.Proofs.Ytindillghipjjaa
open Go.Conc Go.Proofs.Try
set_option maxRecDepth 100000
def pickTo (ws : List Int) : Nat → Int
  | 0 => -1
  | i + 1 => if ws.getD i 0 ≥ 0 ∧ (pickTo ws i < 0 ∨ ws.getD i 0 < ws.getD (pickTo ws i).toNat 0) then i else pickTo ws i
theorem pickTo_lt (ws : List Int) : ∀ i, -1 ≤ pickTo ws i ∧ pickTo ws i < i
  | 0 => by simp [pickTo]
  | i + 1 => by
    have := pickTo_lt ws i
    unfold pickTo
    split <;> omega

section
variable {main : Bool} {J : JT} {h : List AObj} {K : Value → List AObj → Prop} {n0 : Nat}
theorem tail26 (hJ : Closed prog main J) {f : RG} {wv ov : Value} {ws : List Int} {m : Nat} {cells : List Value} (ok : heapOk h) (hn : n0 ≤ h.length) (hl : ws.length ≤ 1000) (hm : m = ws.length) (hw : Sli h wv 1 ws.length (ws.map vint)) (ho : Sli h ov 1 m cells)
    (ds : f.ds = []) (r15 : f.r 15 = wv) (r11 : f.r 11 = ov)
    (hK0 : pickTo ws ws.length < 0 → retL n0 K [] [.slice none 0 0, vint 0, vint 11] h)
    (hK1 : ∀ (i : Nat) (c : Value), pickTo ws ws.length = i → cells[i]? = some c → retL n0 K [] [c, vint (ws.getD i 0), vint 0] h) :
    Sem J 109 n0 26 (subC [1, 1, 1, 1, 1, 1, 1, 1, 1] (codeOf f26)) f h (RetQ prog [.tmp 4, .tmp 5, .tmp 6] n0 K) := by
  have hc : contX pl26t prog J 109 n0 26 ct26t [1, 1, 1, 1, 1, 1, 1, 1, 1] (codeOf f26) [] (RetQ prog [.tmp 4, .tmp 5, .tmp 6] n0 K) = RetQ prog [.tmp 4, .tmp 5, .tmp 6] n0 K := by kernel_rfl
  rw [← hc]
  refine W_sound hJ mixed _ ?_
  rw [s26t_1, r15]
  refine lenI hw ?_
  refine l26t_2 hJ (fun i : Nat => ws.length - i) (fun i f H => h = H ∧ i ≤ ws.length ∧ f.ds = [] ∧ f.r 15 = wv ∧ f.r 11 = ov ∧ f.r 17 = vint (pickTo ws i) ∧ f.r 76 = wv ∧ f.r 77 = vint (ws.length : Nat) ∧ f.r 78 = vint (i : Nat)) ?_ (s := 0)
    (.inl ⟨rfl, by omega, ds, r15, r11, rfl, rfl, rfl, rfl⟩)
  rintro i f H ⟨e, hi, ds, r15, r11, r17, r76, r77, r78⟩ _ _
  subst e
  have hp := pickTo_lt ws i
  rw [s26t_2, r15, r11, r17, r76, r77, r78, ds]
  refine lssI (cndI (fun g => ?_) fun g => ?_)
  · have hil : i < ws.length := by omega
    have hx := List.getElem?_eq_getElem hil
    have gx : ws.getD i 0 = ws[i] := by rw [List.getD_eq_getElem?_getD, hx]; rfl
    have fin : ∀ (F : RG) (x : Bool), x = decide (ws.getD i 0 ≥ 0 ∧ (pickTo ws i < 0 ∨ ws.getD i 0 < ws.getD (pickTo ws i).toNat 0)) → F.r 96 = .bool x → F.ds = [] → F.r 15 = wv → F.r 11 = ov → F.r 17 = vint (pickTo ws i) → F.r 18 = vint (i : Nat) → F.r 76 = wv → F.r 77 = vint (ws.length : Nat) → F.r 78 = vint (i : Nat) →
        W prog J 109 n0 26 (subC [1, 1, 1, 1, 1, 1, 1, 1, 1, 1, 0, 1, 0, 0, 1, 1, 0, 0, 1, 1] (codeOf f26)) F h (contX pl26t prog J 109 n0 26 ct26t [1, 1, 1, 1, 1, 1, 1, 1, 1, 1, 0, 1, 0, 0, 1, 1, 0, 0, 1, 1] (codeOf f26) [Nx n0 (fun i : Nat => ws.length - i) (fun i f H => h = H ∧ i ≤ ws.length ∧ f.ds = [] ∧ f.r 15 = wv ∧ f.r 11 = ov ∧ f.r 17 = vint (pickTo ws i) ∧ f.r 76 = wv ∧ f.r 77 = vint (ws.length : Nat) ∧ f.r 78 = vint (i : Nat)) i] (RetQ prog [.tmp 4, .tmp 5, .tmp 6] n0 K)) := by
      intro F x hx r96 ds q15 q11 q17 q18 q76 q77 q78
      rw [s26t_3, r96, q78, q18]
      cases x with
      | true =>
        have hx := of_decide_eq_true hx.symm
        refine cnd_true.2 (addI (by omega) ⟨i + 1, by show ws.length - (i + 1) < ws.length - i; omega, .inl ⟨rfl, by omega, ds, q15, q11, ?_, q76, q77, ?_⟩⟩)
        · show vint (i : Nat) = _
          have : pickTo ws (i + 1) = i := by unfold pickTo; rw [if_pos hx]
          rw [this]
        · show vint _ = vint _
          congr 1
      | false =>
        have hx := of_decide_eq_false hx.symm
        refine cnd_false.2 (addI (by omega) ⟨i + 1, by show ws.length - (i + 1) < ws.length - i; omega, .inl ⟨rfl, by omega, ds, q15, q11, ?_, q76, q77, ?_⟩⟩)
        · have : pickTo ws (i + 1) = pickTo ws i := by conv => lhs; unfold pickTo; rw [if_neg hx]
          rw [this]
          exact q17
        · show vint _ = vint _
          congr 1
    refine sli_num' hw hx fun p => geqI (cndI (fun g1 => lssI (cndI (fun g2 => hold.2 ?_) fun g2 => ?_)) fun g1 => hold.2 ?_)
    · refine fin _ true ?_ rfl ds r15 r11 r17 rfl r76 r77 r78
      rw [eq_comm, decide_eq_true_eq, gx]
      exact ⟨g1, .inl g2⟩
    · obtain ⟨b, hb⟩ : ∃ b : Nat, pickTo ws i = b := ⟨(pickTo ws i).toNat, by omega⟩
      have hbl : b < ws.length := by omega
      have hy := List.getElem?_eq_getElem hbl
      have gy : ws.getD (pickTo ws i).toNat 0 = ws[b] := by rw [hb, Int.toNat_natCast, List.getD_eq_getElem?_getD, hy]; rfl
      rw [hb]
      refine sli_num' hw hy fun q => lssI (hold.2 ?_)
      refine fin _ (decide (ws[i] < ws[b])) ?_ rfl ds r15 r11 (by show f.r 17 = _; exact r17) rfl r76 r77 r78
      rw [decide_eq_decide, gx, gy]
      exact ⟨fun y => ⟨g1, .inr y⟩, fun y => y.2.resolve_left g2⟩
    · refine fin _ false ?_ rfl ds r15 r11 r17 rfl r76 r77 r78
      rw [eq_comm, decide_eq_false_iff_not, gx]
      exact fun y => g1 y.1
  · have hin : i = ws.length := by omega
    subst hin
    refine lssI (cndI (fun g2 => hK0 g2) fun g2 => ?_)
    obtain ⟨b, hb⟩ : ∃ b : Nat, pickTo ws ws.length = b := ⟨(pickTo ws ws.length).toNat, by omega⟩
    have hbl : b < ws.length := by omega
    have hcl : cells.length = m := by have := sli_vlen ho; omega
    have hcb := List.getElem?_eq_getElem (l := cells) (i := b) (by omega)
    have hy := List.getElem?_eq_getElem hbl
    have gy : ws.getD b 0 = ws[b] := by rw [List.getD_eq_getElem?_getD, hy]; rfl
    rw [hb]
    refine idx_load ho ⟨by omega, by omega⟩ (by rw [Int.toNat_natCast]; exact hcb) fun p => ?_
    refine sli_num' hw hy fun q => ?_
    rw [← gy]
    exact hK1 b _ hb hcb
end
end Go.Proofs.Ytindillghipjjaa

namespace Go.Proofs.Ytindillghipjjaa
open Go.Conc Go.Proofs.Try
set_option maxRecDepth 100000
def servE (t : Tro) (cs : List Int) : Int := if troE t ≠ 0 then troE t else if fewE cs.length t.flocks.length t.flocks.length ≠ 0 then fewE cs.length t.flocks.length t.flocks.length else if ∀ c ∈ cs, 0 ≤ c ∧ c ≤ 48 then 0 else 1
theorem servE_ok {t : Tro} {cs : List Int} (h : servE t cs = 0) : troE t = 0 ∧ cs.length = t.flocks.length ∧ ∀ c ∈ cs, 0 ≤ c ∧ c ≤ 48 := by
  unfold servE at h
  split at h
  · rename_i x
    exact absurd h x
  · rename_i x
    split at h
    · rename_i y
      exact absurd h y
    · rename_i y
      split at h
      · rename_i z
        refine ⟨by omega, ?_, z⟩
        have y : fewE cs.length t.flocks.length t.flocks.length = 0 := by omega
        unfold fewE at y
        split at y
        · cases y
        · split at y
          · cases y
          · omega
      · cases h

def allOf26 (cs : List Int) : List (List Nat) := perms cs.length cs.length []

structure Mid26 (h H : List AObj) (f : RG) (t : Tro) (fv cv ov : Value) (cs : List Int) (p2 p3 pc p12 : Nat) (cells : List Value) (o : Option Nat) : Prop where
  S : SameX [] h H
  lo2 : h.length ≤ p2
  lo3 : h.length ≤ p3
  loc : h.length ≤ pc
  lo12 : h.length ≤ p12
  ds : f.ds = []
  r2 : f.r 2 = ptr p2 0
  h2 : H[p2]? = some (.cells (troCells t fv) true 0)
  r3 : f.r 3 = ptr p3 0
  h3 : H[p3]? = some (.cells [cv] true 0)
  r11 : f.r 11 = ov
  own : OwnX H 1 cells (allOf26 cs).length ov o
  low : ∀ i, o = some i → h.length ≤ i
  eles : Eles H h.length o cells (allOf26 cs)
  r12 : f.r 12 = ptr p12 0
  h12 : H[p12]? = some (.cells [.chan (some pc)] true 0)
  hc : H[pc]? = some (.chan 0)

section
variable {main : Bool} {J : JT} {h : List AObj} {K : Value → List AObj → Prop} {Sx : RG → List AObj → Prop}
theorem front26 (hJ : Closed prog main J) {a0 cv fv : Value} {t : Tro} {cs : List Int} (ok : heapOk h) (ht : TroAt h a0 t fv) (hc : Sli h cv 1 cs.length (cs.map vint)) (hl : cs.length ≤ 1000)
    (hE : servE t cs ≠ 0 → K (.tuple ⟨[.slice none 0 0, vint 0, vint (servE t cs)]⟩) h)
    (hS : servE t cs = 0 → ∀ f H ov p2 p3 pc p12 cells o, Mid26 h H f t fv cv ov cs p2 p3 pc p12 cells o → Sx f H) :
    W prog J 109 h.length 26 (trunc 6 (codeOf f26)) (RG.mk (regs [a0, cv]) []) h (thenK Sx (RetQ prog [.tmp 4, .tmp 5, .tmp 6] h.length K)) := by
  rw [e26, ht.val]
  have kc := sli_val hc
  refine qBox (tro_one ht) fun H1 p2 e1 S1 c1 l1 => qBox1 kc.1 kc.2.1 fun H2 p3 e2 S2 c2 l2 => ?_
  have c1' := S2.get c1 (by simp)
  have S : SameX [] h H2 := S1.trans S2
  have t2 : TroAt H2 (.agg ⟨troCells t fv⟩) t fv := ⟨rfl, S.sli ht.fl (by simp)⟩
  have kf := (sli_val ht.fl).2.2
  have hc2 : Sli H2 cv 1 cs.length (cs.map vint) := S.sli hc (by simp)
  have fin : ∀ (e : Int) (n0 : Nat), n0 = h.length → servE t cs = e → e ≠ 0 → retL n0 K [] [.slice none 0 0, vint 0, vint e] H2 := fun e n0 hn he h0 => by
    subst he hn
    exact retX ok (Nat.le_refl _) S (by simp) (by simp [unk]) (by simp [pack, VOk, AOk, LOk]) (hE h0)
  refine load_part (c := troCells t fv) c1' (by simp [troCells]) rfl (by simp [kn, troCells, kf]; exact ⟨rfl, rfl, rfl⟩) (good48 hJ t2 ?_)
  refine neqI (cndI (fun g1 => fin _ _ rfl (by unfold servE; rw [if_pos g1]) g1) fun g1 => ?_)
  refine ldI c2 rfl kc.2.2 (lenI hc2 (offI (ldI (v := fv) c1' rfl kf (lenI t2.fl (offI (ldI (v := fv) c1' rfl kf (lenI t2.fl (good70 hJ ?_))))))))
  refine neqI (cndI (fun g2 => fin _ _ rfl (by unfold servE; rw [if_neg g1, if_pos g2]) g2) fun g2 => ?_)
  refine ldI c2 rfl kc.2.2 (lenI hc2 ?_)
  refine l26_1 hJ (fun i : Nat => cs.length - i) (fun i f H => H2 = H ∧ i ≤ cs.length ∧ (∀ c ∈ cs.take i, 0 ≤ c ∧ c ≤ 48) ∧ f.ds = [] ∧ f.r 2 = ptr p2 0 ∧ f.r 3 = ptr p3 0 ∧ f.r 37 = cv ∧ f.r 38 = vint (cs.length : Nat) ∧ f.r 39 = vint (i : Nat)) ?_ (s := 0)
    (.inl ⟨rfl, by omega, by simp, rfl, rfl, rfl, rfl, rfl, rfl⟩)
  rintro i f H ⟨e, hi, hd, ds, r2, r3, r37, r38, r39⟩ _ _
  subst e
  rw [s26_1, ds, r3, r37, r38, r39]
  refine lssI (cndI (fun g => ?_) fun g => ?_)
  · have hil : i < cs.length := by omega
    have hx := List.getElem?_eq_getElem hil
    refine sli_num' hc2 hx fun q => good71 hJ (notI (cndN (fun g3 => ?_) fun g3 => addI (by omega) ?_))
    · refine fin 1 _ rfl ?_ (by omega)
      unfold servE
      rw [if_neg g1, if_neg g2, if_neg fun y => g3 (y _ (List.getElem_mem hil))]
    · refine ⟨i + 1, by show cs.length - (i + 1) < cs.length - i; omega, .inl ⟨rfl, by omega, ?_, ds, r2, r3, r37, r38, ?_⟩⟩
      · intro c hcm
        rw [List.take_add_one, hx] at hcm
        rcases List.mem_append.1 hcm with y | y
        · exact hd c y
        · simp at y
          subst y
          exact g3
      · show vint _ = vint _
        congr 1
  · have hin : i = cs.length := by omega
    subst hin
    rw [List.take_length] at hd
    have hs : servE t cs = 0 := by
      unfold servE
      rw [if_neg g1, if_neg g2, if_pos hd]
    obtain ⟨ok0, hlen, _⟩ := servE_ok hs
    have wl := (troE_well ok0).2.1
    refine ldI c2 rfl kc.2.2 (lenI hc2 ?_)
    refine good72 hJ (n := cs.length) (by omega) cs.length (so := []) (lo := H2.length) (by simp) ⟨none, 0, rfl, ⟨rfl, rfl⟩, .inl ⟨rfl, rfl⟩⟩ (Nat.le_refl _) (.inl rfl) fun v H3 cells o S3 O3 of3 E3 => ?_
    refine ⟨by decide, ⟨by omega, by omega⟩, ?_⟩
    refine qAl fun H5 p12 e5 S5 c5 l5 => ?_
    have Sc : SameX [] H3 (H3 ++ [.chan (Int.toNat 0)]) := SameX.refl.app
    refine qSt c5 (by simp) rfl rfl fun H6 S6 c6 l6 => ?_
    have hcc : (H3 ++ [AObj.chan (Int.toNat 0)])[H3.length]? = some (.chan 0) := by simp
    have S46 : SameX [p12] H3 H6 := ((Sc.trans S5).weak (by simp)).trans S6
    have e5' : p12 = H3.length + 1 := by rw [e5]; simp
    have S26 : SameX [p12] H2 H6 := (S3.weak (by simp)).trans S46
    have l3 := S3.1
    have l2' := S.1
    have op : ∀ q, o = some q → q < H3.length := ownX_lt O3
    refine hS hs _ H6 v p2 p3 H3.length p12 cells o ⟨?_, by omega, by omega, by omega, by omega, ds, r2, S26.get c1' (by simp; omega), r3, S26.get c2 (by simp; omega), rfl, ownX_keep O3 S46 (by intro q hq; have := op q hq; simp; omega), fun q hq => by have := of3 q hq; omega, ?_, rfl, c6, S6.get (S5.get hcc (by simp)) (by simp; omega)⟩
    · exact (S.trans S3).thru S46 (by intro x hx; rw [List.mem_singleton.1 hx]; exact .inr (by omega))
    · exact E3.keep S46 (fun b hb hb2 hm => by
        have := List.mem_singleton.1 hm
        omega) (by omega) fun _ _ _ y => y
end
end Go.Proofs.Ytindillghipjjaa

namespace Go.Proofs.Ytindillghipjjaa
open Go.Conc Go.Proofs.Try
set_option maxRecDepth 100000
theorem shape26 : subC [1, 1, 1, 1, 1, 1] (codeOf f26) = .seq (.seq (subC [1, 1, 1, 1, 1, 1, 0, 0] (codeOf f26)) (.block 2 (.loop (subC [1, 1, 1, 1, 1, 1, 0, 1, 0, 0] (codeOf f26))))) (subC [1, 1, 1, 1, 1, 1, 1] (codeOf f26)) := by kernel_rfl
theorem round26 : subC [1, 1, 1, 1, 1, 1, 0, 1, 0, 0] (codeOf f26) = .seq (subC [1, 1, 1, 1, 1, 1, 0, 1, 0, 0, 0] (codeOf f26)) (.seq (subC [1, 1, 1, 1, 1, 1, 0, 1, 0, 0, 1, 0] (codeOf f26)) (.seq (.block 3 (.seq (subC [1, 1, 1, 1, 1, 1, 0, 1, 0, 0, 1, 1, 0, 0, 0] (codeOf f26)) (.region 18 ops26_1 false))) (subC [1, 1, 1, 1, 1, 1, 0, 1, 0, 0, 1, 1, 1] (codeOf f26)))) := by kernel_rfl
theorem shape26b : subC [1, 1, 1, 1, 1, 1, 1] (codeOf f26) = .seq (subC [1, 1, 1, 1, 1, 1, 1, 0] (codeOf f26)) (subC [1, 1, 1, 1, 1, 1, 1, 1] (codeOf f26)) := by kernel_rfl

def R26 (ov : Value) (p2 p3 p12 n i : Nat) : RG := (((((((RG.mk (fun _ => unk) []).put 2 (ptr p2 0)).put 3 (ptr p3 0)).put 11 ov).put 12 (ptr p12 0)).put 51 ov).put 52 (vint (n : Nat))).put 53 (vint (i : Nat))
theorem r26_cases (ov : Value) (p2 p3 p12 n i t : Nat) : (R26 ov p2 p3 p12 n i).r t = unk ∨ t = 2 ∨ t = 3 ∨ t = 11 ∨ t = 12 ∨ t = 51 ∨ t = 52 ∨ t = 53 := by
  by_cases h : t = 2 ∨ t = 3 ∨ t = 11 ∨ t = 12 ∨ t = 51 ∨ t = 52 ∨ t = 53
  · exact .inr h
  · refine .inl ?_
    simp only [not_or] at h
    obtain ⟨h1, h2, h3, h4, h5, h6, h7⟩ := h
    simp [R26, RG.put, beq_eq_false_iff_ne.2 h1, beq_eq_false_iff_ne.2 h2, beq_eq_false_iff_ne.2 h3, beq_eq_false_iff_ne.2 h4, beq_eq_false_iff_ne.2 h5, beq_eq_false_iff_ne.2 h6, beq_eq_false_iff_ne.2 h7]

theorem At.weak {J : JT} {N m : Nat} {b : FB} {cs : List Frame} {FC : Frm} {ρ0 : Env} {k : List Item} {f f' : RG} {h : List AObj} (ok : heapOk h) (hf : ∀ t, f'.r t = unk ∨ (f'.r t = f.r t ∧ VOk h.length (f'.r t))) (hd : f'.ds = f.ds) (hds : f.ds = []) (hm' : m ≤ h.length) (h' : At J N b cs FC ρ0 m k f' h) : At J N b cs FC ρ0 m k f h := by
  have := At.drop (g := []) (f := f) ok hf hd (by rw [hds]; simp) hm' h'
  simpa using this

theorem frz_at {h : List AObj} {i : Nat} {c : List Value} {wr : Bool} {sz : Nat} (hb : h[i]? = some (.cells c wr sz)) : (frz h)[i]? = some (.cells c false sz) := by
  unfold frz
  rw [List.getElem?_map, hb]
  rfl
theorem frz_sli {h : List AObj} {v : Value} {s n : Nat} {cs : List Value} (hs : Sli h v s n cs) : Sli (frz h) v s n cs := by
  obtain ⟨base, c, rfl, hk, hh⟩ := hs
  refine ⟨base, c, rfl, hk, hh.imp id ?_⟩
  rintro ⟨b, o, e, h0⟩
  exact ⟨b, o, e, h0.imp id fun ⟨cs, wr, sz, hb, ht⟩ => ⟨cs, false, sz, frz_at hb, ht⟩⟩
theorem two_more {h H : List AObj} {x y : AObj} (S : SameX [] h H) (hl : H.length = h.length + 2) (hx : H[h.length]? = some x) (hy : H[h.length + 1]? = some y) : H = h ++ [x, y] := by
  obtain ⟨g, rfl⟩ := S.app0 (by simp)
  rw [List.length_append] at hl
  have h2 : g.length = 2 := by omega
  obtain ⟨a, b, rfl⟩ : ∃ a b, g = [a, b] := by
    cases g with
    | nil => simp at h2
    | cons a g => cases g with
      | nil => simp at h2
      | cons b g => cases g with
        | nil => exact ⟨a, b, rfl⟩
        | cons c g => simp at h2
  rw [List.getElem?_append_right (Nat.le_refl _)] at hx
  rw [List.getElem?_append_right (by omega)] at hy
  simp at hx hy
  rw [hx, hy]

structure Lent (hz : List AObj) (t : Tro) (fv cv ov : Value) (cs : List Int) (p2 p3 pc p12 lo : Nat) (cells : List Value) (o : Option Nat) (oss : List (List Nat)) : Prop where
  ok : heapOk hz
  nw : ∀ x ∈ hz, x.wrt = false
  nc : ∀ cap, .chan cap ∉ hz
  h2 : hz[p2]? = some (.cells (troCells t fv) false 0)
  h3 : hz[p3]? = some (.cells [cv] false 0)
  h12 : hz[p12]? = some (.cells [.chan (some pc)] false 0)
  hpc : pc < hz.length
  fl : SliE hz fv 2 Dro.cells t.flocks
  cv : Sli hz cv 1 cs.length (cs.map vint)
  os : Sli hz ov 1 oss.length cells
  ovk : VOk hz.length ov
  eles : Eles hz lo o cells oss
  rt : ∀ x ∈ oss, SrvIn t cs x
  few : oss.length ≤ 1000

theorem Lent.regs {hz : List AObj} {t : Tro} {fv cv ov : Value} {cs : List Int} {p2 p3 pc p12 lo n i : Nat} {cells : List Value} {o : Option Nat} {oss : List (List Nat)} (L : Lent hz t fv cv ov cs p2 p3 pc p12 lo cells o oss) {f : RG}
    (e2 : f.r 2 = ptr p2 0) (e3 : f.r 3 = ptr p3 0) (e11 : f.r 11 = ov) (e12 : f.r 12 = ptr p12 0) (e51 : f.r 51 = ov) (e52 : f.r 52 = vint (n : Nat)) (e53 : f.r 53 = vint (i : Nat)) :
    ∀ t, (R26 ov p2 p3 p12 n i).r t = unk ∨ ((R26 ov p2 p3 p12 n i).r t = f.r t ∧ VOk hz.length ((R26 ov p2 p3 p12 n i).r t)) := by
  have vp : ∀ {b : Nat} {x : AObj}, hz[b]? = some x → VOk hz.length (ptr b 0) := fun hb => by
    have := lt_of_get hb
    simp [VOk, ptr, AddrOk, this]
  intro t
  rcases r26_cases ov p2 p3 p12 n i t with h | rfl | rfl | rfl | rfl | rfl | rfl | rfl
  · exact .inl h
  · exact .inr ⟨e2.symm, vp L.h2⟩
  · exact .inr ⟨e3.symm, vp L.h3⟩
  · exact .inr ⟨e11.symm, L.ovk⟩
  · exact .inr ⟨e12.symm, vp L.h12⟩
  · exact .inr ⟨e51.symm, L.ovk⟩
  · refine .inr ⟨e52.symm, ?_⟩
    show VOk hz.length (vint (n : Nat))
    simp [VOk]
  · refine .inr ⟨e53.symm, ?_⟩
    show VOk hz.length (vint (i : Nat))
    simp [VOk]

def phi26 (t : Tro) (cs : List Int) (oss : List (List Nat)) (k : Nat) (v : Value) : Prop := ∃ os, oss[k]? = some os ∧ v = serveV k t cs os
def crew26 (ch : Nat → Option (Nat × Array Value × Bool)) (c : Nat) (t : Tro) (cs : List Int) (oss : List (List Nat)) (pend : List Nat) : Crew := ⟨ch, c, pend, phi26 t cs oss⟩

section
variable {ch : Nat → Option (Nat × Array Value × Bool)} {W0 : World} {Post : Value → World → Prop} {b : FB} {fs : List Frame} {FC : Frm} {ρ0 : Env} {m : Nat} {k2 : List Item} {hz : List AObj} {t : Tro} {fv cv ov : Value} {cs : List Int} {p2 p3 pc p12 lo : Nat} {cells : List Value} {o : Option Nat} {oss : List (List Nat)}
theorem hire26 (hk : b.kind ≠ .early) (hown : ch (ρ0.blk pc) = some (0, #[], false)) (L : Lent hz t fv cv ov cs p2 p3 pc p12 lo cells o oss) (hm : m ≤ hz.length) (hpm : pc < m) (hw : ∀ b, ¬ FC.wr b)
    (hdone : At (JC prog W0 Post (crew26 ch (ρ0.blk pc) t cs oss (List.range oss.length))) 109 b fs FC ρ0 m k2 (R26 ov p2 p3 p12 oss.length oss.length) hz) :
    ∀ (d i : Nat), d = oss.length - i → i ≤ oss.length → At (JC prog W0 Post (crew26 ch (ρ0.blk pc) t cs oss (List.range i))) 109 b fs FC ρ0 m (.code (subC [1, 1, 1, 1, 1, 1, 0, 1, 0, 0] (codeOf f26)) :: .inLoop (subC [1, 1, 1, 1, 1, 1, 0, 1, 0, 0] (codeOf f26)) :: .inBlock 2 :: k2) (R26 ov p2 p3 p12 oss.length i) hz := by
  intro d
  induction d with
  | zero =>
    intro i hd hi
    have hin : i = oss.length := by omega
    subst hin
    have hJ := JC.closed prog W0 Post (crew26 ch (ρ0.blk pc) t cs oss (List.range oss.length))
    rw [round26]
    refine At.seq hJ (At.piece (Q := fun e f' h' => e = .normal ∧ f' = (R26 ov p2 p3 p12 oss.length oss.length).put 54 (.bool false) ∧ h' = hz) rfl hk (W_sound hJ mixed _ ?_) hm (Nat.le_refl _) ?_)
    · rw [q26_2]
      refine lssI ⟨rfl, ?_, rfl⟩
      simp
    rintro e f' h' ⟨rfl, rfl, rfl⟩
    refine .inl ⟨rfl, At.seq hJ (At.piece (Q := fun e f' h1 => e = .exit 2 ∧ f' = (R26 ov p2 p3 p12 oss.length oss.length).put 54 (.bool false) ∧ h1 = h') rfl hk (W_sound hJ mixed _ ?_) hm (Nat.le_refl _) ?_)⟩
    · rw [q26_3]
      exact cnd_false.2 ⟨rfl, rfl, rfl⟩
    rintro e f1 h1 ⟨rfl, rfl, rfl⟩
    refine .inr ⟨2, k2, rfl, by simp [exitTo], ?_⟩
    exact At.weak L.ok (L.regs rfl rfl rfl rfl rfl rfl rfl) rfl rfl hm hdone
  | succ d ih =>
    intro i hd hi
    have hil : i < oss.length := by omega
    have hJ := JC.closed prog W0 Post (crew26 ch (ρ0.blk pc) t cs oss (List.range i))
    have hJ2 := JC.closed prog W0 Post (crew26 ch (ρ0.blk pc) t cs oss (List.range i ++ [i]))
    rw [round26]
    refine At.seq hJ (At.piece (Q := fun e f' h' => e = .normal ∧ f' = (R26 ov p2 p3 p12 oss.length i).put 54 (.bool true) ∧ h' = hz) rfl hk (W_sound hJ mixed _ ?_) hm (Nat.le_refl _) ?_)
    · rw [q26_2]
      refine lssI ⟨rfl, ?_, rfl⟩
      have : ((i : Int) < (oss.length : Int)) := by omega
      simp [this]
    rintro e f' h' ⟨rfl, rfl, rfl⟩
    refine .inl ⟨rfl, At.seq hJ (At.piece (Q := fun e f' h1 => e = .normal ∧ f' = (R26 ov p2 p3 p12 oss.length i).put 54 (.bool true) ∧ h1 = h') rfl hk (W_sound hJ mixed _ ?_) hm (Nat.le_refl _) ?_)⟩
    · rw [q26_3]
      exact cnd_true.2 ⟨rfl, rfl, rfl⟩
    rintro e f1 hz ⟨rfl, rfl, rfl⟩
    obtain ⟨os, hos⟩ : ∃ os, oss[i]? = some os := ⟨_, List.getElem?_eq_getElem hil⟩
    obtain ⟨c, hc, E⟩ := L.eles i os hos
    have I := L.rt os (List.mem_of_getElem? hos)
    refine .inl ⟨rfl, At.seq hJ (At.block hJ (At.seq hJ (At.piece (Q := fun e f' h' => e = .normal ∧ f'.ds = [] ∧ (f'.r 2 = ptr p2 0 ∧ f'.r 3 = ptr p3 0 ∧ f'.r 11 = ov ∧ f'.r 12 = ptr p12 0 ∧ f'.r 51 = ov ∧ f'.r 52 = vint (oss.length : Nat) ∧ f'.r 53 = vint (i : Nat)) ∧ f'.r 13 = ptr hz.length 0 ∧ f'.r 14 = ptr (hz.length + 1) 0 ∧ h' = hz ++ [.cells [vint (i : Nat)] true 0, .cells [c] true 0]) rfl hk (W_sound hJ mixed _ ?_) hm (Nat.le_refl _) ?_)))⟩
    · rw [q26_4]
      refine idx_load L.os ⟨by show (0 : Int) ≤ (i : Nat); omega, by show ((i : Nat) : Int) < _; omega⟩ (by rw [Int.toNat_natCast]; exact hc) fun p => ?_
      refine qAl fun H1 p13 e1 S1 c1 l1 => qAl fun H2 p14 e2 S2 c2 l2 => ?_
      refine qSt (S2.get c1 (by simp)) (by simp) rfl rfl fun H3 S3 c3 l3 => qSt (S3.get c2 (by simp; omega)) (by simp) (sli_val E.sli).1 (sli_val E.sli).2.1 fun H4 S4 c4 l4 => ?_
      have SS : SameX [] hz H4 := ((S1.trans S2).thru S3 (by intro x hx; rw [List.mem_singleton.1 hx]; exact .inr (by omega))).thru S4 (by intro x hx; rw [List.mem_singleton.1 hx]; exact .inr (by omega))
      have c3' := S4.get c3 (by simp; omega)
      have e2' : p14 = hz.length + 1 := by omega
      subst e1 e2'
      exact ⟨rfl, rfl, ⟨rfl, rfl, rfl, rfl, rfl, rfl, rfl⟩, rfl, rfl, two_more SS (by omega) c3' c4⟩
    rintro e f h' ⟨rfl, ds, ⟨r2, r3, r11, r12, r51, r52, r53⟩, r13, r14, rfl⟩
    refine .inl ⟨rfl, At.region hJ ?_⟩
    rw [show List.range ops26_1.size = [0, 1] from by rw [z26_1]; rfl]
    obtain ⟨o1, o2, o3, o4, o5⟩ := o26_1_0 (J := JC prog W0 Post (crew26 ch (ρ0.blk pc) t cs oss (List.range i)))
    obtain ⟨x1, x2, x3, x4, x5⟩ := o26_1_1 (J := JC prog W0 Post (crew26 ch (ρ0.blk pc) t cs oss (List.range i)))
    refine At.op hJ hk o1 o3 (o4 _) ?_
    rw [o5, r12, r13, r2, r3, r14, o2]
    refine ⟨rfl, fun _ => ?_⟩
    have fz : ∀ {q : Nat} {l : List Value} {wr : Bool} {sz : Nat}, (hz ++ [.cells [vint (i : Nat)] true 0, .cells [c] true 0])[q]? = some (.cells l wr sz) → (frz (hz ++ [.cells [vint (i : Nat)] true 0, .cells [c] true 0]))[q]? = some (.cells l false sz) := frz_at
    have ga : (hz ++ [.cells [vint (i : Nat)] true 0, .cells [c] true 0])[hz.length]? = some (.cells [vint (i : Nat)] true 0) := by simp
    have gb : (hz ++ [.cells [vint (i : Nat)] true 0, .cells [c] true 0])[hz.length + 1]? = some (.cells [c] true 0) := by simp
    refine At.go hk x1 (x4 _) x5 x2 (g := 73) (cap := [ptr p12 0, ptr hz.length 0, ptr p2 0, ptr p3 0, ptr (hz.length + 1) 0]) rfl (by kernel_rfl) (k := i) (by show i ∉ List.range i; simp) hown rfl L.nw hw L.ok hm (fun ρ w ft R hu => ?_) (fun cap hcm => ?_) (f' := R26 ov p2 p3 p12 oss.length i) (L.regs r2 r3 r11 r12 r51 r52 r53) ds.symm (by show ∀ x ∈ f.ds, _; rw [ds]; simp) ?_
    · exact work73 (T := crew26 ch (ρ0.blk pc) t cs oss (List.range i)) R (fz (get_app L.h12)) (fz ga) (fz (get_app L.h2)) (fz (get_app L.h3)) (fz gb) (frz_sli (sli_app L.fl)) (frz_sli (sli_app L.cv)) (by
        have := frz_sli (sli_app (g := [.cells [vint (i : Nat)] true 0, .cells [c] true 0]) E.sli)
        rw [List.length_map]
        exact this) I (by rw [frz_len, List.length_append]; have := L.hpc; omega) (hu pc hpm).1 (k := i) ⟨os, hos, rfl⟩
    · rcases List.mem_append.1 hcm with y | y
      · exact L.nc cap y
      · simp at y
    · refine At.ops_nil hJ2 (At.inBlock hJ2 (At.piece (Q := fun e f' h' => e = .normal ∧ f' = ((R26 ov p2 p3 p12 oss.length i).put 59 (vint (i + 1 : Nat))).put 53 (vint (i + 1 : Nat)) ∧ h' = hz) rfl hk (W_sound hJ2 mixed _ ?_) hm (Nat.le_refl _) ?_))
      · rw [q26_5]
        have hf := L.few
        refine addI (by omega) ⟨rfl, ?_, rfl⟩
        rfl
      rintro e f1 h1 ⟨rfl, rfl, rfl⟩
      refine .inl ⟨rfl, At.inLoop hJ2 ?_⟩
      have := ih (i + 1) (by omega) (by omega)
      rw [List.range_succ] at this
      exact At.weak L.ok (L.regs rfl rfl rfl rfl rfl rfl rfl) rfl rfl hm this
end
end Go.Proofs.Ytindillghipjjaa

namespace Go.Proofs.Ytindillghipjjaa
open Go.Conc Go.Proofs.Try
set_option maxRecDepth 100000
theorem shape26c : subC [1, 1, 1, 1, 1, 1, 1, 1] (codeOf f26) = .seq (.seq (subC [1, 1, 1, 1, 1, 1, 1, 1, 0, 0] (codeOf f26)) (.block 4 (.loop (subC [1, 1, 1, 1, 1, 1, 1, 1, 0, 1, 0, 0] (codeOf f26))))) (subC [1, 1, 1, 1, 1, 1, 1, 1, 1] (codeOf f26)) := by kernel_rfl
theorem round26b : subC [1, 1, 1, 1, 1, 1, 1, 1, 0, 1, 0, 0] (codeOf f26) = .seq (subC [1, 1, 1, 1, 1, 1, 1, 1, 0, 1, 0, 0, 0] (codeOf f26)) (.seq (subC [1, 1, 1, 1, 1, 1, 1, 1, 0, 1, 0, 0, 1, 0] (codeOf f26)) (.seq (.block 5 (.seq (.region 23 ops26_2 false) (subC [1, 1, 1, 1, 1, 1, 1, 1, 0, 1, 0, 0, 1, 1, 0, 0, 1] (codeOf f26)))) (subC [1, 1, 1, 1, 1, 1, 1, 1, 0, 1, 0, 0, 1, 1, 1] (codeOf f26)))) := by kernel_rfl

def Q26 (ov wv : Value) (p12 n j : Nat) : RG := (((((RG.mk (fun _ => unk) []).put 11 ov).put 12 (ptr p12 0)).put 15 wv).put 64 (vint (n : Nat))).put 65 (vint (j : Nat))
theorem q26_cases (ov wv : Value) (p12 n j t : Nat) : (Q26 ov wv p12 n j).r t = unk ∨ t = 11 ∨ t = 12 ∨ t = 15 ∨ t = 64 ∨ t = 65 := by
  by_cases h : t = 11 ∨ t = 12 ∨ t = 15 ∨ t = 64 ∨ t = 65
  · exact .inr h
  · refine .inl ?_
    simp only [not_or] at h
    obtain ⟨h1, h2, h3, h4, h5⟩ := h
    simp [Q26, RG.put, beq_eq_false_iff_ne.2 h1, beq_eq_false_iff_ne.2 h2, beq_eq_false_iff_ne.2 h3, beq_eq_false_iff_ne.2 h4, beq_eq_false_iff_ne.2 h5]

theorem At.forget {J : JT} {N m : Nat} {b : FB} {cs : List Frame} {FC : Frm} {ρ0 : Env} {k : List Item} {f f' : RG} {h : List AObj} (hf : ∀ t, f'.r t = unk ∨ f'.r t = f.r t) (hd : f'.ds = f.ds) (h' : At J N b cs FC ρ0 m k f' h) : At J N b cs FC ρ0 m k f h := by
  intro a ρ w ft A H hu hm
  refine h' a ρ w ft ⟨fun t => ?_, A.size, by rw [hd]; exact A.defers, by rw [hd]; exact A.ok⟩ H hu hm
  rcases hf t with e | e
  · exact .inl e
  · rw [e]
    exact A.regs t
theorem q26_forget {ov wv : Value} {p12 n j : Nat} {f : RG} (e11 : f.r 11 = ov) (e12 : f.r 12 = ptr p12 0) (e15 : f.r 15 = wv) (e64 : f.r 64 = vint (n : Nat)) (e65 : f.r 65 = vint (j : Nat)) : ∀ t, (Q26 ov wv p12 n j).r t = unk ∨ (Q26 ov wv p12 n j).r t = f.r t := by
  intro t
  rcases q26_cases ov wv p12 n j t with h | rfl | rfl | rfl | rfl | rfl
  · exact .inl h
  · exact .inr e11.symm
  · exact .inr e12.symm
  · exact .inr e15.symm
  · exact .inr e64.symm
  · exact .inr e65.symm

structure Came (hz H : List AObj) (ws : List Value) : Prop where
  S : SameX [] hz H
  at_ : H[hz.length]? = some (.cells ws true 0)
  wr : ∀ i o, hz.length ≤ i → H[i]? = some o → o.wrt = true
theorem Came.more {hz H H' : List AObj} {ws ws' : List Value} {p : Nat} {l : List Value} (C : Came hz H ws) (hp : p = H.length) (S : SameX [] H H') (hl : H'.length = p + 1) (hat : H'[p]? = some (.cells l true 0)) : Came hz H' ws := by
  refine ⟨C.S.trans S, S.get C.at_ (by simp), fun i o hi ho => ?_⟩
  by_cases h : i < H.length
  · rw [S.2 i h (by simp)] at ho
    exact C.wr i o hi ho
  · have := lt_of_get ho
    have : i = p := by omega
    subst this
    rw [hat] at ho
    cases ho
    rfl
theorem Came.put {hz H H' : List AObj} {ws ws' l : List Value} {p : Nat} {sz : Nat} (C : Came hz H ws) (hp : hz.length ≤ p) (S : SameX [p] H H') (hl : H'.length = H.length) (hat : H'[p]? = some (.cells l true sz)) (hw : H'[hz.length]? = some (.cells ws' true 0)) : Came hz H' ws' := by
  refine ⟨C.S.thru S (by intro x hx; rw [List.mem_singleton.1 hx]; exact .inr hp), hw, fun i o hi ho => ?_⟩
  by_cases h : i = p
  · subst h
    rw [hat] at ho
    cases ho
    rfl
  · have := lt_of_get ho
    rw [S.2 i (by omega) (by simpa using h)] at ho
    exact C.wr i o hi ho

section
variable {ch : Nat → Option (Nat × Array Value × Bool)} {W0 : World} {Post : Value → World → Prop} {b : FB} {fs : List Frame} {FC : Frm} {ρ0 : Env} {m : Nat} {k3 : List Item} {hz : List AObj} {t : Tro} {fv cv ov : Value} {cs : List Int} {p2 p3 pc p12 lo : Nat} {cells : List Value} {o : Option Nat} {oss : List (List Nat)}
theorem recv26 (hk : b.kind ≠ .early) (L : Lent hz t fv cv ov cs p2 p3 pc p12 lo cells o oss) (hm : m ≤ hz.length) (hpm : pc < m) {wv : Value} (hwv : wv = .slice (some ⟨hz.length, 0, none⟩) oss.length oss.length)
    (hdone : ∀ H, Came hz H ((oss.map (serveW t cs)).map vint) → At (JC prog W0 Post (crew26 ch (ρ0.blk pc) t cs oss [])) 109 b fs FC ρ0 m k3 (Q26 ov wv p12 oss.length oss.length) H) :
    ∀ (d j : Nat) (pend : List Nat) (ws : List Value) (H : List AObj), d = oss.length - j → pend.length + j = oss.length → pend.Nodup → (∀ k ∈ pend, k < oss.length) → ws.length = oss.length → (∀ k os, oss[k]? = some os → k ∉ pend → ws[k]? = some (vint (serveW t cs os))) → Came hz H ws →
      At (JC prog W0 Post (crew26 ch (ρ0.blk pc) t cs oss pend)) 109 b fs FC ρ0 m (.code (subC [1, 1, 1, 1, 1, 1, 1, 1, 0, 1, 0, 0] (codeOf f26)) :: .inLoop (subC [1, 1, 1, 1, 1, 1, 1, 1, 0, 1, 0, 0] (codeOf f26)) :: .inBlock 4 :: k3) (Q26 ov wv p12 oss.length j) H := by
  intro d
  induction d with
  | zero =>
    intro j pend ws H hd hpj hnd hlt hwl hws C
    have hp : pend = [] := List.length_eq_zero_iff.1 (by omega)
    subst hp
    have hj : j = oss.length := by simpa using hpj
    subst hj
    have hmH : m ≤ H.length := Nat.le_trans hm C.S.1
    have hJ := JC.closed prog W0 Post (crew26 ch (ρ0.blk pc) t cs oss [])
    rw [round26b]
    refine At.seq hJ (At.piece (Q := fun e f' h' => e = .normal ∧ f' = (Q26 ov wv p12 oss.length oss.length).put 66 (.bool false) ∧ h' = H) rfl hk (W_sound hJ mixed _ ?_) hmH (Nat.le_refl _) ?_)
    · rw [q26_8]
      refine lssI ⟨rfl, ?_, rfl⟩
      simp
    rintro e f' h' ⟨rfl, rfl, rfl⟩
    refine .inl ⟨rfl, At.seq hJ (At.piece (Q := fun e f' h1 => e = .exit 4 ∧ f' = (Q26 ov wv p12 oss.length oss.length).put 66 (.bool false) ∧ h1 = h') rfl hk (W_sound hJ mixed _ ?_) hmH (Nat.le_refl _) ?_)⟩
    · rw [q26_9]
      exact cnd_false.2 ⟨rfl, rfl, rfl⟩
    rintro e f1 h1 ⟨rfl, rfl, rfl⟩
    refine .inr ⟨4, k3, rfl, by simp [exitTo], ?_⟩
    refine At.forget (q26_forget rfl rfl rfl rfl rfl) rfl (hdone h1 ?_)
    have : ws = (oss.map (serveW t cs)).map vint := by
      apply List.ext_getElem?
      intro k
      by_cases hk : k < oss.length
      · have h0 := List.getElem?_eq_getElem hk
        rw [hws k _ h0 (by simp)]
        simp [h0]
      · rw [List.getElem?_eq_none (by omega), List.getElem?_eq_none (by simp; omega)]
    rw [← this]
    exact C
  | succ d ih =>
    intro j pend ws H hd hpj hnd hlt hwl hws C
    have hmH : m ≤ H.length := Nat.le_trans hm C.S.1
    have hJ := JC.closed prog W0 Post (crew26 ch (ρ0.blk pc) t cs oss pend)
    rw [round26b]
    refine At.seq hJ (At.piece (Q := fun e f' h' => e = .normal ∧ f' = (Q26 ov wv p12 oss.length j).put 66 (.bool true) ∧ h' = H) rfl hk (W_sound hJ mixed _ ?_) hmH (Nat.le_refl _) ?_)
    · rw [q26_8]
      refine lssI ⟨rfl, ?_, rfl⟩
      have : ((j : Int) < (oss.length : Int)) := by omega
      simp [this]
    rintro e f' h' ⟨rfl, rfl, rfl⟩
    refine .inl ⟨rfl, At.seq hJ (At.piece (Q := fun e f' h1 => e = .normal ∧ f' = (Q26 ov wv p12 oss.length j).put 66 (.bool true) ∧ h1 = h') rfl hk (W_sound hJ mixed _ ?_) hmH (Nat.le_refl _) ?_)⟩
    · rw [q26_9]
      exact cnd_true.2 ⟨rfl, rfl, rfl⟩
    rintro e f1 H ⟨rfl, rfl, rfl⟩
    refine .inl ⟨rfl, At.seq hJ (At.block hJ (At.seq hJ (At.region hJ ?_)))⟩
    rw [show List.range ops26_2.size = [0, 1, 2, 3] from by rw [z26_2]; rfl]
    obtain ⟨o1, o2, o3, o4, o5⟩ := o26_2_0 (J := JC prog W0 Post (crew26 ch (ρ0.blk pc) t cs oss pend))
    obtain ⟨x1, x2, x3, x4, x5⟩ := o26_2_1 (J := JC prog W0 Post (crew26 ch (ρ0.blk pc) t cs oss pend))
    refine At.op hJ hk o1 o3 (o4 _) ?_
    rw [o5, o2]
    refine ldI (C.S.get L.h12 (by simp)) rfl rfl fun _ => ?_
    have hpne : pend ≠ [] := by rintro rfl; simp at hpj; omega
    refine At.recv hk x1 x3 (x4 _) x5 (dir := .both) (e := 95) (by kernel_rfl) (ie := (prog.info? 95).getD default) (by kernel_rfl) (z := .agg ⟨[vint 0, vint 0]⟩) (by kernel_rfl) (c := pc) rfl hpm rfl hpne fun k hkp v hv => ?_
    obtain ⟨os, hos, rfl⟩ := hv
    refine ⟨_, rfl, by simp [serveV, VOk, AOk, LOk], ?_⟩
    have hJ2 := JC.closed prog W0 Post (crew26 ch (ρ0.blk pc) t cs oss (pend.erase k))
    obtain ⟨y1, y2, y3, y4, y5⟩ := o26_2_2 (J := JC prog W0 Post (crew26 ch (ρ0.blk pc) t cs oss (pend.erase k)))
    obtain ⟨z1, z2, z3, z4, z5⟩ := o26_2_3 (J := JC prog W0 Post (crew26 ch (ρ0.blk pc) t cs oss (pend.erase k)))
    show At (JC prog W0 Post (crew26 ch (ρ0.blk pc) t cs oss (pend.erase k))) 109 b fs FC ρ0 m _ _ H
    rw [x2]
    refine At.op hJ2 hk y1 y3 (y4 _) ?_
    rw [y5, y2]
    refine qAl fun H1 p e1 S1 c1 l1 _ => ?_
    have C1 := C.more (ws' := ws) e1 S1 l1 c1
    refine At.op hJ2 hk z1 z3 (z4 _) ?_
    rw [z5, z2]
    have hkl := hlt k hkp
    refine qStA (c := [vint (k : Nat), vint (serveW t cs os)]) c1 rfl rfl rfl fun H2 S2 c2 l2 _ => ?_
    have hzl := C.S.1
    have hzp := lt_of_get C.at_
    have C2 : Came hz H2 ws := C1.put (by omega) S2 l2 c2 (S2.get C1.at_ (by simp; omega))
    refine At.ops_nil hJ2 (At.piece (Q := fun e f' h' => e = .normal ∧ f'.ds = [] ∧ (f'.r 11 = ov ∧ f'.r 12 = ptr p12 0 ∧ f'.r 15 = wv ∧ f'.r 64 = vint (oss.length : Nat) ∧ f'.r 65 = vint (j : Nat)) ∧ Came hz h' (ws.set k (vint (serveW t cs os)))) rfl hk (W_sound hJ2 mixed _ ?_) (Nat.le_trans hm C2.S.1) (Nat.le_refl _) ?_)
    · rw [q26_10]
      refine offI (ldI (v := vint (k : Nat)) c2 rfl rfl (offI (ldI (v := vint (serveW t cs os)) c2 rfl rfl ?_)))
      show aIdx 1 wv (vint (k : Nat)) _
      rw [hwv]
      refine idxI ⟨by omega, by omega⟩ ?_
      have e0 : 0 + ((k : Nat) : Int).toNat * 1 = k := by simp
      rw [e0]
      refine qSt C2.at_ (by omega) rfl rfl fun H3 S3 c3 l3 => ⟨rfl, rfl, ⟨rfl, rfl, hwv ▸ rfl, rfl, rfl⟩, C2.put (Nat.le_refl _) S3 l3 c3 c3⟩
    rintro e f H3 ⟨rfl, ds, ⟨r11, r12, r15, r64, r65⟩, C3⟩
    have hm3 : m ≤ H3.length := Nat.le_trans hm C3.S.1
    refine .inl ⟨rfl, At.inBlock hJ2 (At.piece (Q := fun e f' h' => e = .normal ∧ f'.ds = [] ∧ (f'.r 11 = ov ∧ f'.r 12 = ptr p12 0 ∧ f'.r 15 = wv ∧ f'.r 64 = vint (oss.length : Nat) ∧ f'.r 65 = vint (j + 1 : Nat)) ∧ h' = H3) rfl hk (W_sound hJ2 mixed _ ?_) hm3 (Nat.le_refl _) ?_)⟩
    · rw [q26_11, r65]
      have hf := L.few
      refine addI (by omega) ⟨rfl, ds, ⟨r11, r12, r15, r64, ?_⟩, rfl⟩
      rfl
    rintro e f1 h1 ⟨rfl, ds, ⟨r11, r12, r15, r64, r65⟩, rfl⟩
    refine .inl ⟨rfl, At.inLoop hJ2 (At.forget (q26_forget r11 r12 r15 r64 r65) ds.symm ?_)⟩
    have hkp' : k ∈ pend := hkp
    have hel := List.length_erase_of_mem hkp'
    have hpos := List.length_pos_of_mem hkp'
    refine ih (j + 1) (pend.erase k) _ h1 (by omega) (by omega) (hnd.erase k) (fun l hl => hlt l (List.mem_of_mem_erase hl)) (by simpa using hwl) (fun l os2 hl hn => ?_) C3
    by_cases hlk : l = k
    · subst hlk
      rw [hos] at hl
      cases hl
      rw [List.getElem?_set_self (by omega)]
    · rw [List.getElem?_set_ne (Ne.symm hlk)]
      exact hws l os2 hl fun y => hn ((List.mem_erase_of_ne hlk).2 y)
end
end Go.Proofs.Ytindillghipjjaa

namespace Go.Proofs.Ytindillghipjjaa
open Go.Conc Go.Proofs.Try
set_option maxRecDepth 100000
theorem perms_mem {n : Nat} : ∀ (k : Nat) (so : List Nat), (∀ y ∈ so, y < n) → ∀ x ∈ perms n k so, x.length = so.length + k ∧ ∀ y ∈ x, y < n
  | 0, so, h, x, hx => by
    have : x = so := by simpa [perms] using hx
    subst this
    exact ⟨rfl, h⟩
  | k + 1, so, h, x, hx => by
    obtain ⟨i, hi, hx⟩ := List.mem_flatMap.1 hx
    have hin := List.mem_range.1 (List.mem_filter.1 hi).1
    obtain ⟨h1, h2⟩ := perms_mem k (so ++ [i]) (by
      intro y hy
      rcases List.mem_append.1 hy with y1 | y1
      · exact h y y1
      · rw [List.mem_singleton.1 y1]; exact hin) x hx
    refine ⟨?_, h2⟩
    rw [h1, List.length_append, List.length_singleton]
    omega

theorem unch_at {h : List AObj} {i : Nat} {c : List Value} {wr : Bool} {sz : Nat} (hb : h[i]? = some (.cells c wr sz)) : (unch h)[i]? = some (.cells c wr sz) := by
  unfold unch
  rw [List.getElem?_map, hb]
  rfl
theorem unch_sli {h : List AObj} {v : Value} {s n : Nat} {cs : List Value} (hs : Sli h v s n cs) : Sli (unch h) v s n cs := by
  obtain ⟨base, c, rfl, hk, hh⟩ := hs
  refine ⟨base, c, rfl, hk, hh.imp id ?_⟩
  rintro ⟨b, o, e, h0⟩
  exact ⟨b, o, e, h0.imp id fun ⟨cs, wr, sz, hb, ht⟩ => ⟨cs, wr, sz, unch_at hb, ht⟩⟩
theorem same_unch {h H g : List AObj} (S : SameX [] h H) : SameX [] (unch h) (unch H ++ g) := by
  refine ⟨by rw [List.length_append, unch_len, unch_len]; have := S.1; omega, fun i hi _ => ?_⟩
  rw [unch_len] at hi
  have h1 := S.2 i hi (by simp)
  have hlt : i < (unch H).length := by rw [unch_len]; have := S.1; omega
  rw [List.getElem?_append_left hlt]
  unfold unch
  rw [List.getElem?_map, List.getElem?_map, h1]

open Classical in
/-- The channels that the heap tells of. -/
noncomputable def chOf (ρ : Env) (h : List AObj) (w : World) (b : Nat) : Option (Nat × Array Value × Bool) :=
  if Chs ρ h b then (match w.heap[b]? with | some (.chan cap _ _ _ _ _) => some (cap, #[], false) | _ => none) else none
theorem chOf_some {ρ : Env} {h : List AObj} {FC : Frm} {w : World} {ft : Foot} (H : HRel ρ h FC w ft) {b i cap : Nat} (hi : h[i]? = some (.chan cap)) (hb : ρ.blk i = b) : chOf ρ h w b = some (cap, #[], false) ∧ w.heap[b]? = some (.chan cap #[] false 0 0 false) ∧ ft.rd b := by
  have ho := H.obj i _ hi
  rw [hb] at ho
  have hr := H.rd i _ hi rfl
  rw [hb] at hr
  cases hw : w.heap[b]? with
  | none => rw [hw] at ho; exact ho.elim
  | some x =>
    rw [hw] at ho
    cases x with
    | chan cap' buf closed s r tm =>
      obtain ⟨rfl, rfl, rfl, rfl, rfl, rfl⟩ := ho
      refine ⟨?_, rfl, hr⟩
      unfold chOf
      rw [if_pos ⟨i, _, hi, hb⟩, hw]
    | _ => exact ho.elim
theorem chOf_none {ρ : Env} {h : List AObj} {w : World} {b : Nat} (hn : ¬ Chs ρ h b) : chOf ρ h w b = none := if_neg hn

def waits26 (t : Tro) (cs : List Int) : List Int := (allOf26 cs).map (serveW t cs)
def pick26 (t : Tro) (cs : List Int) : Int := pickTo (waits26 t cs) (waits26 t cs).length

section
variable {W0 : World} {Post : Value → World → Prop} {h : List AObj} {K : Value → List AObj → Prop}
theorem good26 {a0 cv fv : Value} {t : Tro} {cs : List Int} (ht : TroAt h a0 t fv) (hc : Sli h cv 1 cs.length (cs.map vint)) (hl : cs.length ≤ 1000)
    (hE : servE t cs ≠ 0 → K (.tuple ⟨[.slice none 0 0, vint 0, vint (servE t cs)]⟩) h)
    (hK0 : servE t cs = 0 → pick26 t cs < 0 → ∀ H, SameX [] (unch h) H → K (.tuple ⟨[.slice none 0 0, vint 0, vint 11]⟩) H)
    (hK1 : servE t cs = 0 → ∀ (i : Nat) (c : Value) (os : List Nat) (H : List AObj), pick26 t cs = i → (allOf26 cs)[i]? = some os → SameX [] (unch h) H → Sli H c 1 os.length (nvs os) → K (.tuple ⟨[c, vint ((waits26 t cs).getD i 0), vint 0]⟩) H) :
    Good prog (J1 prog W0 Post) 26 [a0, cv] h K := by
  have hJ1 := J1.closed prog W0 Post
  refine good_of_sem hJ1 at26 body26 (by kernel_rfl) (Nat.le_of_ble_eq_true rfl) fun ok => ?_
  rw [show f26.ntmps = 109 from by kernel_rfl, show f26.results.toList = [.tmp 4, .tmp 5, .tmp 6] from by kernel_rfl]
  refine trunc_sound hJ1 mixed 6 (codeOf f26) (by kernel_rfl) (front26 hJ1 ok ht hc hl hE fun hs f H ov p2 p3 pc p12 cells o M => ?_)
  obtain ⟨ok0, hlen, hrs⟩ := servE_ok hs
  have wl := (troE_well ok0).2.1
  intro b a k fs L ρ FC w ft hb hk hL A R hn hcont
  have RZ := frz_rel R
  have hpc := lt_of_get M.hc
  have few : (allOf26 cs).length ≤ 27 := by
    have h1 := perms_few (n := cs.length) (by omega) cs.length []
    have h2 := Nat.pow_le_pow_right (n := 3) (by omega) (show cs.length ≤ 3 by omega)
    unfold allOf26
    omega
  have LN : Lent (frz H) t fv cv ov cs p2 p3 pc p12 h.length cells o (allOf26 cs) :=
    { ok := RZ.ok
      nw := fun x hx => by
        obtain ⟨y, _, rfl⟩ := List.mem_map.1 hx
        exact frz_wrt y
      nc := fun cap hx => by
        obtain ⟨y, _, e⟩ := List.mem_map.1 hx
        cases y <;> cases e
      h2 := frz_at M.h2
      h3 := frz_at M.h3
      h12 := frz_at M.h12
      hpc := by rw [frz_len]; exact hpc
      fl := frz_sli (M.S.sli ht.fl (by simp))
      cv := frz_sli (M.S.sli hc (by simp))
      os := frz_sli (ownX_sli M.own)
      ovk := by
        obtain ⟨_, _, ⟨_, rfl, _⟩ | ⟨i, c, sz, _, rfl, hi, _⟩⟩ := M.own
        · simp [VOk]
        · have := lt_of_get hi
          simp [VOk, AddrOk, frz_len, this]
      eles := fun j os hj => by
        obtain ⟨c, hcc, b, off, cap, cs1, wr, sz, e, h1, hb, ht, hn⟩ := M.eles j os hj
        exact ⟨c, hcc, b, off, cap, cs1, false, sz, e, h1, frz_at hb, ht, hn⟩
      rt := fun x hx => by
        obtain ⟨x1, x2⟩ := perms_mem cs.length [] (by simp) x hx
        have x1 : x.length = cs.length := by simpa using x1
        exact ⟨ok0, hlen, hrs, by omega, by omega, fun y hy => by have := x2 y hy; omega⟩
      few := by omega }
  obtain ⟨c1, c2, c3⟩ := chOf_some R M.hc rfl
  refine J1.crew (T := crew26 (chOf ρ H w) (ρ.blk pc) t cs (allOf26 cs) []) (f' := lentF ρ H ft) rfl (fun b x hx => ?_) (fun b hb => ⟨hb.1, chOf_none hb.2⟩) (fun b hb => hb.elim) ?_
  · by_cases hx2 : Chs ρ H b
    · obtain ⟨i, cap, hi, hib⟩ := hx2
      obtain ⟨d1, d2, d3⟩ := chOf_some R hi hib
      have : some x = some (cap, #[], false) := hx.symm.trans d1
      cases this
      exact ⟨d3, rfl, d2⟩
    · have : some x = none := hx.symm.trans (chOf_none hx2)
      cases this
  -- all the workers' time
  have hJ := JC.closed prog W0 Post (crew26 (chOf ρ H w) (ρ.blk pc) t cs (allOf26 cs) [])
  have hJn := JC.closed prog W0 Post (crew26 (chOf ρ H w) (ρ.blk pc) t cs (allOf26 cs) (List.range (allOf26 cs).length))
  have hw0 : ∀ b, ¬ (keepF ρ H w ft).wr b := fun b hb => hb
  have hpm : pc < (frz H).length := by rw [frz_len]; exact hpc
  suffices hAt : At (JC prog W0 Post (crew26 (chOf ρ H w) (ρ.blk pc) t cs (allOf26 cs) [])) 109 b fs (keepF ρ H w ft) ρ (frz H).length (.code (subC [1, 1, 1, 1, 1, 1] (codeOf f26)) :: k) f (frz H) from
    hAt a ρ w _ (by rw [frz_len]; exact A) RZ (Env.upto_refl _ _) (Nat.le_refl _)
  rw [shape26]
  refine At.seq hJ (At.seq hJ (At.piece (Q := fun e f' h' => e = .normal ∧ f'.ds = [] ∧ (f'.r 2 = ptr p2 0 ∧ f'.r 3 = ptr p3 0 ∧ f'.r 11 = ov ∧ f'.r 12 = ptr p12 0 ∧ f'.r 51 = ov ∧ f'.r 52 = vint ((allOf26 cs).length : Nat) ∧ f'.r 53 = vint (0 : Nat)) ∧ h' = frz H) rfl hk (W_sound hJ mixed _ ?_) (Nat.le_refl _) (Nat.le_refl _) ?_))
  · rw [q26_1, M.r11]
    exact lenI LN.os ⟨rfl, M.ds, ⟨M.r2, M.r3, M.r11, M.r12, rfl, rfl, rfl⟩, rfl⟩
  rintro e f1 h1 ⟨rfl, ds, ⟨r2, r3, r11, r12, r51, r52, r53⟩, rfl⟩
  refine .inl ⟨rfl, At.block hJ (At.loop hJ (At.weak LN.ok (LN.regs r2 r3 r11 r12 r51 r52 r53) ds.symm ds (Nat.le_refl _) ?_))⟩
  refine hire26 hk c1 LN (Nat.le_refl _) hpm hw0 ?_ (allOf26 cs).length 0 rfl (by omega)
  -- the answers' slice
  rw [shape26b]
  refine At.seq hJn (At.piece (Q := fun e f' h' => e = .normal ∧ f'.ds = [] ∧ (f'.r 11 = ov ∧ f'.r 12 = ptr p12 0 ∧ f'.r 15 = .slice (some ⟨(frz H).length, 0, none⟩) (allOf26 cs).length (allOf26 cs).length) ∧ Came (frz H) h' (zrep [vint 0] (allOf26 cs).length)) rfl hk (W_sound hJn mixed _ ?_) (Nat.le_refl _) (Nat.le_refl _) ?_)
  · rw [q26_6]
    show aLenS ov _
    refine lenI LN.os ⟨by decide, ?_⟩
    have hr : room = 1073741824 := rfl
    refine ⟨by omega, by omega, by omega, rfl, rfl, ⟨rfl, rfl, by show Value.slice (some ⟨(frz H).length, 0, none⟩) ((allOf26 cs).length : Int).toNat ((allOf26 cs).length : Int).toNat = _; simp⟩, SameX.refl.app, by simp, fun i o hi ho => ?_⟩
    rw [List.getElem?_append_right hi] at ho
    have := (List.getElem?_eq_some_iff.1 ho).1
    have h0 : i - (frz H).length = 0 := by simp at this; omega
    rw [h0] at ho
    cases ho
    rfl
  rintro e f2 h2 ⟨rfl, ds2, ⟨s11, s12, s15⟩, C⟩
  refine .inl ⟨rfl, ?_⟩
  rw [shape26c]
  have hmC : (frz H).length ≤ h2.length := C.S.1
  refine At.seq hJn (At.seq hJn (At.piece (Q := fun e f' h' => e = .normal ∧ f'.ds = [] ∧ (f'.r 11 = ov ∧ f'.r 12 = ptr p12 0 ∧ f'.r 15 = .slice (some ⟨(frz H).length, 0, none⟩) (allOf26 cs).length (allOf26 cs).length ∧ f'.r 64 = vint ((allOf26 cs).length : Nat) ∧ f'.r 65 = vint (0 : Nat)) ∧ h' = h2) rfl hk (W_sound hJn mixed _ ?_) hmC (Nat.le_refl _) ?_))
  · rw [q26_7, s11]
    exact lenI (C.S.sli LN.os (by simp)) ⟨rfl, ds2, ⟨s11, s12, s15, rfl, rfl⟩, rfl⟩
  rintro e f3 h3 ⟨rfl, ds3, ⟨t11, t12, t15, t64, t65⟩, rfl⟩
  refine .inl ⟨rfl, At.block hJn (At.loop hJn (At.forget (q26_forget t11 t12 t15 t64 t65) ds3.symm ?_))⟩
  refine recv26 hk LN (Nat.le_refl _) hpm rfl (fun H' C' => ?_) (allOf26 cs).length 0 _ (zrep [vint 0] (allOf26 cs).length) _ rfl (by simp) List.nodup_range (fun k hk => List.mem_range.1 hk) (by rw [zrep_one]; simp) (fun k os hk hn => absurd (List.mem_range.2 (List.getElem?_eq_some_iff.1 hk).1) hn) C
  -- behind the workers' time
  intro a' ρ' w' ft' A' R' hu' hm'
  obtain ⟨g, rfl⟩ := C'.S.app0 (by simp)
  have som : ∀ b, Chs ρ H b → (chOf ρ H w b).isSome = true := fun b ⟨i, cap, hi, hib⟩ => by
    rw [(chOf_some R hi hib).1]
    rfl
  refine JC.last (f' := thawF ρ H ft ft') rfl (fun b hb => hb.imp id (som b)) (fun b hb => ?_) fun w₂ hrel hch => ?_
  · rcases hb with hb | hb
    · by_cases hc : Chs ρ H b
      · exact .inr hc
      · have hr := R.sub b hb
        have hlt := R.lt b hr
        exact .inl (R'.kept b w.heap[b] (by rw [keep_ob R hr hc, Array.getElem?_eq_getElem hlt])).2.1
    · exact .inl (R'.sub b hb)
  have hu : Env.upto H.length ρ ρ' := by
    rw [← frz_len (h := H)]
    exact hu'
  obtain ⟨RT, _⟩ := thaw_rel R (R'.rely hrel) hu (fun o ho _ => by
    obtain ⟨i, hi⟩ := List.mem_iff_getElem?.1 ho
    exact C'.wr ((frz H).length + i) o (by omega) (by rw [List.getElem?_append_right (by omega)]; simpa using hi)) fun b hb => hch b (som b hb)
  have hwl : (waits26 t cs).length = (allOf26 cs).length := by simp [waits26]
  have le : (frz H ++ g).length = (unch H ++ g).length := by simp [frz_len, unch_len]
  have S := same_unch (g := g) M.S
  have S1 : h.length ≤ (unch H ++ g).length := by have := S.1; rwa [unch_len] at this
  have hget : (unch H ++ g)[(frz H).length]? = some (.cells ((waits26 t cs).map vint) true 0) := by
    have := C'.at_
    rw [List.getElem?_append_right (by omega)] at this
    rw [List.getElem?_append_right (by rw [unch_len, frz_len]; omega)]
    have e : (frz H).length - (unch H).length = (frz H).length - (frz H).length := by rw [unch_len, frz_len]
    rw [e]
    exact this
  refine tail26 hJ1 (wv := .slice (some ⟨(frz H).length, 0, none⟩) (allOf26 cs).length (allOf26 cs).length) (ov := ov) (ws := waits26 t cs) (m := (allOf26 cs).length) (cells := cells) RT.ok S1 (by omega) hwl.symm ?_ (sli_app (unch_sli (ownX_sli M.own))) rfl rfl rfl (fun hlt => ?_) (fun i c hi hcc => ?_) b a' k fs L ρ' FC w₂ _ hb hk hL (by rw [← le]; exact A') RT S1 fun e f2 h2' ρ2 w2 ft2 a2 q q1 q2 q3 q4 => hcont e f2 h2' ρ2 w2 ft2 a2 q q1 q2 (Env.upto_trans (Env.upto_le hu hn) q3) q4
  · rw [hwl]
    refine ⟨_, _, rfl, ⟨by simp [hwl], ?_⟩, .inr ⟨_, 0, rfl, .inr ⟨_, true, 0, hget, ?_⟩⟩⟩
    · unfold kn
      rw [List.all_eq_true]
      intro x hx
      obtain ⟨y, _, rfl⟩ := List.mem_map.1 hx
      rfl
    · rw [List.drop_zero, List.take_of_length_le (by simp [hwl])]
  · exact retL_same (by simp [unk]) (hK0 hs hlt _ S)
  · have hcl : cells.length = (allOf26 cs).length := by have := M.own.1; omega
    have hil := (List.getElem?_eq_some_iff.1 hcc).1
    obtain ⟨os, hos⟩ : ∃ os, (allOf26 cs)[i]? = some os := ⟨_, List.getElem?_eq_getElem (by omega)⟩
    obtain ⟨c', hc', E⟩ := M.eles i os hos
    obtain rfl : c = c' := by rw [hcc] at hc'; exact Option.some.inj hc'
    refine retL_same ?_ (hK1 hs i c os _ hi hos S (sli_app (unch_sli E.sli)))
    obtain ⟨_, _, _, _, _, _, rfl, _⟩ := E
    simp [unk]
end
end Go.Proofs.Ytindillghipjjaa

namespace Go.Proofs.Ytindillghipjjaa
open Go.Conc Go.Proofs.Try
set_option maxRecDepth 100000
def exTro : Tro := ⟨⟨6, 10, 3⟩, [⟨4, 3⟩, ⟨5, 4⟩]⟩
theorem ex_servE : servE exTro [2, 0] = 0 := by decide
theorem ex_all : allOf26 [2, 0] = [[0, 1], [1, 0]] := by decide
theorem ex_pick : pick26 exTro [2, 0] = 1 := by kernel_rfl
theorem ex_wait : (waits26 exTro [2, 0]).getD 1 0 = 0 := by kernel_rfl
end Go.Proofs.Ytindillghipjjaa

namespace Go.Proofs.Ytindillghipjjaa
open Go.Conc Go.Proofs.Try
set_option maxRecDepth 100000
section
variable {main : Bool} {J : JT} {h : List AObj} {K : Value → List AObj → Prop}
theorem fill_one {m : List Value} {o s : Nat} {v : Value} {l : List Value} {ps : List (Nat × Nat × Value)} {KL : List Value → Prop} (hv : v.cells.toList = l) (hs : l.length = s) (ho : l.all one = true) (hl : o + s ≤ m.length) (hk : aFill (wrAt m o l) ps KL) : aFill m ((o, s, v) :: ps) KL := by
  subst hv
  exact ⟨hs, ho, hl, hk⟩
theorem retQ_same {n0 : Nat} {rs : List ResultVar} {f : RG} (ds : f.ds = []) (hr : resW prog rs f.r h fun vs => K (pack vs) h) : RetQ prog rs n0 K .ret f h := by
  unfold RetQ
  rw [ds]
  exact resW_imp rs hr fun vs hk => .inl hk
theorem good66 (hJ : Closed prog main J) (hK : ∀ H p, SameX [] h H → H[p]? = some (.cells (exTro.flocks.flatMap Dro.cells) true 0) → TroAt H (.agg ⟨troCells exTro (.slice (some ⟨p, 0, none⟩) 2 2)⟩) exTro (.slice (some ⟨p, 0, none⟩) 2 2) → K (.agg ⟨troCells exTro (.slice (some ⟨p, 0, none⟩) 2 2)⟩) H) : Good prog J 66 [] h K := by
  refine g66 hJ fun ok => ?_
  rw [e66]
  refine qAl fun H1 p1 e1 S1 c1 l1 => ?_
  refine fill_one rfl rfl rfl (by decide) (fill_one rfl rfl rfl (by decide) (fill_one rfl rfl rfl (by decide) (fillI ?_)))
  refine fill_one rfl rfl rfl (by decide) (fill_one rfl rfl rfl (by decide) (fillI ?_))
  refine fill_one rfl rfl rfl (by decide) (fill_one rfl rfl rfl (by decide) (fillI ?_))
  refine ⟨by decide, fill_one rfl rfl rfl (by decide) (fill_one rfl rfl rfl (by decide) (fillI (qNew fun H2 p2 e2 S2 c2 l2 => ?_)))⟩
  have c2 : H2[p2]? = some (.cells (exTro.flocks.flatMap Dro.cells) true 0) := c2
  refine fill_one rfl rfl rfl (by decide) (fill_one rfl rfl rfl (by decide) (fillI ?_))
  refine qStA (c := troCells exTro (.slice (some ⟨p2, 0, none⟩) 2 2)) (S2.get c1 (by simp)) rfl rfl rfl fun H3 S3 c3 l3 => ?_
  have SS : SameX [] h H3 := (S1.trans S2).thru S3 (by intro x hx; rw [List.mem_singleton.1 hx]; exact .inr (by omega))
  refine retQ_same rfl (resW_cell (gg := true) (s := 4) (by kernel_rfl) ?_)
  refine load_part (c := troCells exTro (.slice (some ⟨p2, 0, none⟩) 2 2)) c3 (by simp [troCells]) rfl rfl (resW_nil ?_)
  have c23 := S3.get c2 (by simp; omega)
  refine hK _ p2 SS c23 ⟨rfl, ?_⟩
  exact ⟨_, _, rfl, ⟨rfl, rfl⟩, .inr ⟨p2, 0, rfl, .inr ⟨_, true, 0, c23, rfl⟩⟩⟩
end
end Go.Proofs.Ytindillghipjjaa

namespace Go.Proofs.Ytindillghipjjaa
open Go.Conc Go.Proofs.Try
set_option maxRecDepth 100000
section
variable {main : Bool} {J : JT} {h : List AObj} {K : Value → List AObj → Prop}
theorem good67 (hJ : Closed prog main J) (hK : K (.agg ⟨[vint 12, vint 20, vint 1, vint 4, vint 3, vint 2]⟩) h) : Good prog J 67 [] h K := by
  refine g67 hJ fun ok => ?_
  rw [e67]
  refine qAl fun H1 p1 e1 S1 c1 l1 => ?_
  refine fill_one rfl rfl rfl (by decide) (fill_one rfl rfl rfl (by decide) (fill_one rfl rfl rfl (by decide) (fill_one rfl rfl rfl (by decide) (fill_one rfl rfl rfl (by decide) (fill_one rfl rfl rfl (by decide) (fillI ?_))))))
  refine qStA (c := [vint 12, vint 20, vint 1, vint 4, vint 3, vint 2]) c1 rfl rfl rfl fun H3 S3 c3 l3 => ?_
  have SS : SameX [] h H3 := S1.thru S3 (by intro x hx; rw [List.mem_singleton.1 hx]; exact .inr (by omega))
  obtain ⟨g, rfl⟩ := SS.app0 (by simp)
  refine retQ_drop rfl ok (Nat.le_refl _) (resW_cell (gg := true) (s := 6) (by kernel_rfl) ?_)
  exact load_part (c := [vint 12, vint 20, vint 1, vint 4, vint 3, vint 2]) c3 (Nat.le_refl _) rfl rfl (resW_nil ⟨by show VOk h.length (.agg ⟨[vint 12, vint 20, vint 1, vint 4, vint 3, vint 2]⟩); simp [VOk, AOk, LOk], hK⟩)
theorem good68 (hJ : Closed prog main J) (hK : K (.agg ⟨[vint 3, vint 2, vint 2]⟩) h) : Good prog J 68 [] h K := by
  refine g68 hJ fun ok => ?_
  rw [e68]
  refine qAl fun H1 p1 e1 S1 c1 l1 => ?_
  refine fill_one rfl rfl rfl (by decide) (fill_one rfl rfl rfl (by decide) (fill_one rfl rfl rfl (by decide) (fillI ?_)))
  refine qStA (c := [vint 3, vint 2, vint 2]) c1 rfl rfl rfl fun H3 S3 c3 l3 => ?_
  have SS : SameX [] h H3 := S1.thru S3 (by intro x hx; rw [List.mem_singleton.1 hx]; exact .inr (by omega))
  obtain ⟨g, rfl⟩ := SS.app0 (by simp)
  refine retQ_drop rfl ok (Nat.le_refl _) (resW_cell (gg := true) (s := 3) (by kernel_rfl) ?_)
  exact load_part (c := [vint 3, vint 2, vint 2]) c3 (Nat.le_refl _) rfl rfl (resW_nil ⟨by show VOk h.length (.agg ⟨[vint 3, vint 2, vint 2]⟩); simp [VOk, AOk, LOk], hK⟩)
end
end Go.Proofs.Ytindillghipjjaa

namespace Go.Proofs.Ytindillghipjjaa
open Go.Conc Go.Proofs.Try
set_option maxRecDepth 100000
def rotaE (t : Tro) (rota : List Int) : Int := if troE t ≠ 0 then troE t else if fewE rota.length 1 5 ≠ 0 then fewE rota.length 1 5 else if ∀ r ∈ rota, -1 ≤ r ∧ r ≤ (t.flocks.length : Int) - 1 then 0 else 3

section
variable {main : Bool} {J : JT} {h : List AObj} {K : Value → List AObj → Prop}
theorem good86 (hJ : Closed prog main J) {v fv rv : Value} {t : Tro} {rota : List Int} (ht : TroAt h v t fv) (hr : Sli h rv 1 rota.length (rota.map vint)) (hl : t.flocks.length ≤ 1000000) (hK : K (vint (rotaE t rota)) h) : Good prog J 86 [v, rv] h K := by
  refine g86 hJ fun ok => ?_
  rw [e86, ht.val]
  refine qBox (tro_one ht) fun H1 p2 e1 S1 c1 l1 => ?_
  have t1 : TroAt H1 (.agg ⟨troCells t fv⟩) t fv := ⟨rfl, S1.sli ht.fl (by simp)⟩
  have kf := (sli_val ht.fl).2.2
  have r1 : Sli H1 rv 1 rota.length (rota.map vint) := S1.sli hr (by simp)
  have fin : ∀ (e : Int) (n0 : Nat), n0 = h.length → rotaE t rota = e → retL n0 K [] [vint e] H1 := fun e n0 hn he => by
    subst he hn
    exact retX ok (Nat.le_refl _) S1 (by simp) (by simp [unk]) (by simp [pack, VOk]) hK
  refine load_part (c := troCells t fv) c1 (by simp [troCells]) rfl (by simp [kn, troCells, kf]; exact ⟨rfl, rfl, rfl⟩) (good48 hJ t1 ?_)
  refine neqI (cndI (fun g1 => fin _ _ rfl (by unfold rotaE; rw [if_pos g1])) fun g1 => ?_)
  refine lenI r1 (good70 hJ (neqI (cndI (fun g2 => fin _ _ rfl (by unfold rotaE; rw [if_neg g1, if_pos g2])) fun g2 => lenI r1 ?_)))
  have hlen : rota.length ≤ 5 := by
    have g2 : fewE rota.length 1 5 = 0 := by omega
    unfold fewE at g2
    split at g2
    · cases g2
    · split at g2
      · cases g2
      · omega
  refine l86_1 hJ (fun i : Nat => rota.length - i) (fun i f H => H1 = H ∧ i ≤ rota.length ∧ (∀ r ∈ rota.take i, -1 ≤ r ∧ r ≤ (t.flocks.length : Int) - 1) ∧ f.ds = [] ∧ f.r 2 = ptr p2 0 ∧ f.r 20 = rv ∧ f.r 21 = vint (rota.length : Nat) ∧ f.r 22 = vint (i : Nat)) ?_ (s := 0)
    (.inl ⟨rfl, by omega, by simp, rfl, rfl, rfl, rfl, rfl⟩)
  rintro i f H ⟨e, hi, hd, ds, r2, r20, r21, r22⟩ _ _
  subst e
  rw [s86_1, ds, r2, r20, r21, r22]
  refine lssI (cndI (fun g => ?_) fun g => fin 0 _ rfl ?_)
  · have hil : i < rota.length := by omega
    have hx := List.getElem?_eq_getElem hil
    refine sli_num' r1 hx fun q => offI (ldI (v := fv) c1 rfl kf (lenI t1.fl (subI (by omega) (good71 hJ (notI (cndN (fun g3 => fin 3 _ rfl ?_) fun g3 => addI (by omega) ?_))))))
    · unfold rotaE
      rw [if_neg g1, if_neg g2, if_neg fun y => g3 (y _ (List.getElem_mem hil))]
    · refine ⟨i + 1, by show rota.length - (i + 1) < rota.length - i; omega, .inl ⟨rfl, by omega, ?_, ds, r2, r20, r21, ?_⟩⟩
      · intro c hcm
        rw [List.take_add_one, hx] at hcm
        rcases List.mem_append.1 hcm with y | y
        · exact hd c y
        · simp at y
          subst y
          exact g3
      · show vint _ = vint _
        congr 1
  · have hin : i = rota.length := by omega
    subst hin
    rw [List.take_length] at hd
    unfold rotaE
    rw [if_neg g1, if_neg g2, if_pos hd]
end
end Go.Proofs.Ytindillghipjjaa

namespace Go.Proofs.Ytindillghipjjaa
open Go.Conc Go.Proofs.Try
set_option maxRecDepth 100000
set_option maxHeartbeats 4000000
set_option linter.unusedVariables false
section
variable {main : Bool} {J : JT} {n0 : Nat} {h : List AObj} {K : Value → List AObj → Prop}
theorem at30 : prog.funcs[30]? = some f30 := by kernel_rfl
theorem body30 : f30.body = some (codeOf f30) := by kernel_rfl
def pl30 : Plans := [(2, false, .take 0 (.take 1 (.take 2 (.take 3 (.take 4 (.take 5 (.take 9 (.take 10 (.last 6 true (.last 7 true (.last 8 true (.take 14 (.last 11 true (.last 12 true (.last 13 true (.last 15 false (.take 16 (.last 17 false (.fin)))))))))))))))))))]
def ct30 : Cuts := .go
theorem pok30 : plansOk prog pl30 (codeOf f30) = true := by kernel_rfl
theorem e30 {a0 a1 : Value} : W prog J 29 h.length 30 (codeOf f30) (RG.mk (regs [a0, a1]) []) h (RetQ prog [.cell 4 23] h.length K) =
(aAlloc [(vint 0), (vint 0), (vint 0)] h fun v1 h2 =>
aMin a1 [(vint 40)] fun v3 =>
aMax (vint 2) [v3] fun v4 =>
Good prog J 33 [a0, (vint 2), v4] h2 fun v5 h6 =>
aFill [(vint 0), (vint 0), (vint 0)] [(1, 1, v5)] fun c7 =>
aAlloc [(vint 0), (vint 0), (vint 0)] h6 fun v8 h9 =>
aStore 3 v8 (Value.agg ⟨c7⟩) h9 fun h10 =>
(∃ B, aOff v8 1 fun v11 =>
aLoad false 1 v11 h10 fun v12 =>
RdOk (some B) (ptrBlk v11) ∧ (aOff v8 1 fun v13 =>
aLoad false 1 v13 h10 fun v14 =>
RdOk (some B) (ptrBlk v13) ∧ (Good prog J 23 [a0, v14] h10 fun v15 h16 =>
SameB (some B) h10 h16 ∧ ((((1 * 1 : Nat) ≤ 16777216 ∧ (1 : Nat) ≤ 16777216 ∧ List.length [(vint 0)] = 1) ∧ aFill (zrep [(vint 0)] 1) [(0, 1, v15)] fun c17 =>
aNewS 1 c17 h16 fun v18 h19 =>
SameB (some B) h10 h19 ∧ (Good prog J 22 [a0, v12, v18] h19 fun v20 h21 =>
SameB (some B) h10 h21 ∧ (aOff v8 0 fun v22 =>
Good prog J 23 [a0, (vint 6)] h21 fun v23 h24 =>
SameB (some B) h10 h24 ∧ ((((3 * 1 : Nat) ≤ 16777216 ∧ (3 : Nat) ≤ 16777216 ∧ List.length [(vint 0)] = 1) ∧ aFill (zrep [(vint 0)] 3) [(0, 1, (vint 2)), (1, 1, (vint 3)), (2, 1, v23)] fun c25 =>
aNewS 3 c25 h24 fun v26 h27 =>
SameB (some B) h10 h27 ∧ (Good prog J 22 [a0, (vint 1), v26] h27 fun v28 h29 =>
SameB (some B) h10 h29 ∧ (aStore 1 v22 v20 h29 fun h30 =>
aOff v8 2 fun v31 =>
aStore 1 v31 v28 h30 fun h32 =>
aLoad true 3 v8 h32 fun v33 =>
aStore 3 v1 v33 h32 fun h34 =>
RetQ prog [.cell 4 23] h.length K .ret (RG.put (RG.put (RG.put (RG.put (RG.put (RG.put (RG.put (RG.put (RG.put (RG.put (RG.put (RG.put (RG.put (RG.put (RG.put (RG.put (RG.put (RG.put (RG.put (RG.put (RG.put (RG.put (RG.put (RG.put (RG.put (RG.mk (regs [a0, a1]) []) 4 v1) 6 a0) 7 a1) 8 v3) 9 v4) 10 v5) 11 (Value.agg ⟨c7⟩)) 5 v8) 12 a0) 13 v11) 14 v12) 15 a0) 16 v13) 17 v14) 21 a0) 22 a0) 18 v15) 19 v18) 20 v20) 26 v22) 23 v23) 24 v26) 25 v28) 27 v31) 28 v33) h34)))))))))))) := top_eq pok30 ct30 (by kernel_rfl)
theorem g30 (hJ : Closed prog main J) {a0 a1 : Value} (hs : heapOk h → W prog J 29 h.length 30 (codeOf f30) (RG.mk (regs [a0, a1]) []) h (RetQ prog [.cell 4 23] h.length K)) : Good prog J 30 [a0, a1] h K :=
  good_of_W hJ mixed at30 body30 (by kernel_rfl) (Nat.le_of_ble_eq_true rfl) hs
theorem at21 : prog.funcs[21]? = some f21 := by kernel_rfl
theorem body21 : f21.body = some (codeOf f21) := by kernel_rfl
def pl21 : Plans := [(5, false, .take 0 (.take 1 (.take 2 (.take 3 (.take 4 (.take 5 (.take 6 (.take 7 (.take 8 (.take 10 (.take 11 (.take 12 (.take 13 (.take 17 (.last 9 true (.last 14 true (.last 15 true (.last 16 true (.last 18 true (.take 19 (.last 20 true (.last 21 true (.take 22 (.last 23 false (.fin)))))))))))))))))))))))))]
def ct21 : Cuts := .go
theorem pok21 : plansOk prog pl21 (codeOf f21) = true := by kernel_rfl
theorem e21 {a0 a1 a2 : Value} : W prog J 45 h.length 21 (codeOf f21) (RG.mk (regs [a0, a1, a2]) []) h (RetQ prog [.cell 6 26] h.length K) =
(aAlloc [(vint 0), (vint 0), (vint 0), (Value.slice none 0 0)] h fun v1 h2 =>
Good prog J 30 [a0, a2] h2 fun v3 h4 =>
aFill [(vint 0), (vint 0), (vint 0), (Value.slice none 0 0)] [(0, 3, v3)] fun c5 =>
aAlloc [(vint 0), (vint 0), (vint 0), (Value.slice none 0 0)] h4 fun v6 h7 =>
aStore 4 v6 (Value.agg ⟨c5⟩) h7 fun h8 =>
aMin a1 [(vint 3)] fun v9 =>
Good prog J 33 [a0, (vint 1), v9] h8 fun v10 h11 =>
Sem J 45 h.length 21 (subC [1, 1, 0, 1, 0] (codeOf f21)) (RG.put (RG.put (RG.put (RG.put (RG.put (RG.put (RG.put (RG.put (RG.put (RG.put (RG.put (RG.mk (regs [a0, a1, a2]) []) 6 v1) 9 a0) 10 a2) 11 v3) 12 (Value.agg ⟨c5⟩)) 7 v6) 13 a0) 14 a1) 15 v9) 16 v10) 8 v10) h11 (contX pl21 prog J 45 h.length 21 ct21 [1, 1, 0, 1, 0] (codeOf f21) [] (RetQ prog [.cell 6 26] h.length K))) := top_eq pok21 ct21 (by kernel_rfl)
theorem g21 (hJ : Closed prog main J) {a0 a1 a2 : Value} (hs : heapOk h → W prog J 45 h.length 21 (codeOf f21) (RG.mk (regs [a0, a1, a2]) []) h (RetQ prog [.cell 6 26] h.length K)) : Good prog J 21 [a0, a1, a2] h K :=
  good_of_W hJ mixed at21 body21 (by kernel_rfl) (Nat.le_of_ble_eq_true rfl) hs
theorem s21_1 {f : RG} {nx0 : RG → List AObj → Prop} : W prog J 45 n0 21 (subC [1, 1, 0, 1, 0, 0] (codeOf f21)) f h (thenK nx0 (contX pl21 prog J 45 n0 21 ct21 [1, 1, 0, 1, 0] (codeOf f21) [] (RetQ prog [.cell 6 26] n0 K))) =
(aBin prog .gtr 3 (f.r 8) (vint 0) fun v1 =>
cnd v1
((∃ B, aOff (f.r 7) 3 fun v2 =>
aLoad false 1 v2 h fun v3 =>
RdOk (some B) (ptrBlk v2) ∧ (aOff (f.r 7) 0 fun v4 =>
aOff v4 1 fun v5 =>
aLoad false 1 v5 h fun v6 =>
RdOk (some B) (ptrBlk v5) ∧ (aBin prog .quo 3 v6 (vint 2) fun v7 =>
aMax (vint 1) [v7] fun v8 =>
aOff (f.r 7) 0 fun v9 =>
aOff v9 1 fun v10 =>
aLoad false 1 v10 h fun v11 =>
RdOk (some B) (ptrBlk v10) ∧ (Good prog J 33 [(f.r 0), (vint 1), v8] h fun v12 h13 =>
SameB (some B) h h13 ∧ (Good prog J 33 [(f.r 0), (vint 1), v11] h13 fun v14 h15 =>
SameB (some B) h h15 ∧ ((((3 * 1 : Nat) ≤ 16777216 ∧ (3 : Nat) ≤ 16777216 ∧ List.length [(vint 0)] = 1) ∧ aFill (zrep [(vint 0)] 3) [(0, 1, (vint 2)), (1, 1, v12), (2, 1, v14)] fun c16 =>
aNewS 3 c16 h15 fun v17 h18 =>
SameB (some B) h h18 ∧ (Good prog J 22 [(f.r 0), (vint 1), v17] h18 fun v19 h20 =>
SameB (some B) h h20 ∧ (Good prog J 33 [(f.r 0), (vint 1), (vint 6)] h20 fun v21 h22 =>
SameB (some B) h h22 ∧ (aFill [(vint 0), (vint 0)] [(0, 1, v19), (1, 1, v21)] fun c23 =>
(((1 * 2 : Nat) ≤ 16777216 ∧ (1 : Nat) ≤ 16777216 ∧ List.length [(vint 0), (vint 0)] = 2) ∧ aFill (zrep [(vint 0), (vint 0)] 1) [(0, 2, (Value.agg ⟨c23⟩))] fun c24 =>
aNewS 1 c24 h22 fun v25 h26 =>
SameB (some B) h h26 ∧ (((List.length [(vint 0), (vint 0)] = 2 ∧ 0 < (2 : Nat) ∧ 0 < (16 : Nat) ∧ (16 : Nat) ≤ 1024) ∧ aApp 2 v3 v25 h26 fun v27 h28 =>
SameB (some B) h h28 ∧ (aOff (f.r 7) 3 fun v29 =>
aStore 1 v29 v27 h28 fun h30 =>
aBin prog .sub 3 (f.r 8) (vint 1) fun v31 =>
nx0 (RG.put (RG.put (RG.put (RG.put (RG.put (RG.put (RG.put (RG.put (RG.put (RG.put (RG.put (RG.put (RG.put (RG.put (RG.put (RG.put (RG.put (RG.put (RG.put (RG.put (RG.put (RG.put (RG.put (RG.put (RG.put (RG.put (RG.put (RG.put f 17 (f.r 8)) 18 v1) 21 v2) 22 v3) 23 (f.r 0)) 24 (f.r 0)) 25 v4) 26 v5) 27 v6) 28 v7) 29 v8) 31 (f.r 0)) 32 v9) 33 v10) 34 v11) 38 (f.r 0)) 30 v12) 35 v14) 36 v17) 37 v19) 39 v21) 40 (Value.agg ⟨c23⟩)) 41 v25) 42 v27) 43 v29) 19 (f.r 8)) 20 v31) 8 v31) h30)))))))))))))))
(aLoad true 4 (f.r 7) h fun v32 =>
aStore 4 (f.r 6) v32 h fun h33 =>
RetQ prog [.cell 6 26] n0 K .ret (RG.put (RG.put (RG.put f 17 (f.r 8)) 18 v1) 44 v32) h33)) := sub_eq pok21 ct21 (by kernel_rfl)
theorem l21_1 (hJ : Closed prog main J) {S : Type} (μ : S → Nat) (I : S → RG → List AObj → Prop) (hI : ∀ s f h, I s f h → heapOk h → n0 ≤ h.length → W prog J 45 n0 21 (subC [1, 1, 0, 1, 0, 0] (codeOf f21)) f h (thenK (Nx n0 μ I s) (contX pl21 prog J 45 n0 21 ct21 [1, 1, 0, 1, 0] (codeOf f21) [] (RetQ prog [.cell 6 26] n0 K))))
  {s : S} {f : RG} (hi : Gets n0 I s f h) : Sem J 45 n0 21 (subC [1, 1, 0, 1, 0] (codeOf f21)) f h (contX pl21 prog J 45 n0 21 ct21 [1, 1, 0, 1, 0] (codeOf f21) [] (RetQ prog [.cell 6 26] n0 K)) :=
  loop_rule hJ mixed (b := subC [1, 1, 0, 1, 0, 0] (codeOf f21)) (by kernel_rfl) μ I hI hi
theorem at36 : prog.funcs[36]? = some f36 := by kernel_rfl
theorem body36 : f36.body = some (codeOf f36) := by kernel_rfl
def pl36 : Plans := []
def ct36 : Cuts := .go
theorem pok36 : plansOk prog pl36 (codeOf f36) = true := by kernel_rfl
theorem e36 {a0 a1 a2 : Value} : W prog J 27 h.length 36 (codeOf f36) (RG.mk (regs [a0, a1, a2]) []) h (RetQ prog [.tmp 6] h.length K) =
(aBox a1 h fun v1 h2 =>
aMin a2 [(vint 5)] fun v3 =>
Good prog J 33 [a0, (vint 1), v3] h2 fun v4 h5 =>
Sem J 27 h.length 36 (subC [1, 1, 0, 1, 0] (codeOf f36)) (RG.put (RG.put (RG.put (RG.put (RG.put (RG.put (RG.put (RG.put (RG.mk (regs [a0, a1, a2]) []) 4 v1) 6 (Value.slice none 0 0)) 7 (Value.slice none 0 0)) 9 a0) 10 a2) 11 v3) 12 v4) 8 v4) h5 (contX pl36 prog J 27 h.length 36 ct36 [1, 1, 0, 1, 0] (codeOf f36) [] (RetQ prog [.tmp 6] h.length K))) := top_eq pok36 ct36 (by kernel_rfl)
theorem g36 (hJ : Closed prog main J) {a0 a1 a2 : Value} (hs : heapOk h → W prog J 27 h.length 36 (codeOf f36) (RG.mk (regs [a0, a1, a2]) []) h (RetQ prog [.tmp 6] h.length K)) : Good prog J 36 [a0, a1, a2] h K :=
  good_of_W hJ mixed at36 body36 (by kernel_rfl) (Nat.le_of_ble_eq_true rfl) hs
theorem s36_1 {f : RG} {nx0 : RG → List AObj → Prop} : W prog J 27 n0 36 (subC [1, 1, 0, 1, 0, 0] (codeOf f36)) f h (thenK nx0 (contX pl36 prog J 27 n0 36 ct36 [1, 1, 0, 1, 0] (codeOf f36) [] (RetQ prog [.tmp 6] n0 K))) =
(aBin prog .gtr 3 (f.r 8) (vint 0) fun v1 =>
cnd v1
(aOff (f.r 4) 3 fun v2 =>
aLoad false 1 v2 h fun v3 =>
aLenS v3 fun v4 =>
Good prog J 23 [(f.r 0), v4] h fun v5 h6 =>
aBin prog .sub 3 v5 (vint 1) fun v7 =>
(((1 * 1 : Nat) ≤ 16777216 ∧ (1 : Nat) ≤ 16777216 ∧ List.length [(vint 0)] = 1) ∧ aFill (zrep [(vint 0)] 1) [(0, 1, v7)] fun c8 =>
aNewS 1 c8 h6 fun v9 h10 =>
((List.length [(vint 0)] = 1 ∧ 0 < (1 : Nat) ∧ 0 < (8 : Nat) ∧ (8 : Nat) ≤ 1024) ∧ aApp 1 (f.r 7) v9 h10 fun v11 h12 =>
aBin prog .sub 3 (f.r 8) (vint 1) fun v13 =>
nx0 (RG.put (RG.put (RG.put (RG.put (RG.put (RG.put (RG.put (RG.put (RG.put (RG.put (RG.put (RG.put (RG.put (RG.put (RG.put f 13 (f.r 8)) 14 v1) 17 (f.r 7)) 18 (f.r 0)) 19 v2) 20 v3) 21 v4) 22 v5) 23 v7) 24 v9) 25 v11) 7 v11) 15 (f.r 8)) 16 v13) 8 v13) h12)))
(retL n0 K f.ds [(f.r 7)] h)) := sub_eq pok36 ct36 (by kernel_rfl)
theorem l36_1 (hJ : Closed prog main J) {S : Type} (μ : S → Nat) (I : S → RG → List AObj → Prop) (hI : ∀ s f h, I s f h → heapOk h → n0 ≤ h.length → W prog J 27 n0 36 (subC [1, 1, 0, 1, 0, 0] (codeOf f36)) f h (thenK (Nx n0 μ I s) (contX pl36 prog J 27 n0 36 ct36 [1, 1, 0, 1, 0] (codeOf f36) [] (RetQ prog [.tmp 6] n0 K))))
  {s : S} {f : RG} (hi : Gets n0 I s f h) : Sem J 27 n0 36 (subC [1, 1, 0, 1, 0] (codeOf f36)) f h (contX pl36 prog J 27 n0 36 ct36 [1, 1, 0, 1, 0] (codeOf f36) [] (RetQ prog [.tmp 6] n0 K)) :=
  loop_rule hJ mixed (b := subC [1, 1, 0, 1, 0, 0] (codeOf f36)) (by kernel_rfl) μ I hI hi
end
end Go.Proofs.Ytindillghipjjaa

namespace Go.Proofs.Ytindillghipjjaa
open Go.Conc Go.Proofs.Try
def drinkOf (t : Tro) (who : Int) : Int := if 0 ≤ who then (droAt t who.toNat).drinks else 0
def nextL (t : Tro) (who now : Int) : Int := min t.well.holds (now - min now (drinkOf t who) + t.well.fill)
def turnOf (r : List Int) (h : Nat) : Int := r.getD (h % r.length) 0
def lvl (t : Tro) (r : List Int) : Nat → Int
  | 0 => t.well.now
  | h + 1 => nextL t (turnOf r h) (lvl t r h)
def dry (t : Tro) (r : List Int) (h : Nat) : Prop := lvl t r h < drinkOf t (turnOf r h)
instance (t : Tro) (r : List Int) (h : Nat) : Decidable (dry t r h) := by unfold dry; infer_instance

structure TroFine (t : Tro) : Prop where
  holds : 1 ≤ t.well.holds ∧ t.well.holds ≤ 40
  now : 0 ≤ t.well.now ∧ t.well.now ≤ t.well.holds
  fill : 0 ≤ t.well.fill ∧ t.well.fill ≤ 20
  len : 1 ≤ t.flocks.length ∧ t.flocks.length ≤ 3
  dro : ∀ d ∈ t.flocks, droOk d
theorem troE_fine {t : Tro} (h : troE t = 0) : TroFine t := by
  obtain ⟨⟨a, b, c⟩, d, e⟩ := troE_well h
  exact ⟨a, b, c, d, e⟩
theorem fine_troE {t : Tro} (f : TroFine t) : troE t = 0 := by
  have h1 : welE t.well = 0 := by unfold welE; rw [if_pos ⟨f.holds, f.now, f.fill⟩]
  have h2 : fewE t.flocks.length 1 3 = 0 := by
    have := f.len
    unfold fewE
    rw [if_neg (by omega), if_neg (by omega)]
  unfold troE
  rw [if_neg (by omega), if_neg (by omega), if_pos f.dro]

structure RotaFine (t : Tro) (r : List Int) : Prop where
  len : 1 ≤ r.length ∧ r.length ≤ 5
  who : ∀ n ∈ r, -1 ≤ n ∧ n < t.flocks.length

section
variable {t x : Tro} {r : List Int} {h k a b : Nat}
theorem droAt_mem {i : Nat} (hi : i < t.flocks.length) : droAt t i = t.flocks[i] := by
  unfold droAt
  rw [List.getD_eq_getElem?_getD, List.getElem?_eq_getElem hi]
  rfl
theorem drink_bd (f : TroFine t) (who : Int) : 0 ≤ drinkOf t who ∧ drinkOf t who ≤ 40 := by
  unfold drinkOf
  split
  · rcases Nat.lt_or_ge who.toNat t.flocks.length with hi | hi
    · rw [droAt_mem hi]
      have := (f.dro _ (List.getElem_mem hi)).1
      omega
    · unfold droAt
      rw [List.getD_eq_getElem?_getD, List.getElem?_eq_none hi]
      exact ⟨Int.le_refl _, by decide⟩
  · omega
theorem turnOf_mem (hr : r ≠ []) (h : Nat) : turnOf r h ∈ r := by
  have hp : 0 < r.length := by cases r <;> simp at hr ⊢
  have := Nat.mod_lt h hp
  unfold turnOf
  rw [List.getD_eq_getElem?_getD, List.getElem?_eq_getElem this]
  exact List.getElem_mem this
theorem nextL_bd (f : TroFine t) {who now : Int} (h0 : 0 ≤ now) (h1 : now ≤ t.well.holds) : 0 ≤ nextL t who now ∧ nextL t who now ≤ t.well.holds := by
  have := drink_bd f who
  have := f.holds
  have := f.fill
  unfold nextL
  omega
theorem lvl_bd (f : TroFine t) : ∀ h : Nat, 0 ≤ lvl t r h ∧ lvl t r h ≤ t.well.holds
  | 0 => f.now
  | h + 1 => nextL_bd f (lvl_bd f h).1 (lvl_bd f h).2

theorem turnOf_congr (hm : a % r.length = b % r.length) (k : Nat) : turnOf r (a + k) = turnOf r (b + k) := by
  unfold turnOf
  rw [Nat.add_mod a, Nat.add_mod b, hm]
theorem lvl_congr (hl : lvl t r a = lvl t r b) (hm : a % r.length = b % r.length) : ∀ k : Nat, lvl t r (a + k) = lvl t r (b + k)
  | 0 => hl
  | k + 1 => by
    show nextL t (turnOf r (a + k)) (lvl t r (a + k)) = nextL t (turnOf r (b + k)) (lvl t r (b + k))
    rw [lvl_congr hl hm k, turnOf_congr hm k]
theorem dry_congr (hl : lvl t r a = lvl t r b) (hm : a % r.length = b % r.length) (k : Nat) : dry t r (a + k) ↔ dry t r (b + k) := by
  unfold dry
  rw [lvl_congr hl hm k, turnOf_congr hm k]

theorem dry_back {i j : Nat} (hij : i < j) (hl : lvl t r i = lvl t r j) (hm : i % r.length = j % r.length) (hn : ∀ h, h < j → ¬ dry t r h) : ∀ h, ¬ dry t r h := by
  intro h
  induction h using Nat.strongRecOn with
  | ind h ih =>
    rcases Nat.lt_or_ge h j with x | x
    · exact hn h x
    · have := dry_congr hl hm (h - j)
      rw [show j + (h - j) = h from by omega] at this
      rw [← this]
      exact ih _ (by omega)

theorem pigeon : ∀ (N : Nat) (f : Nat → Nat), (∀ i, i ≤ N → f i < N) → ∃ i j, i < j ∧ j ≤ N ∧ f i = f j
  | 0, f, hf => absurd (hf 0 (Nat.le_refl _)) (Nat.not_lt_zero _)
  | N + 1, f, hf => by
    by_cases hx : ∃ i, i ≤ N ∧ f i = f (N + 1)
    · obtain ⟨i, hi, e⟩ := hx
      exact ⟨i, N + 1, by omega, Nat.le_refl _, e⟩
    · obtain ⟨i, j, h1, h2, h3⟩ := pigeon N (fun i => if f i > f (N + 1) then f i - 1 else f i) (fun i hi => by
        have h1 := hf i (by omega)
        have h2 := hf (N + 1) (Nat.le_refl _)
        have h3 : f i ≠ f (N + 1) := fun e => hx ⟨i, hi, e⟩
        split <;> omega)
      refine ⟨i, j, h1, by omega, ?_⟩
      have n1 : f i ≠ f (N + 1) := fun e => hx ⟨i, by omega, e⟩
      have n2 : f j ≠ f (N + 1) := fun e => hx ⟨j, h2, e⟩
      split at h3 <;> split at h3 <;> omega

theorem code_inj {n a b c d : Nat} (hb : b < n) (hd : d < n) (h : a * n + b = c * n + d) : a = c ∧ b = d := by
  have h1 : (a * n + b) / n = (c * n + d) / n := by rw [h]
  have h2 : (a * n + b) % n = (c * n + d) % n := by rw [h]
  rw [Nat.mul_comm a, Nat.mul_comm c, Nat.mul_add_div (by omega), Nat.mul_add_div (by omega), Nat.div_eq_of_lt hb, Nat.div_eq_of_lt hd] at h1
  rw [Nat.mul_comm a, Nat.mul_comm c, Nat.mul_add_mod, Nat.mul_add_mod, Nat.mod_eq_of_lt hb, Nat.mod_eq_of_lt hd] at h2
  omega
theorem code_lt {n H a b : Nat} (hb : b < n) (ha : a ≤ H) : a * n + b < (H + 1) * n := by
  have := Nat.mul_le_mul_right n ha
  rw [Nat.succ_mul]
  omega

def bound (t : Tro) (r : List Int) : Nat := (t.well.holds.toNat + 1) * r.length
theorem never (f : TroFine t) (hr : r ≠ []) (hn : ∀ h, h < bound t r → ¬ dry t r h) : ∀ h, ¬ dry t r h := by
  have hp : 0 < r.length := by cases r <;> simp at hr ⊢
  obtain ⟨i, j, hij, hj, e⟩ := pigeon (bound t r) (fun h => (lvl t r h).toNat * r.length + h % r.length) (fun h _ => by
    have := lvl_bd (r := r) f h
    exact code_lt (Nat.mod_lt h hp) (by omega))
  obtain ⟨e1, e2⟩ := code_inj (Nat.mod_lt i hp) (Nat.mod_lt j hp) e
  have b1 := lvl_bd (r := r) f i
  have b2 := lvl_bd (r := r) f j
  exact dry_back hij (by omega) e2 fun h hh => hn h (by omega)

theorem bound_le (f : TroFine t) (g : r.length ≤ 5) : bound t r ≤ 205 := by
  have := f.holds
  have h2 : t.well.holds.toNat + 1 ≤ 41 := by omega
  exact Nat.mul_le_mul h2 g

def firstH (p : Nat → Prop) [DecidablePred p] : Nat → Int
  | 0 => -1
  | n + 1 => if firstH p n < 0 then (if p n then n else -1) else firstH p n
theorem firstH_neg {p : Nat → Prop} [DecidablePred p] : ∀ {n : Nat}, firstH p n < 0 → firstH p n = -1 ∧ ∀ h, h < n → ¬ p h
  | 0, _ => ⟨rfl, fun h hh => absurd hh (Nat.not_lt_zero _)⟩
  | n + 1, hl => by
    unfold firstH at hl ⊢
    split at hl
    · rename_i hx
      rw [if_pos hx]
      split at hl
      · omega
      · rename_i hp
        rw [if_neg hp]
        refine ⟨rfl, fun h hh => ?_⟩
        rcases Nat.lt_or_ge h n with y | y
        · exact (firstH_neg hx).2 h y
        · rwa [show h = n from by omega]
    · omega
theorem firstH_pos {p : Nat → Prop} [DecidablePred p] : ∀ {n : Nat}, 0 ≤ firstH p n → ∃ k : Nat, firstH p n = k ∧ k < n ∧ p k ∧ ∀ h, h < k → ¬ p h
  | 0, hl => by simp [firstH] at hl
  | n + 1, hl => by
    unfold firstH at hl ⊢
    split at hl
    · rename_i hx
      rw [if_pos hx]
      split at hl
      · rename_i hp
        rw [if_pos hp]
        exact ⟨n, rfl, by omega, hp, (firstH_neg hx).2⟩
      · simp at hl
    · rename_i hx
      rw [if_neg hx]
      obtain ⟨k, a, b, c, d⟩ := firstH_pos (p := p) (n := n) (by omega)
      exact ⟨k, a, by omega, c, d⟩
theorem firstH_at {p : Nat → Prop} [DecidablePred p] {n k : Nat} (hk : k < n) (hp : p k) (hn : ∀ h, h < k → ¬ p h) : firstH p n = k := by
  rcases Int.lt_or_le (firstH p n) 0 with x | x
  · exact absurd hp ((firstH_neg x).2 k hk)
  · obtain ⟨j, e, a, b, c⟩ := firstH_pos x
    rw [e]
    rcases Nat.lt_trichotomy j k with y | y | y
    · exact absurd b (hn j y)
    · rw [y]
    · exact absurd hp (c k y)
theorem firstH_none {p : Nat → Prop} [DecidablePred p] {n : Nat} (hn : ∀ h, h < n → ¬ p h) : firstH p n = -1 := by
  rcases Int.lt_or_le (firstH p n) 0 with x | x
  · exact (firstH_neg x).1
  · obtain ⟨j, e, a, b, c⟩ := firstH_pos x
    exact absurd b (hn j a)

def lastsR (t : Tro) (r : List Int) : Int := firstH (dry t r) (bound t r)
theorem lasts_at (f : TroFine t) (hr : r ≠ []) {k : Nat} (hp : dry t r k) (hn : ∀ h, h < k → ¬ dry t r h) : lastsR t r = k := by
  refine firstH_at ?_ hp hn
  rcases Nat.lt_or_ge k (bound t r) with x | x
  · exact x
  · exact absurd hp (never f hr (fun h hh => hn h (by omega)) k)
theorem lasts_none (hn : ∀ h, ¬ dry t r h) : lastsR t r = -1 := firstH_none fun h _ => hn h
theorem lasts_neg (f : TroFine t) (hr : r ≠ []) (h : lastsR t r < 0) : lastsR t r = -1 ∧ ∀ h, ¬ dry t r h :=
  ⟨(firstH_neg h).1, never f hr (firstH_neg h).2⟩
theorem lasts_pos (h : 0 ≤ lastsR t r) : ∃ k : Nat, lastsR t r = k ∧ k < bound t r ∧ dry t r k ∧ ∀ h, h < k → ¬ dry t r h := firstH_pos h

structure More (t x : Tro) : Prop where
  fl : x.flocks = t.flocks
  now : t.well.now ≤ x.well.now
  holds : t.well.holds ≤ x.well.holds
  fill : t.well.fill ≤ x.well.fill
theorem drink_fl (h : x.flocks = t.flocks) (who : Int) : drinkOf x who = drinkOf t who := by
  unfold drinkOf droAt
  rw [h]
theorem nextL_more (m : More t x) {who n k : Int} (h : n ≤ k) : nextL t who n ≤ nextL x who k := by
  have := m.holds
  have := m.fill
  unfold nextL
  rw [drink_fl m.fl]
  omega
theorem lvl_more (m : More t x) : ∀ h : Nat, lvl t r h ≤ lvl x r h
  | 0 => m.now
  | h + 1 => nextL_more m (lvl_more m h)
theorem dry_more (m : More t x) {h : Nat} (hd : dry x r h) : dry t r h := by
  have := lvl_more (r := r) m h
  unfold dry at *
  rw [drink_fl m.fl] at hd
  omega

def occ (r : List Int) (f : Int) (i : Nat) : Prop := turnOf r i = f
instance (r : List Int) (f : Int) (i : Nat) : Decidable (occ r f i) := by unfold occ; infer_instance
def nextD (r : List Int) (f : Int) (i : Nat) : Int := firstH (fun d => occ r f (i + 1 + d)) r.length + 1
def gapG (r : List Int) (f : Int) : Nat → Int
  | 0 => 0
  | i + 1 => if occ r f i then max (gapG r f i) (nextD r f i) else gapG r f i
def gapR (r : List Int) (f : Int) : Int := gapG r f r.length

theorem occ_mod (f : Int) (i : Nat) : occ r f (i + r.length) ↔ occ r f i := by
  unfold occ turnOf
  rw [Nat.add_mod_right]
theorem nextD_spec {f : Int} {i : Nat} (hr : r ≠ []) (ho : occ r f i) : ∃ d : Nat, nextD r f i = d ∧ 1 ≤ d ∧ d ≤ r.length ∧ occ r f (i + d) ∧ ∀ e, 1 ≤ e → e < d → ¬ occ r f (i + e) := by
  have hp : 0 < r.length := by cases r <;> simp at hr ⊢
  unfold nextD
  rcases Int.lt_or_le (firstH (fun d => occ r f (i + 1 + d)) r.length) 0 with x | x
  · have := (firstH_neg x).2 (r.length - 1) (by omega)
    rw [show i + 1 + (r.length - 1) = i + r.length from by omega, occ_mod] at this
    exact absurd ho this
  · obtain ⟨k, e, a, b, c⟩ := firstH_pos x
    refine ⟨k + 1, by rw [e]; rfl, by omega, by omega, by rw [show i + (k + 1) = i + 1 + k from by omega]; exact b, fun e h1 h2 => ?_⟩
    rw [show i + e = i + 1 + (e - 1) from by omega]
    exact c (e - 1) (by omega)
theorem nextD_at {f : Int} {i d : Nat} (hr : r ≠ []) (ho : occ r f i) (h1 : 1 ≤ d) (hd : occ r f (i + d)) (hn : ∀ e, 1 ≤ e → e < d → ¬ occ r f (i + e)) : nextD r f i = d := by
  obtain ⟨k, e, a, b, c, g⟩ := nextD_spec hr ho
  rw [e]
  rcases Nat.lt_trichotomy k d with y | y | y
  · exact absurd c (hn k a y)
  · rw [y]
  · exact absurd hd (g d h1 y)
theorem nextD_mod (f : Int) (i : Nat) : nextD r f (i + r.length) = nextD r f i := by
  unfold nextD
  congr 1
  have : (fun d => occ r f (i + r.length + 1 + d)) = (fun d => occ r f (i + 1 + d)) := by
    funext d
    rw [show i + r.length + 1 + d = i + 1 + d + r.length from by omega]
    exact propext (occ_mod f _)
  simp only [this]

theorem gapG_nonneg {f : Int} : ∀ n : Nat, 0 ≤ gapG r f n
  | 0 => Int.le_refl _
  | n + 1 => by
    have := gapG_nonneg (f := f) n
    unfold gapG
    split <;> omega
theorem gapG_le {f B : Int} (hB : 0 ≤ B) : ∀ {n : Nat}, gapG r f n ≤ B ↔ ∀ i, i < n → occ r f i → nextD r f i ≤ B
  | 0 => by simp [gapG, hB]
  | n + 1 => by
    have ih : gapG r f n ≤ B ↔ ∀ i, i < n → occ r f i → nextD r f i ≤ B := gapG_le hB
    unfold gapG
    constructor
    · intro h i hi ho
      rcases Nat.lt_or_ge i n with x | x
      · refine ih.1 ?_ i x ho
        split at h <;> omega
      · have : i = n := by omega
        subst this
        rw [if_pos ho] at h
        omega
    · intro h
      have h1 := ih.2 fun i hi ho => h i (by omega) ho
      split
      · rename_i ho
        have := h n (by omega) ho
        omega
      · exact h1
theorem gapG_all {f B : Int} (hr : r ≠ []) (hB : 0 ≤ B) {n : Nat} (hn : r.length ≤ n) : gapG r f n ≤ B ↔ ∀ i, occ r f i → nextD r f i ≤ B := by
  have hp : 0 < r.length := by cases r <;> simp at hr ⊢
  rw [gapG_le hB]
  refine ⟨fun h i ho => ?_, fun h i _ ho => h i ho⟩
  induction i using Nat.strongRecOn with
  | ind i ih =>
    rcases Nat.lt_or_ge i n with x | x
    · exact h i x ho
    · have e : i = (i - r.length) + r.length := by omega
      rw [e, nextD_mod]
      rw [e, occ_mod] at ho
      exact ih (i - r.length) (by omega) ho
theorem gapG_more {f : Int} (hr : r ≠ []) {n : Nat} (hn : r.length ≤ n) : gapG r f n = gapR r f := by
  have h1 := gapG_nonneg (r := r) (f := f) n
  have h2 := gapG_nonneg (r := r) (f := f) r.length
  have a := (gapG_all hr h1 (Nat.le_refl _)).2 ((gapG_all hr h1 hn).1 (Int.le_refl _))
  have b := (gapG_all hr h2 hn).2 ((gapG_all hr h2 (Nat.le_refl _)).1 (Int.le_refl _))
  unfold gapR
  omega
theorem gapG_none {f : Int} : ∀ {n : Nat}, (∀ i, i < n → ¬ occ r f i) → gapG r f n = 0
  | 0, _ => rfl
  | n + 1, h => by
    unfold gapG
    rw [if_neg (h n (by omega))]
    exact gapG_none fun i hi => h i (by omega)
theorem gapR_le {f B : Int} (hr : r ≠ []) (hB : 0 ≤ B) : gapR r f ≤ B ↔ ∀ i, occ r f i → ∃ d : Nat, 1 ≤ d ∧ (d : Int) ≤ B ∧ occ r f (i + d) := by
  unfold gapR
  rw [gapG_all hr hB (Nat.le_refl _)]
  constructor
  · intro h i ho
    obtain ⟨d, e, a, b, c, _⟩ := nextD_spec hr ho
    have := h i ho
    exact ⟨d, a, by omega, c⟩
  · intro h i ho
    obtain ⟨d, e, a, b, c, g⟩ := nextD_spec hr ho
    obtain ⟨k, k1, k2, k3⟩ := h i ho
    rw [e]
    rcases Nat.lt_or_ge k d with y | y
    · exact absurd k3 (g k k1 y)
    · omega
theorem gapR_nonneg {f : Int} : 0 ≤ gapR r f := gapG_nonneg _
end
end Go.Proofs.Ytindillghipjjaa

namespace Go.Proofs.Ytindillghipjjaa
open Go.Conc Go.Proofs.Try
def unfairR (t : Tro) (r : List Int) : List Nat := (List.range t.flocks.length).filter fun i => decide (gapR r i = 0 ∨ gapR r i > (droAt t i).every)
def goodB (t : Tro) (r : List Int) : Bool := (unfairR t r).isEmpty && decide (lastsR t r < 0)

section
variable {t x : Tro} {r r' : List Int}
theorem unfair_more (m : More t x) : unfairR x r = unfairR t r := by
  unfold unfairR droAt
  rw [m.fl]
theorem lasts_more (f : TroFine t) (g : TroFine x) (hr : r ≠ []) (m : More t x) (h : lastsR t r < 0) : lastsR x r < 0 := by
  have := (lasts_neg f hr h).2
  rw [lasts_none (t := x) fun h hd => this h (dry_more m hd)]
  decide
theorem good_more (f : TroFine t) (g : TroFine x) (hr : r ≠ []) (m : More t x) (h : goodB t r = true) : goodB x r = true := by
  unfold goodB at *
  rw [unfair_more m]
  simp only [Bool.and_eq_true, decide_eq_true_eq] at h ⊢
  exact ⟨h.1, lasts_more f g hr m h.2⟩

end
end Go.Proofs.Ytindillghipjjaa

namespace Go.Proofs.Ytindillghipjjaa
open Go.Conc Go.Proofs.Try
set_option maxRecDepth 100000
section
variable {main : Bool} {J : JT} {h H : List AObj} {K : Value → List AObj → Prop} {KV : Value → Prop} {HL : List AObj → Prop} {n0 : Nat} {ns : List Int} {k : Nat}
theorem HX.lt (a : HX h H ns k) : h.length < H.length := by
  obtain ⟨nv, k1, s, rest, rfl, _⟩ := a
  rw [hf_len]
  omega
theorem sb1 {X : List Nat} {p : Nat} {H H' : List AObj} (S : SameX X H H') (hp : p < H.length) (hX : p ∉ X) : SameB (some [p]) H H' := fun b hb => by
  simp at hb
  subst hb
  exact S.2 _ hp hX
theorem quoI {t : TypeId} {a b : Int} (ha : 0 ≤ a ∧ a ≤ 1000000) (hb : 0 < b) (hk : KV (vint (a / b))) : aBin prog .quo t (vint a) (vint b) KV := by
  have h1 : Int.tdiv a b = a / b := Int.tdiv_eq_ediv_of_nonneg ha.1
  have h2 : 0 ≤ a / b := Int.ediv_nonneg ha.1 (by omega)
  have h3 : a / b ≤ a := Int.ediv_le_self _ ha.1
  simp only [aBin, aInt, true_and]
  rw [h1, wrap64 (by omega) (by omega)]
  exact ⟨by omega, hk⟩
theorem ofX (hJ : Closed prog main J) (a : HX h H ns k) (hk : k < 1000000) {x : Int} {others : List Int} {p n c : Nat} (hp : H[p]? = some (.cells (others.map vint) true 0)) (hne : p ≠ h.length) (hn : others.length = n) (hl : n < 1000)
    (hK : ∀ y H', (y = x ∨ y ∈ others) → SameX [h.length] H H' → H'.length = H.length → HX h H' ns (k + 1) → K (vint y) H') : Good prog J 22 [ptr h.length 0, vint x, .slice (some ⟨p, 0, none⟩) n c] H K := by
  subst hn
  obtain ⟨nv, k1, s, rest, rfl, b1, b2, b3⟩ := a
  refine good22 hJ (hf_hand b3.list b3.sane (by omega) b2.1 b2.2) (others := others) (fun h' hd => ?_) (by omega) fun y h1 hy hd => ?_
  · obtain ⟨k', s', c1, c2, c3, rfl⟩ := hf_dealt hd
    have S := hf_same (h := h) (nv := nv) (k1 := k1) (k2 := k') (s1 := s) (s2 := s') (rest := rest) (g := [])
    rw [List.append_nil] at S
    exact sli_new (wr := true) (sz := 0) (S.get hp (by simpa using hne)) (by simp) (kn_ints _)
  · obtain ⟨k', s', c1, c2, c3, rfl⟩ := hf_dealt hd
    have S := hf_same (h := h) (nv := nv) (k1 := k1) (k2 := k') (s1 := s) (s2 := s') (rest := rest) (g := [])
    rw [List.append_nil] at S
    exact hK y _ hy S (by simp [hf_len]) ⟨nv, k', s', rest, rfl, by omega, ⟨c2, c3⟩, b3⟩

structure WelOk (B : Int) (w : Wel) : Prop where
  holds : 2 ≤ w.holds ∧ w.holds ≤ B ∧ w.holds ≤ 40
  now : 0 ≤ w.now ∧ w.now ≤ w.holds
  fill : 0 ≤ w.fill ∧ w.fill ≤ 6

theorem good30 (hJ : Closed prog main J) (a : HX h H ns k) (hk : k < 500000) {B : Int} (hB : 2 ≤ B ∧ B ≤ 1000)
    (hK : ∀ w H', WelOk B w → SameX [h.length] H H' → HX h H' ns (k + 5) → K w.val H') : Good prog J 30 [ptr h.length 0, vint B] H K := by
  refine g30 hJ fun ok => ?_
  rw [e30]
  have hlt := a.lt
  refine qAl fun H1 p1 e1 S1 c1 l1 => minI (maxI ?_)
  have a1 := a.same S1 (by simp)
  refine amX hJ a1 (by omega) (by omega) (by omega) fun hd H2 b1 b2 S2 l2 a2 => ?_
  refine fill_one rfl rfl rfl (by decide) (fillI ?_)
  refine qAl fun H3 p3 e3 S3 c3 l3 => qStA (c := [vint 0, vint hd, vint 0]) c3 rfl rfl rfl fun H4 S4 c4 l4 => ?_
  have a4 := (a2.same S3 (by simp)).same S4 (by simp; omega)
  refine ⟨[p3], offI (ldI (v := vint hd) c4 rfl rfl ⟨by simp [RdOk, ptrBlk, ptr], offI (ldI (v := vint hd) c4 rfl rfl ⟨by simp [RdOk, ptrBlk, ptr], ?_⟩)⟩)⟩
  have hp4 : p3 < H4.length := lt_of_get c4
  refine upX hJ a4 (by omega) (by omega) fun now H5 d1 d2 S5 l5 a5 => ⟨sb1 S5 hp4 (by simp; omega), ⟨by decide, fill_one rfl rfl rfl (by decide) (fillI (qNew fun H6 p6 e6 S6 c6 l6 => ?_))⟩⟩
  have c6 : H6[p6]? = some (.cells ([now].map vint) true 0) := c6
  have T6 : SameX [h.length] H4 H6 := S5.trans S6.weak0
  refine ⟨sb1 T6 hp4 (by simp; omega), ?_⟩
  have a6 := a5.same S6 (by simp)
  refine ofX hJ a6 (by omega) c6 (by omega) rfl (by simp) fun nw H7 m7 S7 l7 a7 => ?_
  have T7 : SameX [h.length] H4 H7 := T6.trans S7
  refine ⟨sb1 T7 hp4 (by simp; omega), offI ?_⟩
  refine upX hJ a7 (by omega) (by omega) fun f0 H8 g1 g2 S8 l8 a8 => ?_
  have T8 : SameX [h.length] H4 H8 := T7.trans S8
  refine ⟨sb1 T8 hp4 (by simp; omega), ⟨by decide, fill_one rfl rfl rfl (by decide) (fill_one rfl rfl rfl (by decide) (fill_one rfl rfl rfl (by decide) (fillI (qNew fun H9 p9 e9 S9 c9 l9 => ?_))))⟩⟩
  have c9 : H9[p9]? = some (.cells ([2, 3, f0].map vint) true 0) := c9
  have T9 : SameX [h.length] H4 H9 := T8.trans S9.weak0
  refine ⟨sb1 T9 hp4 (by simp; omega), ?_⟩
  have hh := a8.lt
  have a9 := a8.same S9 (by simp)
  refine ofX hJ a9 (by omega) c9 (by omega) rfl (by simp) fun fl H10 m10 S10 l10 a10 => ?_
  have T10 : SameX [h.length] H4 H10 := T9.trans S10
  refine ⟨sb1 T10 hp4 (by simp; omega), ?_⟩
  refine qSt (T10.get c4 (by simp; omega)) (by simp) rfl rfl fun H11 S11 c11 l11 => offI (qSt c11 (by simp) rfl rfl fun H12 S12 c12 l12 => ?_)
  refine load_part (c := [vint nw, vint hd, vint fl]) c12 (by simp) rfl rfl ?_
  have T1 : SameX [h.length] H H1 := S1.weak0
  have T4 : SameX [h.length] H H4 := ((T1.trans S2).trans S3.weak0).thru S4 (by simp; omega)
  have T12 : SameX [h.length] H H12 := ((T4.trans T10).thru S11 (by simp; omega)).thru S12 (by simp; omega)
  have c1' : H12[p1]? = some (.cells [vint 0, vint 0, vint 0] true 0) := S12.get (S11.get (T10.get (S4.get (S3.get (S2.get c1 (by simp; omega)) (by simp)) (by simp; omega)) (by simp; omega)) (by simp; omega)) (by simp; omega)
  refine qStA (c := [vint nw, vint hd, vint fl]) c1' rfl rfl rfl fun H13 S13 c13 l13 => ?_
  refine retQ_same rfl (resW_cell (gg := true) (s := 3) (by kernel_rfl) (load_part (c := [vint nw, vint hd, vint fl]) c13 (by simp) rfl rfl (resW_nil ?_)))
  refine hK ⟨nw, hd, fl⟩ H13 ⟨?_, ?_, ?_⟩ (T12.thru S13 (by simp; omega)) (((a10.same S11 (by simp; omega)).same S12 (by simp; omega)).same S13 (by simp; omega))
  · show 2 ≤ hd ∧ hd ≤ B ∧ hd ≤ 40
    omega
  · show 0 ≤ nw ∧ nw ≤ hd
    rcases m7 with rfl | m7
    · omega
    · simp at m7
      omega
  · show 0 ≤ fl ∧ fl ≤ 6
    rcases m10 with rfl | m10
    · omega
    · simp at m10
      omega

structure TroOk (F B : Int) (t : Tro) : Prop where
  well : WelOk B t.well
  len : 1 ≤ t.flocks.length ∧ (t.flocks.length : Int) ≤ F
  dro : ∀ d ∈ t.flocks, (1 ≤ d.drinks ∧ d.drinks ≤ 40) ∧ (1 ≤ d.every ∧ d.every ≤ 6)
theorem TroOk.fine {F B : Int} {t : Tro} (o : TroOk F B t) (hF : F ≤ 3) : TroFine t := by
  obtain ⟨⟨h1, h2, h3⟩, h4, h5⟩ := o
  refine ⟨by omega, h2, by omega, by omega, fun d hd => ?_⟩
  have := h5 d hd
  exact ⟨this.1, by omega⟩

structure TroO (h H : List AObj) (t : Tro) (fv : Value) (o : Option Nat) : Prop where
  fl : OwnX H 2 (t.flocks.flatMap Dro.cells) t.flocks.length fv o
  b : ∀ i, o = some i → h.length < i
theorem TroO.at {t : Tro} {fv : Value} {o : Option Nat} (a : TroO h H t fv o) : TroAt H (.agg ⟨troCells t fv⟩) t fv := ⟨rfl, ownX_sli a.fl⟩
theorem TroO.same {H' : List AObj} {t : Tro} {fv : Value} {o : Option Nat} {X : List Nat} (a : TroO h H t fv o) (S : SameX X H H') (hX : ∀ i, o = some i → i ∉ X) : TroO h H' t fv o := ⟨ownX_keep a.fl S hX, a.b⟩

theorem good21 (hJ : Closed prog main J) (a : HX h H ns k) (hk : k < 400000) {F B : Int} (hF : 1 ≤ F ∧ F ≤ 3) (hB : 2 ≤ B ∧ B ≤ 40)
    (hK : ∀ t fv o H', TroOk F B t → SameX [h.length] H H' → HX h H' ns (k + 30) → TroO h H' t fv o → K (.agg ⟨troCells t fv⟩) H') : Good prog J 21 [ptr h.length 0, vint F, vint B] H K := by
  refine g21 hJ fun ok => ?_
  rw [e21]
  have hlt := a.lt
  refine qAl fun H1 p1 e1 S1 c1 l1 => ?_
  have a1 := a.same S1 (by simp)
  refine good30 hJ a1 (by omega) (by omega) fun w H2 ow S2 a2 => ?_
  refine fill_one rfl rfl rfl (by decide) (fillI ?_)
  have hl2 := S2.1
  refine qAl fun H3 p3 e3 S3 c3 l3 => qStA (c := troCells ⟨w, []⟩ (.slice none 0 0)) c3 rfl rfl rfl fun H4 S4 c4 l4 => minI ?_
  have a4 := (a2.same S3 (by simp)).same S4 (by simp; omega)
  refine amX hJ a4 (by omega) (by omega) (by omega) fun i0 H5 b1 b2 S5 l5 a5 => ?_
  have T4 : SameX [h.length] H H4 := ((S1.weak0.trans S2).trans S3.weak0).thru S4 (by simp; omega)
  have T5 : SameX [h.length] H H5 := T4.trans S5
  have c1' : H5[p1]? = some (.cells (troCells ⟨⟨0, 0, 0⟩, []⟩ (.slice none 0 0)) true 0) := S5.get (S4.get (S3.get (S2.get c1 (by simp; omega)) (by simp)) (by simp; omega)) (by simp; omega)
  have c3' : H5[p3]? = some (.cells (troCells ⟨w, []⟩ (.slice none 0 0)) true 0) := S5.get c4 (by simp; omega)
  obtain ⟨⟨w1, w2, w3⟩, w4, w5⟩ := id ow
  refine l21_1 hJ (fun i : Nat => i) (fun i f H' => ∃ ds fv o, SameX [h.length] H H' ∧ HX h H' ns (k + 30 - 5 * i) ∧ i ≤ 3 ∧ (i0 = i + List.length ds) ∧ (∀ d ∈ ds, (1 ≤ d.drinks ∧ d.drinks ≤ 40) ∧ (1 ≤ d.every ∧ d.every ≤ 6)) ∧
      TroO h H' ⟨w, ds⟩ fv o ∧ H'[p3]? = some (.cells (troCells ⟨w, ds⟩ fv) true 0) ∧ H'[p1]? = some (.cells (troCells ⟨⟨0, 0, 0⟩, []⟩ (.slice none 0 0)) true 0) ∧ (∀ j, o = some j → j ≠ p1 ∧ j ≠ p3 ∧ H.length ≤ j) ∧ f.ds = [] ∧ f.r 0 = ptr h.length 0 ∧ f.r 6 = ptr p1 0 ∧ f.r 7 = ptr p3 0 ∧ f.r 8 = vint (i : Nat)) ?_ (s := i0.toNat)
    (.inl ⟨[], .slice none 0 0, none, T5, a5.mono (by omega), by omega, by simp; omega, by simp, ⟨⟨rfl, rfl, .inl ⟨rfl, rfl, rfl⟩⟩, by simp⟩, c3', c1', by simp, rfl, rfl, rfl, rfl, by show vint i0 = vint _; congr 1; omega⟩)
  rintro i f Hc ⟨ds, fv, o, Sc, ac, hi, hsum, hds, TO, cp3, cp1, hoj, fds, r0, r6, r7, r8⟩ okc hnc
  rw [s21_1, r0, r6, r7, r8]
  have hp3 := lt_of_get cp3
  have hp1 := lt_of_get cp1
  refine gtrI (cndI (fun hpos => ?_) fun hz => ?_)
  · have kf := (ownX_val TO.fl).2.2
    refine ⟨[p3], offI (ldI (v := fv) cp3 rfl kf ⟨by simp [RdOk, ptrBlk, ptr], offI (offI (ldI (v := vint w.holds) cp3 rfl rfl ⟨by simp [RdOk, ptrBlk, ptr], quoI (by omega) (by omega) (maxI (offI (offI (ldI (v := vint w.holds) cp3 rfl rfl ⟨by simp [RdOk, ptrBlk, ptr], ?_⟩))))⟩))⟩)⟩
    have hq : 0 ≤ w.holds / 2 ∧ w.holds / 2 ≤ w.holds := ⟨Int.ediv_nonneg (by omega) (by omega), Int.ediv_le_self _ (by omega)⟩
    refine amX hJ ac (by omega) (by omega) (by omega) fun x1 Ha q1 q2 Sa la aa => ⟨sb1 Sa hp3 (by simp; omega), ?_⟩
    refine amX hJ aa (by omega) (by omega) (by omega) fun x2 Hb q3 q4 Sb lb ab => ⟨sb1 (Sa.trans Sb) hp3 (by simp; omega), ?_⟩
    refine ⟨by decide, fill_one rfl rfl rfl (by decide) (fill_one rfl rfl rfl (by decide) (fill_one rfl rfl rfl (Nat.le_of_ble_eq_true rfl) (fillI (qNew fun Hd pd ed Sd cd ld => ?_))))⟩
    have cd : Hd[pd]? = some (.cells ([2, x1, x2].map vint) true 0) := cd
    have Td : SameX [h.length] Hc Hd := (Sa.trans Sb).trans Sd.weak0
    have hlb := ab.lt
    have ad := ab.same Sd (by simp)
    refine ⟨sb1 Td hp3 (by simp; omega), ?_⟩
    refine ofX hJ ad (by omega) cd (by omega) rfl (by simp) fun dr He me Se le ae => ⟨sb1 (Td.trans Se) hp3 (by simp; omega), ?_⟩
    refine amX hJ ae (by omega) (by omega) (by omega) fun ev Hf q5 q6 Sf lf af => ?_
    have Tf : SameX [h.length] Hc Hf := (Td.trans Se).trans Sf
    refine ⟨sb1 Tf hp3 (by simp; omega), ?_⟩
    refine fill_one rfl rfl rfl (by decide) (fill_one rfl rfl rfl (Nat.le_of_ble_eq_true rfl) (fillI ?_))
    refine ⟨by decide, fill_one (l := [vint dr, vint ev]) rfl rfl rfl (Nat.le_of_ble_eq_true rfl) (fillI (qNew fun Hg pg eg Sg cg lg => ?_))⟩
    have cg : Hg[pg]? = some (.cells [vint dr, vint ev] true 0) := cg
    have Tg : SameX [h.length] Hc Hg := Tf.trans Sg.weak0
    refine ⟨sb1 Tg hp3 (by simp; omega), ⟨by decide, ?_⟩⟩
    have TOg := TO.same Tg (fun j hj => by have := TO.b j hj; simp; omega)
    have hdl : ds.length ≤ 3 := by omega
    refine ownX_more TOg.fl (by omega) (by show ds.length < 1000; omega) (ownX_sli (ownX_new (s := 2) (n := 1) (l := [vint dr, vint ev]) cg rfl rfl)) fun fv' Hh ph eh Oh Sh => ?_
    have hlc := Tg.1
    have Th : SameX (h.length :: o.toList) Hc Hh := (Tg.weak (by simp)).trans (Sh.weak fun x hx => List.mem_cons_of_mem _ hx)
    have hno : ∀ b, b = p1 ∨ b = p3 → b ∉ o.toList := fun b hb hm => by
      have := hoj b (by simpa using hm)
      omega
    refine ⟨sb1 Th hp3 (by simp only [List.mem_cons, not_or]; exact ⟨by omega, hno p3 (.inr rfl)⟩), offI ?_⟩
    refine qSt (Th.get cp3 (by simp only [List.mem_cons, not_or]; exact ⟨by omega, hno p3 (.inr rfl)⟩)) (by simp [troCells]) (ownX_val Oh).1 (ownX_val Oh).2.1 fun Hi Si ci li => subI (by omega) ?_
    refine ⟨i - 1, by dsimp only; omega, .inl ⟨ds ++ [⟨dr, ev⟩], fv', some ph, ?_, ?_, by omega, by simp; omega, fun d hd => ?_, ⟨ownX_keep ?_ Si (by intro j hj; cases hj; simp; omega), fun j hj => by cases hj; omega⟩, ci, ?_, fun j hj => by cases hj; omega, fds, r0, r6, r7, by show vint _ = vint _; congr 1; omega⟩⟩
    · refine ((Sc.trans Tg).thru Sh ?_).thru Si (by simp; omega)
      intro y hy
      have hy' : o = some y := by simpa using hy
      exact .inr (hoj y hy').2.2
    · refine HX.mono (k := k + 30 - 5 * i + 5) (HX.same (HX.same ((af.same Sg (by simp)).mono (by omega)) Sh ?_) Si (by simp; omega)) (by omega)
      intro y hy
      exact TO.b y (by simpa using hy)
    · rcases List.mem_append.1 hd with hd | hd
      · exact hds d hd
      · have : d = ⟨dr, ev⟩ := by simpa using hd
        subst this
        refine ⟨?_, by show 1 ≤ ev ∧ ev ≤ 6; omega⟩
        show 1 ≤ dr ∧ dr ≤ 40
        rcases me with rfl | me
        · omega
        · simp at me
          omega
    · simpa [List.flatMap_append, Dro.cells] using Oh
    · exact Si.get (Th.get cp1 (by simp only [List.mem_cons, not_or]; exact ⟨by omega, hno p1 (.inl rfl)⟩)) (by simp; omega)
  · have hi0 : i = 0 := by omega
    subst hi0
    have kf := (ownX_val TO.fl).2
    have k4 : (troCells ⟨w, ds⟩ fv).all one = true ∧ kn (troCells ⟨w, ds⟩ fv) = true := ⟨tro_one TO.at, tro_kn TO.at⟩
    refine load_part (c := troCells ⟨w, ds⟩ fv) cp3 (by simp [troCells]) rfl k4.2 ?_
    refine qStA (c := troCells ⟨w, ds⟩ fv) cp1 rfl rfl k4.1 fun Hz Sz cz lz => ?_
    refine retQ_same fds (resW_cell (gg := true) (s := 4) (by kernel_rfl) ?_)
    show aLoad true 4 (f.r 6) Hz _
    rw [r6]
    refine load_part (c := troCells ⟨w, ds⟩ fv) cz (by simp [troCells]) rfl k4.2 (resW_nil ?_)
    refine hK ⟨w, ds⟩ fv o Hz ⟨ow, ?_, hds⟩ (Sc.thru Sz (by simp; omega)) ((ac.same Sz (by simp; omega)).mono (by omega)) (TO.same Sz fun j hj => by have := hoj j hj; simp; omega)
    show 1 ≤ ds.length ∧ (ds.length : Int) ≤ F
    omega
structure RotO (h H : List AObj) (r : List Int) (v : Value) (o : Option Nat) : Prop where
  l : OwnX H 1 (r.map vint) r.length v o
  b : ∀ i, o = some i → h.length < i
theorem RotO.sli {r : List Int} {v : Value} {o : Option Nat} (a : RotO h H r v o) : Sli H v 1 r.length (r.map vint) := ownX_sli a.l
theorem RotO.same {H' : List AObj} {r : List Int} {v : Value} {o : Option Nat} {X : List Nat} (a : RotO h H r v o) (S : SameX X H H') (hX : ∀ i, o = some i → i ∉ X) : RotO h H' r v o := ⟨ownX_keep a.l S hX, a.b⟩

theorem good36 (hJ : Closed prog main J) (a : HX h H ns k) (hk : k < 400000) {t : Tro} {v fv : Value} (ht : TroAt H v t fv) (hfl : ∀ {H'}, SameX [h.length] H H' → SliE H' fv 2 Dro.cells t.flocks) (hl : 1 ≤ t.flocks.length ∧ t.flocks.length ≤ 3) {N : Int} (hN : 1 ≤ N ∧ N ≤ 5)
    (hK : ∀ r rv o H', RotaFine t r → (r.length : Int) ≤ N → SameX [h.length] H H' → HX h H' ns (k + 10) → RotO h H' r rv o → (∀ i, o = some i → H.length ≤ i) → K rv H') : Good prog J 36 [ptr h.length 0, v, vint N] H K := by
  refine g36 hJ fun ok => ?_
  rw [e36, ht.val]
  have hlt := a.lt
  refine qBox (tro_one ht) fun H1 p1 e1 S1 c1 l1 => minI ?_
  have a1 := a.same S1 (by simp)
  refine amX hJ a1 (by omega) (by omega) (by omega) fun i0 H2 b1 b2 S2 l2 a2 => ?_
  have T2 : SameX [h.length] H H2 := S1.weak0.trans S2
  have c2 := S2.get c1 (by simp; omega)
  refine l36_1 hJ (fun i : Nat => i) (fun i f H' => ∃ (r : List Int) (rv : Value) (o : Option Nat), SameX [h.length] H H' ∧ HX h H' ns (k + 10 - i) ∧ i ≤ 5 ∧ (i0 = i + List.length r) ∧ (∀ x ∈ r, -1 ≤ x ∧ x < t.flocks.length) ∧ RotO h H' r rv o ∧ H'[p1]? = some (.cells (troCells t fv) true 0) ∧ (∀ j, o = some j → j ≠ p1 ∧ H.length ≤ j) ∧
      f.ds = [] ∧ f.r 0 = ptr h.length 0 ∧ f.r 4 = ptr p1 0 ∧ f.r 7 = rv ∧ f.r 8 = vint (i : Nat)) ?_ (s := i0.toNat)
    (.inl ⟨[], .slice none 0 0, none, T2, a2.mono (by omega), by omega, by simp; omega, by simp, ⟨⟨rfl, rfl, .inl ⟨rfl, rfl, rfl⟩⟩, by simp⟩, c2, by simp, rfl, rfl, rfl, rfl, by show vint i0 = vint _; congr 1; omega⟩)
  rintro i f Hc ⟨r, rv, o, Sc, ac, hi, hsum, hr, RO, cp1, hoj, fds, r0, r4, r7, r8⟩ okc hnc
  rw [s36_1, r0, r4, r7, r8]
  have hp1 := lt_of_get cp1
  have hsl := hfl Sc
  have kf := (sli_val ht.fl).2.2
  refine gtrI (cndI (fun hpos => ?_) fun hz => ?_)
  · refine offI (ldI (v := fv) cp1 rfl kf (lenI hsl ?_))
    refine upX hJ ac (by omega) (by omega) fun x Ha q1 q2 Sa la aa => subI (by omega) ?_
    refine ⟨by decide, fill_one rfl rfl rfl (by decide) (fillI (qNew fun Hb pb eb Sb cb lb => ⟨by decide, ?_⟩))⟩
    have cb : Hb[pb]? = some (.cells [vint (x - 1)] true 0) := cb
    have Tb : SameX [h.length] Hc Hb := Sa.trans Sb.weak0
    have ROb := RO.same Tb (fun j hj => by have := RO.b j hj; simp; omega)
    have hrl : r.length ≤ 5 := by omega
    refine ownX_more ROb.l (by omega) (by omega) (ownX_sli (ownX_new (s := 1) (n := 1) (l := [vint (x - 1)]) cb rfl rfl)) fun rv' Hh ph eh Oh Sh => subI (by omega) ?_
    have hlc := Tb.1
    have hlb := aa.lt
    refine ⟨i - 1, by dsimp only; omega, .inl ⟨r ++ [x - 1], rv', some ph, ?_, ?_, by omega, by simp; omega, fun y hy => ?_, ⟨by simpa using Oh, fun j hj => by cases hj; omega⟩, ?_, fun j hj => by cases hj; have := Sc.1; omega, fds, r0, r4, rfl, by show vint _ = vint _; congr 1; omega⟩⟩
    · refine (Sc.trans Tb).thru Sh fun y hy => ?_
      exact .inr (hoj y (by simpa using hy)).2
    · exact ((aa.same Sb (by simp)).same Sh fun y hy => RO.b y (by simpa using hy)).mono (by omega)
    · rcases List.mem_append.1 hy with hy | hy
      · exact hr y hy
      · have : y = x - 1 := by simpa using hy
        subst this
        omega
    · exact Sh.get (Tb.get cp1 (by simp; omega)) fun hm => (hoj p1 (by simpa using hm)).1 rfl
  · have hi0 : i = 0 := by omega
    subst hi0
    rw [fds]
    refine retL_same ?_ (hK r rv o Hc ⟨by omega, hr⟩ (by omega) Sc (ac.mono (by omega)) RO fun j hj => (hoj j hj).2)
    simp only [List.mem_singleton, forall_eq]
    have := (ownX_val RO.l).2.2
    intro e
    rw [e] at this
    cases this
end
end Go.Proofs.Ytindillghipjjaa

namespace Go.Proofs.Ytindillghipjjaa
open Go.Conc Go.Proofs.Try
set_option maxRecDepth 100000
def welAt (t : Tro) (r : List Int) (k : Nat) : Wel := { t.well with now := lvl t r k }
def hourC (t : Tro) (r : List Int) (k : Nat) : List Value := [vint (lvl t r k), vint (lvl t r (k + 1)), .bool (decide (dry t r k))]
def hourV (t : Tro) (r : List Int) (k : Nat) : Value := .agg ⟨hourC t r k⟩

def Till (n : Nat) (O : List Nat) (h H : List AObj) : Prop := h.length ≤ H.length ∧ ∀ i, i < n ∨ i ∈ O → H[i]? = h[i]?

section
variable {main : Bool} {J : JT} {h H : List AObj} {K : Value → List AObj → Prop} {KV : Value → Prop} {HL : List AObj → Prop} {n0 : Nat}
theorem callF {g : FuncId} {args : List Value} (hg : Nat.blt g prog.funcs.size = true) (hk : Good prog J g args H K) : callV prog (Good prog J) (.func (.func g) #[] #[]) args H K := by
  show (bif Nat.blt g prog.funcs.size then Good prog J g ([] ++ args ++ []) H K else False)
  rw [hg, cond_true, List.nil_append, List.append_nil]
  exact hk
theorem callC {g : FuncId} {args cap : List Value} (hg : Nat.blt g prog.funcs.size = true) (hk : Good prog J g (args ++ cap) H K) : callV prog (Good prog J) (.func (.func g) ⟨[]⟩ ⟨cap⟩) args H K := by
  show (bif Nat.blt g prog.funcs.size then Good prog J g ([] ++ args ++ cap) H K else False)
  rw [hg, cond_true, List.nil_append]
  exact hk
theorem remI {t : TypeId} {a b : Nat} (ha : a < 1000000) (hb : 0 < b) (hk : KV (vint (a % b : Nat))) : aBin prog .rem t (vint (a : Nat)) (vint (b : Nat)) KV := by
  have h1 : Int.tmod (a : Int) (b : Int) = ((a % b : Nat) : Int) := by
    rw [Int.tmod_eq_emod_of_nonneg (by omega)]
    rfl
  simp only [aBin, aInt, true_and]
  rw [h1]
  exact ⟨by omega, hk⟩

theorem good120 (hJ : Closed prog main J) {t : Tro} {fv rv : Value} (ho : (troCells t fv).all one = true) (hr : rv.cells = #[rv] ∧ one rv = true)
    (hK : ∀ H' pt pr, SameX [] H H' → H'[pt]? = some (.cells (troCells t fv) true 0) → H'[pr]? = some (.cells [rv] true 0) → H.length ≤ pt → H.length ≤ pr → K (.func (.func 131) ⟨[]⟩ ⟨[ptr pt 0, ptr pr 0]⟩) H') : Good prog J 120 [.agg ⟨troCells t fv⟩, rv] H K := by
  refine g120 hJ fun ok => ?_
  rw [e120]
  refine qBox ho fun H1 p1 e1 S1 c1 l1 => qBox1 hr.1 hr.2 fun H2 p2 e2 S2 c2 l2 => ?_
  refine ⟨rfl, retL_same (by simp [unk]) (hK H2 p1 p2 (S1.trans S2) (S2.get c1 (by simp)) c2 (by omega) (by omega))⟩

theorem welAt_sm {t : Tro} {r : List Int} (f : TroFine t) (k : Nat) : (welAt t r k).sm := by
  have := lvl_bd (r := r) f k
  have := f.holds
  have := f.fill
  exact ⟨by show -1000000 ≤ lvl t r k ∧ lvl t r k ≤ 1000000; omega, by show -1000000 ≤ t.well.holds ∧ t.well.holds ≤ 1000000; omega, by show -1000000 ≤ t.well.fill ∧ t.well.fill ≤ 1000000; omega⟩
theorem welAt_step {t : Tro} {r : List Int} (k : Nat) : ((welAt t r k).drunk (drinkOf t (turnOf r k))).filled = welAt t r (k + 1) := by
  unfold Wel.drunk Wel.filled welAt
  simp only [Wel.mk.injEq, and_true]
  rfl

theorem good131 (hJ : Closed prog main J) {pt pr : Nat} {t : Tro} {r : List Int} {fv rv y : Value} (X : List Nat) (hX : ∀ x ∈ X, x < H.length) (ct : H[pt]? = some (.cells (troCells t fv) true 0)) (cr : H[pr]? = some (.cells [rv] true 0)) (nt : pt ∉ X) (nr : pr ∉ X)
    (hF : ∀ {H'}, SameX X H H' → SliE H' fv 2 Dro.cells t.flocks) (hR : ∀ {H'}, SameX X H H' → Sli H' rv 1 r.length (r.map vint)) (f : TroFine t) (g : RotaFine t r)
    {I : Nat → List Nat → List AObj → Prop} {St : List AObj → Prop} {N : Nat} (hN : N < 1000) (hlt : ∀ {k O H'}, I k O H' → k < N) (hO : ∀ {k O H'}, I k O H' → ∀ x ∈ O, x < H'.length) (hI : ∀ {k O H1 H2}, Till H.length O H1 H2 → I k O H1 → I k O H2) (h0 : I 0 [] H)
    (round : ∀ (k : Nat) (O : List Nat) (H1 : List AObj) (Q : Value → List AObj → Prop), SameX X H H1 → (∀ x ∈ O, H.length ≤ x) → I k O H1 → (∀ O' H2, SameX (X ++ O) H1 H2 → (∀ x ∈ O', x ∈ O ∨ H1.length ≤ x) → I (k + 1) O' H2 → Q (.bool true) H2) → (∀ H2, SameX (X ++ O) H1 H2 → St H2 → Q (.bool false) H2) → callV prog (Good prog J) y [vint (k : Nat), hourV t r k] H1 Q)
    (hK : ∀ H2, SameX X H H2 → St H2 → K (.tuple ⟨[]⟩) H2) : Good prog J 131 [y, ptr pt 0, ptr pr 0] H K := by
  refine g131 hJ fun ok => ?_
  rw [e131]
  have kn4 : kn1 fv = true := (sli_val (hF SameX.refl)).2.2
  have knr : kn1 rv = true := (sli_val (hR SameX.refl)).2.2
  refine offI (load_part (c := t.well.cells) ct (by simp [troCells]) rfl rfl ?_)
  refine fill_one (l := t.well.cells) rfl rfl rfl (by simp) (fillI ?_)
  refine qAl fun H1 p4 e4 S1 c1 l1 => qStA (c := (welAt t r 0).cells) c1 rfl rfl rfl fun H2 S2 c2 l2 => ?_
  have T2 : SameX X H H2 := S1.weak0.thru S2 (by simp; omega)
  have hlen := g.len
  have hrne : r ≠ [] := by intro e; rw [e] at hlen; simp at hlen
  refine l131_1 hJ (fun k : Nat => N - k) (fun k F H' => ∃ O, SameX X H H' ∧ I k O H' ∧ (∀ x ∈ O, H.length ≤ x ∧ x < H'.length ∧ x ≠ p4) ∧ H'[p4]? = some (.cells (welAt t r k).cells true 0) ∧ F.ds = [] ∧ F.r 0 = y ∧ F.r 1 = ptr pt 0 ∧ F.r 2 = ptr pr 0 ∧ F.r 4 = ptr p4 0 ∧ F.r 5 = .func (.func 82) #[] #[] ∧ F.r 6 = .func (.func 79) #[] #[] ∧ F.r 7 = vint (k : Nat)) ?_ (s := 0)
    (.inl ⟨[], T2, hI ⟨T2.1, fun i hi => by have hi : i < H.length := hi.resolve_right (by simp); rw [S2.2 i (by omega) (by simp; omega), S1.2 i hi (by simp)]⟩ h0, by simp, c2, rfl, rfl, rfl, rfl, rfl, rfl, rfl, rfl⟩)
  rintro k F Hc ⟨O, Sc, ik, iO, cp, ds, r0, r1, r2, r4, r5, r6, r7⟩ okc hnc
  have hkN := hlt ik
  have cpt := Sc.get ct nt
  have cpr := Sc.get cr nr
  have hlc := Sc.1
  have hpc := lt_of_get cp
  rw [s131_1, r1, r2, r7]
  have hmod := Nat.mod_lt k (by omega : 0 < r.length)
  have hturn : r[k % r.length]? = some (turnOf r k) := by
    unfold turnOf
    rw [List.getD_eq_getElem?_getD, List.getElem?_eq_getElem hmod]
    rfl
  have hw := g.who _ (turnOf_mem hrne k)
  -- behind the drinking
  have post : ∀ {F' : RG}, F'.ds = [] → F'.r 0 = y → F'.r 1 = ptr pt 0 → F'.r 2 = ptr pr 0 → F'.r 4 = ptr p4 0 → F'.r 5 = .func (.func 82) #[] #[] → F'.r 6 = .func (.func 79) #[] #[] → F'.r 7 = vint (k : Nat) → F'.r 8 = vint (drinkOf t (turnOf r k)) →
      W prog J 55 H.length 131 (subC [1, 1, 0, 0, 0, 0, 1, 1] (codeOf f131)) F' Hc (contX pl131 prog J 55 H.length 131 ct131 [1, 1, 0, 0, 0, 0, 1, 1] (codeOf f131) [Nx H.length (fun k : Nat => N - k) (fun k F H' => ∃ O, SameX X H H' ∧ I k O H' ∧ (∀ x ∈ O, H.length ≤ x ∧ x < H'.length ∧ x ≠ p4) ∧ H'[p4]? = some (.cells (welAt t r k).cells true 0) ∧ F.ds = [] ∧ F.r 0 = y ∧ F.r 1 = ptr pt 0 ∧ F.r 2 = ptr pr 0 ∧ F.r 4 = ptr p4 0 ∧ F.r 5 = .func (.func 82) #[] #[] ∧ F.r 6 = .func (.func 79) #[] #[] ∧ F.r 7 = vint (k : Nat)) k] (RetQ prog [] H.length K)) := by
    intro F' ds r0 r1 r2 r4 r5 r6 r7 r8
    rw [s131_2, r0, r4, r5, r6, r7, r8]
    refine offI (offI (ldI (v := vint (lvl t r k)) cp rfl rfl ?_))
    refine fill_one rfl rfl rfl (by decide) (fillI ?_)
    refine qAl fun H3 p5 e5 S3 c3 l3 => qStA (c := [vint (lvl t r k), vint 0, .bool false]) c3 rfl rfl rfl fun H4 S4 c4 l4 => ?_
    have cp4 := S4.get (S3.get cp (by simp)) (by simp; omega)
    refine load_part (c := (welAt t r k).cells) cp4 (by simp [Wel.cells]) rfl rfl ?_
    have hdb := drink_bd f (turnOf r k)
    refine callF (by kernel_rfl) (good82 hJ (w := welAt t r k) (welAt_sm f k) (by omega) (vext0 (vext1 ?_)))
    refine qStA (c := ((welAt t r k).drunk (drinkOf t (turnOf r k))).cells) cp4 rfl rfl rfl fun H5 S5 c5 l5 => offI ?_
    have hdry : Value.bool (decide ((welAt t r k).now < drinkOf t (turnOf r k))) = Value.bool (decide (dry t r k)) := rfl
    rw [hdry]
    refine qSt (S5.get c4 (by simp; omega)) (by simp) rfl rfl fun H6 S6 c6 l6 => ?_
    have c56 := S6.get c5 (by simp; omega)
    refine load_part (c := ((welAt t r k).drunk (drinkOf t (turnOf r k))).cells) c56 (by simp [Wel.cells]) rfl rfl ?_
    refine callF (by kernel_rfl) (good79 hJ (w := (welAt t r k).drunk (drinkOf t (turnOf r k))) ?_ ?_)
    · obtain ⟨a, b, c⟩ := welAt_sm (r := r) f k
      have := lvl_bd (r := r) f k
      refine ⟨?_, b, c⟩
      show -1000000 ≤ lvl t r k - min (lvl t r k) (drinkOf t (turnOf r k)) ∧ lvl t r k - min (lvl t r k) (drinkOf t (turnOf r k)) ≤ 1000000
      have := f.holds
      omega
    rw [welAt_step]
    refine qStA (c := (welAt t r (k + 1)).cells) c56 rfl rfl rfl fun H7 S7 c7 l7 => offI (offI (ldI (v := vint (lvl t r (k + 1))) c7 rfl rfl (offI ?_)))
    refine qSt (S7.get c6 (by simp; omega)) (by simp) rfl rfl fun H8 S8 c8 l8 => ?_
    refine load_part (c := hourC t r k) c8 (by simp [hourC]) rfl rfl ?_
    have T8 : SameX [p4] Hc H8 := (((((SameX.refl (X := [p4])).trans S3.weak0).thru S4 (by simp; omega)).trans S5).thru S6 (by simp; omega)).trans S7 |>.thru S8 (by simp; omega)
    have S8' : SameX X H H8 := Sc.thru T8 (by simp; omega)
    have c78 := S8.get c7 (by simp; omega)
    have nO : p4 ∉ X ++ O := by
      intro hm
      rcases List.mem_append.1 hm with hm | hm
      · have := hX _ hm
        omega
      · exact (iO _ hm).2.2 rfl
    have hY : ∀ y ∈ X ++ O, y ∈ X ∨ H.length ≤ y := fun y hm => (List.mem_append.1 hm).imp id fun hm => (iO y hm).1
    have hl8 := T8.1
    refine round k O H8 _ S8' (fun x hx => (iO x hx).1) (hI ⟨T8.1, fun i hi => T8.2 i (by rcases hi with hi | hi; omega; exact (iO i hi).2.1) (by
      rcases hi with hi | hi
      · simp
        omega
      · simpa using (iO i hi).2.2)⟩ ik) (fun O' H9 S9 hO' i9 => notI (cnd_false.2 (addI (by omega) ?_))) fun H9 S9 st => notI (cnd_true.2 ?_)
    · refine ⟨k + 1, by dsimp only; omega, .inl ⟨O', S8'.thru S9 hY, i9, fun x hx => ?_, S9.get c78 nO, ds, r0, r1, r2, r4, r5, r6, by show vint _ = vint _; congr 1⟩⟩
      have h9 := hO i9 x hx
      rcases hO' x hx with hm | hm
      · exact ⟨(iO x hm).1, h9, (iO x hm).2.2⟩
      · exact ⟨by omega, h9, by omega⟩
    · rw [ds]
      exact retL_same (by simp) (hK H9 (S8'.thru S9 hY) st)
  refine ldI (v := rv) cpr rfl knr (ldI (v := rv) cpr rfl knr (lenI (hR Sc) (remI (by omega) (by omega) ?_)))
  refine sli_num' (hR Sc) hturn fun q => geqI (cndI (fun hge => ?_) fun hlt0 => hold.2 ?_)
  · have hwl : (turnOf r k).toNat < t.flocks.length := by omega
    refine offI (ldI (v := fv) cpt rfl kn4 ?_)
    obtain ⟨b, o, cs, wr, sz, hidx, hb, hol, hft, hkn⟩ := sliE_elem dro_len (by omega) (hF Sc) hwl
    have e : vint (turnOf r k) = vint ((turnOf r k).toNat : Nat) := by congr 1; omega
    rw [e]
    have hd : drinkOf t (turnOf r k) = t.flocks[(turnOf r k).toNat].drinks := by
      unfold drinkOf
      rw [if_pos hge, droAt_mem hwl]
    refine hidx _ (offI (ldI (v := vint (drinkOf t (turnOf r k))) hb (part_get hft (by rw [hd]; rfl)) rfl (hold.2 ?_)))
    exact post ds r0 r1 r2 r4 r5 r6 r7 rfl
  · refine post ds r0 r1 r2 r4 r5 r6 r7 ?_
    show vint 0 = vint _
    unfold drinkOf
    rw [if_neg hlt0]
theorem hour_one {t : Tro} {r : List Int} {k : Nat} : (hourC t r k).all one = true ∧ kn (hourC t r k) = true := ⟨rfl, rfl⟩

noncomputable abbrev lp87 (st : LoopState) (pend : Option Code) (r : Nat → Value) (d : Nat) : AObj := .loop st pend 87 r 22 #[13, 14] (subC [1, 1, 0, 0] (codeOf f87)) (subC [1, 1, 0, 1] (codeOf f87)) d

theorem round87 (hJ : Closed prog main J) {l p6 p7 d k : Nat} {R : Nat → Value} {many : Int} {tell : Value} {t : Tro} {r : List Int} {Q : Value → List AObj → Prop} (hl : H[l]? = some (lp87 .ready none R d))
    (r6 : R 6 = ptr p6 0) (r7 : R 7 = ptr p7 0) (c6 : H[p6]? = some (.cells [vint many] true 0)) (c7 : H[p7]? = some (.cells [tell] true 0)) (kt : kn1 tell = true) (n6 : p6 ≠ l) (n7 : p7 ≠ l)
    (call : ∀ (H1 : List AObj) (Q1 : Value → List AObj → Prop), (k : Int) ≠ many → SameX [l] H H1 → H1[l]? = some (lp87 .busy none R d) → (∀ u H2, H2[l]? = some (lp87 .busy none R d) → Q (.bool true) (H2.set l (lp87 .ready none R d)) → Q1 u H2) → callV prog (Good prog J) tell [vint (k : Nat), hourV t r k] H1 Q1)
    (stop : ∀ H1, (k : Int) = many → SameX [l] H H1 → H1[l]? = some (lp87 .done (some .ret) R d) → Q (.bool false) H1) :
    callV prog (Good prog J) (.func (.yield l) ⟨[]⟩ ⟨[]⟩) [vint (k : Nat), hourV t r k] H Q := by
  show Good prog J (yid prog l) [vint (k : Nat), hourV t r k] H Q
  have hll := lt_of_get hl
  refine good_round hJ hl rfl (by decide) fun ok => W_sound hJ mixed _ ?_
  rw [a87_1]
  refine qAl fun H1 p1 e1 S1 c1 l1 => qStA (c := hourC t r k) c1 rfl rfl hour_one.1 fun H2 S2 c2 l2 => ?_
  have hl2 : H2[l]? = some (lp87 .ready none R d) := S2.get (S1.get hl (by simp)) (by simp; omega)
  refine ⟨rfl, none, _, _, _, _, _, _, _, hl2, W_sound hJ mixed _ ?_⟩
  rw [b87_1]
  have S02 : SameX [] H H2 := S1.thru S2 (by simp; omega)
  have hl3 : (H2.set l (lp87 .busy none R d))[l]? = some (lp87 .busy none R d) := List.getElem?_set_self (lt_of_get hl2)
  have S3 : SameX [l] H (H2.set l (lp87 .busy none R d)) := (S02.weak0).set (.inl (by simp))
  show aLoad false 1 (R 6) _ _
  rw [r6]
  refine ldI (v := vint many) (S3.get c6 (by simpa using n6)) rfl rfl ?_
  show aBin prog .eql 3 (vint (k : Nat)) (vint many) _
  refine eqlI (cndI (fun he => ?_) fun hne => ?_)
  · refine ⟨.busy, none, _, _, _, _, _, _, _, hl3, .inl (stop _ he (S3.set (.inl (by simp))) (List.getElem?_set_self (lt_of_get hl3)))⟩
  · show aLoad false 1 (R 7) _ _
    rw [r7]
    refine ldI (v := tell) (S3.get c7 (by simpa using n7)) rfl kt ?_
    refine load_part (c := hourC t r k) (get_set c2 (by omega)) (by simp [hourC]) rfl hour_one.2 ?_
    refine call _ _ hne S3 hl3 fun u H4 hl4 hq => ?_
    exact ⟨.busy, none, _, _, _, _, _, _, _, hl4, .inl hq⟩

theorem endQ_ret {n : Nat} {f : RG} {Q : QT} {v : Value} {st : LoopState} {fn : FuncId} {r : Nat → Value} {size : Nat} {params : Array Tmp} {assign body : Code} {dfr : Nat} (hl : h[n + 1]? = some (.loop st (some .ret) fn r size params assign body dfr)) (hs : st ≠ .busy) (hq : Q .ret ⟨f.r, n :: f.ds⟩ (h.set (n + 1) .dead)) : endQ n f Q v h :=
  ⟨st, some .ret, _, _, _, _, _, _, _, hl, hs, hq⟩
theorem retL_def {n0 n : Nat} {vs : List Value} (hd : h[n]? = some .deferred) (hv : ∀ v ∈ vs, v ≠ unk) (hk : K (pack vs) (h.set n .dead)) : retL n0 K [n] vs h := by
  have := retL_same (n0 := n0) (H := K) hv hk
  unfold retL at *
  exact ⟨hd, this⟩

theorem good87 (hJ : Closed prog main J) {t : Tro} {r : List Int} {fv rv tell : Value} {many : Int} (X : List Nat) (hX : ∀ x ∈ X, x < H.length)
    (hF : ∀ {H'}, SameX X H H' → SliE H' fv 2 Dro.cells t.flocks) (hR : ∀ {H'}, SameX X H H' → Sli H' rv 1 r.length (r.map vint)) (f : TroFine t) (g : RotaFine t r) (hm : 0 ≤ many ∧ many ≤ 100)
    (htell : tell.cells = #[tell] ∧ one tell = true ∧ kn1 tell = true)
    {I : Nat → List Nat → List AObj → Prop} (hO : ∀ {k O H'}, I k O H' → ∀ x ∈ O, x < H'.length) (hI : ∀ {k O H1 H2}, Till H.length O H1 H2 → I k O H1 → I k O H2) (h0 : I 0 [] H)
    (call : ∀ (k : Nat) (O : List Nat) (H1 : List AObj) (Q : Value → List AObj → Prop), (k : Int) < many → SameX X H H1 → (∀ x ∈ O, H.length ≤ x) → I k O H1 → (∀ u O' H2, SameX (X ++ O) H1 H2 → (∀ x ∈ O', x ∈ O ∨ H1.length ≤ x) → I (k + 1) O' H2 → Q u H2) → callV prog (Good prog J) tell [vint (k : Nat), hourV t r k] H1 Q)
    (hK : ∀ O H2, SameX X H H2 → (∀ x ∈ O, H.length ≤ x) → I many.toNat O H2 → K (.tuple ⟨[]⟩) H2) : Good prog J 87 [.agg ⟨troCells t fv⟩, rv, vint many, tell] H K := by
  have tA : TroAt H (.agg ⟨troCells t fv⟩) t fv := ⟨rfl, hF SameX.refl⟩
  refine g87 hJ fun ok => ?_
  rw [e87]
  have rvo := sli_val (hR SameX.refl)
  refine qBox (tro_one tA) fun H1 p4 e4 S1 c1 l1 => qBox1 (v := vint many) rfl rfl fun H2 p6 e6 S2 c2 l2 => qBox1 htell.1 htell.2.1 fun H3 p7 e7 S3 c3 l3 => ?_
  refine load_part (c := troCells t fv) (S3.get (S2.get c1 (by simp)) (by simp)) (by simp [troCells]) rfl (tro_kn tA) ?_
  refine good120 hJ (tro_one tA) ⟨rvo.1, rvo.2.1⟩ fun H4 pt pr S4 ct cr gt gr => ?_
  have T4 : SameX [] H H4 := ((S1.trans S2).trans S3).trans S4
  have hT4 := T4.1
  have hS4 := S4.1
  refine l87_1 hJ (first := []) (cap := [ptr pt 0, ptr pr 0]) rfl (by decide) ?_
  -- the heap with the loop
  obtain ⟨R, hRe⟩ : ∃ R : Nat → Value, R = (RG.put (RG.put (RG.put (RG.put (RG.put (RG.put (RG.mk (regs [Value.agg ⟨troCells t fv⟩, rv, vint many, tell]) []) 4 (ptr p4 0)) 6 (ptr p6 0)) 7 (ptr p7 0)) 10 (Value.agg ⟨troCells t fv⟩)) 11 rv) 12 (Value.func (.func 131) ⟨[]⟩ ⟨[ptr pt 0, ptr pr 0]⟩)).r := ⟨_, rfl⟩
  have hl5 : (H4 ++ [AObj.deferred] ++ [lp87 .ready none R H4.length])[H4.length + 1]? = some (lp87 .ready none R H4.length) := by
    rw [List.append_assoc]
    simp
  have hd5 : (H4 ++ [AObj.deferred] ++ [lp87 .ready none R H4.length])[H4.length]? = some .deferred := by
    rw [List.append_assoc]
    simp
  have hln : (H4 ++ [AObj.deferred] ++ [lp87 .ready none R H4.length]).length = H4.length + 2 := by simp
  have S5 : SameX [] H4 (H4 ++ [AObj.deferred] ++ [lp87 .ready none R H4.length]) := SameX.refl.app.app
  have c7 : H4[p7]? = some (.cells [tell] true 0) := S4.get c3 (by simp)
  have c6 : H4[p6]? = some (.cells [vint many] true 0) := S4.get (S3.get c2 (by simp)) (by simp)
  have r6 : R 6 = ptr p6 0 := by subst hRe; rfl
  have r7 : R 7 = ptr p7 0 := by subst hRe; rfl
  generalize hH5 : H4 ++ [AObj.deferred] ++ [lp87 .ready none R H4.length] = H5 at hl5 hd5 hln S5
  have T5 : SameX [] H H5 := T4.trans S5
  have hXn : ∀ x ∈ X, x < H5.length := fun x hx => by have := hX x hx; omega
  have nX : ∀ {p : Nat}, H.length ≤ p → p ∉ X := fun hp hx => by have := hX _ hx; omega
  have hY : ∀ {H'}, SameX ((H4.length + 1) :: X) H5 H' → SameX X H H' := fun S => (T5.weak0).thru S (by
    intro y hy
    rcases List.mem_cons.1 hy with rfl | hy
    · exact .inr (by omega)
    · exact .inl hy)
  have fin : ∀ {O H'}, SameX ((H4.length + 1) :: X) H5 H' → (∀ x ∈ O, H5.length ≤ x) → I many.toNat O H' → H'[H4.length + 1]? = some (lp87 .done (some .ret) R H4.length) → ∀ v, endQ H4.length ⟨R, []⟩ (contX pl87 prog J 22 H.length 87 ct87 [1, 1, 0] (codeOf f87) [] (RetQ prog [] H.length K)) v H' := by
    intro O H' S hO5 i hl v
    refine endQ_ret hl (by simp) ?_
    rw [c87_1r]
    have hd' := S.get hd5 (by simp only [List.mem_cons, not_or]; exact ⟨by omega, nX (by omega)⟩)
    refine retL_def (get_set hd' (by omega)) (by simp) ?_
    have hs := hY S
    have hs2 : SameX X H ((H'.set (H4.length + 1) .dead).set H4.length .dead) := (hs.set (.inr (by omega))).set (.inr (by omega))
    refine hK O _ hs2 (fun x hx => by have := hO5 x hx; omega) (hI ⟨by simp, fun j hj => ?_⟩ i)
    have : j ≠ H4.length ∧ j ≠ H4.length + 1 := by
      rcases hj with hj | hj
      · omega
      · have := hO5 j hj
        omega
    rw [List.getElem?_set, if_neg (by omega), List.getElem?_set, if_neg (by omega)]
  have main131 : Good prog J 131 [.func (.yield (H4.length + 1)) ⟨[]⟩ ⟨[]⟩, ptr pt 0, ptr pr 0] H5 (endQ H4.length ⟨R, []⟩ (contX pl87 prog J 22 H.length 87 ct87 [1, 1, 0] (codeOf f87) [] (RetQ prog [] H.length K))) := by
    refine good131 hJ ((H4.length + 1) :: X) (fun x hx => ?_) (S5.get ct (by simp)) (S5.get cr (by simp)) ?_ ?_ (fun S => hF (hY S)) (fun S => hR (hY S)) f g
      (I := fun k O H' => (k : Int) ≤ many ∧ I k O H' ∧ H'[H4.length + 1]? = some (lp87 .ready none R H4.length)) (St := fun H' => ∃ O, (∀ x ∈ O, H5.length ≤ x) ∧ I many.toNat O H' ∧ H'[H4.length + 1]? = some (lp87 .done (some .ret) R H4.length)) (N := many.toNat + 1) (by omega) (fun hi => by omega) (fun hi => hO hi.2.1)
      (fun ht hi => ⟨hi.1, hI ⟨ht.1, fun j hj => ht.2 j (hj.imp (fun hj => by omega) id)⟩ hi.2.1, by rw [ht.2 _ (.inl (by omega))]; exact hi.2.2⟩) ⟨by omega, hI ⟨T5.1, fun j hj => T5.2 j (hj.resolve_right (by simp)) (by simp)⟩ h0, hl5⟩ (fun k O H1 Q S1 hOn hi k1 k2 => ?_) fun H2 S2 st => by obtain ⟨O, s1, s2, s3⟩ := st; exact fin S2 s1 s2 s3 _
    · rcases List.mem_cons.1 hx with rfl | hx
      · omega
      · exact hXn x hx
    · have := lt_of_get ct
      simp only [List.mem_cons, not_or]
      exact ⟨by omega, nX (by omega)⟩
    · have := lt_of_get cr
      simp only [List.mem_cons, not_or]
      exact ⟨by omega, nX (by omega)⟩
    · obtain ⟨i1, i2, i3⟩ := hi
      have m6 := lt_of_get c6
      have m7 := lt_of_get c7
      have c6' := S1.get (S5.get c6 (by simp)) (by simp only [List.mem_cons, not_or]; exact ⟨by omega, nX (by omega)⟩)
      have c7' := S1.get (S5.get c7 (by simp)) (by simp only [List.mem_cons, not_or]; exact ⟨by omega, nX (by omega)⟩)
      have hl1 := S1.1
      have nO : ∀ {p : Nat}, H.length ≤ p → p < H5.length → p ∉ X ++ O := fun hp hp5 hx => by
        rcases List.mem_append.1 hx with hx | hx
        · exact nX hp hx
        · have := hOn _ hx
          omega
      have hO1 := hO i2
      refine round87 hJ i3 r6 r7 c6' c7' htell.2.2 (by omega) (by omega) (fun H6 Q1 hne S6 hl6 kq => ?_) fun H6 he S6 hl6 => ?_
      · have T6 : Till H.length O H1 H6 := ⟨S6.1, fun j hj => S6.2 j (by rcases hj with hj | hj; omega; exact hO1 j hj) (by
          rcases hj with hj | hj
          · simp
            omega
          · have := hOn j hj
            simp
            omega)⟩
        refine call k O H6 _ (by omega) ((hY S1).thru S6 (by simp; omega)) (fun x hx => by have := hOn x hx; omega) (hI T6 i2) fun u O' H7 S7 hO' i7 => kq u H7 (S7.get hl6 (nO (by omega) (by omega))) ?_
        have hl7 := S7.1
        have hl66 := S6.1
        have hOn' : ∀ x ∈ O', H5.length ≤ x := fun x hx => by
          rcases hO' x hx with h | h
          · exact hOn x h
          · omega
        refine k1 O' _ ?_ (fun x hx => (hO' x hx).imp id fun h => by omega) ⟨by omega, hI ⟨by simp, fun j hj => ?_⟩ i7, List.getElem?_set_self (by omega)⟩
        · refine (((S6.weak (Y := ((H4.length + 1) :: X) ++ O) (by simp)).trans (S7.weak fun x hx => by rw [List.cons_append]; exact List.mem_cons_of_mem _ hx))).set (.inl (by simp))
        · have : j ≠ H4.length + 1 := by
            rcases hj with hj | hj
            · omega
            · have := hOn' j hj
              omega
          rw [List.getElem?_set, if_neg (by omega)]
      · have T6 : Till H.length O H1 H6 := ⟨S6.1, fun j hj => S6.2 j (by rcases hj with hj | hj; omega; exact hO1 j hj) (by
          rcases hj with hj | hj
          · simp
            omega
          · have := hOn j hj
            simp
            omega)⟩
        have hk : k = many.toNat := by omega
        subst hk
        exact k2 _ (S6.weak (by simp)) ⟨O, hOn, hI T6 i2, hl6⟩
  subst hRe
  rw [← hH5] at main131
  exact main131
end
end Go.Proofs.Ytindillghipjjaa

namespace Go.Proofs.Ytindillghipjjaa
open Go.Conc Go.Proofs.Try
set_option maxRecDepth 100000
theorem rotaE_fine {t : Tro} {r : List Int} (h : rotaE t r = 0) : TroFine t ∧ RotaFine t r := by
  unfold rotaE at h
  split at h
  · rename_i x
    exact absurd h x
  · rename_i x
    split at h
    · rename_i y
      exact absurd h y
    · rename_i y
      split at h
      · rename_i z
        refine ⟨troE_fine (by omega), ?_, fun k hk => by have := z k hk; omega⟩
        unfold fewE at y
        split at y
        · exact absurd (by decide) y
        · split at y
          · exact absurd (by decide) y
          · omega
      · cases h
theorem fine_rotaE {t : Tro} {r : List Int} (f : TroFine t) (g : RotaFine t r) : rotaE t r = 0 := by
  have h1 := fine_troE f
  have h2 : fewE r.length 1 5 = 0 := by
    have := g.len
    unfold fewE
    rw [if_neg (by omega), if_neg (by omega)]
  unfold rotaE
  rw [if_neg (by omega), if_neg (by omega), if_pos fun k hk => by have := g.who k hk; omega]

def hrsE (t : Tro) (r : List Int) (n : Int) : Int := if rotaE t r ≠ 0 then rotaE t r else if 1 ≤ n ∧ n ≤ 48 then 0 else 1
def levelsR (t : Tro) (r : List Int) (n : Nat) : List Int := (List.range n).map fun i => lvl t r (i + 1)
def levelsA (t : Tro) (r : List Int) (n : Int) : List Int := if hrsE t r n = 0 then levelsR t r n.toNat else []
theorem levelsR_succ {t : Tro} {r : List Int} {n : Nat} : levelsR t r (n + 1) = levelsR t r n ++ [lvl t r (n + 1)] := by
  simp [levelsR, List.range_succ]
section
variable {main : Bool} {J : JT} {h H : List AObj} {K : Value → List AObj → Prop} {KV : Value → Prop} {n0 : Nat}
theorem ownX_to {H' : List AObj} {s len : Nat} {cs : List Value} {v : Value} {o : Option Nat} (ho : OwnX H s cs len v o) (e : ∀ i, o = some i → H'[i]? = H[i]?) : OwnX H' s cs len v o := by
  obtain ⟨h1, h2, h3 | ⟨i, c, sz, rfl, h4, h5, h6⟩⟩ := ho
  · exact ⟨h1, h2, .inl h3⟩
  · exact ⟨h1, h2, .inr ⟨i, c, sz, rfl, h4, by rw [e i rfl]; exact h5, h6⟩⟩

theorem putMore {po : Nat} {cs : List Value} {x lv : Value} {len : Nat} {o : Option Nat} {C : Prop} (hC : C) (h1 : x.cells = #[x]) (h2 : one x = true) (h3 : kn1 x = true) (cp : H[po]? = some (.cells [lv] true 0)) (A : OwnX H 1 cs len lv o) (ho : ∀ i, o = some i → i ≠ po) (hl : len < 1000)
    {HL : List AObj → Prop} (hK : ∀ lv' H' p', SameX (po :: o.toList) H H' → H'[po]? = some (.cells [lv'] true 0) → OwnX H' 1 (cs ++ [x]) (len + 1) lv' (some p') → H.length ≤ p' → HL H') :
    aNewS 1 [x] H fun v h => (C ∧ aApp 1 lv v h fun v9 h10 => aStore 1 (ptr po 0) v9 h10 HL) := by
  refine qNew fun H1 p1 e1 S1 c1 l1 => ⟨hC, ?_⟩
  have A1 := ownX_keep A S1 (by simp)
  refine ownX_more A1 (by omega) hl (ownX_sli (ownX_new (s := 1) (n := 1) (l := [x]) c1 rfl (by simp [kn, h3]))) fun v' H2 p2 e2 A2 S2 => ?_
  have hpo := lt_of_get cp
  have c2 := S2.get (S1.get cp (by simp)) (fun hm => ho po (by simpa using hm) rfl)
  refine qSt c2 (by simp) (ownX_val A2).1 (ownX_val A2).2.1 fun H3 S3 c3 l3 => ?_
  have hl1 := S1.1
  refine hK v' H3 p2 ?_ c3 (ownX_keep A2 S3 fun i hi => by cases hi; simp; omega) (by omega)
  exact (((S1.weak0 (Y := po :: o.toList)).trans (S2.weak fun x hx => List.mem_cons_of_mem _ hx))).trans (S3.weak (by simp))

theorem good88 (hJ : Closed prog main J) {po k : Nat} {t : Tro} {r : List Int} {cs : List Value} {lv : Value} {len : Nat} {o : Option Nat} (cp : H[po]? = some (.cells [lv] true 0)) (A : OwnX H 1 cs len lv o) (ho : ∀ i, o = some i → i ≠ po) (hl : len < 1000)
    (hK : ∀ lv' H' p', SameX (po :: o.toList) H H' → H'[po]? = some (.cells [lv'] true 0) → OwnX H' 1 (cs ++ [vint (lvl t r (k + 1))]) (len + 1) lv' (some p') → H.length ≤ p' → K (.tuple ⟨[]⟩) H') :
    Good prog J 88 [vint (k : Nat), hourV t r k, ptr po 0] H K := by
  refine g88 hJ fun ok => ?_
  rw [e88]
  refine qBox hour_one.1 fun H1 p1 e1 S1 c1 l1 => ?_
  refine ldI (v := lv) (S1.get cp (by simp)) rfl (ownX_val A).2.2 (offI (ldI (v := vint (lvl t r (k + 1))) c1 rfl rfl ?_))
  have hl1 := S1.1
  refine ⟨by decide, fill_one rfl rfl rfl (by decide) (fillI ?_)⟩
  refine putMore (x := vint (lvl t r (k + 1))) (by decide) rfl rfl rfl (S1.get cp (by simp)) (ownX_keep A S1 (by simp)) ho hl fun lv' H' p' S' c' A' g' => retL_same (by simp) (hK lv' H' p' ?_ c' A' (by omega))
  exact (S1.weak0).trans S'

def GrowI (po : Nat) (L : Nat → List Int) (k : Nat) (O : List Nat) (H : List AObj) : Prop :=
  ∃ lv o, O = Option.toList o ∧ H[po]? = some (.cells [lv] true 0) ∧ OwnX H 1 ((L k).map vint) (L k).length lv o ∧ (∀ i, o = some i → i ≠ po) ∧ (L k).length ≤ k
theorem GrowI.lt {po k : Nat} {L : Nat → List Int} {O : List Nat} (a : GrowI po L k O H) : ∀ x ∈ O, x < H.length := by
  obtain ⟨lv, o, rfl, c, A, ho, hl⟩ := a
  intro x hx
  exact ownX_lt A x (by simpa using hx)
theorem GrowI.to {po k n : Nat} {L : Nat → List Int} {O : List Nat} {H1 H2 : List AObj} (hp : po < n) (T : Till n O H1 H2) (a : GrowI po L k O H1) : GrowI po L k O H2 := by
  obtain ⟨lv, o, rfl, c, A, ho, hl⟩ := a
  exact ⟨lv, o, rfl, by rw [T.2 po (.inl hp)]; exact c, ownX_to A fun i hi => T.2 i (.inr (by simpa using hi)), ho, hl⟩

theorem good37 (hJ : Closed prog main J) {v fv rv : Value} {t : Tro} {r : List Int} {n : Int} (ht : TroAt H v t fv) (hr : Sli H rv 1 r.length (r.map vint)) (hl : t.flocks.length ≤ 1000000)
    (hK : ∀ H' lv, SameX [] H H' → Sli H' lv 1 (levelsA t r n).length ((levelsA t r n).map vint) → K (.tuple ⟨[lv, vint (hrsE t r n)]⟩) H') : Good prog J 37 [v, rv, vint n] H K := by
  refine g37 hJ fun ok => ?_
  rw [e37, ht.val]
  refine qBox (tro_one ht) fun H1 p1 e1 S1 c1 l1 => ?_
  have tk := tro_kn ht
  refine load_part (c := troCells t fv) c1 (by simp [troCells]) rfl tk (good86 hJ ⟨rfl, S1.sli ht.fl (by simp)⟩ (S1.sli hr (by simp)) hl (neqI (cndI (fun g1 => ?_) fun g1 => ?_)))
  · have e : hrsE t r n = rotaE t r := by unfold hrsE; rw [if_pos g1]
    refine retL_same (by simp [unk]) ?_
    have := hK H1 (.slice none 0 0) S1 (by unfold levelsA; rw [if_neg (by omega)]; exact sli_nil)
    rw [e] at this
    exact this
  · obtain ⟨f, g⟩ := rotaE_fine (by omega : rotaE t r = 0)
    refine good71 hJ (notI (cndN (fun g2 => ?_) fun g2 => ?_))
    · have e : hrsE t r n = 1 := by unfold hrsE; rw [if_neg g1, if_neg g2]
      refine retL_same (by simp [unk]) ?_
      have := hK H1 (.slice none 0 0) S1 (by unfold levelsA; rw [if_neg (by omega)]; exact sli_nil)
      rw [e] at this
      exact this
    · have e : hrsE t r n = 0 := by unfold hrsE; rw [if_neg g1, if_pos g2]
      have eA : levelsA t r n = levelsR t r n.toNat := by unfold levelsA; rw [if_pos e]
      refine qAl fun H2 p2 e2 S2 c2 l2 => load_part (c := troCells t fv) (S2.get c1 (by simp)) (by simp [troCells]) rfl tk ⟨rfl, ?_⟩
      have T2 : SameX [] H H2 := S1.trans S2
      refine good87 hJ [p2] (by simp; omega) (fun S => (T2.weak0.trans S).sli ht.fl (by simp; omega)) (fun S => (T2.weak0.trans S).sli hr (by simp; omega)) f g (by omega) ⟨rfl, rfl, rfl⟩
        (I := GrowI p2 (levelsR t r)) (fun i => i.lt) (fun T i => i.to (by omega) T) ⟨.slice none 0 0, none, rfl, c2, ⟨rfl, rfl, .inl ⟨rfl, rfl, rfl⟩⟩, by simp, by simp [levelsR]⟩ (fun k O H3 Q hk S3 hO i3 kq => ?_) fun O H3 S3 hO i3 => ?_
      · obtain ⟨lv, o, rfl, c3, A3, ho, hll⟩ := i3
        refine callC (by kernel_rfl) (good88 hJ (t := t) (r := r) c3 A3 ho (by omega) fun lv' H4 p4 S4 c4 A4 g4 => kq _ [p4] H4 (by simpa using S4) (fun x hx => ?_) ⟨lv', some p4, rfl, c4, ?_, fun i hi => by cases hi; have := lt_of_get c3; omega, by simp [levelsR]⟩)
        · have : x = p4 := by simpa using hx
          exact .inr (by omega)
        · have e1 : levelsR t r (k + 1) = levelsR t r k ++ [lvl t r (k + 1)] := levelsR_succ
          rw [e1, List.map_append, List.length_append]
          exact A4
      · obtain ⟨lv, o, rfl, c3, A3, ho, hll⟩ := i3
        refine ldI (v := lv) c3 rfl (ownX_val A3).2.2 (retL_same ?_ ?_)
        · intro v hv
          rcases List.mem_cons.1 hv with rfl | hv
          · intro e
            have := (ownX_val A3).2.2
            rw [e] at this
            cases this
          · have : v = vint 0 := by simpa using hv
            subst this
            simp [unk]
        · have := hK H3 lv (T2.thru S3 (by simp; omega)) (by rw [eA]; exact ownX_sli A3)
          rw [e] at this
          exact this

end
end Go.Proofs.Ytindillghipjjaa
