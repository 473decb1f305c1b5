/- Parts of the proof, 3. No conditions. -/
import Derived.Test.YtindillghipjjaaK2
namespace Go.Proofs.Ytindillghipjjaa
open Go.Conc Go.Proofs.Try
structure HandAt (h : List AObj) (b : Nat) (nv : Value) (nums : List Int) (k : Nat) (s : Int) : Prop where
  at_ : h[b]? = some (.cells [nv, vint k, .int .u64 s] true 0)
  list : Sli h nv 1 nums.length (nums.map vint)
  sane : nums.length < 4611686018427387904
  few : k < 4611686018427387904
  lo : 0 ≤ s
  hi : s < 18446744073709551616
section
variable {main : Bool} {J : JT} {h : List AObj} {K : Value → List AObj → Prop}
theorem nil_ok {b o : Nat} {K : Value → Prop} : aNil (ptr b o) K = K (ptr b o) := rfl
theorem off_ok {b o d : Nat} {K : Value → Prop} : aOff (ptr b o) d K = K (ptr b (o + d)) := rfl
theorem conv_u {n : Int} {K : Value → Prop} (hk : ∀ y, 0 ≤ y → y < 18446744073709551616 → K (.int .u64 y)) : aConvI .u64 (vint n) K := hk _ (wrapU _).1 (wrapU _).2
theorem u_shr11 {t : TypeId} {y : Int} (h1 : 0 ≤ y) (h2 : y < 18446744073709551616) {K : Value → Prop} : aBin prog .shr t (.int .u64 y) (.int .u64 11) K = K (.int .u64 (y / 2048)) := by
  have e : min (Int.toNat 11) IntKind.u64.bits = 11 := by decide
  simp only [aBin, aShift, e]
  rw [Int.fdiv_eq_ediv_of_nonneg _ (by decide)]
  simp
theorem set_twice {b : Nat} {x y : AObj} (hb : h[b]? = some x) : (h.set b y)[b]? = some y := by
  have : b < h.length := (List.getElem?_eq_some_iff.1 hb).1
  simp [this]
theorem good69 (hJ : Closed prog main J) {b : Nat} {nv : Value} {nums : List Int} {k : Nat} {s : Int} (H : HandAt h b nv nums k s)
    (hK : ∀ x s', 0 ≤ x → x < 9007199254740992 → 0 ≤ s' → s' < 18446744073709551616 → K (.int .u64 x) (h.set b (.cells [nv, vint (k + 1), .int .u64 s'] true 0))) : Good prog J 69 [ptr b 0] h K := by
  refine g69 hJ fun ok => ?_
  rw [e69]
  obtain ⟨hb, hl, hsane, hfew, hlo, hhi⟩ := H
  have hnv : kn1 nv = true := by
    obtain ⟨_, _, rfl, _⟩ := hl
    rfl
  have l0 : ∀ K, aLoad false 1 (ptr b 0) h K = K nv := fun K => load_cell hb rfl hnv
  have l1 : ∀ K, aLoad false 1 (ptr b 1) h K = K (vint k) := fun K => load_cell hb rfl rfl
  -- what stands behind the joining of the ways
  have rest : ∀ x : Int, aBin prog .add 3 (vint k) (vint 1) fun v25 =>
      aStore 1 (ptr b 1) v25 h fun h28 =>
      aLoad false 1 (ptr b 2) h28 fun v31 =>
      aBin prog .mul 86 (.int .u64 x) (Value.int .u64 11400714819323198485) fun v32 =>
      aBin prog .xor 86 v31 v32 fun v33 =>
      aBin prog .shl 86 v33 (Value.int .u64 13) fun v34 =>
      aBin prog .xor 86 v33 v34 fun v35 =>
      aBin prog .shr 86 v35 (Value.int .u64 7) fun v36 =>
      aBin prog .xor 86 v35 v36 fun v37 =>
      aBin prog .shl 86 v37 (Value.int .u64 17) fun v38 =>
      aBin prog .xor 86 v37 v38 fun v39 =>
      aBin prog .add 86 v39 (Value.int .u64 7146057691288625177) fun v40 =>
      aStore 1 (ptr b 2) v40 h28 fun h43 =>
      aBin prog .shr 86 v39 (Value.int .u64 31) fun v44 =>
      aBin prog .xor 86 v39 v44 fun v45 =>
      aBin prog .mul 86 v45 (Value.int .u64 13787848793156543929) fun v46 =>
      aBin prog .shr 86 v46 (Value.int .u64 29) fun v47 =>
      aBin prog .xor 86 v46 v47 fun v48 =>
      aBin prog .shr 86 v48 (Value.int .u64 11) fun v49 =>
      retL h.length K [] [v49] h43 := by
    intro x
    rw [b_add (by omega)]
    refine store_cell hb (by simp) rfl rfl ?_
    have hb2 : (h.set b (.cells ([nv, vint k, .int .u64 s].set 1 (vint (k + 1))) true 0))[b]? = some (.cells [nv, vint (k + 1), .int .u64 s] true 0) := set_twice hb
    rw [load_cell hb2 rfl rfl]
    refine u_mul fun y1 a1 b1 => u_xor fun y2 a2 b2 => u_shl (by omega) fun y3 a3 b3 => u_xor fun y4 a4 b4 => u_shr (by omega) a4 b4 fun y5 a5 b5 => u_xor fun y6 a6 b6 => u_shl (by omega) fun y7 a7 b7 => u_xor fun y8 a8 b8 => u_add fun y9 a9 b9 => ?_
    refine store_cell hb2 (by simp) rfl rfl ?_
    refine u_shr (by omega) a8 b8 fun z1 c1 d1 => u_xor fun z2 c2 d2 => u_mul fun z3 c3 d3 => u_shr (by omega) c3 d3 fun z4 c4 d4 => u_xor fun z5 c5 d5 => ?_
    rw [u_shr11 c5 d5]
    refine retL_same (by simp [unk]) ?_
    rw [List.set_set]
    exact hK _ _ (by omega) (by omega) a9 b9
  simp only [nil_ok, off_ok, Nat.zero_add, l0, l1]
  refine conv_u fun x0 _ _ => ?_
  simp only [sli_len hl, b_lss, cnd_dec]
  refine ⟨fun hlt => idx_load hl ⟨by omega, by omega⟩ (map_get (by simpa using hlt)) fun p => conv_u fun x1 _ _ => rest x1, fun _ => rest x0⟩
def Dealt (h : List AObj) (b : Nat) (nv : Value) (k n : Nat) (h' : List AObj) : Prop :=
  ∃ (k' : Nat) (s' : Int), k' ≤ k + n ∧ 0 ≤ s' ∧ s' < 18446744073709551616 ∧ h' = h.set b (.cells [nv, vint k', .int .u64 s'] true 0)
theorem good23 (hJ : Closed prog main J) {b : Nat} {nv : Value} {nums : List Int} {k : Nat} {s m : Int} (H : HandAt h b nv nums k s) (hm : m < 9223372036854775807)
    (hK : ∀ y h', 0 ≤ y → (y ≤ m ∨ y = 0) → Dealt h b nv k 1 h' → K (vint y) h') : Good prog J 23 [ptr b 0, vint m] h K := by
  refine g23 hJ fun ok => ?_
  rw [e23]
  simp only [b_leq, cnd_dec]
  refine ⟨fun h0 => retL_same (by simp [unk]) (hK 0 h (by omega) (.inr rfl) ⟨k, s, by omega, H.lo, H.hi, ?_⟩), fun h0 => ?_⟩
  · have hb : b < h.length := (List.getElem?_eq_some_iff.1 H.at_).1
    apply List.ext_getElem?
    intro i
    rw [List.getElem?_set]
    split
    · rename_i e
      subst e
      exact H.at_
    · rfl
  · refine good69 hJ H fun x s' hx hx2 hs hs2 => ?_
    rw [b_add (by omega)]
    have e1 : ∀ n : Int, 0 ≤ n → n < 9223372036854775808 → IntKind.u64.wrap n = n := fun n a b => by
      simp only [IntKind.wrap, IntKind.bits, IntKind.signed]
      simp
      omega
    have hmod : Int.tmod x (m + 1) = x % (m + 1) := Int.tmod_eq_emod_of_nonneg hx
    have h1 := Int.emod_nonneg x (b := m + 1) (by omega)
    have h2 := Int.emod_lt_of_pos x (b := m + 1) (by omega)
    simp only [aConvI, e1 (m + 1) (by omega) (by omega), aBin, aInt, true_and]
    rw [hmod, wrap64 (by omega) (by omega)]
    exact ⟨by omega, retL_same (by simp [unk]) (hK _ _ h1 (.inl (by omega)) ⟨k + 1, s', by omega, hs, hs2, rfl⟩)⟩
theorem good33 (hJ : Closed prog main J) {b : Nat} {nv : Value} {nums : List Int} {k : Nat} {s lo hi : Int} (H : HandAt h b nv nums k s) (h1 : -1000000000000 ≤ lo ∧ lo ≤ 1000000000000) (h2 : -1000000000000 ≤ hi ∧ hi ≤ 1000000000000)
    (hK : ∀ y h', lo ≤ y → (y ≤ hi ∨ y = lo) → Dealt h b nv k 1 h' → K (vint y) h') : Good prog J 33 [ptr b 0, vint lo, vint hi] h K := by
  refine g33 hJ fun ok => ?_
  rw [e33, b_sub (by omega)]
  refine good23 hJ H (by omega) fun y h' hy hy2 hd => ?_
  rw [b_add (by omega)]
  exact retL_same (by simp [unk]) (hK _ _ (by omega) (by omega) hd)
theorem good20 (hJ : Closed prog main J) {base : Option Addr} {n c : Nat}
    (hK : K (ptr h.length 0) (h ++ [.cells [.slice base n c, vint 0, .int .u64 88172645463325252] true 0])) : Good prog J 20 [.slice base n c] h K := by
  refine g20 hJ fun ok => ?_
  rw [e20]
  simp [aFill, aBox, wrAt, Value.cells, one]
  exact retL_same (vs := [ptr h.length 0]) (by simp [unk]) hK
theorem good22 (hJ : Closed prog main J) {b : Nat} {nv ov : Value} {nums others : List Int} {k : Nat} {s a : Int} (H : HandAt h b nv nums k s) (ho : ∀ h', Dealt h b nv k 1 h' → Sli h' ov 1 others.length (others.map vint)) (hl : others.length < 1000000)
    (hK : ∀ y h', (y = a ∨ y ∈ others) → Dealt h b nv k 1 h' → K (vint y) h') : Good prog J 22 [ptr b 0, vint a, ov] h K := by
  refine g22 hJ fun ok => ?_
  rw [e22]
  have hd0 : Dealt h b nv k 1 h := by
    refine ⟨k, s, by omega, H.lo, H.hi, ?_⟩
    apply List.ext_getElem?
    intro i
    rw [List.getElem?_set]
    split
    · rename_i e
      subst e
      have hb : b < h.length := (List.getElem?_eq_some_iff.1 H.at_).1
      rw [if_pos hb]
      exact H.at_
    · rfl
  rw [sli_len (ho h hd0)]
  refine good23 hJ H (by omega) fun y h' hy hy2 hd => ?_
  simp only [b_gtr, cnd_dec]
  refine ⟨fun hg => ?_, fun _ => retL_same (by simp [unk]) (hK _ _ (.inl rfl) hd)⟩
  rw [b_sub (by omega)]
  refine idx_load (ho h' hd) ⟨by omega, by omega⟩ (map_get (by omega)) fun p => ?_
  refine retL_same (by simp [unk]) (hK _ _ (.inr ?_) hd)
  have : (y - 1).toNat < others.length := by omega
  simp only [List.getD_eq_getElem?_getD, List.getElem?_eq_getElem this, Option.getD_some]
  exact List.getElem_mem this
end
end Go.Proofs.Ytindillghipjjaa
namespace Go.Proofs.Ytindillghipjjaa
open Go.Conc Go.Proofs.Try
section
variable {main : Bool} {J : JT} {h : List AObj} {K : Value → List AObj → Prop}
theorem good28 (hJ : Closed prog main J) {av bv : Value} {xs ys : List Int} (ha : Sli h av 1 xs.length (xs.map vint)) (hb : Sli h bv 1 ys.length (ys.map vint)) (hl : xs.length < 4611686018427387904)
    (hK : K (.bool (decide (xs = ys))) h) : Good prog J 28 [av, bv] h K := by
  refine g28 hJ fun ok => ?_
  rw [e28]
  simp only [sli_len ha, sli_len hb, b_neq, cnd_dec]
  refine ⟨fun hne => retL_same (by simp [unk]) ?_, fun heq => ?_⟩
  · have : xs ≠ ys := fun e => hne (by rw [e])
    simpa [pack, this] using hK
  · have hlen : xs.length = ys.length := by omega
    refine l28_1 hJ (fun i => xs.length - i) (fun i f h' => h' = h ∧ f.ds = [] ∧ f.r 0 = av ∧ f.r 1 = bv ∧ f.r 5 = vint (i : Nat) ∧ i ≤ xs.length ∧ xs.take i = ys.take i) ?_ (s := 0) (.inl ⟨rfl, rfl, rfl, rfl, rfl, by omega, by simp⟩)
    rintro i f h' ⟨rfl, hds, h0, h1, h5, hi, ht⟩ _ hn
    rw [s28_1]
    simp only [h0, h1, h5, hds, sli_len ha, b_lss, cnd_dec]
    refine ⟨fun hlt => ?_, fun hge => ?_⟩
    · have e1 : i < xs.length := by omega
      refine idx_load ha ⟨by omega, by omega⟩ (map_get (by omega)) fun p1 => ?_
      refine idx_load hb ⟨by omega, by omega⟩ (map_get (by omega)) fun p2 => ?_
      simp only [b_neq, cnd_dec, Int.toNat_natCast]
      refine ⟨fun hne => retL_same (by simp [unk]) ?_, fun heq => ?_⟩
      · have : xs ≠ ys := fun e => hne (by rw [e])
        simpa [pack, this] using hK
      · rw [b_add (by omega)]
        refine ⟨i + 1, by dsimp only; omega, .inl ⟨rfl, hds, h0, h1, rfl, by omega, ?_⟩⟩
        have heq : xs.getD i 0 = ys.getD i 0 := by simpa using heq
        simp only [List.getD_eq_getElem?_getD, List.getElem?_eq_getElem e1, List.getElem?_eq_getElem (show i < ys.length by omega), Option.getD_some] at heq
        rw [List.take_add_one, List.take_add_one, ht, List.getElem?_eq_getElem e1, List.getElem?_eq_getElem (show i < ys.length by omega), heq]
    · have : i = xs.length := by omega
      subst this
      rw [List.take_length, hlen, List.take_length] at ht
      refine retL_same (by simp [unk]) ?_
      simpa [pack, ht] using hK
theorem ints_ok (n : Nat) (xs : List Int) : LOk n (xs.map vint) := by
  rw [LOk_iff]
  intro v hv
  obtain ⟨x, _, rfl⟩ := List.mem_map.1 hv
  simp [VOk]
end
end Go.Proofs.Ytindillghipjjaa
namespace Go.Proofs.Ytindillghipjjaa
open Go.Conc Go.Proofs.Try
section
variable {main : Bool} {J : JT} {h : List AObj} {K : Value → List AObj → Prop}
def HF (h : List AObj) (nv : Value) (k : Nat) (s : Int) (rest : List AObj) : List AObj := h ++ (.cells [nv, vint k, .int .u64 s] true 0 :: rest)
theorem hf_len {h : List AObj} {nv : Value} {k : Nat} {s : Int} {rest : List AObj} : (HF h nv k s rest).length = h.length + 1 + rest.length := by
  simp [HF]; omega
theorem hf_app {h : List AObj} {nv : Value} {k : Nat} {s : Int} {rest g : List AObj} : HF h nv k s rest ++ g = HF h nv k s (rest ++ g) := by
  simp [HF]
theorem hf_hand {h : List AObj} {nv : Value} {ns : List Int} {k : Nat} {s : Int} {rest : List AObj} (sn : Sli h nv 1 ns.length (ns.map vint)) (hln : ns.length < 4611686018427387904) (hk : k < 1000000) (h0 : 0 ≤ s) (h1 : s < 18446744073709551616) :
    HandAt (HF h nv k s rest) h.length nv ns k s :=
  ⟨by simp [HF], sli_app sn, hln, by omega, h0, h1⟩
theorem hf_dealt {h h' : List AObj} {nv : Value} {k n : Nat} {s : Int} {rest : List AObj} (hd : Dealt (HF h nv k s rest) h.length nv k n h') : ∃ k' s', k' ≤ k + n ∧ 0 ≤ s' ∧ s' < 18446744073709551616 ∧ h' = HF h nv k' s' rest := by
  obtain ⟨k', s', a, b, c, rfl⟩ := hd
  refine ⟨k', s', a, b, c, ?_⟩
  simp [HF]
end
end Go.Proofs.Ytindillghipjjaa
namespace Go.Proofs.Ytindillghipjjaa
open Go.Conc Go.Proofs.Try
def SliE {α : Type} (h : List AObj) (v : Value) (s : Nat) (enc : α → List Value) (xs : List α) : Prop := Sli h v s xs.length (xs.flatMap enc)
theorem flat_take {α : Type} {enc : α → List Value} {s : Nat} (hen : ∀ x, (enc x).length = s) : ∀ (xs : List α) (i : Nat) (hi : i < xs.length), ((xs.flatMap enc).drop (i * s)).take s = enc xs[i]
  | [], i, hi => by simp at hi
  | x :: xs, 0, hi => by
    simp only [List.flatMap_cons, Nat.zero_mul, List.drop_zero, List.getElem_cons_zero]
    rw [List.take_append_of_le_length (by rw [hen]; exact Nat.le_refl _), List.take_of_length_le (by rw [hen]; exact Nat.le_refl _)]
  | x :: xs, i + 1, hi => by
    simp only [List.flatMap_cons, List.getElem_cons_succ]
    have : (i + 1) * s = (enc x).length + i * s := by rw [hen, Nat.succ_mul, Nat.add_comm]
    rw [this, ← List.drop_drop, List.drop_left]
    exact flat_take hen xs i (by simpa using hi)
section
variable {h g : List AObj} {K : Value → Prop}
theorem sliE_elem {α : Type} {v : Value} {s : Nat} {enc : α → List Value} {xs : List α} (hen : ∀ x, (enc x).length = s) (hpos : 0 < s) (hs : SliE h v s enc xs) {i : Nat} (hi : i < xs.length) :
    ∃ b o cs wr sz, (∀ K : Value → Prop, K (ptr b o) → aIdx s v (vint i) K) ∧ h[b]? = some (.cells cs wr sz) ∧ o + s ≤ cs.length ∧ (cs.drop o).take s = enc xs[i] ∧ kn (enc xs[i]) = true := by
  obtain ⟨base, c, rfl, ⟨hl, hkn⟩, hc⟩ := hs
  have hft := flat_take hen xs i hi
  have hmul : (i + 1) * s ≤ xs.length * s := Nat.mul_le_mul_right s (by omega)
  have hsucc : (i + 1) * s = i * s + s := Nat.succ_mul i s
  rcases hc with ⟨_, h0⟩ | ⟨b, o, rfl, h0 | ⟨cs, wr, sz, hb, hx⟩⟩
  · omega
  · omega
  · rw [← hx] at hl hft
    simp only [List.length_take, List.length_drop] at hl
    refine ⟨b, o + i * s, cs, wr, sz, fun K hK => ?_, hb, by omega, ?_, ?_⟩
    · rw [idx_ok]
      exact ⟨⟨by omega, by omega⟩, by simpa using hK⟩
    · rw [← hft, List.drop_take, List.drop_drop, List.take_take]
      congr 1
      omega
    · have : kn ((xs.flatMap enc).drop (i * s)) = true := by
        unfold kn at hkn ⊢
        rw [List.all_eq_true] at hkn ⊢
        exact fun y hy => hkn y (List.mem_of_mem_drop hy)
      rw [← flat_take hen xs i hi]
      unfold kn at this ⊢
      rw [List.all_eq_true] at this ⊢
      exact fun y hy => this y (List.mem_of_mem_take hy)
theorem part_get {cs e : List Value} {o s j : Nat} {x : Value} (ht : (cs.drop o).take s = e) (hx : e[j]? = some x) : cs[o + j]? = some x := by
  rw [← ht, List.getElem?_take] at hx
  split at hx
  · rw [List.getElem?_drop] at hx
    exact hx
  · cases hx
end
end Go.Proofs.Ytindillghipjjaa
namespace Go.Proofs.Ytindillghipjjaa
open Go.Conc Go.Proofs.Try
set_option maxRecDepth 100000
section
variable {main : Bool} {J : JT} {h A g : List AObj} {K : Value → List AObj → Prop} {KV : Value → Prop} {HL : List AObj → Prop} {H : Value → List AObj → Prop}
theorem a_min {a b : Int} : aMin (vint a) [vint b] KV = KV (vint (min a b)) := by
  show KV (vint (if b < a then b else a)) = _
  congr 2
  split <;> omega
theorem a_max {a b : Int} : aMax (vint a) [vint b] KV = KV (vint (max a b)) := by
  show KV (vint (if b > a then b else a)) = _
  congr 2
  split <;> omega
theorem back_get {i : Nat} : (A ++ g)[A.length + i]? = g[i]? := by
  rw [List.getElem?_append_right (by omega)]
  congr 1
  omega
theorem back_set {i : Nat} {o : AObj} : (A ++ g).set (A.length + i) o = A ++ g.set i o := by
  rw [List.set_append_right _ _ (by omega)]
  congr 2
  omega
def OwnE (n : Nat) (g : List AObj) (s : Nat) (cs : List Value) (len : Nat) (v : Value) (o : Option Nat) : Prop :=
  cs.length = len * s ∧ kn cs = true ∧ ((len = 0 ∧ v = .slice none 0 0 ∧ o = none) ∨ ∃ i c sz, o = some i ∧ v = .slice (some ⟨n + i, 0, none⟩) len c ∧ g[i]? = some (.cells cs true sz) ∧ ((c = fz ∧ sz = s) ∨ c = len))
theorem get_app {i : Nat} {x : AObj} {g' : List AObj} (hx : g[i]? = some x) : (g ++ g')[i]? = some x := by
  rw [List.getElem?_append_left (List.getElem?_eq_some_iff.1 hx).1]
  exact hx
theorem get_set {i j : Nat} {x y : AObj} (hx : g[i]? = some x) (hij : i ≠ j) : (g.set j y)[i]? = some x := by
  rw [List.getElem?_set, if_neg (fun e => hij e.symm)]
  exact hx
theorem ownE_at {n s len : Nat} {cs : List Value} {v : Value} {i : Nat} (ho : OwnE n g s cs len v (some i)) : ∃ sz, g[i]? = some (.cells cs true sz) := by
  obtain ⟨_, _, ⟨_, _, h⟩ | ⟨j, c, sz, h, _, h5, _⟩⟩ := ho
  · cases h
  · cases h
    exact ⟨sz, h5⟩
theorem ownE_lt {n s len : Nat} {cs : List Value} {v : Value} {o : Option Nat} (ho : OwnE n g s cs len v o) {i : Nat} (hi : o = some i) : i < g.length := by
  subst hi
  obtain ⟨sz, h⟩ := ownE_at ho
  exact (List.getElem?_eq_some_iff.1 h).1
theorem ownE_sli {s len : Nat} {cs : List Value} {v : Value} {o : Option Nat} (ho : OwnE A.length g s cs len v o) : Sli (A ++ g) v s len cs := by
  obtain ⟨h1, h2, ⟨rfl, rfl, _⟩ | ⟨i, c, sz, rfl, rfl, h5, _⟩⟩ := ho
  · have : cs = [] := List.length_eq_zero_iff.1 (by omega)
    subst this
    exact sli_nil
  · refine ⟨_, _, rfl, ⟨h1, h2⟩, .inr ⟨_, _, rfl, .inr ⟨cs, true, sz, ?_, by rw [List.drop_zero, List.take_of_length_le (by omega)]⟩⟩⟩
    rw [back_get]
    exact h5
theorem ownE_val {n s len : Nat} {cs : List Value} {v : Value} {o : Option Nat} (ho : OwnE n g s cs len v o) : v.cells = #[v] ∧ one v = true ∧ kn1 v = true := by
  obtain ⟨_, _, ⟨_, rfl, _⟩ | ⟨_, _, _, _, rfl, _⟩⟩ := ho <;> exact ⟨rfl, rfl, rfl⟩
theorem ownE_more {s len : Nat} {cs e : List Value} {v y : Value} {o : Option Nat} (ho : OwnE A.length g s cs len v o) (hs : 0 < s) (hl : len < 100000) (hy : Sli (A ++ g) y s 1 e)
    (hk : ∀ v' g', OwnE A.length g' s (cs ++ e) (len + 1) v' (some g.length) → (∀ i x, o ≠ some i → g[i]? = some x → g'[i]? = some x) → H v' (A ++ g')) : aApp s v y (A ++ g) H := by
  have hr : room = 1073741824 := rfl
  have hel : e.length = s := by
    have := sli_vlen hy
    omega
  have hek : kn e = true := by
    obtain ⟨_, _, _, ⟨_, h⟩, _⟩ := hy
    exact h
  have new : ∀ g1 : List AObj, g1.length = g.length → (∀ i x, o ≠ some i → g[i]? = some x → g1[i]? = some x) → cs.length = len * s → kn cs = true → H (.slice (some ⟨(A ++ g).length, 0, none⟩) (len + 1) fz) (A ++ (g1 ++ [.cells (cs ++ e) true s])) := by
    intro g1 hg1 hkeep h1 h2
    refine hk _ _ ⟨?_, ?_, .inr ⟨g.length, fz, s, rfl, by simp, by simp [← hg1], .inl ⟨rfl, rfl⟩⟩⟩ fun j x hj hx => get_app (hkeep j x hj hx)
    · rw [List.length_append, hel, h1, Nat.succ_mul]
    · unfold kn at *
      rw [List.all_append, h2, hek]
      rfl
  obtain ⟨h1, h2, ⟨rfl, rfl, rfl⟩ | ⟨i, c, sz, rfl, rfl, h5, h6⟩⟩ := ho
  · have hcs : cs = [] := List.length_eq_zero_iff.1 (by omega)
    subst hcs
    refine app_nil hs hy (by omega) (fun e => absurd e (by omega)) fun _ => ?_
    rw [List.append_assoc]
    exact new g rfl (fun _ _ _ hx => hx) h1 h2
  · have hlt := (List.getElem?_eq_some_iff.1 h5).1
    have ht : cs.take (len * s) = cs := List.take_of_length_le (by omega)
    rcases h6 with ⟨rfl, rfl⟩ | rfl
    · refine app_own (cs := cs) (by rw [back_get]; exact h5) (by omega) (by rw [ht]; exact h2) hs hy (by omega) ?_
      rw [back_set, List.append_assoc, ht]
      exact new _ (by simp) (fun j x hj hx => get_set hx fun e => hj (by rw [e])) h1 h2
    · refine app_copy (cs := cs) (by rw [back_get]; exact h5) (by omega) (by rw [List.drop_zero, ht]; exact h2) (by omega) hs hy (by omega) ?_
      rw [List.append_assoc, List.drop_zero, ht]
      exact new g rfl (fun _ _ _ hx => hx) h1 h2
theorem hfa {nv : Value} {k : Nat} {s : Int} {rest : List AObj} (hs : 0 ≤ s ∧ s < 18446744073709551616) (hk : k < 1000000) {ns : List Int} (sn : Sli h nv 1 ns.length (ns.map vint)) (hln : ns.length < 4611686018427387904) : HandAt (HF h nv k s rest ++ g) h.length nv ns k s := by
  rw [hf_app]
  exact hf_hand sn hln hk hs.1 hs.2
theorem hfd {nv : Value} {k n : Nat} {s : Int} {rest h' : List AObj} (hd : Dealt (HF h nv k s rest ++ g) h.length nv k n h') : ∃ k' s', k' ≤ k + n ∧ (0 ≤ s' ∧ s' < 18446744073709551616) ∧ h' = HF h nv k' s' rest ++ g := by
  rw [hf_app] at hd
  obtain ⟨k', s', a, b, c, rfl⟩ := hf_dealt hd
  exact ⟨k', s', a, ⟨b, c⟩, by rw [hf_app]⟩
structure Hnd (h : List AObj) (nv : Value) (ns : List Int) : Prop where
  list : Sli h nv 1 ns.length (ns.map vint)
  sane : ns.length < 4611686018427387904
variable {nv : Value} {ns : List Int} {rest : List AObj} {k : Nat} {s : Int}
section
variable {KV : Value → Prop} {a b : Int} {t : TypeId} {h : List AObj}
theorem offI {b o d : Nat} (hk : KV (ptr b (o + d))) : aOff (ptr b o) d KV := hk
theorem fillI {c : List Value} {KL : List Value → Prop} (hk : KL c) : aFill c [] KL := hk
theorem nilI {b o : Nat} (hk : KV (ptr b o)) : aNil (ptr b o) KV := hk
theorem addI (h : -9223372036854775808 ≤ a + b ∧ a + b < 9223372036854775808) (hk : KV (vint (a + b))) : aBin prog .add t (vint a) (vint b) KV := by rw [b_add h]; exact hk
theorem subI (h : -9223372036854775808 ≤ a - b ∧ a - b < 9223372036854775808) (hk : KV (vint (a - b))) : aBin prog .sub t (vint a) (vint b) KV := by rw [b_sub h]; exact hk
theorem minI (hk : KV (vint (min a b))) : aMin (vint a) [vint b] KV := by rw [a_min]; exact hk
theorem maxI (hk : KV (vint (max a b))) : aMax (vint a) [vint b] KV := by rw [a_max]; exact hk
theorem lssI (hk : KV (.bool (decide (a < b)))) : aBin prog .lss t (vint a) (vint b) KV := by rw [b_lss]; exact hk
theorem gtrI (hk : KV (.bool (decide (a > b)))) : aBin prog .gtr t (vint a) (vint b) KV := by rw [b_gtr]; exact hk
theorem geqI (hk : KV (.bool (decide (a ≥ b)))) : aBin prog .geq t (vint a) (vint b) KV := by rw [b_geq]; exact hk
theorem leqI (hk : KV (.bool (decide (a ≤ b)))) : aBin prog .leq t (vint a) (vint b) KV := by rw [b_leq]; exact hk
theorem eqlI (hk : KV (.bool (decide (a = b)))) : aBin prog .eql t (vint a) (vint b) KV := by rw [b_eql]; exact hk
theorem neqI (hk : KV (.bool (decide (a ≠ b)))) : aBin prog .neq t (vint a) (vint b) KV := by rw [b_neq]; exact hk
theorem notI {x : Bool} (hk : KV (.bool (!x))) : aUn .not (.bool x) KV := hk
theorem cndI {p : Prop} [Decidable p] {A B : Prop} (h1 : p → A) (h2 : ¬ p → B) : cnd (.bool (decide p)) A B := cnd_dec.2 ⟨h1, h2⟩
theorem cndN {p : Prop} [Decidable p] {A B : Prop} (h1 : ¬ p → A) (h2 : p → B) : cnd (.bool (!decide p)) A B := cnd_ndec.2 ⟨h1, h2⟩
theorem lenI {v : Value} {s n : Nat} {cells : List Value} (hs : Sli h v s n cells) (hk : KV (vint n)) : aLenS v KV := by rw [sli_len hs]; exact hk
theorem ldI {b o s : Nat} {c : List Value} {wr : Bool} {sz : Nat} {v : Value} (hb : h[b]? = some (.cells c wr sz)) (hv : c[o]? = some v) (hn : kn1 v = true) (hk : KV v) : aLoad false s (ptr b o) h KV := by rw [load_cell hb hv hn]; exact hk
theorem idxI {s b o n c : Nat} {j : Int} (h1 : 0 ≤ j ∧ j < n) (hk : KV (ptr b (o + j.toNat * s))) : aIdx s (.slice (some ⟨b, o, none⟩) n c) (vint j) KV := by rw [idx_ok]; exact ⟨h1, hk⟩
theorem ext0 {a b : Value} (hk : KV a) : aExt (.tuple ⟨[a, b]⟩) 0 KV := hk
theorem ext1 {a b : Value} (hk : KV b) : aExt (.tuple ⟨[a, b]⟩) 1 KV := hk
theorem ext30 {a b c : Value} (hk : KV a) : aExt (.tuple ⟨[a, b, c]⟩) 0 KV := hk
theorem ext31 {a b c : Value} (hk : KV b) : aExt (.tuple ⟨[a, b, c]⟩) 1 KV := hk
theorem ext32 {a b c : Value} (hk : KV c) : aExt (.tuple ⟨[a, b, c]⟩) 2 KV := hk
end
theorem up (hJ : Closed prog main J) (hn : Hnd h nv ns) (hs : 0 ≤ s ∧ s < 18446744073709551616) (hk : k < 1000000) {m : Int} (hm : m < 1000000)
    (hK : ∀ y k' s', 0 ≤ y → (y ≤ m ∨ y = 0) → k' ≤ k + 1 → (0 ≤ s' ∧ s' < 18446744073709551616) → K (vint y) (HF h nv k' s' rest ++ g)) : Good prog J 23 [ptr h.length 0, vint m] (HF h nv k s rest ++ g) K := by
  refine good23 hJ (hfa hs hk hn.list hn.sane) (by omega) fun y h1 a b hd => ?_
  obtain ⟨k', s', c, d, rfl⟩ := hfd hd
  exact hK y k' s' a b c d
theorem amo (hJ : Closed prog main J) (hn : Hnd h nv ns) (hs : 0 ≤ s ∧ s < 18446744073709551616) (hk : k < 1000000) {lo hi : Int} (h1 : -1000000 ≤ lo ∧ lo ≤ 1000000) (h2 : -1000000 ≤ hi ∧ hi ≤ 1000000)
    (hK : ∀ y k' s', lo ≤ y → (y ≤ hi ∨ y = lo) → k' ≤ k + 1 → (0 ≤ s' ∧ s' < 18446744073709551616) → K (vint y) (HF h nv k' s' rest ++ g)) : Good prog J 33 [ptr h.length 0, vint lo, vint hi] (HF h nv k s rest ++ g) K := by
  refine good33 hJ (hfa hs hk hn.list hn.sane) (by omega) (by omega) fun y h1 a b hd => ?_
  obtain ⟨k', s', c, d, rfl⟩ := hfd hd
  exact hK y k' s' a b c d
end
end Go.Proofs.Ytindillghipjjaa
namespace Go.Proofs.Ytindillghipjjaa
open Go.Conc Go.Proofs.Try
set_option maxRecDepth 100000
def SameX (X : List Nat) (h H : List AObj) : Prop := h.length ≤ H.length ∧ ∀ i, i < h.length → i ∉ X → H[i]? = h[i]?
theorem SameX.refl {X : List Nat} {h : List AObj} : SameX X h h := ⟨Nat.le_refl _, fun _ _ _ => rfl⟩
theorem SameX.trans {X : List Nat} {h H H' : List AObj} (a : SameX X h H) (b : SameX X H H') : SameX X h H' :=
  ⟨Nat.le_trans a.1 b.1, fun i hi hx => by rw [b.2 i (Nat.lt_of_lt_of_le hi a.1) hx, a.2 i hi hx]⟩
theorem SameX.app {X : List Nat} {h H g : List AObj} (a : SameX X h H) : SameX X h (H ++ g) :=
  ⟨by have := a.1; simp; omega, fun i hi hx => by rw [List.getElem?_append_left (Nat.lt_of_lt_of_le hi a.1), a.2 i hi hx]⟩
theorem SameX.set {X : List Nat} {h H : List AObj} {i : Nat} {o : AObj} (a : SameX X h H) (hi : i ∈ X ∨ h.length ≤ i) : SameX X h (H.set i o) :=
  ⟨by have := a.1; simp; omega, fun j hj hx => by
    rw [List.getElem?_set, if_neg, a.2 j hj hx]
    rintro rfl
    rcases hi with hi | hi
    · exact hx hi
    · omega⟩
theorem SameX.get {X : List Nat} {h H : List AObj} {i : Nat} {o : AObj} (a : SameX X h H) (hx : h[i]? = some o) (hi : i ∉ X) : H[i]? = some o := by
  rw [a.2 i (List.getElem?_eq_some_iff.1 hx).1 hi, hx]
theorem SameX.pre {X : List Nat} {h0 g H : List AObj} (a : SameX X (h0 ++ g) H) (hX : ∀ x ∈ X, h0.length ≤ x) : ∃ g', H = h0 ++ g' := by
  refine ⟨H.drop h0.length, ?_⟩
  have : H.take h0.length = h0 := by
    apply List.ext_getElem?
    intro i
    rw [List.getElem?_take]
    split
    · rename_i hi
      rw [a.2 i (by simp; omega) (fun hx => by have := hX i hx; omega), List.getElem?_append_left hi]
    · rename_i hi
      rw [List.getElem?_eq_none (by omega)]
  conv => lhs; rw [← List.take_append_drop h0.length H, this]
end Go.Proofs.Ytindillghipjjaa
namespace Go.Proofs.Ytindillghipjjaa
open Go.Conc Go.Proofs.Try
set_option maxRecDepth 100000
def OwnX (H : List AObj) (s : Nat) (cs : List Value) (len : Nat) (v : Value) (o : Option Nat) : Prop :=
  cs.length = len * s ∧ kn cs = true ∧ ((len = 0 ∧ v = .slice none 0 0 ∧ o = none) ∨ ∃ i c sz, o = some i ∧ v = .slice (some ⟨i, 0, none⟩) len c ∧ H[i]? = some (.cells cs true sz) ∧ ((c = fz ∧ sz = s) ∨ c = len))
section
variable {h H : List AObj} {K : Value → List AObj → Prop} {KV : Value → Prop} {HL : List AObj → Prop} {n0 : Nat}
theorem SameX.weak {X Y : List Nat} {h H : List AObj} (a : SameX X h H) (hxy : ∀ x ∈ X, x ∈ Y) : SameX Y h H := ⟨a.1, fun i hi hx => a.2 i hi fun hm => hx (hxy i hm)⟩
theorem SameX.weak0 {Y : List Nat} {h H : List AObj} (a : SameX [] h H) : SameX Y h H := a.weak (by simp)
theorem SameX.thru {X Y : List Nat} {h H H' : List AObj} (a : SameX X h H) (b : SameX Y H H') (hy : ∀ y ∈ Y, y ∈ X ∨ h.length ≤ y) : SameX X h H' :=
  ⟨Nat.le_trans a.1 b.1, fun i hi hx => by
    rw [b.2 i (Nat.lt_of_lt_of_le hi a.1) fun hm => ?_, a.2 i hi hx]
    rcases hy i hm with h1 | h1
    · exact hx h1
    · omega⟩
theorem SameX.app0 {X : List Nat} {h H : List AObj} (a : SameX X h H) (hX : ∀ x ∈ X, h.length ≤ x) : ∃ g, H = h ++ g := by
  have := SameX.pre (h0 := h) (g := []) (X := X) (H := H) (by simpa using a) hX
  exact this
theorem lt_of_get {i : Nat} {o : AObj} (hx : H[i]? = some o) : i < H.length := (List.getElem?_eq_some_iff.1 hx).1
theorem SameX.sli {X : List Nat} {v : Value} {s n : Nat} {cs : List Value} (a : SameX X h H) (hs : Sli h v s n cs) (hX : ∀ x ∈ X, h.length ≤ x) : Sli H v s n cs := by
  obtain ⟨g, rfl⟩ := a.app0 hX
  exact sli_app hs
theorem qAl {l : List Value} (hk : ∀ H' p, p = H.length → SameX [] H H' → H'[p]? = some (.cells l true 0) → H'.length = p + 1 → K (ptr p 0) H') : aAlloc l H K :=
  hk _ _ rfl SameX.refl.app (by simp) (by simp)
theorem qBox {l : List Value} (h1 : l.all one = true) (hk : ∀ H' p, p = H.length → SameX [] H H' → H'[p]? = some (.cells l true 0) → H'.length = p + 1 → K (ptr p 0) H') : aBox (.agg ⟨l⟩) H K :=
  box_agg h1 (hk _ _ rfl SameX.refl.app (by simp) (by simp))
theorem qBox1 {v : Value} (hc : v.cells = #[v]) (h1 : one v = true) (hk : ∀ H' p, p = H.length → SameX [] H H' → H'[p]? = some (.cells [v] true 0) → H'.length = p + 1 → K (ptr p 0) H') : aBox v H K :=
  box_one hc h1 (hk _ _ rfl SameX.refl.app (by simp) (by simp))
theorem qNew {n : Nat} {l : List Value} (hk : ∀ H' p, p = H.length → SameX [] H H' → H'[p]? = some (.cells l true 0) → H'.length = p + 1 → K (.slice (some ⟨p, 0, none⟩) n n) H') : aNewS n l H K :=
  hk _ _ rfl SameX.refl.app (by simp) (by simp)
theorem qSt {b o : Nat} {c : List Value} {sz : Nat} {v : Value} (hb : H[b]? = some (.cells c true sz)) (ho : o < c.length) (h1 : v.cells = #[v]) (h2 : one v = true) (hk : ∀ H', SameX [b] H H' → H'[b]? = some (.cells (c.set o v) true sz) → H'.length = H.length → HL H') : aStore 1 (ptr b o) v H HL :=
  store_cell hb ho h1 h2 (hk _ (SameX.refl.set (.inl (by simp))) (List.getElem?_set_self (lt_of_get hb)) (by simp))
theorem qStA {b n : Nat} {cs c : List Value} {sz : Nat} (hb : H[b]? = some (.cells cs true sz)) (hl : c.length = n) (hs : cs.length = n) (h1 : c.all one = true) (hk : ∀ H', SameX [b] H H' → H'[b]? = some (.cells c true sz) → H'.length = H.length → HL H') : aStore n (ptr b 0) (.agg ⟨c⟩) H HL :=
  store_agg hb hl hs h1 (hk _ (SameX.refl.set (.inl (by simp))) (List.getElem?_set_self (lt_of_get hb)) (by simp))
theorem ownX_iff {s len : Nat} {cs : List Value} {v : Value} {o : Option Nat} : OwnX H s cs len v o ↔ OwnE 0 H s cs len v o := by
  simp [OwnX, OwnE]
theorem ownX_keep {s len : Nat} {cs : List Value} {v : Value} {o : Option Nat} {H' : List AObj} {X : List Nat} (ho : OwnX H s cs len v o) (a : SameX X H H') (hX : ∀ i, o = some i → i ∉ X) : OwnX H' s cs len v o := by
  obtain ⟨h1, h2, h3 | ⟨i, c, sz, rfl, h4, h5, h6⟩⟩ := ho
  · exact ⟨h1, h2, .inl h3⟩
  · exact ⟨h1, h2, .inr ⟨i, c, sz, rfl, h4, a.get h5 (hX i rfl), h6⟩⟩
theorem ownX_sli {s len : Nat} {cs : List Value} {v : Value} {o : Option Nat} (ho : OwnX H s cs len v o) : Sli H v s len cs := by
  have := ownE_sli (A := []) (ownX_iff.1 ho)
  exact this
theorem ownX_val {s len : Nat} {cs : List Value} {v : Value} {o : Option Nat} (ho : OwnX H s cs len v o) : v.cells = #[v] ∧ one v = true ∧ kn1 v = true := ownE_val (ownX_iff.1 ho)
theorem ownX_lt {s len : Nat} {cs : List Value} {v : Value} {o : Option Nat} (ho : OwnX H s cs len v o) : ∀ i, o = some i → i < H.length := fun _ hi => ownE_lt (ownX_iff.1 ho) hi
theorem ownX_new {s n p : Nat} {l : List Value} (hp : H[p]? = some (.cells l true 0)) (hl : l.length = n * s) (hk : kn l = true) : OwnX H s l n (.slice (some ⟨p, 0, none⟩) n n) (some p) :=
  ⟨hl, hk, .inr ⟨p, n, 0, rfl, rfl, hp, .inr rfl⟩⟩
theorem ownX_more {s len : Nat} {cs e : List Value} {v y : Value} {o : Option Nat} (ho : OwnX H s cs len v o) (hs : 0 < s) (hl : len < 100000) (hy : Sli H y s 1 e)
    (hk : ∀ v' H' p, p = H.length → OwnX H' s (cs ++ e) (len + 1) v' (some p) → SameX o.toList H H' → K v' H') : aApp s v y H K := by
  have hlo := ownX_lt ho
  refine ownE_more (A := []) (g := H) (ownX_iff.1 ho) hs hl hy fun v' g' ho' hkeep => hk v' ([] ++ g') _ rfl (ownX_iff.2 ho') ⟨?_, fun i hi hx => ?_⟩
  · have := ownE_lt ho' rfl
    simp only [List.nil_append]
    omega
  · have hx' : o ≠ some i := fun e => hx (by rw [e]; simp)
    obtain ⟨x, hxx⟩ : ∃ x, H[i]? = some x := ⟨H[i], List.getElem?_eq_getElem hi⟩
    rw [hxx]
    exact hkeep i x hx' hxx
theorem retX {X : List Nat} {vs : List Value} (ok : heapOk h) (hn : n0 ≤ h.length) (S : SameX X h H) (hX : ∀ x ∈ X, h.length ≤ x) (hv : ∀ v ∈ vs, v ≠ unk) (hw : VOk h.length (pack vs)) (hk : K (pack vs) h) : retL n0 K [] vs H := by
  obtain ⟨g, rfl⟩ := S.app0 hX
  exact retL_drop ok hn hv hw hk
end
end Go.Proofs.Ytindillghipjjaa
namespace Go.Proofs.Ytindillghipjjaa
open Go.Conc Go.Proofs.Try
set_option maxRecDepth 100000
def HX (h H : List AObj) (ns : List Int) (k : Nat) : Prop := ∃ nv k' s rest, H = HF h nv k' s rest ∧ k' ≤ k ∧ (0 ≤ s ∧ s < 18446744073709551616) ∧ Hnd h nv ns
section
variable {main : Bool} {J : JT} {h H : List AObj} {K : Value → List AObj → Prop} {ns : List Int} {k : Nat}
theorem HX.mono {k' : Nat} (a : HX h H ns k) (hk : k ≤ k') : HX h H ns k' := by
  obtain ⟨nv, k1, s, rest, e, h1, h2, h3⟩ := a
  exact ⟨nv, k1, s, rest, e, by omega, h2, h3⟩
theorem HX.pre (a : HX h H ns k) : SameX [] h H := by
  obtain ⟨nv, k1, s, rest, rfl, _⟩ := a
  exact SameX.refl.app
theorem HX.same {X : List Nat} {H' : List AObj} (a : HX h H ns k) (S : SameX X H H') (hX : ∀ x ∈ X, h.length < x) : HX h H' ns k := by
  obtain ⟨nv, k1, s, rest, rfl, h1, h2, h3⟩ := a
  have e : HF h nv k1 s rest = (h ++ [.cells [nv, vint k1, .int .u64 s] true 0]) ++ rest := by simp [HF]
  rw [e] at S
  obtain ⟨g, hg⟩ := S.pre (fun x hx => by have := hX x hx; simp; omega)
  exact ⟨nv, k1, s, g, by rw [hg]; simp [HF], h1, h2, h3⟩
theorem hf_same {nv : Value} {k1 k2 : Nat} {s1 s2 : Int} {rest g : List AObj} : SameX [h.length] (HF h nv k1 s1 rest) (HF h nv k2 s2 rest ++ g) := by
  refine ⟨by rw [hf_app, hf_len, hf_len]; simp, fun i hi hx => ?_⟩
  simp at hx
  rw [List.getElem?_append_left (by rw [hf_len] at hi ⊢; omega)]
  unfold HF
  rcases Nat.lt_or_ge i h.length with x | x
  · rw [List.getElem?_append_left x, List.getElem?_append_left x]
  · rw [List.getElem?_append_right x, List.getElem?_append_right x]
    obtain ⟨j, hj⟩ : ∃ j, i - h.length = j + 1 := ⟨i - h.length - 1, by omega⟩
    rw [hj]
    rfl
theorem newX (hJ : Closed prog main J) {nv : Value} (sn : Sli h nv 1 ns.length (ns.map vint)) (hln : ns.length < 4611686018427387904)
    (hK : ∀ H, HX h H ns 0 → K (ptr h.length 0) H) : Good prog J 20 [nv] h K := by
  obtain ⟨nb, nc, hnv, _⟩ := id sn
  subst hnv
  exact good20 hJ (hK _ ⟨_, 0, 88172645463325252, [], rfl, Nat.le_refl _, by omega, ⟨sn, hln⟩⟩)
theorem upX (hJ : Closed prog main J) (a : HX h H ns k) (hk : k < 1000000) {m : Int} (hm : m < 1000000)
    (hK : ∀ y H', 0 ≤ y → (y ≤ m ∨ y = 0) → SameX [h.length] H H' → H'.length = H.length → HX h H' ns (k + 1) → K (vint y) H') : Good prog J 23 [ptr h.length 0, vint m] H K := by
  obtain ⟨nv, k1, s, rest, rfl, h1, h2, h3⟩ := a
  have := up (k := k1) (g := []) (rest := rest) (K := K) hJ h3 h2 (by omega) hm fun y k' s' a1 a2 a3 a4 => hK y _ a1 a2 hf_same (by simp [hf_len]) ⟨nv, k', s', rest, by simp, by omega, a4, h3⟩
  simpa using this
theorem amX (hJ : Closed prog main J) (a : HX h H ns k) (hk : k < 1000000) {lo hi : Int} (h1 : -1000000 ≤ lo ∧ lo ≤ 1000000) (h2 : -1000000 ≤ hi ∧ hi ≤ 1000000)
    (hK : ∀ y H', lo ≤ y → (y ≤ hi ∨ y = lo) → SameX [h.length] H H' → H'.length = H.length → HX h H' ns (k + 1) → K (vint y) H') : Good prog J 33 [ptr h.length 0, vint lo, vint hi] H K := by
  obtain ⟨nv, k1, s, rest, rfl, b1, b2, b3⟩ := a
  have := amo (k := k1) (g := []) (rest := rest) (K := K) hJ b3 b2 (by omega) h1 h2 fun y k' s' a1 a2 a3 a4 => hK y _ a1 a2 hf_same (by simp [hf_len]) ⟨nv, k', s', rest, by simp, by omega, a4, b3⟩
  simpa using this
end
end Go.Proofs.Ytindillghipjjaa
namespace Go.Proofs.Ytindillghipjjaa
open Go.Conc Go.Proofs.Try
set_option maxRecDepth 100000
section
variable {main : Bool} {J : JT} {h H : List AObj} {K : Value → List AObj → Prop} {KV : Value → Prop} {n0 : Nat}
theorem appX {s m p : Nat} {y : Value} {ys : List Value} (hp : H[p]? = some (.cells [] true 0)) (hs : 0 < s) (hm : m < 1000000) (hy : Sli H y s m ys)
    (hk : ∀ v' H' p', OwnX H' s ys m v' (some p') → SameX [] H H' → (p' = p ∨ p' = H.length) → K v' H') : aApp s (.slice (some ⟨p, 0, none⟩) 0 0) y H K := by
  have hr : room = 1073741824 := rfl
  have hy' := hy
  have hkn : kn ys = true := by
    obtain ⟨_, _, _, ⟨_, h⟩, _⟩ := hy
    exact h
  have hvl := sli_vlen hy
  by_cases h0 : m = 0
  · subst h0
    have hys : ys = [] := List.length_eq_zero_iff.1 (by omega)
    subst hys
    obtain ⟨yb, yc, rfl, _⟩ := hy
    refine ⟨by omega, src_sli hy' hs ?_⟩
    simp only [hp]
    have hf : fz = 1180591620717411303424 := rfl
    refine ⟨⟨by simp, by simp [kn]⟩, fun _ => ⟨fun _ => ⟨trivial, by simp, ?_⟩, fun x => absurd x (by simp)⟩, fun x => absurd x (by omega)⟩
    have e : H.set p (.cells (wrAt [] (0 + 0 * s) []) true 0) = H := by
      apply List.ext_getElem?
      intro i
      rw [List.getElem?_set]
      split
      · rename_i e
        subst e
        have := lt_of_get hp
        rw [if_pos this]
        simpa [wrAt] using hp.symm
      · rfl
    have := hk (.slice (some ⟨p, 0, none⟩) 0 0) H p ⟨by simp, rfl, .inr ⟨p, 0, 0, rfl, rfl, hp, .inr rfl⟩⟩ SameX.refl (.inl rfl)
    first
    | simpa [wrAt, e] using this
    | (rw [show (wrAt ([] : List Value) (0 + 0 * s) []) = [] from by simp [wrAt]] at e; simpa [wrAt, e] using this)
  · refine app_copy (n := 0) (m := m) (cs := []) (wr := true) (sz := 0) hp (by simp) (by simp [kn]) (by omega) hs hy' (by omega) ?_
    simp only [Nat.zero_mul, List.drop_nil, List.take_nil, List.nil_append, Nat.zero_add]
    exact hk _ _ H.length ⟨hvl, hkn, .inr ⟨H.length, fz, s, rfl, rfl, by simp, .inl ⟨rfl, rfl⟩⟩⟩ SameX.refl.app (.inr rfl)
end
end Go.Proofs.Ytindillghipjjaa
namespace Go.Proofs.Ytindillghipjjaa
open Go.Conc Go.Proofs.Try
set_option maxRecDepth 100000
section
variable {main : Bool} {J : JT} {h H : List AObj} {K : Value → List AObj → Prop} {KV : Value → Prop} {HL : List AObj → Prop} {n0 : Nat}
theorem knV (l : List Int) : kn (l.map vint) = true := by
  simp [kn, kn1]
theorem sliN {v : Value} {xs : List Int} (hs : Sli h v 1 xs.length (xs.map vint)) {i : Nat} {x : Int} (hx : xs[i]? = some x) {K2 : Value → Value → Prop} (hK : ∀ p, K2 p (vint x)) : aIdx 1 v (vint (i : Nat)) fun p => aLoad false 1 p h (K2 p) := by
  have hi := (List.getElem?_eq_some_iff.1 hx).1
  exact idx_load hs ⟨by omega, by omega⟩ (by rw [Int.toNat_natCast, List.getElem?_map, hx]; rfl) hK
theorem fillO {m : List Value} {o s : Nat} {v : Value} {l : List Value} {ps : List (Nat × Nat × Value)} {KL : List Value → Prop} (hv : v.cells.toList = l) (hs : l.length = s) (ho : l.all one = true) (hl : o + s ≤ m.length) (hk : aFill (wrAt m o l) ps KL) : aFill m ((o, s, v) :: ps) KL := by
  subst hv
  exact ⟨hs, ho, hl, hk⟩
theorem retQs {n0 : Nat} {rs : List ResultVar} {f : RG} (ds : f.ds = []) (hr : resW prog rs f.r h fun vs => K (pack vs) h) : RetQ prog rs n0 K .ret f h := by
  unfold RetQ
  rw [ds]
  exact resW_imp rs hr fun vs hk => .inl hk
theorem nu2 {a b : Value} (ha : a ≠ unk) (hb : b ≠ unk) : ∀ v ∈ [a, b], v ≠ unk := by
  intro v hv
  simp only [List.mem_cons, List.not_mem_nil, or_false] at hv
  rcases hv with rfl | rfl <;> assumption
theorem cndB {b : Bool} {A B : Prop} (h1 : b = true → A) (h2 : b = false → B) : cnd (.bool b) A B := by
  cases b
  · exact cnd_false.2 (h2 rfl)
  · exact cnd_true.2 (h1 rfl)
theorem sliBlk {v : Value} {xs : List Int} (hs : Sli H v 1 xs.length (xs.map vint)) (h0 : 0 < xs.length) : ∃ b, b < H.length ∧ ∀ {H' : List AObj} {i : Nat} {x : Int} {K2 : Value → Value → Prop}, SameX [] H H' → xs[i]? = some x → (∀ o, K2 (ptr b o) (vint x)) → aIdx 1 v (vint (i : Nat)) fun p => aLoad false 1 p H' (K2 p) := by
  obtain ⟨base, c, rfl, ⟨hl, hkn⟩, ⟨_, hz⟩ | ⟨b, o, rfl, hz | ⟨cs, wr, sz, hb, hc⟩⟩⟩ := hs
  · omega
  · omega
  · refine ⟨b, lt_of_get hb, fun {H' i x K2} S hx hk => ?_⟩
    have hi := (List.getElem?_eq_some_iff.1 hx).1
    refine idxI ⟨by omega, by omega⟩ (ldI (v := vint x) (S.get hb (by simp)) ?_ rfl (hk _))
    have e : (xs.map vint)[i]? = some (vint x) := by rw [List.getElem?_map, hx]; rfl
    rw [← hc, List.getElem?_take_of_lt (by omega), List.getElem?_drop] at e
    rw [Int.toNat_natCast, Nat.mul_one]
    exact e
theorem callCz {g : FuncId} {args cap : List Value} (hg : Nat.blt g prog.funcs.size = true) (hk : Good prog J g (args ++ cap) H K) : callV prog (Good prog J) (.func (.func g) ⟨[]⟩ ⟨cap⟩) args H K := by
  show (bif Nat.blt g prog.funcs.size then Good prog J g ([] ++ args ++ cap) H K else False)
  rw [hg, cond_true, List.nil_append]
  exact hk
theorem retLdef {n0 n : Nat} {vs : List Value} (hd : h[n]? = some .deferred) (hv : ∀ v ∈ vs, v ≠ unk) (hk : K (pack vs) (h.set n .dead)) : retL n0 K [n] vs h := by
  have := retL_same (n0 := n0) (H := K) hv hk
  unfold retL at *
  exact ⟨hd, this⟩
theorem appIn {b k m : Nat} {cs : List Value} {v y : Value} (hb : H[b]? = some (.cells cs true 0)) (hl : cs.length = m) (hk : k < m) (hm : m < 1000) (hc : kn (cs.take k) = true) (hy : Sli H y 1 1 [v])
    (hK : ∀ H', SameX [b] H H' → H'[b]? = some (.cells (cs.set k v) true 0) → H'.length = H.length → K (.slice (some ⟨b, 0, none⟩) (k + 1) m) H') : aApp 1 (.slice (some ⟨b, 0, none⟩) k m) y H K := by
  have hfz : (1000 : Nat) < fz := by decide
  have hrm : (2000 : Nat) < room := by decide
  obtain ⟨yb, yc, rfl, hyk, hh⟩ := id hy
  refine ⟨by omega, src_sli hy (by omega) ?_⟩
  simp only [hb]
  refine ⟨⟨by omega, by simpa using hc⟩, fun _ => ⟨fun _ => ⟨trivial, by omega, ?_⟩, fun h => absurd h (by omega)⟩, fun h => absurd h (by omega)⟩
  have e : wrAt cs (0 + k * 1) [v] = cs.set k v := by simp [wrAt]
  rw [e]
  exact hK _ (SameX.refl.set (.inl (by simp))) (List.getElem?_set_self (lt_of_get hb)) (by simp)
theorem sbOne {X : List Nat} {p : Nat} {H H' : List AObj} (S : SameX X H H') (hp : p < H.length) (hX : p ∉ X) : SameB (some [p]) H H' := fun b hb => by
  simp at hb
  subst hb
  exact S.2 _ hp hX
theorem sbTwo {X : List Nat} {p q : Nat} {H H' : List AObj} (S : SameX X H H') (hp : p < H.length) (hq : q < H.length) (hX : p ∉ X) (hY : q ∉ X) : SameB (some [p, q]) H H' := fun b hb => by
  simp at hb
  rcases hb with rfl | rfl
  · exact S.2 _ hp hX
  · exact S.2 _ hq hY
theorem endQexit {n id : Nat} {f : RG} {Q : QT} {v : Value} {st : LoopState} {fn : FuncId} {r : Nat → Value} {size : Nat} {params : Array Tmp} {assign body : Code} {dfr : Nat} (hl : h[n + 1]? = some (.loop st (some (.exit id)) fn r size params assign body dfr)) (hs : st ≠ .busy) (hq : Q (.exit id) ⟨f.r, n :: f.ds⟩ (h.set (n + 1) .dead)) : endQ n f Q v h :=
  ⟨st, some (.exit id), _, _, _, _, _, _, _, hl, hs, hq⟩
theorem endQnorm {n : Nat} {f : RG} {Q : QT} {v : Value} {st : LoopState} {fn : FuncId} {r : Nat → Value} {size : Nat} {params : Array Tmp} {assign body : Code} {dfr : Nat} (hl : h[n + 1]? = some (.loop st none fn r size params assign body dfr)) (hs : st ≠ .busy) (hq : Q .normal ⟨f.r, n :: f.ds⟩ (h.set (n + 1) .dead)) : endQ n f Q v h :=
  ⟨st, none, _, _, _, _, _, _, _, hl, hs, hq⟩
theorem ownU {s len : Nat} {cs : List Value} {v : Value} {o : Option Nat} (O : OwnX H s cs len v o) : v ≠ unk := by
  have := (ownX_val O).2.2
  intro e
  rw [e] at this
  cases this
theorem fillP2 {a b : Value} {KL : List Value → Prop} (ha : a.cells = #[a] ∧ one a = true) (hb : b.cells = #[b] ∧ one b = true) {z : Value} (hk : KL [a, b]) : aFill (zrep [z] 2) [(0, 1, a), (1, 1, b)] KL := by
  refine fillO (l := [a]) (by rw [ha.1]) rfl (by simp [ha.2]) (by show 0 + 1 ≤ 2; decide) ?_
  refine fillO (l := [b]) (by rw [hb.1]) rfl (by simp [hb.2]) (by rw [wrAt_length]; show 1 + 1 ≤ 2; decide) ?_
  exact fillI hk
theorem beqD (a b : Int) : (a == b) = decide (a = b) := by
  by_cases h : a = b
  · simp [h]
  · simp [h]
theorem eqlU {t : TypeId} {a b : UInt8} (hk : KV (.bool (decide (a = b)))) : aBin prog .eql t (.int .u8 a.toNat) (.int .u8 b.toNat) KV := by
  refine ⟨rfl, ?_⟩
  show KV (.bool (((a.toNat : Nat) : Int) == ((b.toNat : Nat) : Int)))
  rw [beqD]
  have : ((a.toNat : Nat) : Int) = ((b.toNat : Nat) : Int) ↔ a = b := by rw [Int.ofNat_inj]; exact UInt8.toNat_inj
  rw [decide_eq_decide.2 this]
  exact hk
theorem neqU {t : TypeId} {a b : UInt8} (hk : KV (.bool (decide (a ≠ b)))) : aBin prog .neq t (.int .u8 a.toNat) (.int .u8 b.toNat) KV := by
  refine ⟨rfl, ?_⟩
  show KV (.bool (((a.toNat : Nat) : Int) != ((b.toNat : Nat) : Int)))
  unfold bne
  rw [beqD, ← decide_not]
  have : (¬ ((a.toNat : Nat) : Int) = ((b.toNat : Nat) : Int)) ↔ a ≠ b := by rw [Int.ofNat_inj, UInt8.toNat_inj]
  rw [decide_eq_decide.2 this]
  exact hk
theorem byteI {l : List UInt8} {i : Nat} {b : UInt8} (hb : l[i]? = some b) (hk : KV (.int .u8 b.toNat)) : aIdxStr (.string ⟨⟨l⟩⟩) (vint (i : Nat)) KV := by
  refine ⟨by omega, ?_⟩
  show match l[((i : Nat) : Int).toNat]? with
    | some b => KV (.int .u8 b.toNat)
    | none => False
  rw [Int.toNat_natCast, hb]
  exact hk
theorem lenStrI {l : List UInt8} (hk : KV (vint l.length)) : aLenStr (.string ⟨⟨l⟩⟩) KV := hk
end
structure Pas where
  grass : Int
  bears : Int
  dry : Int
  wet : Int
  stubble : Int
  sleep : Int
  deriving DecidableEq
structure SkyR where
  days : Int
  drought : Int
  flood : Int
  deriving DecidableEq
def Pas.cells (p : Pas) : List Value := [vint p.grass, vint p.bears, vint p.dry, vint p.wet, vint p.stubble, vint p.sleep]
def SkyR.cells (s : SkyR) : List Value := [vint s.days, vint s.drought, vint s.flood]
def pasOk (p : Pas) : Prop := (1 ≤ p.bears ∧ p.bears ≤ 99) ∧ (0 ≤ p.grass ∧ p.grass ≤ p.bears) ∧ (0 ≤ p.dry ∧ p.dry ≤ 9) ∧ (p.dry ≤ p.wet ∧ p.wet ≤ 9) ∧ (0 ≤ p.stubble ∧ p.stubble ≤ p.bears) ∧ (0 ≤ p.sleep ∧ p.sleep ≤ 5)
instance (p : Pas) : Decidable (pasOk p) := by unfold pasOk; infer_instance
def pasE (p : Pas) : Int := if pasOk p then 0 else 1
def skyOk (s : SkyR) : Prop := (1 ≤ s.days ∧ s.days ≤ 8) ∧ (1 ≤ s.drought ∧ s.drought ≤ s.days) ∧ (1 ≤ s.flood ∧ s.flood ≤ s.days)
instance (s : SkyR) : Decidable (skyOk s) := by unfold skyOk; infer_instance
def skyE (s : SkyR) : Int := if skyOk s then 0 else 1
def fst2 (a b : Int) : Int := if a ≠ 0 then a else b
abbrev Std := Int × Int
def leftR (x : Std) (heads : Int) : Int := x.1 - min heads x.1
def hungR (x : Std) (heads : Int) : Bool := decide (heads > x.1)
def shortR (p : Pas) (x : Std) (heads : Int) : Bool := decide (heads > 0) && decide (leftR x heads < p.stubble)
def dayR (p : Pas) (x : Std) (heads : Int) (wet : Bool) : Std :=
  if shortR p x heads = true then (leftR x heads, p.sleep) else if x.2 > 0 then (leftR x heads, x.2 - 1) else (min p.bears (leftR x heads + (if wet = true then p.wet else p.dry)), x.2)
def medC (p : Pas) (x : Std) : List Value := p.cells ++ [vint x.1, vint x.2]
structure StdOk (p : Pas) (x : Std) : Prop where
  g : 0 ≤ x.1 ∧ x.1 ≤ p.bears
  a : 0 ≤ x.2 ∧ x.2 ≤ 5
theorem leftR_bd {p : Pas} {x : Std} (o : StdOk p x) {n : Int} (hn : 0 ≤ n) : 0 ≤ leftR x n ∧ leftR x n ≤ x.1 := by
  have := o.g
  unfold leftR
  omega
theorem dayR_ok {p : Pas} {x : Std} (f : pasOk p) (o : StdOk p x) {n : Int} (hn : 0 ≤ n) {w : Bool} : StdOk p (dayR p x n w) := by
  have hl := leftR_bd o hn
  have hg := o.g
  have ha := o.a
  obtain ⟨f1, f2, f3, f4, f5, f6⟩ := f
  unfold dayR
  split
  · exact ⟨by dsimp only; omega, by dsimp only; omega⟩
  · split
    · exact ⟨by dsimp only; omega, by dsimp only; omega⟩
    · refine ⟨?_, by dsimp only; omega⟩
      dsimp only
      split <;> omega
theorem std0_ok {p : Pas} (f : pasOk p) : StdOk p (p.grass, 0) := ⟨f.2.1, by dsimp only; omega⟩
def wetB (b : UInt8) : Bool := decide (b = 119)
def stdR (p : Pas) (heads : List Int) (rain : List UInt8) : Nat → Std
  | 0 => (p.grass, 0)
  | k + 1 => dayR p (stdR p heads rain k) (heads.getD k 0) (wetB (rain.getD k 0))
def hungAt (p : Pas) (heads : List Int) (rain : List UInt8) (k : Nat) : Bool := hungR (stdR p heads rain k) (heads.getD k 0)
def shortAt (p : Pas) (heads : List Int) (rain : List UInt8) (k : Nat) : Bool := shortR p (stdR p heads rain k) (heads.getD k 0)
def headsOk (heads : List Int) : Prop := ∀ n ∈ heads, 0 ≤ n ∧ n ≤ 40
theorem headsOk_getD {heads : List Int} (hh : headsOk heads) (k : Nat) : 0 ≤ heads.getD k 0 ∧ heads.getD k 0 ≤ 40 := by
  rw [List.getD_eq_getElem?_getD]
  cases e : heads[k]? with
  | none => exact ⟨Int.le_refl _, by decide⟩
  | some n => exact hh n (List.mem_of_getElem? e)
theorem stdR_ok {p : Pas} {heads : List Int} {rain : List UInt8} (f : pasOk p) (hh : headsOk heads) : ∀ k, StdOk p (stdR p heads rain k)
  | 0 => std0_ok f
  | k + 1 => dayR_ok f (stdR_ok f hh k) (headsOk_getD hh k).1
def fstH (q : Nat → Bool) : Nat → Int
  | 0 => -1
  | n + 1 => if fstH q n ≥ 0 then fstH q n else if q n = true then (n : Int) else -1
theorem fstH_none {q : Nat → Bool} : ∀ {n : Nat}, (∀ i, i < n → q i = false) → fstH q n = -1
  | 0, _ => rfl
  | n + 1, h => by
    unfold fstH
    rw [fstH_none fun i hi => h i (by omega), if_neg (by decide), if_neg (by rw [h n (by omega)]; decide)]
theorem fstH_pos {q : Nat → Bool} {i : Nat} (hq : q i = true) : ∀ {n : Nat}, i < n → 0 ≤ fstH q n
  | 0, h => absurd h (Nat.not_lt_zero _)
  | n + 1, h => by
    unfold fstH
    by_cases x : fstH q n ≥ 0
    · rw [if_pos x]
      exact x
    · rw [if_neg x]
      by_cases y : i = n
      · subst y
        rw [if_pos hq]
        omega
      · exact absurd (fstH_pos hq (by omega)) x
def starvR (p : Pas) (heads : List Int) (rain : List UInt8) : Int := fstH (hungAt p heads rain) rain.length
abbrev Spl := UInt8 × Int
def spC (x : Spl) : List Value := [.int .u8 x.1.toNat, vint x.2]
def nextX (x : Spl) (c : UInt8) : Spl := if x.1 ≠ c then (c, 1) else (c, x.2 + 1)
def nextOk (s : SkyR) (x : Spl) (c : UInt8) : Bool := if x.1 ≠ c then true else decide (x.2 < if c = 119 then s.flood else s.drought)
def growB (s : SkyR) : Nat → List UInt8 → Spl → List (List UInt8)
  | 0, w, _ => [w]
  | n + 1, w, x => (if nextOk s x 100 = true then growB s n (w ++ [100]) (nextX x 100) else []) ++ (if nextOk s x 119 = true then growB s n (w ++ [119]) (nextX x 119) else [])
def rainsB (s : SkyR) : List (List UInt8) := growB s s.days.toNat [] (0, 0)
theorem growB_len {s : SkyR} : ∀ {n : Nat} {w : List UInt8} {x : Spl}, ∀ u ∈ growB s n w x, u.length = w.length + n
  | 0, w, x, u, hu => by
    rw [List.mem_singleton.1 hu]
    rfl
  | n + 1, w, x, u, hu => by
    unfold growB at hu
    rcases List.mem_append.1 hu with hu | hu
    · split at hu
      · rw [growB_len u hu, List.length_append]
        simp
        omega
      · cases hu
    · split at hu
      · rw [growB_len u hu, List.length_append]
        simp
        omega
      · cases hu
theorem rainsB_len {s : SkyR} {u : List UInt8} (h : u ∈ rainsB s) : u.length = s.days.toNat := by
  have := growB_len u h
  simpa using this
theorem growB_few {s : SkyR} : ∀ {n : Nat} {w : List UInt8} {x : Spl}, (growB s n w x).length ≤ 2 ^ n
  | 0, w, x => Nat.le_refl _
  | n + 1, w, x => by
    unfold growB
    rw [List.length_append, Nat.pow_succ]
    have h1 := growB_few (s := s) (n := n) (w := w ++ [100]) (x := nextX x 100)
    have h2 := growB_few (s := s) (n := n) (w := w ++ [119]) (x := nextX x 119)
    split <;> split <;> simp <;> omega
theorem rainsB_few {s : SkyR} (f : skyOk s) : (rainsB s).length ≤ 256 := by
  have h1 := growB_few (s := s) (n := s.days.toNat) (w := []) (x := (0, 0))
  have h2 : 2 ^ s.days.toNat ≤ 2 ^ 8 := Nat.pow_le_pow_right (by decide) (by have := f.1; omega)
  unfold rainsB
  omega
section
variable {main : Bool} {J : JT} {h H : List AObj} {K : Value → List AObj → Prop} {KV : Value → Prop} {HL : List AObj → Prop} {n0 : Nat} {ns : List Int} {k : Nat}
theorem quoZ {t : TypeId} {a b : Int} (ha : 0 ≤ a ∧ a ≤ 1000000) (hb : 0 < b) (hk : KV (vint (a / b))) : aBin prog .quo t (vint a) (vint b) KV := by
  have h1 : Int.tdiv a b = a / b := Int.tdiv_eq_ediv_of_nonneg ha.1
  have h2 : 0 ≤ a / b := Int.ediv_nonneg ha.1 (by omega)
  have h3 : a / b ≤ a := Int.ediv_le_self _ ha.1
  simp only [aBin, aInt, true_and]
  rw [h1, wrap64 (by omega) (by omega)]
  exact ⟨by omega, hk⟩
theorem hxLt (a : HX h H ns k) : h.length < H.length := by
  obtain ⟨nv, k1, s, rest, rfl, _⟩ := a
  rw [hf_len]
  omega
theorem ofZ (hJ : Closed prog main J) (a : HX h H ns k) (hk : k < 1000000) {x : Int} {others : List Int} {p n c : Nat} (hp : H[p]? = some (.cells (others.map vint) true 0)) (hne : p ≠ h.length) (hn : others.length = n) (hl : n < 1000)
    (hK : ∀ y H', (y = x ∨ y ∈ others) → SameX [h.length] H H' → H'.length = H.length → HX h H' ns (k + 1) → K (vint y) H') : Good prog J 22 [ptr h.length 0, vint x, .slice (some ⟨p, 0, none⟩) n c] H K := by
  subst hn
  obtain ⟨nv, k1, s, rest, rfl, b1, b2, b3⟩ := a
  refine good22 hJ (hf_hand b3.list b3.sane (by omega) b2.1 b2.2) (others := others) (fun h' hd => ?_) (by omega) fun y h1 hy hd => ?_
  · obtain ⟨k', s', c1, c2, c3, rfl⟩ := hf_dealt hd
    have S := hf_same (h := h) (nv := nv) (k1 := k1) (k2 := k') (s1 := s) (s2 := s') (rest := rest) (g := [])
    rw [List.append_nil] at S
    exact sli_new (wr := true) (sz := 0) (S.get hp (by simpa using hne)) (by simp) (kn_ints _)
  · obtain ⟨k', s', c1, c2, c3, rfl⟩ := hf_dealt hd
    have S := hf_same (h := h) (nv := nv) (k1 := k1) (k2 := k') (s1 := s) (s2 := s') (rest := rest) (g := [])
    rw [List.append_nil] at S
    exact hK y _ hy S (by simp [hf_len]) ⟨nv, k', s', rest, rfl, by omega, ⟨c2, c3⟩, b3⟩
theorem good32 (hJ : Closed prog main J) (a : HX h H ns k) (hk : k < 400000) {D : Int} (hD : 1 ≤ D ∧ D ≤ 8)
    (hK : ∀ s H', skyOk s → s.days ≤ D → SameX [h.length] H H' → HX h H' ns (k + 3) → K (.agg ⟨s.cells⟩) H') : Good prog J 32 [ptr h.length 0, vint D] H K := by
  refine g32 hJ fun ok => ?_
  rw [e32]
  have hlt := hxLt a
  refine qAl fun H1 p1 e1 S1 c1 l1 => ?_
  have a1 := a.same S1 (by simp)
  refine amX hJ a1 (by omega) (by omega) (by omega) fun d H2 b1 b2 S2 l2 a2 => ?_
  refine fillO (l := [vint d]) rfl rfl rfl (Nat.le_of_ble_eq_true rfl) (fillI ?_)
  refine qAl fun H3 p3 e3 S3 c3 l3 => qStA (c := [vint d, vint 0, vint 0]) c3 rfl rfl rfl fun H4 S4 c4 l4 => ?_
  have a4 := (a2.same S3 (by simp)).same S4 (by simp; omega)
  have hp4 : p3 < H4.length := lt_of_get c4
  refine ⟨[p3], offI (ldI (v := vint d) c4 rfl rfl ⟨by simp [RdOk, ptrBlk, ptr], offI (ldI (v := vint d) c4 rfl rfl ⟨by simp [RdOk, ptrBlk, ptr], ?_⟩)⟩)⟩
  refine amX hJ a4 (by omega) (by omega) (by omega) fun u H5 d1 d2 S5 l5 a5 => ⟨sbOne S5 hp4 (by simp; omega), offI ?_⟩
  refine amX hJ a5 (by omega) (by omega) (by omega) fun w H6 f1 f2 S6 l6 a6 => ⟨sbOne (S5.trans S6) hp4 (by simp; omega), ?_⟩
  have T6 : SameX [h.length] H4 H6 := S5.trans S6
  refine qSt (T6.get c4 (by simp; omega)) (by simp) rfl rfl fun H7 S7 c7 l7 => offI (qSt c7 (by simp) rfl rfl fun H8 S8 c8 l8 => ?_)
  refine load_part (c := (⟨d, u, w⟩ : SkyR).cells) c8 (by simp) rfl rfl ?_
  have T4 : SameX [h.length] H H4 := (((S1.weak0).trans S2).trans S3.weak0).thru S4 (by simp; omega)
  have T8 : SameX [h.length] H H8 := ((T4.trans T6).thru S7 (by simp; omega)).thru S8 (by simp; omega)
  have c1' := S8.get (S7.get (T6.get (S4.get (S3.get (S2.get c1 (by simp; omega)) (by simp)) (by simp; omega)) (by simp; omega)) (by simp; omega)) (by simp; omega)
  refine qStA (c := (⟨d, u, w⟩ : SkyR).cells) c1' rfl rfl rfl fun H9 S9 c9 l9 => ?_
  refine retQs rfl (resW_cell (gg := true) (s := 3) (by kernel_rfl) (load_part (c := (⟨d, u, w⟩ : SkyR).cells) c9 (by simp [SkyR.cells]) rfl rfl (resW_nil ?_)))
  refine hK ⟨d, u, w⟩ H9 ⟨by show 1 ≤ d ∧ d ≤ 8; omega, by show 1 ≤ u ∧ u ≤ d; omega, by show 1 ≤ w ∧ w ≤ d; omega⟩ (by show d ≤ D; omega) (T8.thru S9 (by simp; omega)) (((a6.same S7 (by simp; omega)).same S8 (by simp; omega)).same S9 (by simp; omega))
set_option maxHeartbeats 800000 in
theorem good31 (hJ : Closed prog main J) (a : HX h H ns k) (hk : k < 400000)
    (hK : ∀ p H', pasOk p → 3 ≤ p.bears ∧ p.bears ≤ 30 → SameX [h.length] H H' → HX h H' ns (k + 12) → K (.agg ⟨p.cells⟩) H') : Good prog J 31 [ptr h.length 0] H K := by
  refine g31 hJ fun ok => ?_
  rw [e31]
  have hlt := hxLt a
  refine qAl fun H1 p1 e1 S1 c1 l1 => ?_
  have a1 := a.same S1 (by simp)
  refine amX hJ a1 (by omega) (by omega) (by omega) fun b H2 b1 b2 S2 l2 a2 => ?_
  refine ⟨by decide, fillO (l := [vint 1]) rfl rfl rfl (Nat.le_of_ble_eq_true rfl) (fillO (l := [vint 1]) rfl rfl rfl (Nat.le_of_ble_eq_true rfl) (fillO (l := [vint 2]) rfl rfl rfl (Nat.le_of_ble_eq_true rfl) (fillI (qNew fun H3 p3 e3 S3 c3 l3 => ?_))))⟩
  have c3 : H3[p3]? = some (.cells (([1, 1, 2] : List Int).map vint) true 0) := c3
  refine ofZ hJ (a2.same S3 (by simp)) (by omega) c3 (by omega) rfl (by simp) fun dr H4 m4 S4 l4 a4 => ?_
  refine upX hJ a4 (by omega) (by omega) fun u5 H5 d1 d2 S5 l5 a5 => ?_
  refine ⟨by decide, fillO (l := [vint 1]) rfl rfl rfl (Nat.le_of_ble_eq_true rfl) (fillO (l := [vint 2]) rfl rfl rfl (Nat.le_of_ble_eq_true rfl) (fillO (l := [vint u5]) rfl rfl rfl (Nat.le_of_ble_eq_true rfl) (fillI (qNew fun H6 p6 e6 S6 c6 l6 => ?_))))⟩
  have c6 : H6[p6]? = some (.cells (([1, 2, u5] : List Int).map vint) true 0) := c6
  refine ofZ hJ (a5.same S6 (by simp)) (by omega) c6 (by omega) rfl (by simp) fun sl H7 m7 S7 l7 a7 => ?_
  refine fillO (l := [vint b]) rfl rfl rfl (Nat.le_of_ble_eq_true rfl) (fillO (l := [vint dr]) rfl rfl rfl (Nat.le_of_ble_eq_true rfl) (fillO (l := [vint sl]) rfl rfl rfl (Nat.le_of_ble_eq_true rfl) (fillI ?_)))
  refine qAl fun H8 p8 e8 S8 c8 l8 => qStA (c := [vint 0, vint b, vint dr, vint 0, vint 0, vint sl]) c8 rfl rfl rfl fun H9 S9 c9 l9 => ?_
  have a9 := (a7.same S8 (by simp)).same S9 (by simp; omega)
  have hp9 : p8 < H9.length := lt_of_get c9
  have hdr : 0 ≤ dr ∧ dr ≤ 2 := by
    rcases m4 with h | h
    · omega
    · simp only [List.mem_cons, List.not_mem_nil, or_false] at h
      omega
  have hsl : 0 ≤ sl ∧ sl ≤ 5 := by
    rcases m7 with h | h
    · omega
    · simp only [List.mem_cons, List.not_mem_nil, or_false] at h
      omega
  refine ⟨[p8], offI (ldI (v := vint b) c9 rfl rfl ⟨by simp [RdOk, ptrBlk, ptr], offI (ldI (v := vint b) c9 rfl rfl ⟨by simp [RdOk, ptrBlk, ptr], offI (ldI (v := vint b) c9 rfl rfl ⟨by simp [RdOk, ptrBlk, ptr], quoZ (by omega) (by decide) (offI (ldI (v := vint b) c9 rfl rfl ⟨by simp [RdOk, ptrBlk, ptr], ?_⟩))⟩)⟩)⟩)⟩
  have T9 : ∀ {H'}, SameX [h.length] H9 H' → SameB (some [p8]) H9 H' := fun S => sbOne S hp9 (by simp; omega)
  refine upX hJ a9 (by omega) (by omega) fun u10 H10 f1 f2 S10 l10 a10 => ⟨T9 S10, ?_⟩
  refine amX hJ a10 (by omega) (by omega) (by omega) fun u11 H11 g1 g2 S11 l11 a11 => ⟨T9 (S10.trans S11), ?_⟩
  have Q11 : SameX [h.length] H9 H11 := S10.trans S11
  refine ⟨by decide, fillO (l := [vint u10]) rfl rfl rfl (Nat.le_of_ble_eq_true rfl) (fillO (l := [vint u11]) rfl rfl rfl (Nat.le_of_ble_eq_true rfl) (fillI (qNew fun H12 p12 e12 S12 c12 l12 => ⟨T9 (Q11.trans S12.weak0), ?_⟩)))⟩
  have c12 : H12[p12]? = some (.cells (([u10, u11] : List Int).map vint) true 0) := c12
  have hl11 := hxLt a11
  refine ofZ hJ (a11.same S12 (by simp)) (by omega) c12 (by omega) rfl (by simp) fun gr H13 m13 S13 l13 a13 => ?_
  have Q13 : SameX [h.length] H9 H13 := (Q11.trans S12.weak0).trans S13
  refine ⟨T9 Q13, offI ?_⟩
  have hgr : 0 ≤ gr ∧ gr ≤ b := by
    rcases m13 with h | h
    · omega
    · simp only [List.mem_cons, List.not_mem_nil, or_false] at h
      omega
  refine qSt (Q13.get c9 (by simp; omega)) (by simp) rfl rfl fun H14 S14 c14 l14 => ?_
  have c14 : H14[p8]? = some (.cells [vint gr, vint b, vint dr, vint 0, vint 0, vint sl] true 0) := c14
  have a14 := a13.same S14 (by simp; omega)
  refine offI (ldI (v := vint dr) c14 rfl rfl (offI (ldI (v := vint dr) c14 rfl rfl (addI (by omega) (minI ?_)))))
  refine amX hJ a14 (by omega) (by omega) (by omega) fun wt H15 h1 h2 S15 l15 a15 => offI ?_
  refine qSt (S15.get c14 (by simp; omega)) (by simp) rfl rfl fun H16 S16 c16 l16 => ?_
  have c16 : H16[p8]? = some (.cells [vint gr, vint b, vint dr, vint wt, vint 0, vint sl] true 0) := c16
  have a16 := a15.same S16 (by simp; omega)
  have hp16 : p8 < H16.length := lt_of_get c16
  have T16 : ∀ {H'}, SameX [h.length] H16 H' → SameB (some [p8]) H16 H' := fun S => sbOne S hp16 (by simp; omega)
  refine ⟨[p8], offI (ldI (v := vint b) c16 rfl rfl ⟨by simp [RdOk, ptrBlk, ptr], quoZ (by omega) (by decide) (offI (ldI (v := vint b) c16 rfl rfl ⟨by simp [RdOk, ptrBlk, ptr], ?_⟩))⟩)⟩
  refine upX hJ a16 (by omega) (by omega) fun u17 H17 q1 q2 S17 l17 a17 => ⟨T16 S17, ?_⟩
  refine upX hJ a17 (by omega) (by omega) fun u18 H18 q3 q4 S18 l18 a18 => ⟨T16 (S17.trans S18), ?_⟩
  have Q18 : SameX [h.length] H16 H18 := S17.trans S18
  refine ⟨by decide, fillO (l := [vint 1]) rfl rfl rfl (Nat.le_of_ble_eq_true rfl) (fillO (l := [vint 2]) rfl rfl rfl (Nat.le_of_ble_eq_true rfl) (fillO (l := [vint u17]) rfl rfl rfl (Nat.le_of_ble_eq_true rfl) (fillO (l := [vint u18]) rfl rfl rfl (Nat.le_of_ble_eq_true rfl) (fillI (qNew fun H19 p19 e19 S19 c19 l19 => ⟨T16 (Q18.trans S19.weak0), ?_⟩)))))⟩
  have c19 : H19[p19]? = some (.cells (([1, 2, u17, u18] : List Int).map vint) true 0) := c19
  have hl18 := hxLt a18
  refine ofZ hJ (a18.same S19 (by simp)) (by omega) c19 (by omega) rfl (by simp) fun st H20 m20 S20 l20 a20 => ?_
  have Q20 : SameX [h.length] H16 H20 := (Q18.trans S19.weak0).trans S20
  have hst : 0 ≤ st ∧ st ≤ b := by
    rcases m20 with h | h
    · omega
    · simp only [List.mem_cons, List.not_mem_nil, or_false] at h
      omega
  refine ⟨T16 Q20, offI (qSt (Q20.get c16 (by simp; omega)) (by simp) rfl rfl fun H21 S21 c21 l21 => ?_)⟩
  have c21 : H21[p8]? = some (.cells (⟨gr, b, dr, wt, st, sl⟩ : Pas).cells true 0) := c21
  refine load_part (c := (⟨gr, b, dr, wt, st, sl⟩ : Pas).cells) c21 (by simp [Pas.cells]) rfl rfl ?_
  have U7 : SameX [h.length] H H7 := ((((((S1.weak0).trans S2).trans S3.weak0).trans S4).trans S5).trans S6.weak0).trans S7
  have U9 : SameX [h.length] H H9 := (U7.trans S8.weak0).thru S9 (by have := U7.1; simp; omega)
  have U21 : SameX [h.length] H H21 := ((((U9.trans Q13).thru S14 (by have := U7.1; simp; omega)).trans S15).thru S16 (by have := U7.1; simp; omega)).trans Q20 |>.thru S21 (by have := U7.1; simp; omega)
  have V1 : SameX [h.length] H1 H7 := ((((S2.trans S3.weak0).trans S4).trans S5).trans S6.weak0).trans S7
  have hv1 := V1.1
  have V9 : SameX [h.length, p8] H1 H9 := ((V1.trans S8.weak0).weak (by simp)).trans (S9.weak (by simp))
  have V21 : SameX [h.length, p8] H1 H21 := (((((V9.trans (Q13.weak (by simp))).trans (S14.weak (by simp))).trans (S15.weak (by simp))).trans (S16.weak (by simp))).trans (Q20.weak (by simp))).trans (S21.weak (by simp))
  have c1' := V21.get c1 (by simp; omega)
  refine qStA (c := (⟨gr, b, dr, wt, st, sl⟩ : Pas).cells) c1' rfl rfl rfl fun H22 S22 c22 l22 => ?_
  refine retQs rfl (resW_cell (gg := true) (s := 6) (by kernel_rfl) (load_part (c := (⟨gr, b, dr, wt, st, sl⟩ : Pas).cells) c22 (by simp [Pas.cells]) rfl rfl (resW_nil ?_)))
  refine hK ⟨gr, b, dr, wt, st, sl⟩ H22 ⟨by show 1 ≤ b ∧ b ≤ 99; omega, hgr, by show 0 ≤ dr ∧ dr ≤ 9; omega, by show dr ≤ wt ∧ wt ≤ 9; omega, hst, hsl⟩ (by show 3 ≤ b ∧ b ≤ 30; omega) (U21.thru S22 (by simp; omega)) ?_
  have z21 := a20.same S21 (by simp; omega)
  have z22 := z21.same S22 (by simp; omega)
  exact z22.mono (by omega)
end
end Go.Proofs.Ytindillghipjjaa
namespace Go.Proofs.Ytindillghipjjaa
open Go.Conc Go.Proofs.Try
set_option maxRecDepth 100000
set_option maxHeartbeats 4000000
set_option linter.unusedVariables false
section
variable {main : Bool} {J : JT} {n0 : Nat} {h : List AObj} {K : Value → List AObj → Prop}
theorem at81 : prog.funcs[81]? = some f81 := by kernel_rfl
theorem body81 : f81.body = some (codeOf f81) := by kernel_rfl
def pl81 : Plans := []
def ct81 : Cuts := .go
theorem pok81 : plansOk prog pl81 (codeOf f81) = true := by kernel_rfl
theorem e81 {a0 a1 a2 : Value} : W prog J 22 h.length 81 (codeOf f81) (RG.mk (regs [a0, a1, a2]) []) h (RetQ prog [.tmp 4] h.length K) =
(aLoad true 3 a1 h fun v1 =>
aAlloc [(vint 0), (vint 0), (vint 0)] h fun v2 h3 =>
aStore 3 v2 v1 h3 fun h4 =>
aLoad false 1 a2 h4 fun v5 =>
Sem J 22 h.length 81 (subC [1, 1, 0, 1, 0] (codeOf f81)) (RG.p (RG.p (RG.p (RG.p (RG.p (RG.p (RG.mk (regs [a0, a1, a2]) []) 4 (Value.bool false)) 7 v1) 5 v2) 6 (Value.bool false)) 8 v5) 9 (vint 0)) h4 (contX pl81 prog J 22 h.length 81 ct81 [1, 1, 0, 1, 0] (codeOf f81) [] (RetQ prog [.tmp 4] h.length K))) := top_eq pok81 ct81 (by kernel_rfl)
theorem g81 (hJ : Closed prog main J) {a0 a1 a2 : Value} (hs : heapOk h → W prog J 22 h.length 81 (codeOf f81) (RG.mk (regs [a0, a1, a2]) []) h (RetQ prog [.tmp 4] h.length K)) : Good prog J 81 [a0, a1, a2] h K :=
  good_of_W hJ mixed at81 body81 (by kernel_rfl) (Nat.le_of_ble_eq_true rfl) hs
theorem s81_1 {f : RG} {nx0 : RG → List AObj → Prop} : W prog J 22 n0 81 (subC [1, 1, 0, 1, 0, 0] (codeOf f81)) f h (thenK nx0 (contX pl81 prog J 22 n0 81 ct81 [1, 1, 0, 1, 0] (codeOf f81) [] (RetQ prog [.tmp 4] n0 K))) =
(aBin prog .lss 3 (f.r 9) (f.r 8) fun v1 =>
cnd v1
(aLoad true 3 (f.r 5) h fun v2 =>
aBin prog .sub 3 (vint 40) (f.r 0) fun v3 =>
Good prog J 82 [v2, v3] h fun v4 h5 =>
aExt v4 0 fun v6 =>
aExt v4 1 fun v7 =>
aStore 3 (f.r 5) v6 h5 fun h8 =>
cnd v7
(retL n0 K f.ds [(Value.bool false)] h8)
(aLoad true 3 (f.r 5) h8 fun v9 =>
Good prog J 79 [v9] h8 fun v10 h11 =>
aStore 3 (f.r 5) v10 h11 fun h12 =>
aBin prog .add 3 (f.r 9) (vint 1) fun v13 =>
nx0 (RG.p (RG.p (RG.p (RG.p (RG.p (RG.p (RG.p (RG.p (RG.p (RG.p (RG.p (RG.p (RG.p (RG.p f 10 v1) 12 v2) 13 (f.r 0)) 14 v3) 15 v4) 11 v4) 16 v6) 17 v7) 6 v7) 18 v7) 19 v9) 20 v10) 21 v13) 9 v13) h12))
(retL n0 K f.ds [(Value.bool true)] h)) := sub_eq pok81 ct81 (by kernel_rfl)
theorem l81_1 (hJ : Closed prog main J) {S : Type} (μ : S → Nat) (I : S → RG → List AObj → Prop) (hI : ∀ s f h, I s f h → heapOk h → n0 ≤ h.length → W prog J 22 n0 81 (subC [1, 1, 0, 1, 0, 0] (codeOf f81)) f h (thenK (Nx n0 μ I s) (contX pl81 prog J 22 n0 81 ct81 [1, 1, 0, 1, 0] (codeOf f81) [] (RetQ prog [.tmp 4] n0 K))))
  {s : S} {f : RG} (hi : Gets n0 I s f h) : Sem J 22 n0 81 (subC [1, 1, 0, 1, 0] (codeOf f81)) f h (contX pl81 prog J 22 n0 81 ct81 [1, 1, 0, 1, 0] (codeOf f81) [] (RetQ prog [.tmp 4] n0 K)) :=
  loop_rule hJ mixed (b := subC [1, 1, 0, 1, 0, 0] (codeOf f81)) (by kernel_rfl) μ I hI hi
theorem at35 : prog.funcs[35]? = some f35 := by kernel_rfl
theorem body35 : f35.body = some (codeOf f35) := by kernel_rfl
def pl35 : Plans := []
def ct35 : Cuts := .go
theorem pok35 : plansOk prog pl35 (codeOf f35) = true := by kernel_rfl
theorem e35 {a0 a1 a2 a3 a4 : Value} : W prog J 45 h.length 35 (codeOf f35) (RG.mk (regs [a0, a1, a2, a3, a4]) []) h (RetQ prog [.tmp 10, .tmp 11] h.length K) =
(aBox a0 h fun v1 h2 =>
aBox a1 h2 fun v3 h4 =>
aBox a2 h4 fun v5 h6 =>
aLoad true 3 v1 h6 fun v7 =>
Good prog J 83 [v7] h6 fun v8 h9 =>
aBin prog .neq 39 v8 (vint 0) fun v10 =>
cnd v10
(retL h.length K [] [(vint 0), v8] h9)
(aLoad true 6 v3 h9 fun v11 =>
aLoad true 3 v5 h9 fun v12 =>
Good prog J 84 [v11, v12, a3, a4] h9 fun v13 h14 =>
aExt v13 0 fun v15 =>
aExt v13 1 fun v16 =>
aBin prog .neq 39 v16 (vint 0) fun v17 =>
cnd v17
(retL h.length K [] [(vint 0), v16] h14)
(Sem J 45 h.length 35 (subC [1, 1, 1, 1, 1, 0, 1, 0] (codeOf f35)) (RG.p (RG.p (RG.p (RG.p (RG.p (RG.p (RG.p (RG.p (RG.p (RG.p (RG.p (RG.p (RG.p (RG.p (RG.p (RG.p (RG.p (RG.p (RG.p (RG.p (RG.p (RG.p (RG.p (RG.p (RG.mk (regs [a0, a1, a2, a3, a4]) []) 5 v1) 6 v3) 7 v5) 10 (vint 0)) 11 (vint 0)) 17 v7) 18 v8) 12 v8) 19 v8) 20 v10) 23 v11) 24 v12) 25 a3) 26 a4) 27 v13) 22 v13) 28 v15) 29 v16) 13 v15) 14 v16) 30 v16) 31 v17) 15 (vint 0)) 16 (vint 0)) h14 (contX pl35 prog J 45 h.length 35 ct35 [1, 1, 1, 1, 1, 0, 1, 0] (codeOf f35) [] (RetQ prog [.tmp 10, .tmp 11] h.length K))))) := top_eq pok35 ct35 (by kernel_rfl)
theorem g35 (hJ : Closed prog main J) {a0 a1 a2 a3 a4 : Value} (hs : heapOk h → W prog J 45 h.length 35 (codeOf f35) (RG.mk (regs [a0, a1, a2, a3, a4]) []) h (RetQ prog [.tmp 10, .tmp 11] h.length K)) : Good prog J 35 [a0, a1, a2, a3, a4] h K :=
  good_of_W hJ mixed at35 body35 (by kernel_rfl) (Nat.le_of_ble_eq_true rfl) hs
theorem s35_1 {f : RG} {nx0 : RG → List AObj → Prop} : W prog J 45 n0 35 (subC [1, 1, 1, 1, 1, 0, 1, 0, 0] (codeOf f35)) f h (thenK nx0 (contX pl35 prog J 45 n0 35 ct35 [1, 1, 1, 1, 1, 0, 1, 0] (codeOf f35) [] (RetQ prog [.tmp 10, .tmp 11] n0 K))) =
(aBin prog .leq 3 (f.r 16) (f.r 13) fun v1 =>
cnd v1
(aLoad true 3 (f.r 5) h fun v2 =>
Good prog J 85 [v2, (f.r 16), (f.r 3), (f.r 4)] h fun v3 h4 =>
cnd v3
(aBin prog .add 3 (f.r 16) (vint 1) fun v5 =>
nx0 (RG.p (RG.p (RG.p (RG.p (RG.p (RG.p (RG.p (RG.p (RG.p (RG.p (RG.p (RG.p (RG.p f 33 (f.r 16)) 34 (f.r 13)) 35 v1) 38 v2) 39 (f.r 16)) 40 (f.r 3)) 41 (f.r 4)) 42 v3) 43 (f.r 16)) 15 (f.r 16)) 36 (f.r 16)) 37 v5) 16 v5) h4)
(aBin prog .add 3 (f.r 16) (vint 1) fun v6 =>
nx0 (RG.p (RG.p (RG.p (RG.p (RG.p (RG.p (RG.p (RG.p (RG.p (RG.p (RG.p f 33 (f.r 16)) 34 (f.r 13)) 35 v1) 38 v2) 39 (f.r 16)) 40 (f.r 3)) 41 (f.r 4)) 42 v3) 36 (f.r 16)) 37 v6) 16 v6) h4))
(retL n0 K f.ds [(f.r 15), (vint 0)] h)) := sub_eq pok35 ct35 (by kernel_rfl)
theorem l35_1 (hJ : Closed prog main J) {S : Type} (μ : S → Nat) (I : S → RG → List AObj → Prop) (hI : ∀ s f h, I s f h → heapOk h → n0 ≤ h.length → W prog J 45 n0 35 (subC [1, 1, 1, 1, 1, 0, 1, 0, 0] (codeOf f35)) f h (thenK (Nx n0 μ I s) (contX pl35 prog J 45 n0 35 ct35 [1, 1, 1, 1, 1, 0, 1, 0] (codeOf f35) [] (RetQ prog [.tmp 10, .tmp 11] n0 K))))
  {s : S} {f : RG} (hi : Gets n0 I s f h) : Sem J 45 n0 35 (subC [1, 1, 1, 1, 1, 0, 1, 0] (codeOf f35)) f h (contX pl35 prog J 45 n0 35 ct35 [1, 1, 1, 1, 1, 0, 1, 0] (codeOf f35) [] (RetQ prog [.tmp 10, .tmp 11] n0 K)) :=
  loop_rule hJ mixed (b := subC [1, 1, 1, 1, 1, 0, 1, 0, 0] (codeOf f35)) (by kernel_rfl) μ I hI hi
theorem at85 : prog.funcs[85]? = some f85 := by kernel_rfl
theorem body85 : f85.body = some (codeOf f85) := by kernel_rfl
def pl85 : Plans := []
def ct85 : Cuts := .go
theorem pok85 : plansOk prog pl85 (codeOf f85) = true := by kernel_rfl
theorem e85 {a0 a1 a2 a3 : Value} : W prog J 36 h.length 85 (codeOf f85) (RG.mk (regs [a0, a1, a2, a3]) []) h (RetQ prog [.tmp 8] h.length K) =
(aBox a0 h fun v1 h2 =>
aOff v1 0 fun v3 =>
aLoad false 1 v3 h2 fun v4 =>
Sem J 36 h.length 85 (subC [1, 1, 0, 1, 0] (codeOf f85)) (RG.p (RG.p (RG.p (RG.p (RG.p (RG.p (RG.mk (regs [a0, a1, a2, a3]) []) 4 v1) 8 (Value.bool false)) 11 v3) 12 v4) 9 v4) 10 (vint 0)) h2 (contX pl85 prog J 36 h.length 85 ct85 [1, 1, 0, 1, 0] (codeOf f85) [] (RetQ prog [.tmp 8] h.length K))) := top_eq pok85 ct85 (by kernel_rfl)
theorem g85 (hJ : Closed prog main J) {a0 a1 a2 a3 : Value} (hs : heapOk h → W prog J 36 h.length 85 (codeOf f85) (RG.mk (regs [a0, a1, a2, a3]) []) h (RetQ prog [.tmp 8] h.length K)) : Good prog J 85 [a0, a1, a2, a3] h K :=
  good_of_W hJ mixed at85 body85 (by kernel_rfl) (Nat.le_of_ble_eq_true rfl) hs
theorem s85_1 {f : RG} {nx0 : RG → List AObj → Prop} : W prog J 36 n0 85 (subC [1, 1, 0, 1, 0, 0] (codeOf f85)) f h (thenK nx0 (contX pl85 prog J 36 n0 85 ct85 [1, 1, 0, 1, 0] (codeOf f85) [] (RetQ prog [.tmp 8] n0 K))) =
(aBin prog .add 3 (f.r 2) (f.r 3) fun v1 =>
aBin prog .lss 3 (f.r 10) v1 fun v2 =>
cnd v2
(aBin prog .geq 3 (f.r 10) (f.r 2) fun v3 =>
cnd v3
(aBin prog .lss 3 (f.r 9) (f.r 1) fun v4 =>
cnd v4
(retL n0 K f.ds [(Value.bool false)] h)
(aBin prog .sub 3 (f.r 9) (f.r 1) fun v5 =>
aOff (f.r 4) 1 fun v6 =>
aLoad false 1 v6 h fun v7 =>
aOff (f.r 4) 2 fun v8 =>
aLoad false 1 v8 h fun v9 =>
aBin prog .add 3 v5 v9 fun v10 =>
aMin v7 [v10] fun v11 =>
aBin prog .add 3 (f.r 10) (vint 1) fun v12 =>
nx0 (RG.p (RG.p (RG.p (RG.p (RG.p (RG.p (RG.p (RG.p (RG.p (RG.p (RG.p (RG.p (RG.p (RG.p (RG.p (RG.p (RG.p (RG.p (RG.p (RG.p (RG.p (RG.p (RG.p (RG.p (RG.p (RG.p f 13 (f.r 10)) 14 (f.r 2)) 15 (f.r 3)) 16 v1) 17 v2) 20 (f.r 10)) 21 (f.r 2)) 22 v3) 23 (f.r 9)) 24 (f.r 1)) 25 v4) 26 (f.r 9)) 27 (f.r 1)) 28 v5) 9 v5) 29 v6) 30 v7) 31 v5) 32 v8) 33 v9) 34 v10) 35 v11) 9 v11) 18 (f.r 10)) 19 v12) 10 v12) h))
(aOff (f.r 4) 1 fun v13 =>
aLoad false 1 v13 h fun v14 =>
aOff (f.r 4) 2 fun v15 =>
aLoad false 1 v15 h fun v16 =>
aBin prog .add 3 (f.r 9) v16 fun v17 =>
aMin v14 [v17] fun v18 =>
aBin prog .add 3 (f.r 10) (vint 1) fun v19 =>
nx0 (RG.p (RG.p (RG.p (RG.p (RG.p (RG.p (RG.p (RG.p (RG.p (RG.p (RG.p (RG.p (RG.p (RG.p (RG.p (RG.p (RG.p (RG.p (RG.p f 13 (f.r 10)) 14 (f.r 2)) 15 (f.r 3)) 16 v1) 17 v2) 20 (f.r 10)) 21 (f.r 2)) 22 v3) 29 v13) 30 v14) 31 (f.r 9)) 32 v15) 33 v16) 34 v17) 35 v18) 9 v18) 18 (f.r 10)) 19 v19) 10 v19) h))
(retL n0 K f.ds [(Value.bool true)] h)) := sub_eq pok85 ct85 (by kernel_rfl)
theorem l85_1 (hJ : Closed prog main J) {S : Type} (μ : S → Nat) (I : S → RG → List AObj → Prop) (hI : ∀ s f h, I s f h → heapOk h → n0 ≤ h.length → W prog J 36 n0 85 (subC [1, 1, 0, 1, 0, 0] (codeOf f85)) f h (thenK (Nx n0 μ I s) (contX pl85 prog J 36 n0 85 ct85 [1, 1, 0, 1, 0] (codeOf f85) [] (RetQ prog [.tmp 8] n0 K))))
  {s : S} {f : RG} (hi : Gets n0 I s f h) : Sem J 36 n0 85 (subC [1, 1, 0, 1, 0] (codeOf f85)) f h (contX pl85 prog J 36 n0 85 ct85 [1, 1, 0, 1, 0] (codeOf f85) [] (RetQ prog [.tmp 8] n0 K)) :=
  loop_rule hJ mixed (b := subC [1, 1, 0, 1, 0, 0] (codeOf f85)) (by kernel_rfl) μ I hI hi
end
section
variable {main : Bool} {J : JT} {n0 : Nat} {h : List AObj} {K : Value → List AObj → Prop}
theorem at34 : prog.funcs[34]? = some f34 := by kernel_rfl
theorem body34 : f34.body = some (codeOf f34) := by kernel_rfl
def pl34 : Plans := []
def ct34 : Cuts := .go
theorem pok34 : plansOk prog pl34 (codeOf f34) = true := by kernel_rfl
theorem e34 {a0 a1 a2 a3 a4 : Value} : W prog J 51 h.length 34 (codeOf f34) (RG.mk (regs [a0, a1, a2, a3, a4]) []) h (RetQ prog [.tmp 10, .tmp 11] h.length K) =
(aBox a0 h fun v1 h2 =>
aBox a1 h2 fun v3 h4 =>
aBox a2 h4 fun v5 h6 =>
aBox a4 h6 fun v7 h8 =>
aLoad true 3 v1 h8 fun v9 =>
Good prog J 77 [v9] h8 fun v10 h11 =>
aBin prog .neq 39 v10 (vint 0) fun v12 =>
cnd v12
(retL h.length K [] [(vint 0), v10] h11)
(aLoad true 6 v3 h11 fun v13 =>
aLoad true 3 v5 h11 fun v14 =>
aLoad false 1 v7 h11 fun v15 =>
Good prog J 78 [v13, v14, a3, v15] h11 fun v16 h17 =>
aExt v16 0 fun v18 =>
aExt v16 1 fun v19 =>
aBin prog .neq 39 v19 (vint 0) fun v20 =>
cnd v20
(retL h.length K [] [(vint 0), v19] h17)
(aLoad true 3 v1 h17 fun v21 =>
aFill [(vint 0), (vint 0), (vint 0)] [(0, 3, v21)] fun c22 =>
aAlloc [(vint 0), (vint 0), (vint 0)] h17 fun v23 h24 =>
aStore 3 v23 (Value.agg ⟨c22⟩) h24 fun h25 =>
Sem J 51 h.length 34 (subC [1, 1, 1, 1, 1, 0, 1, 0] (codeOf f34)) (RG.p (RG.p (RG.p (RG.p (RG.p (RG.p (RG.p (RG.p (RG.p (RG.p (RG.p (RG.p (RG.p (RG.p (RG.p (RG.p (RG.p (RG.p (RG.p (RG.p (RG.p (RG.p (RG.p (RG.p (RG.p (RG.p (RG.p (RG.p (RG.mk (regs [a0, a1, a2, a3, a4]) []) 5 v1) 6 v3) 7 v5) 9 v7) 10 (vint 0)) 11 (vint 0)) 18 v9) 19 v10) 12 v10) 20 v10) 21 v12) 24 v13) 25 v14) 26 a3) 27 v15) 28 v16) 23 v16) 29 v18) 30 v19) 13 v18) 14 v19) 31 v19) 32 v20) 34 v21) 35 (Value.agg ⟨c22⟩)) 15 v23) 36 a3) 37 (vint 0)) h25 (contX pl34 prog J 51 h.length 34 ct34 [1, 1, 1, 1, 1, 0, 1, 0] (codeOf f34) [] (RetQ prog [.tmp 10, .tmp 11] h.length K))))) := top_eq pok34 ct34 (by kernel_rfl)
theorem g34 (hJ : Closed prog main J) {a0 a1 a2 a3 a4 : Value} (hs : heapOk h → W prog J 51 h.length 34 (codeOf f34) (RG.mk (regs [a0, a1, a2, a3, a4]) []) h (RetQ prog [.tmp 10, .tmp 11] h.length K)) : Good prog J 34 [a0, a1, a2, a3, a4] h K :=
  good_of_W hJ mixed at34 body34 (by kernel_rfl) (Nat.le_of_ble_eq_true rfl) hs
theorem s34_1 {f : RG} {nx0 : RG → List AObj → Prop} : W prog J 51 n0 34 (subC [1, 1, 1, 1, 1, 0, 1, 0, 0] (codeOf f34)) f h (thenK nx0 (contX pl34 prog J 51 n0 34 ct34 [1, 1, 1, 1, 1, 0, 1, 0] (codeOf f34) [] (RetQ prog [.tmp 10, .tmp 11] n0 K))) =
(aBin prog .lss 3 (f.r 37) (f.r 36) fun v1 =>
cnd v1
(aLoad true 3 (f.r 15) h fun v2 =>
Good prog J 79 [v2] h fun v3 h4 =>
aStore 3 (f.r 15) v3 h4 fun h5 =>
aBin prog .add 3 (f.r 37) (vint 1) fun v6 =>
nx0 (RG.p (RG.p (RG.p (RG.p (RG.p f 38 v1) 39 v2) 40 v3) 41 v6) 37 v6) h5)
(aMkF 81 [] [(f.r 15), (f.r 9)] fun v7 =>
Good prog J 80 [(vint 0), (vint 40), v7] h fun v8 h9 =>
aExt v8 0 fun v10 =>
aExt v8 1 fun v11 =>
aBin prog .sub 3 (vint 40) v10 fun v12 =>
aMin (f.r 13) [v12] fun v13 =>
retL n0 K f.ds [v13, (vint 0)] h9)) := sub_eq pok34 ct34 (by kernel_rfl)
theorem l34_1 (hJ : Closed prog main J) {S : Type} (μ : S → Nat) (I : S → RG → List AObj → Prop) (hI : ∀ s f h, I s f h → heapOk h → n0 ≤ h.length → W prog J 51 n0 34 (subC [1, 1, 1, 1, 1, 0, 1, 0, 0] (codeOf f34)) f h (thenK (Nx n0 μ I s) (contX pl34 prog J 51 n0 34 ct34 [1, 1, 1, 1, 1, 0, 1, 0] (codeOf f34) [] (RetQ prog [.tmp 10, .tmp 11] n0 K))))
  {s : S} {f : RG} (hi : Gets n0 I s f h) : Sem J 51 n0 34 (subC [1, 1, 1, 1, 1, 0, 1, 0] (codeOf f34)) f h (contX pl34 prog J 51 n0 34 ct34 [1, 1, 1, 1, 1, 0, 1, 0] (codeOf f34) [] (RetQ prog [.tmp 10, .tmp 11] n0 K)) :=
  loop_rule hJ mixed (b := subC [1, 1, 1, 1, 1, 0, 1, 0, 0] (codeOf f34)) (by kernel_rfl) μ I hI hi
end
section
variable {main : Bool} {J : JT} {n0 : Nat} {h : List AObj} {K : Value → List AObj → Prop}
theorem at107 : prog.funcs[107]? = some f107 := by kernel_rfl
theorem body107 : f107.body = some (codeOf f107) := by kernel_rfl
def pl107 : Plans := []
def ct107 : Cuts := .go
theorem pok107 : plansOk prog pl107 (codeOf f107) = true := by kernel_rfl
theorem e107 {a0 a1 a2 a3 : Value} : W prog J 26 h.length 107 (codeOf f107) (RG.mk (regs [a0, a1, a2, a3]) []) h (RetQ prog [.tmp 8] h.length K) =
(((List.length [(vint 0)] = 1 ∧ (8 : Nat) ≤ 1024) ∧ aMkS [(vint 0)] a0 a0 h fun v1 h2 =>
Sem J 26 h.length 107 (subC [1, 1, 0, 1, 0] (codeOf f107)) (RG.p (RG.p (RG.p (RG.p (RG.p (RG.p (RG.mk (regs [a0, a1, a2, a3]) []) 8 (Value.slice none 0 0)) 11 a0) 12 v1) 9 v1) 13 a2) 10 a2) h2 (contX pl107 prog J 26 h.length 107 ct107 [1, 1, 0, 1, 0] (codeOf f107) [] (RetQ prog [.tmp 8] h.length K)))) := top_eq pok107 ct107 (by kernel_rfl)
theorem g107 (hJ : Closed prog main J) {a0 a1 a2 a3 : Value} (hs : heapOk h → W prog J 26 h.length 107 (codeOf f107) (RG.mk (regs [a0, a1, a2, a3]) []) h (RetQ prog [.tmp 8] h.length K)) : Good prog J 107 [a0, a1, a2, a3] h K :=
  good_of_W hJ mixed at107 body107 (by kernel_rfl) (Nat.le_of_ble_eq_true rfl) hs
theorem s107_1 {f : RG} {nx0 : RG → List AObj → Prop} : W prog J 26 n0 107 (subC [1, 1, 0, 1, 0, 0] (codeOf f107)) f h (thenK nx0 (contX pl107 prog J 26 n0 107 ct107 [1, 1, 0, 1, 0] (codeOf f107) [] (RetQ prog [.tmp 8] n0 K))) =
(aBin prog .add 3 (f.r 2) (f.r 3) fun v1 =>
aBin prog .lss 3 (f.r 10) v1 fun v2 =>
cnd v2
(aIdx 1 (f.r 9) (f.r 10) fun v3 =>
aStore 1 v3 (f.r 1) h fun h4 =>
aBin prog .add 3 (f.r 10) (vint 1) fun v5 =>
nx0 (RG.p (RG.p (RG.p (RG.p (RG.p (RG.p (RG.p (RG.p (RG.p (RG.p (RG.p (RG.p f 14 (f.r 10)) 15 (f.r 2)) 16 (f.r 3)) 17 v1) 18 v2) 21 (f.r 9)) 22 (f.r 10)) 23 (f.r 1)) 24 v3) 19 (f.r 10)) 20 v5) 10 v5) h4)
(retL n0 K f.ds [(f.r 9)] h)) := sub_eq pok107 ct107 (by kernel_rfl)
theorem l107_1 (hJ : Closed prog main J) {S : Type} (μ : S → Nat) (I : S → RG → List AObj → Prop) (hI : ∀ s f h, I s f h → heapOk h → n0 ≤ h.length → W prog J 26 n0 107 (subC [1, 1, 0, 1, 0, 0] (codeOf f107)) f h (thenK (Nx n0 μ I s) (contX pl107 prog J 26 n0 107 ct107 [1, 1, 0, 1, 0] (codeOf f107) [] (RetQ prog [.tmp 8] n0 K))))
  {s : S} {f : RG} (hi : Gets n0 I s f h) : Sem J 26 n0 107 (subC [1, 1, 0, 1, 0] (codeOf f107)) f h (contX pl107 prog J 26 n0 107 ct107 [1, 1, 0, 1, 0] (codeOf f107) [] (RetQ prog [.tmp 8] n0 K)) :=
  loop_rule hJ mixed (b := subC [1, 1, 0, 1, 0, 0] (codeOf f107)) (by kernel_rfl) μ I hI hi
theorem at130 : prog.funcs[130]? = some f130 := by kernel_rfl
theorem body130 : f130.body = some (codeOf f130) := by kernel_rfl
def pl130 : Plans := [(6, true, .take 0 (.take 1 (.take 2 (.take 3 (.take 4 (.take 5 (.last 6 false (.take 7 (.take 8 (.take 9 (.take 10 (.take 11 (.take 12 (.take 13 (.fin)))))))))))))))]
def ct130 : Cuts := .go
theorem pok130 : plansOk prog pl130 (codeOf f130) = true := by kernel_rfl
theorem e130 {a0 a1 a2 : Value} : W prog J 41 h.length 130 (codeOf f130) (RG.mk (regs [a0, a1, a2]) []) h (RetQ prog [.tmp 6, .tmp 7] h.length K) =
(aBox a0 h fun v1 h2 =>
aBox a2 h2 fun v3 h4 =>
aLoad true 3 v3 h4 fun v5 =>
Good prog J 137 [v5] h4 fun v6 h7 =>
Sem J 41 h.length 130 (subC [1, 1, 1, 0, 1, 0] (codeOf f130)) (RG.p (RG.p (RG.p (RG.p (RG.p (RG.p (RG.p (RG.p (RG.p (RG.mk (regs [a0, a1, a2]) []) 3 v1) 5 v3) 6 (vint 0)) 7 (vint 0)) 8 (vint 0)) 14 v5) 15 v6) 9 v6) 10 (vint 0)) h7 (contX pl130 prog J 41 h.length 130 ct130 [1, 1, 1, 0, 1, 0] (codeOf f130) [] (RetQ prog [.tmp 6, .tmp 7] h.length K))) := top_eq pok130 ct130 (by kernel_rfl)
theorem g130 (hJ : Closed prog main J) {a0 a1 a2 : Value} (hs : heapOk h → W prog J 41 h.length 130 (codeOf f130) (RG.mk (regs [a0, a1, a2]) []) h (RetQ prog [.tmp 6, .tmp 7] h.length K)) : Good prog J 130 [a0, a1, a2] h K :=
  good_of_W hJ mixed at130 body130 (by kernel_rfl) (Nat.le_of_ble_eq_true rfl) hs
theorem s130_1 {f : RG} {nx0 : RG → List AObj → Prop} : W prog J 41 n0 130 (subC [1, 1, 1, 0, 1, 0, 0] (codeOf f130)) f h (thenK nx0 (contX pl130 prog J 41 n0 130 ct130 [1, 1, 1, 0, 1, 0] (codeOf f130) [] (RetQ prog [.tmp 6, .tmp 7] n0 K))) =
(aLenS (f.r 9) fun v1 =>
aBin prog .lss 3 (f.r 10) v1 fun v2 =>
cnd v2
(aLoad true 6 (f.r 3) h fun v3 =>
aIdx 1 (f.r 9) (f.r 10) fun v4 =>
aLoad false 1 v4 h fun v5 =>
Good prog J 138 [v3, (f.r 1), v5] h fun v6 h7 =>
aExt v6 0 fun v8 =>
aExt v6 1 fun v9 =>
aExt v6 2 fun v10 =>
aLenS v10 fun v11 =>
aBin prog .eql 3 v11 (vint 0) fun v12 =>
cnd v12
(aBin prog .add 3 (f.r 8) (vint 1) fun v13 =>
aBin prog .add 3 (f.r 10) (vint 1) fun v14 =>
nx0 (RG.p (RG.p (RG.p (RG.p (RG.p (RG.p (RG.p (RG.p (RG.p (RG.p (RG.p (RG.p (RG.p (RG.p (RG.p (RG.p (RG.p (RG.p (RG.p (RG.p (RG.p (RG.p (RG.p (RG.p (RG.p (RG.p (RG.p f 16 (f.r 10)) 17 (f.r 9)) 18 v1) 19 v2) 23 v3) 24 (f.r 1)) 25 (f.r 9)) 26 (f.r 10)) 27 v4) 28 v5) 29 v6) 22 v6) 30 v8) 31 v9) 32 v10) 11 v8) 12 v9) 13 v10) 33 v10) 34 v11) 35 v12) 36 (f.r 8)) 37 v13) 8 v13) 20 (f.r 10)) 21 v14) 10 v14) h7)
(aBin prog .add 3 (f.r 10) (vint 1) fun v15 =>
nx0 (RG.p (RG.p (RG.p (RG.p (RG.p (RG.p (RG.p (RG.p (RG.p (RG.p (RG.p (RG.p (RG.p (RG.p (RG.p (RG.p (RG.p (RG.p (RG.p (RG.p (RG.p (RG.p (RG.p (RG.p f 16 (f.r 10)) 17 (f.r 9)) 18 v1) 19 v2) 23 v3) 24 (f.r 1)) 25 (f.r 9)) 26 (f.r 10)) 27 v4) 28 v5) 29 v6) 22 v6) 30 v8) 31 v9) 32 v10) 11 v8) 12 v9) 13 v10) 33 v10) 34 v11) 35 v12) 20 (f.r 10)) 21 v15) 10 v15) h7))
(aLenS (f.r 9) fun v16 =>
retL n0 K f.ds [(f.r 8), v16] h)) := sub_eq pok130 ct130 (by kernel_rfl)
theorem l130_1 (hJ : Closed prog main J) {S : Type} (μ : S → Nat) (I : S → RG → List AObj → Prop) (hI : ∀ s f h, I s f h → heapOk h → n0 ≤ h.length → W prog J 41 n0 130 (subC [1, 1, 1, 0, 1, 0, 0] (codeOf f130)) f h (thenK (Nx n0 μ I s) (contX pl130 prog J 41 n0 130 ct130 [1, 1, 1, 0, 1, 0] (codeOf f130) [] (RetQ prog [.tmp 6, .tmp 7] n0 K))))
  {s : S} {f : RG} (hi : Gets n0 I s f h) : Sem J 41 n0 130 (subC [1, 1, 1, 0, 1, 0] (codeOf f130)) f h (contX pl130 prog J 41 n0 130 ct130 [1, 1, 1, 0, 1, 0] (codeOf f130) [] (RetQ prog [.tmp 6, .tmp 7] n0 K)) :=
  loop_rule hJ mixed (b := subC [1, 1, 1, 0, 1, 0, 0] (codeOf f130)) (by kernel_rfl) μ I hI hi
theorem at119 : prog.funcs[119]? = some f119 := by kernel_rfl
theorem body119 : f119.body = some (codeOf f119) := by kernel_rfl
def pl119 : Plans := [(1, false, .take 0 (.take 1 (.take 2 (.take 3 (.take 4 (.take 5 (.take 7 (.last 6 true (.last 8 true (.take 9 (.take 10 (.take 11 (.take 12 (.take 13 (.fin)))))))))))))))]
def ct119 : Cuts := .go
theorem pok119 : plansOk prog pl119 (codeOf f119) = true := by kernel_rfl
theorem e119 {a0 a1 a2 a3 a4 : Value} : W prog J 28 h.length 119 (codeOf f119) (RG.mk (regs [a0, a1, a2, a3, a4]) []) h (RetQ prog [.tmp 10] h.length K) =
(aBox a0 h fun v1 h2 =>
aBox a1 h2 fun v3 h4 =>
(∃ B, aLoad true 6 v1 h4 fun v5 =>
RdOk (some B) (ptrBlk v1) ∧ (aOff v3 0 fun v6 =>
aLoad false 1 v6 h4 fun v7 =>
RdOk (some B) (ptrBlk v6) ∧ (aLoad true 3 v3 h4 fun v8 =>
RdOk (some B) (ptrBlk v3) ∧ (Good prog J 107 [v7, a2, a3, a4] h4 fun v9 h10 =>
SameB (some B) h4 h10 ∧ (Good prog J 130 [v5, v9, v8] h10 fun v11 h12 =>
SameB (some B) h4 h12 ∧ (aExt v11 0 fun v13 =>
aExt v11 1 fun v14 =>
aBin prog .eql 3 v13 v14 fun v15 =>
retL h.length K [] [v15] h12))))))) := top_eq pok119 ct119 (by kernel_rfl)
theorem g119 (hJ : Closed prog main J) {a0 a1 a2 a3 a4 : Value} (hs : heapOk h → W prog J 28 h.length 119 (codeOf f119) (RG.mk (regs [a0, a1, a2, a3, a4]) []) h (RetQ prog [.tmp 10] h.length K)) : Good prog J 119 [a0, a1, a2, a3, a4] h K :=
  good_of_W hJ mixed at119 body119 (by kernel_rfl) (Nat.le_of_ble_eq_true rfl) hs
theorem at84 : prog.funcs[84]? = some f84 := by kernel_rfl
theorem body84 : f84.body = some (codeOf f84) := by kernel_rfl
def pl84 : Plans := []
def ct84 : Cuts := .go
theorem pok84 : plansOk prog pl84 (codeOf f84) = true := by kernel_rfl
theorem e84 {a0 a1 a2 a3 : Value} : W prog J 49 h.length 84 (codeOf f84) (RG.mk (regs [a0, a1, a2, a3]) []) h (RetQ prog [.tmp 8, .tmp 9] h.length K) =
(aBox a0 h fun v1 h2 =>
aBox a1 h2 fun v3 h4 =>
aLoad true 6 v1 h4 fun v5 =>
Good prog J 116 [v5] h4 fun v6 h7 =>
aBin prog .neq 39 v6 (vint 0) fun v8 =>
cnd v8
(retL h.length K [] [(vint 0), v6] h7)
(aLoad true 3 v3 h7 fun v9 =>
Good prog J 117 [v9] h7 fun v10 h11 =>
aBin prog .neq 39 v10 (vint 0) fun v12 =>
cnd v12
(retL h.length K [] [(vint 0), v10] h11)
(aOff v3 0 fun v13 =>
aLoad false 1 v13 h11 fun v14 =>
aBin prog .sub 3 v14 (vint 1) fun v15 =>
Good prog J 118 [a2, (vint 0), v15] h11 fun v16 h17 =>
aUn .not v16 fun v18 =>
cnd v18
(retL h.length K [] [(vint 0), (vint 3)] h17)
(aOff v3 0 fun v19 =>
aLoad false 1 v19 h17 fun v20 =>
aBin prog .sub 3 v20 a2 fun v21 =>
Good prog J 118 [a3, (vint 1), v21] h17 fun v22 h23 =>
aUn .not v22 fun v24 =>
cnd v24
(retL h.length K [] [(vint 0), (vint 1)] h23)
(Sem J 49 h.length 84 (subC [1, 1, 1, 1, 1, 1, 0, 1, 0] (codeOf f84)) (RG.p (RG.p (RG.p (RG.p (RG.p (RG.p (RG.p (RG.p (RG.p (RG.p (RG.p (RG.p (RG.p (RG.p (RG.p (RG.p (RG.p (RG.p (RG.p (RG.p (RG.p (RG.p (RG.p (RG.p (RG.p (RG.p (RG.p (RG.p (RG.p (RG.mk (regs [a0, a1, a2, a3]) []) 4 v1) 5 v3) 8 (vint 0)) 9 (vint 0)) 14 v5) 15 v6) 10 v6) 16 v6) 17 v8) 19 v9) 20 v10) 11 v10) 21 v10) 22 v12) 24 a2) 25 v13) 26 v14) 27 v15) 28 v16) 29 v18) 30 a3) 31 v19) 32 v20) 33 a2) 34 v21) 35 v22) 36 v24) 12 (vint 0)) 13 (vint 0)) h23 (contX pl84 prog J 49 h.length 84 ct84 [1, 1, 1, 1, 1, 1, 0, 1, 0] (codeOf f84) [] (RetQ prog [.tmp 8, .tmp 9] h.length K))))))) := top_eq pok84 ct84 (by kernel_rfl)
theorem g84 (hJ : Closed prog main J) {a0 a1 a2 a3 : Value} (hs : heapOk h → W prog J 49 h.length 84 (codeOf f84) (RG.mk (regs [a0, a1, a2, a3]) []) h (RetQ prog [.tmp 8, .tmp 9] h.length K)) : Good prog J 84 [a0, a1, a2, a3] h K :=
  good_of_W hJ mixed at84 body84 (by kernel_rfl) (Nat.le_of_ble_eq_true rfl) hs
theorem s84_1 {f : RG} {nx0 : RG → List AObj → Prop} : W prog J 49 n0 84 (subC [1, 1, 1, 1, 1, 1, 0, 1, 0, 0] (codeOf f84)) f h (thenK nx0 (contX pl84 prog J 49 n0 84 ct84 [1, 1, 1, 1, 1, 1, 0, 1, 0] (codeOf f84) [] (RetQ prog [.tmp 8, .tmp 9] n0 K))) =
(aBin prog .leq 3 (f.r 13) (vint 40) fun v1 =>
cnd v1
(aLoad true 6 (f.r 4) h fun v2 =>
aLoad true 3 (f.r 5) h fun v3 =>
Good prog J 119 [v2, v3, (f.r 13), (f.r 2), (f.r 3)] h fun v4 h5 =>
cnd v4
(aBin prog .add 3 (f.r 13) (vint 1) fun v6 =>
nx0 (RG.p (RG.p (RG.p (RG.p (RG.p (RG.p (RG.p (RG.p (RG.p (RG.p (RG.p (RG.p (RG.p f 37 (f.r 13)) 38 v1) 41 v2) 42 v3) 43 (f.r 13)) 44 (f.r 2)) 45 (f.r 3)) 46 v4) 47 (f.r 13)) 12 (f.r 13)) 39 (f.r 13)) 40 v6) 13 v6) h5)
(aBin prog .add 3 (f.r 13) (vint 1) fun v7 =>
nx0 (RG.p (RG.p (RG.p (RG.p (RG.p (RG.p (RG.p (RG.p (RG.p (RG.p (RG.p f 37 (f.r 13)) 38 v1) 41 v2) 42 v3) 43 (f.r 13)) 44 (f.r 2)) 45 (f.r 3)) 46 v4) 39 (f.r 13)) 40 v7) 13 v7) h5))
(retL n0 K f.ds [(f.r 12), (vint 0)] h)) := sub_eq pok84 ct84 (by kernel_rfl)
theorem l84_1 (hJ : Closed prog main J) {S : Type} (μ : S → Nat) (I : S → RG → List AObj → Prop) (hI : ∀ s f h, I s f h → heapOk h → n0 ≤ h.length → W prog J 49 n0 84 (subC [1, 1, 1, 1, 1, 1, 0, 1, 0, 0] (codeOf f84)) f h (thenK (Nx n0 μ I s) (contX pl84 prog J 49 n0 84 ct84 [1, 1, 1, 1, 1, 1, 0, 1, 0] (codeOf f84) [] (RetQ prog [.tmp 8, .tmp 9] n0 K))))
  {s : S} {f : RG} (hi : Gets n0 I s f h) : Sem J 49 n0 84 (subC [1, 1, 1, 1, 1, 1, 0, 1, 0] (codeOf f84)) f h (contX pl84 prog J 49 n0 84 ct84 [1, 1, 1, 1, 1, 1, 0, 1, 0] (codeOf f84) [] (RetQ prog [.tmp 8, .tmp 9] n0 K)) :=
  loop_rule hJ mixed (b := subC [1, 1, 1, 1, 1, 1, 0, 1, 0, 0] (codeOf f84)) (by kernel_rfl) μ I hI hi
end
section
variable {main : Bool} {J : JT} {n0 : Nat} {h : List AObj} {K : Value → List AObj → Prop}
theorem at118 : prog.funcs[118]? = some f118 := by kernel_rfl
theorem body118 : f118.body = some (codeOf f118) := by kernel_rfl
def pl118 : Plans := []
def ct118 : Cuts := .go
theorem pok118 : plansOk prog pl118 (codeOf f118) = true := by kernel_rfl
theorem e118 {a0 a1 a2 : Value} : W prog J 15 h.length 118 (codeOf f118) (RG.mk (regs [a0, a1, a2]) []) h (RetQ prog [.tmp 6] h.length K) =
(aBin prog .geq 3 a0 a1 fun v1 =>
cnd v1
(aBin prog .leq 3 a0 a2 fun v2 =>
retL h.length K [] [v2] h)
(retL h.length K [] [(Value.bool false)] h)) := top_eq pok118 ct118 (by kernel_rfl)
theorem g118 (hJ : Closed prog main J) {a0 a1 a2 : Value} (hs : heapOk h → W prog J 15 h.length 118 (codeOf f118) (RG.mk (regs [a0, a1, a2]) []) h (RetQ prog [.tmp 6] h.length K)) : Good prog J 118 [a0, a1, a2] h K :=
  good_of_W hJ mixed at118 body118 (by kernel_rfl) (Nat.le_of_ble_eq_true rfl) hs
theorem at116 : prog.funcs[116]? = some f116 := by kernel_rfl
theorem body116 : f116.body = some (codeOf f116) := by kernel_rfl
def pl116 : Plans := []
def ct116 : Cuts := .bin (.go) (.bin (.bin (.go) (.cut (.go))) (.go))
theorem pok116 : plansOk prog pl116 (codeOf f116) = true := by kernel_rfl
theorem e116 {a0 : Value} : W prog J 43 h.length 116 (codeOf f116) (RG.mk (regs [a0]) []) h (RetQ prog [.tmp 2] h.length K) =
(aBox a0 h fun v1 h2 =>
aOff v1 1 fun v3 =>
aLoad false 1 v3 h2 fun v4 =>
Good prog J 118 [v4, (vint 1), (vint 99)] h2 fun v5 h6 =>
aUn .not v5 fun v7 =>
cnd v7
(Hold (W prog J 43 h.length 116 (subC [1, 0, 1] (codeOf f116)) (RG.p (RG.p (RG.p (RG.p (RG.p (RG.p (RG.p (RG.p (RG.p (RG.p (RG.p (RG.p (RG.p (RG.p (RG.p (RG.p (RG.p (RG.p (RG.p (RG.p (RG.p (RG.p (RG.p (RG.p (RG.p (RG.p (RG.p (RG.p (RG.p (RG.p (RG.p (RG.p (RG.p (RG.p (RG.p (RG.p (RG.p (RG.p (RG.p (RG.p (RG.p (RG.p (RG.p (RG.p (RG.p (RG.p (RG.p (RG.mk (regs [a0]) []) 1 v1) 2 (vint 0)) 3 v3) 4 v4) 5 v5) 6 v7) 7 v7) 7 (Value.bool true)) 8 undef) 9 undef) 10 undef) 11 undef) 12 undef) 13 undef) 14 (Value.bool true)) 15 (Value.bool true)) 15 (Value.bool true)) 16 undef) 17 undef) 18 undef) 19 undef) 20 (Value.bool true)) 21 (Value.bool true)) 21 (Value.bool true)) 22 undef) 23 undef) 24 undef) 25 undef) 26 undef) 27 undef) 28 (Value.bool true)) 29 (Value.bool true)) 29 (Value.bool true)) 30 undef) 31 undef) 32 undef) 33 undef) 34 undef) 35 undef) 36 (Value.bool true)) 37 (Value.bool true)) 37 (Value.bool true)) 38 undef) 39 undef) 40 undef) 41 undef) 42 (Value.bool true)) h6 (contX pl116 prog J 43 h.length 116 ct116 [1, 0, 1] (codeOf f116) [] (RetQ prog [.tmp 2] h.length K))))
(aOff v1 0 fun v8 =>
aLoad false 1 v8 h6 fun v9 =>
aOff v1 1 fun v10 =>
aLoad false 1 v10 h6 fun v11 =>
Good prog J 118 [v9, (vint 0), v11] h6 fun v12 h13 =>
aUn .not v12 fun v14 =>
cnd v14
(Hold (W prog J 43 h.length 116 (subC [1, 0, 1] (codeOf f116)) (RG.p (RG.p (RG.p (RG.p (RG.p (RG.p (RG.p (RG.p (RG.p (RG.p (RG.p (RG.p (RG.p (RG.p (RG.p (RG.p (RG.p (RG.p (RG.p (RG.p (RG.p (RG.p (RG.p (RG.p (RG.p (RG.p (RG.p (RG.p (RG.p (RG.p (RG.p (RG.p (RG.p (RG.p (RG.p (RG.p (RG.p (RG.p (RG.p (RG.p (RG.p (RG.p (RG.p (RG.p (RG.p (RG.p (RG.p (RG.mk (regs [a0]) []) 1 v1) 2 (vint 0)) 3 v3) 4 v4) 5 v5) 6 v7) 7 v7) 7 (Value.bool false)) 8 v8) 9 v9) 10 v10) 11 v11) 12 v12) 13 v14) 14 v14) 15 v14) 15 (Value.bool true)) 16 undef) 17 undef) 18 undef) 19 undef) 20 (Value.bool true)) 21 (Value.bool true)) 21 (Value.bool true)) 22 undef) 23 undef) 24 undef) 25 undef) 26 undef) 27 undef) 28 (Value.bool true)) 29 (Value.bool true)) 29 (Value.bool true)) 30 undef) 31 undef) 32 undef) 33 undef) 34 undef) 35 undef) 36 (Value.bool true)) 37 (Value.bool true)) 37 (Value.bool true)) 38 undef) 39 undef) 40 undef) 41 undef) 42 (Value.bool true)) h13 (contX pl116 prog J 43 h.length 116 ct116 [1, 0, 1] (codeOf f116) [] (RetQ prog [.tmp 2] h.length K))))
(aOff v1 2 fun v15 =>
aLoad false 1 v15 h13 fun v16 =>
Good prog J 118 [v16, (vint 0), (vint 9)] h13 fun v17 h18 =>
aUn .not v17 fun v19 =>
cnd v19
(Hold (W prog J 43 h.length 116 (subC [1, 0, 1] (codeOf f116)) (RG.p (RG.p (RG.p (RG.p (RG.p (RG.p (RG.p (RG.p (RG.p (RG.p (RG.p (RG.p (RG.p (RG.p (RG.p (RG.p (RG.p (RG.p (RG.p (RG.p (RG.p (RG.p (RG.p (RG.p (RG.p (RG.p (RG.p (RG.p (RG.p (RG.p (RG.p (RG.p (RG.p (RG.p (RG.p (RG.p (RG.p (RG.p (RG.p (RG.p (RG.p (RG.p (RG.p (RG.p (RG.p (RG.p (RG.p (RG.mk (regs [a0]) []) 1 v1) 2 (vint 0)) 3 v3) 4 v4) 5 v5) 6 v7) 7 v7) 7 (Value.bool false)) 8 v8) 9 v9) 10 v10) 11 v11) 12 v12) 13 v14) 14 v14) 15 v14) 15 (Value.bool false)) 16 v15) 17 v16) 18 v17) 19 v19) 20 v19) 21 v19) 21 (Value.bool true)) 22 undef) 23 undef) 24 undef) 25 undef) 26 undef) 27 undef) 28 (Value.bool true)) 29 (Value.bool true)) 29 (Value.bool true)) 30 undef) 31 undef) 32 undef) 33 undef) 34 undef) 35 undef) 36 (Value.bool true)) 37 (Value.bool true)) 37 (Value.bool true)) 38 undef) 39 undef) 40 undef) 41 undef) 42 (Value.bool true)) h18 (contX pl116 prog J 43 h.length 116 ct116 [1, 0, 1] (codeOf f116) [] (RetQ prog [.tmp 2] h.length K))))
(aOff v1 3 fun v20 =>
aLoad false 1 v20 h18 fun v21 =>
aOff v1 2 fun v22 =>
aLoad false 1 v22 h18 fun v23 =>
Good prog J 118 [v21, v23, (vint 9)] h18 fun v24 h25 =>
aUn .not v24 fun v26 =>
cnd v26
(Hold (W prog J 43 h.length 116 (subC [1, 0, 1] (codeOf f116)) (RG.p (RG.p (RG.p (RG.p (RG.p (RG.p (RG.p (RG.p (RG.p (RG.p (RG.p (RG.p (RG.p (RG.p (RG.p (RG.p (RG.p (RG.p (RG.p (RG.p (RG.p (RG.p (RG.p (RG.p (RG.p (RG.p (RG.p (RG.p (RG.p (RG.p (RG.p (RG.p (RG.p (RG.p (RG.p (RG.p (RG.p (RG.p (RG.p (RG.p (RG.p (RG.p (RG.p (RG.p (RG.p (RG.p (RG.p (RG.mk (regs [a0]) []) 1 v1) 2 (vint 0)) 3 v3) 4 v4) 5 v5) 6 v7) 7 v7) 7 (Value.bool false)) 8 v8) 9 v9) 10 v10) 11 v11) 12 v12) 13 v14) 14 v14) 15 v14) 15 (Value.bool false)) 16 v15) 17 v16) 18 v17) 19 v19) 20 v19) 21 v19) 21 (Value.bool false)) 22 v20) 23 v21) 24 v22) 25 v23) 26 v24) 27 v26) 28 v26) 29 v26) 29 (Value.bool true)) 30 undef) 31 undef) 32 undef) 33 undef) 34 undef) 35 undef) 36 (Value.bool true)) 37 (Value.bool true)) 37 (Value.bool true)) 38 undef) 39 undef) 40 undef) 41 undef) 42 (Value.bool true)) h25 (contX pl116 prog J 43 h.length 116 ct116 [1, 0, 1] (codeOf f116) [] (RetQ prog [.tmp 2] h.length K))))
(aOff v1 4 fun v27 =>
aLoad false 1 v27 h25 fun v28 =>
aOff v1 1 fun v29 =>
aLoad false 1 v29 h25 fun v30 =>
Good prog J 118 [v28, (vint 0), v30] h25 fun v31 h32 =>
aUn .not v31 fun v33 =>
cnd v33
(Hold (W prog J 43 h.length 116 (subC [1, 0, 1] (codeOf f116)) (RG.p (RG.p (RG.p (RG.p (RG.p (RG.p (RG.p (RG.p (RG.p (RG.p (RG.p (RG.p (RG.p (RG.p (RG.p (RG.p (RG.p (RG.p (RG.p (RG.p (RG.p (RG.p (RG.p (RG.p (RG.p (RG.p (RG.p (RG.p (RG.p (RG.p (RG.p (RG.p (RG.p (RG.p (RG.p (RG.p (RG.p (RG.p (RG.p (RG.p (RG.p (RG.p (RG.p (RG.p (RG.p (RG.p (RG.p (RG.mk (regs [a0]) []) 1 v1) 2 (vint 0)) 3 v3) 4 v4) 5 v5) 6 v7) 7 v7) 7 (Value.bool false)) 8 v8) 9 v9) 10 v10) 11 v11) 12 v12) 13 v14) 14 v14) 15 v14) 15 (Value.bool false)) 16 v15) 17 v16) 18 v17) 19 v19) 20 v19) 21 v19) 21 (Value.bool false)) 22 v20) 23 v21) 24 v22) 25 v23) 26 v24) 27 v26) 28 v26) 29 v26) 29 (Value.bool false)) 30 v27) 31 v28) 32 v29) 33 v30) 34 v31) 35 v33) 36 v33) 37 v33) 37 (Value.bool true)) 38 undef) 39 undef) 40 undef) 41 undef) 42 (Value.bool true)) h32 (contX pl116 prog J 43 h.length 116 ct116 [1, 0, 1] (codeOf f116) [] (RetQ prog [.tmp 2] h.length K))))
(aOff v1 5 fun v34 =>
aLoad false 1 v34 h32 fun v35 =>
Good prog J 118 [v35, (vint 0), (vint 5)] h32 fun v36 h37 =>
aUn .not v36 fun v38 =>
Hold (W prog J 43 h.length 116 (subC [1, 0, 1] (codeOf f116)) (RG.p (RG.p (RG.p (RG.p (RG.p (RG.p (RG.p (RG.p (RG.p (RG.p (RG.p (RG.p (RG.p (RG.p (RG.p (RG.p (RG.p (RG.p (RG.p (RG.p (RG.p (RG.p (RG.p (RG.p (RG.p (RG.p (RG.p (RG.p (RG.p (RG.p (RG.p (RG.p (RG.p (RG.p (RG.p (RG.p (RG.p (RG.p (RG.p (RG.p (RG.p (RG.p (RG.p (RG.p (RG.p (RG.p (RG.p (RG.mk (regs [a0]) []) 1 v1) 2 (vint 0)) 3 v3) 4 v4) 5 v5) 6 v7) 7 v7) 7 (Value.bool false)) 8 v8) 9 v9) 10 v10) 11 v11) 12 v12) 13 v14) 14 v14) 15 v14) 15 (Value.bool false)) 16 v15) 17 v16) 18 v17) 19 v19) 20 v19) 21 v19) 21 (Value.bool false)) 22 v20) 23 v21) 24 v22) 25 v23) 26 v24) 27 v26) 28 v26) 29 v26) 29 (Value.bool false)) 30 v27) 31 v28) 32 v29) 33 v30) 34 v31) 35 v33) 36 v33) 37 v33) 37 (Value.bool false)) 38 v34) 39 v35) 40 v36) 41 v38) 42 v38) h37 (contX pl116 prog J 43 h.length 116 ct116 [1, 0, 1] (codeOf f116) [] (RetQ prog [.tmp 2] h.length K))))))))) := top_eq pok116 ct116 (by kernel_rfl)
theorem g116 (hJ : Closed prog main J) {a0 : Value} (hs : heapOk h → W prog J 43 h.length 116 (codeOf f116) (RG.mk (regs [a0]) []) h (RetQ prog [.tmp 2] h.length K)) : Good prog J 116 [a0] h K :=
  good_of_W hJ mixed at116 body116 (by kernel_rfl) (Nat.le_of_ble_eq_true rfl) hs
theorem s116_1 {f : RG} : W prog J 43 n0 116 (subC [1, 0, 1] (codeOf f116)) f h (contX pl116 prog J 43 n0 116 ct116 [1, 0, 1] (codeOf f116) [] (RetQ prog [.tmp 2] n0 K)) =
(cnd (f.r 42)
(retL n0 K f.ds [(vint 1)] h)
(retL n0 K f.ds [(vint 0)] h)) := sub_eq pok116 ct116 (by kernel_rfl)
theorem at117 : prog.funcs[117]? = some f117 := by kernel_rfl
theorem body117 : f117.body = some (codeOf f117) := by kernel_rfl
def pl117 : Plans := []
def ct117 : Cuts := .bin (.go) (.bin (.bin (.go) (.cut (.go))) (.go))
theorem pok117 : plansOk prog pl117 (codeOf f117) = true := by kernel_rfl
theorem e117 {a0 : Value} : W prog J 23 h.length 117 (codeOf f117) (RG.mk (regs [a0]) []) h (RetQ prog [.tmp 2] h.length K) =
(aBox a0 h fun v1 h2 =>
aOff v1 0 fun v3 =>
aLoad false 1 v3 h2 fun v4 =>
Good prog J 118 [v4, (vint 1), (vint 8)] h2 fun v5 h6 =>
aUn .not v5 fun v7 =>
cnd v7
(Hold (W prog J 23 h.length 117 (subC [1, 0, 1] (codeOf f117)) (RG.p (RG.p (RG.p (RG.p (RG.p (RG.p (RG.p (RG.p (RG.p (RG.p (RG.p (RG.p (RG.p (RG.p (RG.p (RG.p (RG.p (RG.p (RG.p (RG.p (RG.p (RG.p (RG.p (RG.p (RG.mk (regs [a0]) []) 1 v1) 2 (vint 0)) 3 v3) 4 v4) 5 v5) 6 v7) 7 v7) 7 (Value.bool true)) 8 undef) 9 undef) 10 undef) 11 undef) 12 undef) 13 undef) 14 (Value.bool true)) 15 (Value.bool true)) 15 (Value.bool true)) 16 undef) 17 undef) 18 undef) 19 undef) 20 undef) 21 undef) 22 (Value.bool true)) h6 (contX pl117 prog J 23 h.length 117 ct117 [1, 0, 1] (codeOf f117) [] (RetQ prog [.tmp 2] h.length K))))
(aOff v1 1 fun v8 =>
aLoad false 1 v8 h6 fun v9 =>
aOff v1 0 fun v10 =>
aLoad false 1 v10 h6 fun v11 =>
Good prog J 118 [v9, (vint 1), v11] h6 fun v12 h13 =>
aUn .not v12 fun v14 =>
cnd v14
(Hold (W prog J 23 h.length 117 (subC [1, 0, 1] (codeOf f117)) (RG.p (RG.p (RG.p (RG.p (RG.p (RG.p (RG.p (RG.p (RG.p (RG.p (RG.p (RG.p (RG.p (RG.p (RG.p (RG.p (RG.p (RG.p (RG.p (RG.p (RG.p (RG.p (RG.p (RG.p (RG.mk (regs [a0]) []) 1 v1) 2 (vint 0)) 3 v3) 4 v4) 5 v5) 6 v7) 7 v7) 7 (Value.bool false)) 8 v8) 9 v9) 10 v10) 11 v11) 12 v12) 13 v14) 14 v14) 15 v14) 15 (Value.bool true)) 16 undef) 17 undef) 18 undef) 19 undef) 20 undef) 21 undef) 22 (Value.bool true)) h13 (contX pl117 prog J 23 h.length 117 ct117 [1, 0, 1] (codeOf f117) [] (RetQ prog [.tmp 2] h.length K))))
(aOff v1 2 fun v15 =>
aLoad false 1 v15 h13 fun v16 =>
aOff v1 0 fun v17 =>
aLoad false 1 v17 h13 fun v18 =>
Good prog J 118 [v16, (vint 1), v18] h13 fun v19 h20 =>
aUn .not v19 fun v21 =>
Hold (W prog J 23 h.length 117 (subC [1, 0, 1] (codeOf f117)) (RG.p (RG.p (RG.p (RG.p (RG.p (RG.p (RG.p (RG.p (RG.p (RG.p (RG.p (RG.p (RG.p (RG.p (RG.p (RG.p (RG.p (RG.p (RG.p (RG.p (RG.p (RG.p (RG.p (RG.p (RG.mk (regs [a0]) []) 1 v1) 2 (vint 0)) 3 v3) 4 v4) 5 v5) 6 v7) 7 v7) 7 (Value.bool false)) 8 v8) 9 v9) 10 v10) 11 v11) 12 v12) 13 v14) 14 v14) 15 v14) 15 (Value.bool false)) 16 v15) 17 v16) 18 v17) 19 v18) 20 v19) 21 v21) 22 v21) h20 (contX pl117 prog J 23 h.length 117 ct117 [1, 0, 1] (codeOf f117) [] (RetQ prog [.tmp 2] h.length K)))))) := top_eq pok117 ct117 (by kernel_rfl)
theorem g117 (hJ : Closed prog main J) {a0 : Value} (hs : heapOk h → W prog J 23 h.length 117 (codeOf f117) (RG.mk (regs [a0]) []) h (RetQ prog [.tmp 2] h.length K)) : Good prog J 117 [a0] h K :=
  good_of_W hJ mixed at117 body117 (by kernel_rfl) (Nat.le_of_ble_eq_true rfl) hs
theorem s117_1 {f : RG} : W prog J 23 n0 117 (subC [1, 0, 1] (codeOf f117)) f h (contX pl117 prog J 23 n0 117 ct117 [1, 0, 1] (codeOf f117) [] (RetQ prog [.tmp 2] n0 K)) =
(cnd (f.r 22)
(retL n0 K f.ds [(vint 1)] h)
(retL n0 K f.ds [(vint 0)] h)) := sub_eq pok117 ct117 (by kernel_rfl)
theorem at142 : prog.funcs[142]? = some f142 := by kernel_rfl
theorem body142 : f142.body = some (codeOf f142) := by kernel_rfl
def pl142 : Plans := []
def ct142 : Cuts := .bin (.go) (.bin (.go) (.bin (.go) (.bin (.bin (.go) (.cut (.go))) (.go))))
theorem pok142 : plansOk prog pl142 (codeOf f142) = true := by kernel_rfl
theorem e142 {a0 a1 a2 a3 : Value} : W prog J 58 h.length 142 (codeOf f142) (RG.mk (regs [a0, a1, a2, a3]) []) h (RetQ prog [.cell 8 173, .tmp 9, .tmp 10] h.length K) =
(aBox a0 h fun v1 h2 =>
aBox a1 h2 fun v3 h4 =>
aAlloc [(vint 0), (vint 0)] h4 fun v5 h6 =>
aOff v3 0 fun v7 =>
aLoad false 1 v7 h6 fun v8 =>
aBin prog .lss 3 v8 a2 fun v9 =>
aOff v3 0 fun v10 =>
aLoad false 1 v10 h6 fun v11 =>
aBin prog .sub 3 v11 a2 fun v12 =>
aMax (vint 0) [v12] fun v13 =>
aBin prog .gtr 3 a2 (vint 0) fun v14 =>
cnd v14
(aOff v1 4 fun v15 =>
aLoad false 1 v15 h6 fun v16 =>
aBin prog .lss 3 v13 v16 fun v17 =>
Hold (W prog J 58 h.length 142 (subC [1, 1, 1, 0, 1] (codeOf f142)) (RG.p (RG.p (RG.p (RG.p (RG.p (RG.p (RG.p (RG.p (RG.p (RG.p (RG.p (RG.p (RG.p (RG.p (RG.p (RG.p (RG.p (RG.p (RG.p (RG.p (RG.p (RG.p (RG.p (RG.p (RG.p (RG.mk (regs [a0, a1, a2, a3]) []) 4 v1) 5 v3) 8 v5) 9 (Value.bool false)) 10 (Value.bool false)) 14 v7) 15 v8) 16 a2) 17 v9) 11 v9) 18 v10) 19 v11) 20 a2) 21 v12) 22 v13) 12 v13) 23 a2) 24 v14) 25 v14) 25 (Value.bool true)) 26 v13) 27 v15) 28 v16) 29 v17) 30 v17) h6 (contX pl142 prog J 58 h.length 142 ct142 [1, 1, 1, 0, 1] (codeOf f142) [] (RetQ prog [.cell 8 173, .tmp 9, .tmp 10] h.length K))))
(Hold (W prog J 58 h.length 142 (subC [1, 1, 1, 0, 1] (codeOf f142)) (RG.p (RG.p (RG.p (RG.p (RG.p (RG.p (RG.p (RG.p (RG.p (RG.p (RG.p (RG.p (RG.p (RG.p (RG.p (RG.p (RG.p (RG.p (RG.p (RG.p (RG.p (RG.p (RG.p (RG.p (RG.p (RG.mk (regs [a0, a1, a2, a3]) []) 4 v1) 5 v3) 8 v5) 9 (Value.bool false)) 10 (Value.bool false)) 14 v7) 15 v8) 16 a2) 17 v9) 11 v9) 18 v10) 19 v11) 20 a2) 21 v12) 22 v13) 12 v13) 23 a2) 24 v14) 25 v14) 25 (Value.bool false)) 26 undef) 27 undef) 28 undef) 29 undef) 30 (Value.bool false)) h6 (contX pl142 prog J 58 h.length 142 ct142 [1, 1, 1, 0, 1] (codeOf f142) [] (RetQ prog [.cell 8 173, .tmp 9, .tmp 10] h.length K))))) := top_eq pok142 ct142 (by kernel_rfl)
theorem g142 (hJ : Closed prog main J) {a0 a1 a2 a3 : Value} (hs : heapOk h → W prog J 58 h.length 142 (codeOf f142) (RG.mk (regs [a0, a1, a2, a3]) []) h (RetQ prog [.cell 8 173, .tmp 9, .tmp 10] h.length K)) : Good prog J 142 [a0, a1, a2, a3] h K :=
  good_of_W hJ mixed at142 body142 (by kernel_rfl) (Nat.le_of_ble_eq_true rfl) hs
theorem s142_1 {f : RG} : W prog J 58 n0 142 (subC [1, 1, 1, 0, 1] (codeOf f142)) f h (contX pl142 prog J 58 n0 142 ct142 [1, 1, 1, 0, 1] (codeOf f142) [] (RetQ prog [.cell 8 173, .tmp 9, .tmp 10] n0 K)) =
(cnd (f.r 30)
(aOff (f.r 4) 5 fun v1 =>
aLoad false 1 v1 h fun v2 =>
aFill [(vint 0), (vint 0)] [(0, 1, (f.r 12)), (1, 1, v2)] fun c3 =>
aStore 2 (f.r 8) (Value.agg ⟨c3⟩) h fun h4 =>
RetQ prog [.cell 8 173, .tmp 9, .tmp 10] n0 K .ret (RG.p (RG.p (RG.p (RG.p (RG.p (RG.p (RG.p f 31 (f.r 12)) 32 v1) 33 v2) 34 (Value.agg ⟨c3⟩)) 35 (f.r 11)) 9 (Value.bool true)) 10 (f.r 11)) h4)
(aOff (f.r 5) 1 fun v5 =>
aLoad false 1 v5 h fun v6 =>
aBin prog .gtr 3 v6 (vint 0) fun v7 =>
cnd v7
(aOff (f.r 5) 1 fun v8 =>
aLoad false 1 v8 h fun v9 =>
aBin prog .sub 3 v9 (vint 1) fun v10 =>
aFill [(vint 0), (vint 0)] [(0, 1, (f.r 12)), (1, 1, v10)] fun c11 =>
aStore 2 (f.r 8) (Value.agg ⟨c11⟩) h fun h12 =>
RetQ prog [.cell 8 173, .tmp 9, .tmp 10] n0 K .ret (RG.p (RG.p (RG.p (RG.p (RG.p (RG.p (RG.p (RG.p (RG.p (RG.p (RG.p f 36 v5) 37 v6) 38 v7) 39 (f.r 12)) 40 v8) 41 v9) 42 v10) 43 (Value.agg ⟨c11⟩)) 44 (f.r 11)) 9 (Value.bool false)) 10 (f.r 11)) h12)
(aOff (f.r 4) 2 fun v13 =>
aLoad false 1 v13 h fun v14 =>
cnd (f.r 3)
(aOff (f.r 4) 3 fun v15 =>
aLoad false 1 v15 h fun v16 =>
aOff (f.r 4) 1 fun v17 =>
aLoad false 1 v17 h fun v18 =>
aBin prog .add 3 (f.r 12) v16 fun v19 =>
aMin v18 [v19] fun v20 =>
aFill [(vint 0), (vint 0)] [(0, 1, v20), (1, 1, (vint 0))] fun c21 =>
aStore 2 (f.r 8) (Value.agg ⟨c21⟩) h fun h22 =>
RetQ prog [.cell 8 173, .tmp 9, .tmp 10] n0 K .ret (RG.p (RG.p (RG.p (RG.p (RG.p (RG.p (RG.p (RG.p (RG.p (RG.p (RG.p (RG.p (RG.p (RG.p (RG.p (RG.p (RG.p (RG.p (RG.p (RG.p f 36 v5) 37 v6) 38 v7) 45 v13) 46 v14) 13 v14) 47 (f.r 3)) 48 v15) 49 v16) 13 v16) 50 v17) 51 v18) 52 (f.r 12)) 53 v16) 54 v19) 55 v20) 56 (Value.agg ⟨c21⟩)) 57 (f.r 11)) 9 (Value.bool false)) 10 (f.r 11)) h22)
(aOff (f.r 4) 1 fun v23 =>
aLoad false 1 v23 h fun v24 =>
aBin prog .add 3 (f.r 12) v14 fun v25 =>
aMin v24 [v25] fun v26 =>
aFill [(vint 0), (vint 0)] [(0, 1, v26), (1, 1, (vint 0))] fun c27 =>
aStore 2 (f.r 8) (Value.agg ⟨c27⟩) h fun h28 =>
RetQ prog [.cell 8 173, .tmp 9, .tmp 10] n0 K .ret (RG.p (RG.p (RG.p (RG.p (RG.p (RG.p (RG.p (RG.p (RG.p (RG.p (RG.p (RG.p (RG.p (RG.p (RG.p (RG.p (RG.p f 36 v5) 37 v6) 38 v7) 45 v13) 46 v14) 13 v14) 47 (f.r 3)) 50 v23) 51 v24) 52 (f.r 12)) 53 v14) 54 v25) 55 v26) 56 (Value.agg ⟨c27⟩)) 57 (f.r 11)) 9 (Value.bool false)) 10 (f.r 11)) h28)))) := sub_eq pok142 ct142 (by kernel_rfl)
theorem at141 : prog.funcs[141]? = some f141 := by kernel_rfl
theorem body141 : f141.body = some (codeOf f141) := by kernel_rfl
def pl141 : Plans := [(7, true, .take 0 (.take 1 (.take 2 (.take 3 (.take 4 (.take 5 (.take 6 (.take 7 (.take 8 (.take 9 (.take 10 (.take 11 (.fin)))))))))))))]
def ct141 : Cuts := .bin (.go) (.bin (.go) (.bin (.go) (.bin (.bin (.go) (.un (.un (.bin (.go) (.bin (.un (.bin (.bin (.go) (.cut (.go))) (.cut (.bin (.go) (.cut (.go)))))) (.go)))))) (.go))))
theorem pok141 : plansOk prog pl141 (codeOf f141) = true := by kernel_rfl
theorem e141 {a0 a1 : Value} : W prog J 54 h.length 141 (codeOf f141) (RG.mk (regs [a0, a1]) []) h (RetQ prog [.tmp 4] h.length K) =
(aBox a0 h fun v1 h2 =>
aLenStr a1 fun v3 =>
aOff v1 0 fun v4 =>
aLoad false 1 v4 h2 fun v5 =>
aBin prog .neq 3 v3 v5 fun v6 =>
cnd v6
(retL h.length K [] [(Value.bool false)] h2)
(Sem J 54 h.length 141 (subC [1, 1, 1, 0, 1, 0] (codeOf f141)) (RG.p (RG.p (RG.p (RG.p (RG.p (RG.p (RG.p (RG.p (RG.p (RG.mk (regs [a0, a1]) []) 2 v1) 4 (Value.bool false)) 7 a1) 8 v3) 9 v4) 10 v5) 11 v6) 5 (vint 0)) 6 (vint 0)) h2 (contX pl141 prog J 54 h.length 141 ct141 [1, 1, 1, 0, 1, 0] (codeOf f141) [] (RetQ prog [.tmp 4] h.length K)))) := top_eq pok141 ct141 (by kernel_rfl)
theorem g141 (hJ : Closed prog main J) {a0 a1 : Value} (hs : heapOk h → W prog J 54 h.length 141 (codeOf f141) (RG.mk (regs [a0, a1]) []) h (RetQ prog [.tmp 4] h.length K)) : Good prog J 141 [a0, a1] h K :=
  good_of_W hJ mixed at141 body141 (by kernel_rfl) (Nat.le_of_ble_eq_true rfl) hs
theorem s141_1 {f : RG} {nx0 : RG → List AObj → Prop} : W prog J 54 n0 141 (subC [1, 1, 1, 0, 1, 0, 0] (codeOf f141)) f h (thenK nx0 (contX pl141 prog J 54 n0 141 ct141 [1, 1, 1, 0, 1, 0] (codeOf f141) [] (RetQ prog [.tmp 4] n0 K))) =
(aLenStr (f.r 1) fun v1 =>
aBin prog .lss 3 (f.r 6) v1 fun v2 =>
cnd v2
(aBin prog .gtr 3 (f.r 6) (vint 0) fun v3 =>
cnd v3
(aIdxStr (f.r 1) (f.r 6) fun v4 =>
aBin prog .sub 3 (f.r 6) (vint 1) fun v5 =>
aIdxStr (f.r 1) v5 fun v6 =>
aBin prog .eql 5 v4 v6 fun v7 =>
Hold (W prog J 54 n0 141 (subC [1, 1, 1, 0, 1, 0, 0, 1, 0, 0, 0, 1] (codeOf f141)) (RG.p (RG.p (RG.p (RG.p (RG.p (RG.p (RG.p (RG.p (RG.p (RG.p (RG.p (RG.p (RG.p (RG.p (RG.p (RG.p (RG.p f 12 (f.r 6)) 13 (f.r 1)) 14 v1) 15 v2) 18 (f.r 6)) 19 v3) 20 v3) 20 (Value.bool true)) 21 (f.r 1)) 22 (f.r 6)) 23 v4) 24 (f.r 1)) 25 (f.r 6)) 26 v5) 27 v6) 28 v7) 29 v7) h (contX pl141 prog J 54 n0 141 ct141 [1, 1, 1, 0, 1, 0, 0, 1, 0, 0, 0, 1] (codeOf f141) [nx0] (RetQ prog [.tmp 4] n0 K))))
(Hold (W prog J 54 n0 141 (subC [1, 1, 1, 0, 1, 0, 0, 1, 0, 0, 0, 1] (codeOf f141)) (RG.p (RG.p (RG.p (RG.p (RG.p (RG.p (RG.p (RG.p (RG.p (RG.p (RG.p (RG.p (RG.p (RG.p (RG.p (RG.p (RG.p f 12 (f.r 6)) 13 (f.r 1)) 14 v1) 15 v2) 18 (f.r 6)) 19 v3) 20 v3) 20 (Value.bool false)) 21 undef) 22 undef) 23 undef) 24 undef) 25 undef) 26 undef) 27 undef) 28 undef) 29 (Value.bool false)) h (contX pl141 prog J 54 n0 141 ct141 [1, 1, 1, 0, 1, 0, 0, 1, 0, 0, 0, 1] (codeOf f141) [nx0] (RetQ prog [.tmp 4] n0 K)))))
(retL n0 K f.ds [(Value.bool true)] h)) := sub_eq pok141 ct141 (by kernel_rfl)
theorem l141_1 (hJ : Closed prog main J) {S : Type} (μ : S → Nat) (I : S → RG → List AObj → Prop) (hI : ∀ s f h, I s f h → heapOk h → n0 ≤ h.length → W prog J 54 n0 141 (subC [1, 1, 1, 0, 1, 0, 0] (codeOf f141)) f h (thenK (Nx n0 μ I s) (contX pl141 prog J 54 n0 141 ct141 [1, 1, 1, 0, 1, 0] (codeOf f141) [] (RetQ prog [.tmp 4] n0 K))))
  {s : S} {f : RG} (hi : Gets n0 I s f h) : Sem J 54 n0 141 (subC [1, 1, 1, 0, 1, 0] (codeOf f141)) f h (contX pl141 prog J 54 n0 141 ct141 [1, 1, 1, 0, 1, 0] (codeOf f141) [] (RetQ prog [.tmp 4] n0 K)) :=
  loop_rule hJ mixed (b := subC [1, 1, 1, 0, 1, 0, 0] (codeOf f141)) (by kernel_rfl) μ I hI hi
theorem s141_2 {f : RG} {nx0 : RG → List AObj → Prop} : W prog J 54 n0 141 (subC [1, 1, 1, 0, 1, 0, 0, 1, 0, 0, 0, 1] (codeOf f141)) f h (contX pl141 prog J 54 n0 141 ct141 [1, 1, 1, 0, 1, 0, 0, 1, 0, 0, 0, 1] (codeOf f141) [nx0] (RetQ prog [.tmp 4] n0 K)) =
(cnd (f.r 29)
(aBin prog .add 3 (f.r 5) (vint 1) fun v1 =>
Hold (W prog J 54 n0 141 (subC [1, 1, 1, 0, 1, 0, 0, 1, 0, 0, 1] (codeOf f141)) (RG.p (RG.p (RG.p f 30 (f.r 5)) 31 v1) 5 v1) h (contX pl141 prog J 54 n0 141 ct141 [1, 1, 1, 0, 1, 0, 0, 1, 0, 0, 1] (codeOf f141) [nx0] (RetQ prog [.tmp 4] n0 K))))
(Hold (W prog J 54 n0 141 (subC [1, 1, 1, 0, 1, 0, 0, 1, 0, 0, 1] (codeOf f141)) (RG.p f 5 (vint 1)) h (contX pl141 prog J 54 n0 141 ct141 [1, 1, 1, 0, 1, 0, 0, 1, 0, 0, 1] (codeOf f141) [nx0] (RetQ prog [.tmp 4] n0 K))))) := sub_eq pok141 ct141 (by kernel_rfl)
theorem s141_3 {f : RG} {nx0 : RG → List AObj → Prop} : W prog J 54 n0 141 (subC [1, 1, 1, 0, 1, 0, 0, 1, 0, 0, 1] (codeOf f141)) f h (contX pl141 prog J 54 n0 141 ct141 [1, 1, 1, 0, 1, 0, 0, 1, 0, 0, 1] (codeOf f141) [nx0] (RetQ prog [.tmp 4] n0 K)) =
(aIdxStr (f.r 1) (f.r 6) fun v1 =>
aBin prog .eql 5 v1 (Value.int .u8 100) fun v2 =>
cnd v2
(aOff (f.r 2) 1 fun v3 =>
aLoad false 1 v3 h fun v4 =>
aBin prog .gtr 3 (f.r 5) v4 fun v5 =>
cnd v5
(Hold (W prog J 54 n0 141 (subC [1, 1, 1, 0, 1, 0, 0, 1, 0, 0, 1, 1] (codeOf f141)) (RG.p (RG.p (RG.p (RG.p (RG.p (RG.p (RG.p (RG.p (RG.p (RG.p (RG.p (RG.p (RG.p (RG.p (RG.p (RG.p (RG.p (RG.p (RG.p (RG.p (RG.p (RG.p (RG.p (RG.p f 32 (f.r 1)) 33 (f.r 6)) 34 v1) 35 v2) 36 v2) 36 (Value.bool true)) 37 (f.r 5)) 38 v3) 39 v4) 40 v5) 41 v5) 42 v5) 42 (Value.bool true)) 43 undef) 44 undef) 45 undef) 46 undef) 47 undef) 48 undef) 49 undef) 50 undef) 51 undef) 52 undef) 53 (Value.bool true)) h (contX pl141 prog J 54 n0 141 ct141 [1, 1, 1, 0, 1, 0, 0, 1, 0, 0, 1, 1] (codeOf f141) [nx0] (RetQ prog [.tmp 4] n0 K))))
(aIdxStr (f.r 1) (f.r 6) fun v6 =>
aBin prog .eql 5 v6 (Value.int .u8 119) fun v7 =>
cnd v7
(aOff (f.r 2) 2 fun v8 =>
aLoad false 1 v8 h fun v9 =>
aBin prog .gtr 3 (f.r 5) v9 fun v10 =>
Hold (W prog J 54 n0 141 (subC [1, 1, 1, 0, 1, 0, 0, 1, 0, 0, 1, 1] (codeOf f141)) (RG.p (RG.p (RG.p (RG.p (RG.p (RG.p (RG.p (RG.p (RG.p (RG.p (RG.p (RG.p (RG.p (RG.p (RG.p (RG.p (RG.p (RG.p (RG.p (RG.p (RG.p (RG.p (RG.p (RG.p (RG.p f 32 (f.r 1)) 33 (f.r 6)) 34 v1) 35 v2) 36 v2) 36 (Value.bool true)) 37 (f.r 5)) 38 v3) 39 v4) 40 v5) 41 v5) 42 v5) 42 (Value.bool false)) 43 (f.r 1)) 44 (f.r 6)) 45 v6) 46 v7) 47 v7) 47 (Value.bool true)) 48 (f.r 5)) 49 v8) 50 v9) 51 v10) 52 v10) 53 v10) h (contX pl141 prog J 54 n0 141 ct141 [1, 1, 1, 0, 1, 0, 0, 1, 0, 0, 1, 1] (codeOf f141) [nx0] (RetQ prog [.tmp 4] n0 K))))
(Hold (W prog J 54 n0 141 (subC [1, 1, 1, 0, 1, 0, 0, 1, 0, 0, 1, 1] (codeOf f141)) (RG.p (RG.p (RG.p (RG.p (RG.p (RG.p (RG.p (RG.p (RG.p (RG.p (RG.p (RG.p (RG.p (RG.p (RG.p (RG.p (RG.p (RG.p (RG.p (RG.p (RG.p (RG.p (RG.p (RG.p (RG.p f 32 (f.r 1)) 33 (f.r 6)) 34 v1) 35 v2) 36 v2) 36 (Value.bool true)) 37 (f.r 5)) 38 v3) 39 v4) 40 v5) 41 v5) 42 v5) 42 (Value.bool false)) 43 (f.r 1)) 44 (f.r 6)) 45 v6) 46 v7) 47 v7) 47 (Value.bool false)) 48 undef) 49 undef) 50 undef) 51 undef) 52 (Value.bool false)) 53 (Value.bool false)) h (contX pl141 prog J 54 n0 141 ct141 [1, 1, 1, 0, 1, 0, 0, 1, 0, 0, 1, 1] (codeOf f141) [nx0] (RetQ prog [.tmp 4] n0 K))))))
(aIdxStr (f.r 1) (f.r 6) fun v11 =>
aBin prog .eql 5 v11 (Value.int .u8 119) fun v12 =>
cnd v12
(aOff (f.r 2) 2 fun v13 =>
aLoad false 1 v13 h fun v14 =>
aBin prog .gtr 3 (f.r 5) v14 fun v15 =>
Hold (W prog J 54 n0 141 (subC [1, 1, 1, 0, 1, 0, 0, 1, 0, 0, 1, 1] (codeOf f141)) (RG.p (RG.p (RG.p (RG.p (RG.p (RG.p (RG.p (RG.p (RG.p (RG.p (RG.p (RG.p (RG.p (RG.p (RG.p (RG.p (RG.p (RG.p (RG.p (RG.p (RG.p (RG.p (RG.p (RG.p (RG.p f 32 (f.r 1)) 33 (f.r 6)) 34 v1) 35 v2) 36 v2) 36 (Value.bool false)) 37 undef) 38 undef) 39 undef) 40 undef) 41 (Value.bool false)) 42 (Value.bool false)) 42 (Value.bool false)) 43 (f.r 1)) 44 (f.r 6)) 45 v11) 46 v12) 47 v12) 47 (Value.bool true)) 48 (f.r 5)) 49 v13) 50 v14) 51 v15) 52 v15) 53 v15) h (contX pl141 prog J 54 n0 141 ct141 [1, 1, 1, 0, 1, 0, 0, 1, 0, 0, 1, 1] (codeOf f141) [nx0] (RetQ prog [.tmp 4] n0 K))))
(Hold (W prog J 54 n0 141 (subC [1, 1, 1, 0, 1, 0, 0, 1, 0, 0, 1, 1] (codeOf f141)) (RG.p (RG.p (RG.p (RG.p (RG.p (RG.p (RG.p (RG.p (RG.p (RG.p (RG.p (RG.p (RG.p (RG.p (RG.p (RG.p (RG.p (RG.p (RG.p (RG.p (RG.p (RG.p (RG.p (RG.p (RG.p f 32 (f.r 1)) 33 (f.r 6)) 34 v1) 35 v2) 36 v2) 36 (Value.bool false)) 37 undef) 38 undef) 39 undef) 40 undef) 41 (Value.bool false)) 42 (Value.bool false)) 42 (Value.bool false)) 43 (f.r 1)) 44 (f.r 6)) 45 v11) 46 v12) 47 v12) 47 (Value.bool false)) 48 undef) 49 undef) 50 undef) 51 undef) 52 (Value.bool false)) 53 (Value.bool false)) h (contX pl141 prog J 54 n0 141 ct141 [1, 1, 1, 0, 1, 0, 0, 1, 0, 0, 1, 1] (codeOf f141) [nx0] (RetQ prog [.tmp 4] n0 K)))))) := sub_eq pok141 ct141 (by kernel_rfl)
theorem s141_4 {f : RG} {nx0 : RG → List AObj → Prop} : W prog J 54 n0 141 (subC [1, 1, 1, 0, 1, 0, 0, 1, 0, 0, 1, 1] (codeOf f141)) f h (contX pl141 prog J 54 n0 141 ct141 [1, 1, 1, 0, 1, 0, 0, 1, 0, 0, 1, 1] (codeOf f141) [nx0] (RetQ prog [.tmp 4] n0 K)) =
(cnd (f.r 53)
(retL n0 K f.ds [(Value.bool false)] h)
(aBin prog .add 3 (f.r 6) (vint 1) fun v1 =>
nx0 (RG.p (RG.p (RG.p f 16 (f.r 6)) 17 v1) 6 v1) h)) := sub_eq pok141 ct141 (by kernel_rfl)
theorem at140 : prog.funcs[140]? = some f140 := by kernel_rfl
theorem body140 : f140.body = some (codeOf f140) := by kernel_rfl
def pl140 : Plans := []
def ct140 : Cuts := .go
theorem pok140 : plansOk prog pl140 (codeOf f140) = true := by kernel_rfl
theorem e140 {a0 : Value} : W prog J 42 h.length 140 (codeOf f140) (RG.mk (regs [a0]) []) h (RetQ prog [.tmp 2] h.length K) =
(aBin prog .eql 3 a0 (vint 0) fun v1 =>
cnd v1
((((1 * 1 : Nat) ≤ 16777216 ∧ (1 : Nat) ≤ 16777216 ∧ List.length [(Value.string { data := #[] })] = 1) ∧ aFill (zrep [(Value.string { data := #[] })] 1) [(0, 1, (Value.string { data := #[] }))] fun c2 =>
aNewS 1 c2 h fun v3 h4 =>
retL h.length K [] [v3] h4))
(aBin prog .sub 3 a0 (vint 1) fun v5 =>
Good prog J 140 [v5] h fun v6 h7 =>
Sem J 42 h.length 140 (subC [1, 1, 1, 1, 0, 1, 0] (codeOf f140)) (RG.p (RG.p (RG.p (RG.p (RG.p (RG.p (RG.p (RG.p (RG.p (RG.mk (regs [a0]) []) 2 (Value.slice none 0 0)) 7 a0) 8 v1) 3 (Value.slice none 0 0)) 10 a0) 11 v5) 12 v6) 4 v6) 5 (vint 0)) h7 (contX pl140 prog J 42 h.length 140 ct140 [1, 1, 1, 1, 0, 1, 0] (codeOf f140) [] (RetQ prog [.tmp 2] h.length K)))) := top_eq pok140 ct140 (by kernel_rfl)
theorem g140 (hJ : Closed prog main J) {a0 : Value} (hs : heapOk h → W prog J 42 h.length 140 (codeOf f140) (RG.mk (regs [a0]) []) h (RetQ prog [.tmp 2] h.length K)) : Good prog J 140 [a0] h K :=
  good_of_W hJ mixed at140 body140 (by kernel_rfl) (Nat.le_of_ble_eq_true rfl) hs
theorem s140_1 {f : RG} {nx0 : RG → List AObj → Prop} : W prog J 42 n0 140 (subC [1, 1, 1, 1, 0, 1, 0, 0] (codeOf f140)) f h (thenK nx0 (contX pl140 prog J 42 n0 140 ct140 [1, 1, 1, 1, 0, 1, 0] (codeOf f140) [] (RetQ prog [.tmp 2] n0 K))) =
(aLenS (f.r 4) fun v1 =>
aBin prog .lss 3 (f.r 5) v1 fun v2 =>
cnd v2
(aIdx 1 (f.r 4) (f.r 5) fun v3 =>
aLoad false 1 v3 h fun v4 =>
aBin prog .add 9 (Value.string { data := #[100] }) v4 fun v5 =>
(((1 * 1 : Nat) ≤ 16777216 ∧ (1 : Nat) ≤ 16777216 ∧ List.length [(Value.string { data := #[] })] = 1) ∧ aFill (zrep [(Value.string { data := #[] })] 1) [(0, 1, v5)] fun c6 =>
aNewS 1 c6 h fun v7 h8 =>
((List.length [(Value.string { data := #[] })] = 1 ∧ 0 < (1 : Nat) ∧ 0 < (16 : Nat) ∧ (16 : Nat) ≤ 1024) ∧ aApp 1 (f.r 3) v7 h8 fun v9 h10 =>
aBin prog .add 3 (f.r 5) (vint 1) fun v11 =>
nx0 (RG.p (RG.p (RG.p (RG.p (RG.p (RG.p (RG.p (RG.p (RG.p (RG.p (RG.p (RG.p (RG.p (RG.p (RG.p (RG.p f 13 (f.r 5)) 14 (f.r 4)) 15 v1) 16 v2) 19 (f.r 3)) 20 (f.r 4)) 21 (f.r 5)) 22 v3) 23 v4) 24 v5) 25 v7) 26 v9) 3 v9) 17 (f.r 5)) 18 v11) 5 v11) h10)))
(Sem J 42 n0 140 (subC [1, 1, 1, 1, 1, 0, 1, 0] (codeOf f140)) (RG.p (RG.p (RG.p (RG.p (RG.p f 13 (f.r 5)) 14 (f.r 4)) 15 v1) 16 v2) 6 (vint 0)) h (contX pl140 prog J 42 n0 140 ct140 [1, 1, 1, 1, 1, 0, 1, 0] (codeOf f140) [] (RetQ prog [.tmp 2] n0 K)))) := sub_eq pok140 ct140 (by kernel_rfl)
theorem l140_1 (hJ : Closed prog main J) {S : Type} (μ : S → Nat) (I : S → RG → List AObj → Prop) (hI : ∀ s f h, I s f h → heapOk h → n0 ≤ h.length → W prog J 42 n0 140 (subC [1, 1, 1, 1, 0, 1, 0, 0] (codeOf f140)) f h (thenK (Nx n0 μ I s) (contX pl140 prog J 42 n0 140 ct140 [1, 1, 1, 1, 0, 1, 0] (codeOf f140) [] (RetQ prog [.tmp 2] n0 K))))
  {s : S} {f : RG} (hi : Gets n0 I s f h) : Sem J 42 n0 140 (subC [1, 1, 1, 1, 0, 1, 0] (codeOf f140)) f h (contX pl140 prog J 42 n0 140 ct140 [1, 1, 1, 1, 0, 1, 0] (codeOf f140) [] (RetQ prog [.tmp 2] n0 K)) :=
  loop_rule hJ mixed (b := subC [1, 1, 1, 1, 0, 1, 0, 0] (codeOf f140)) (by kernel_rfl) μ I hI hi
theorem s140_2 {f : RG} {nx0 : RG → List AObj → Prop} : W prog J 42 n0 140 (subC [1, 1, 1, 1, 1, 0, 1, 0, 0] (codeOf f140)) f h (thenK nx0 (contX pl140 prog J 42 n0 140 ct140 [1, 1, 1, 1, 1, 0, 1, 0] (codeOf f140) [] (RetQ prog [.tmp 2] n0 K))) =
(aLenS (f.r 4) fun v1 =>
aBin prog .lss 3 (f.r 6) v1 fun v2 =>
cnd v2
(aIdx 1 (f.r 4) (f.r 6) fun v3 =>
aLoad false 1 v3 h fun v4 =>
aBin prog .add 9 (Value.string { data := #[119] }) v4 fun v5 =>
(((1 * 1 : Nat) ≤ 16777216 ∧ (1 : Nat) ≤ 16777216 ∧ List.length [(Value.string { data := #[] })] = 1) ∧ aFill (zrep [(Value.string { data := #[] })] 1) [(0, 1, v5)] fun c6 =>
aNewS 1 c6 h fun v7 h8 =>
((List.length [(Value.string { data := #[] })] = 1 ∧ 0 < (1 : Nat) ∧ 0 < (16 : Nat) ∧ (16 : Nat) ≤ 1024) ∧ aApp 1 (f.r 3) v7 h8 fun v9 h10 =>
aBin prog .add 3 (f.r 6) (vint 1) fun v11 =>
nx0 (RG.p (RG.p (RG.p (RG.p (RG.p (RG.p (RG.p (RG.p (RG.p (RG.p (RG.p (RG.p (RG.p (RG.p (RG.p (RG.p f 27 (f.r 6)) 28 (f.r 4)) 29 v1) 30 v2) 33 (f.r 3)) 34 (f.r 4)) 35 (f.r 6)) 36 v3) 37 v4) 38 v5) 39 v7) 40 v9) 3 v9) 31 (f.r 6)) 32 v11) 6 v11) h10)))
(retL n0 K f.ds [(f.r 3)] h)) := sub_eq pok140 ct140 (by kernel_rfl)
theorem l140_2 (hJ : Closed prog main J) {S : Type} (μ : S → Nat) (I : S → RG → List AObj → Prop) (hI : ∀ s f h, I s f h → heapOk h → n0 ≤ h.length → W prog J 42 n0 140 (subC [1, 1, 1, 1, 1, 0, 1, 0, 0] (codeOf f140)) f h (thenK (Nx n0 μ I s) (contX pl140 prog J 42 n0 140 ct140 [1, 1, 1, 1, 1, 0, 1, 0] (codeOf f140) [] (RetQ prog [.tmp 2] n0 K))))
  {s : S} {f : RG} (hi : Gets n0 I s f h) : Sem J 42 n0 140 (subC [1, 1, 1, 1, 1, 0, 1, 0] (codeOf f140)) f h (contX pl140 prog J 42 n0 140 ct140 [1, 1, 1, 1, 1, 0, 1, 0] (codeOf f140) [] (RetQ prog [.tmp 2] n0 K)) :=
  loop_rule hJ mixed (b := subC [1, 1, 1, 1, 1, 0, 1, 0, 0] (codeOf f140)) (by kernel_rfl) μ I hI hi
theorem at137 : prog.funcs[137]? = some f137 := by kernel_rfl
theorem body137 : f137.body = some (codeOf f137) := by kernel_rfl
def pl137 : Plans := [(6, true, .take 0 (.take 1 (.take 2 (.take 3 (.take 4 (.last 5 false (.fin)))))))]
def ct137 : Cuts := .go
theorem pok137 : plansOk prog pl137 (codeOf f137) = true := by kernel_rfl
theorem e137 {a0 : Value} : W prog J 29 h.length 137 (codeOf f137) (RG.mk (regs [a0]) []) h (RetQ prog [.tmp 2] h.length K) =
(aBox a0 h fun v1 h2 =>
aOff v1 0 fun v3 =>
aLoad false 1 v3 h2 fun v4 =>
Good prog J 140 [v4] h2 fun v5 h6 =>
Sem J 29 h.length 137 (subC [1, 1, 1, 0, 1, 0] (codeOf f137)) (RG.p (RG.p (RG.p (RG.p (RG.p (RG.p (RG.p (RG.p (RG.mk (regs [a0]) []) 1 v1) 2 (Value.slice none 0 0)) 3 (Value.slice none 0 0)) 6 v3) 7 v4) 8 v5) 4 v5) 5 (vint 0)) h6 (contX pl137 prog J 29 h.length 137 ct137 [1, 1, 1, 0, 1, 0] (codeOf f137) [] (RetQ prog [.tmp 2] h.length K))) := top_eq pok137 ct137 (by kernel_rfl)
theorem g137 (hJ : Closed prog main J) {a0 : Value} (hs : heapOk h → W prog J 29 h.length 137 (codeOf f137) (RG.mk (regs [a0]) []) h (RetQ prog [.tmp 2] h.length K)) : Good prog J 137 [a0] h K :=
  good_of_W hJ mixed at137 body137 (by kernel_rfl) (Nat.le_of_ble_eq_true rfl) hs
theorem s137_1 {f : RG} {nx0 : RG → List AObj → Prop} : W prog J 29 n0 137 (subC [1, 1, 1, 0, 1, 0, 0] (codeOf f137)) f h (thenK nx0 (contX pl137 prog J 29 n0 137 ct137 [1, 1, 1, 0, 1, 0] (codeOf f137) [] (RetQ prog [.tmp 2] n0 K))) =
(aLenS (f.r 4) fun v1 =>
aBin prog .lss 3 (f.r 5) v1 fun v2 =>
cnd v2
(aLoad true 3 (f.r 1) h fun v3 =>
aIdx 1 (f.r 4) (f.r 5) fun v4 =>
aLoad false 1 v4 h fun v5 =>
Good prog J 141 [v3, v5] h fun v6 h7 =>
cnd v6
(aIdx 1 (f.r 4) (f.r 5) fun v8 =>
aLoad false 1 v8 h7 fun v9 =>
(((1 * 1 : Nat) ≤ 16777216 ∧ (1 : Nat) ≤ 16777216 ∧ List.length [(Value.string { data := #[] })] = 1) ∧ aFill (zrep [(Value.string { data := #[] })] 1) [(0, 1, v9)] fun c10 =>
aNewS 1 c10 h7 fun v11 h12 =>
((List.length [(Value.string { data := #[] })] = 1 ∧ 0 < (1 : Nat) ∧ 0 < (16 : Nat) ∧ (16 : Nat) ≤ 1024) ∧ aApp 1 (f.r 3) v11 h12 fun v13 h14 =>
aBin prog .add 3 (f.r 5) (vint 1) fun v15 =>
nx0 (RG.p (RG.p (RG.p (RG.p (RG.p (RG.p (RG.p (RG.p (RG.p (RG.p (RG.p (RG.p (RG.p (RG.p (RG.p (RG.p (RG.p (RG.p (RG.p (RG.p (RG.p f 9 (f.r 5)) 10 (f.r 4)) 11 v1) 12 v2) 15 v3) 16 (f.r 4)) 17 (f.r 5)) 18 v4) 19 v5) 20 v6) 21 (f.r 3)) 22 (f.r 4)) 23 (f.r 5)) 24 v8) 25 v9) 26 v11) 27 v13) 3 v13) 13 (f.r 5)) 14 v15) 5 v15) h14)))
(aBin prog .add 3 (f.r 5) (vint 1) fun v16 =>
nx0 (RG.p (RG.p (RG.p (RG.p (RG.p (RG.p (RG.p (RG.p (RG.p (RG.p (RG.p (RG.p (RG.p f 9 (f.r 5)) 10 (f.r 4)) 11 v1) 12 v2) 15 v3) 16 (f.r 4)) 17 (f.r 5)) 18 v4) 19 v5) 20 v6) 13 (f.r 5)) 14 v16) 5 v16) h7))
(retL n0 K f.ds [(f.r 3)] h)) := sub_eq pok137 ct137 (by kernel_rfl)
theorem l137_1 (hJ : Closed prog main J) {S : Type} (μ : S → Nat) (I : S → RG → List AObj → Prop) (hI : ∀ s f h, I s f h → heapOk h → n0 ≤ h.length → W prog J 29 n0 137 (subC [1, 1, 1, 0, 1, 0, 0] (codeOf f137)) f h (thenK (Nx n0 μ I s) (contX pl137 prog J 29 n0 137 ct137 [1, 1, 1, 0, 1, 0] (codeOf f137) [] (RetQ prog [.tmp 2] n0 K))))
  {s : S} {f : RG} (hi : Gets n0 I s f h) : Sem J 29 n0 137 (subC [1, 1, 1, 0, 1, 0] (codeOf f137)) f h (contX pl137 prog J 29 n0 137 ct137 [1, 1, 1, 0, 1, 0] (codeOf f137) [] (RetQ prog [.tmp 2] n0 K)) :=
  loop_rule hJ mixed (b := subC [1, 1, 1, 0, 1, 0, 0] (codeOf f137)) (by kernel_rfl) μ I hI hi
theorem at138 : prog.funcs[138]? = some f138 := by kernel_rfl
theorem body138 : f138.body = some (codeOf f138) := by kernel_rfl
def pl138 : Plans := [(6, false, .take 0 (.take 1 (.take 2 (.take 3 (.take 4 (.take 5 (.take 6 (.take 7 (.take 8 (.take 9 (.alt 10 false (.take 11 (.take 12 (.take 13 (.take 14 (.last 15 true (.last 16 false (.take 17 (.take 18 (.fin))))))))) (.last 15 true (.last 10 false (.take 11 (.take 12 (.take 13 (.take 14 (.last 16 false (.take 17 (.take 18 (.fin)))))))))))))))))))))]
def ct138 : Cuts := .bin (.go) (.bin (.go) (.bin (.go) (.bin (.bin (.go) (.un (.un (.bin (.go) (.bin (.un (.bin (.go) (.cut (.bin (.go) (.bin (.go) (.bin (.go) (.cut (.go)))))))) (.go)))))) (.go))))
theorem pok138 : plansOk prog pl138 (codeOf f138) = true := by kernel_rfl
theorem e138 {a0 a1 a2 : Value} : W prog J 60 h.length 138 (codeOf f138) (RG.mk (regs [a0, a1, a2]) []) h (RetQ prog [.tmp 6, .tmp 7, .tmp 8] h.length K) =
(aBox a0 h fun v1 h2 =>
aOff v1 0 fun v3 =>
aLoad false 1 v3 h2 fun v4 =>
aFill [(vint 0), (vint 0)] [(0, 1, v4), (1, 1, (vint 0))] fun c5 =>
aAlloc [(vint 0), (vint 0)] h2 fun v6 h7 =>
aStore 2 v6 (Value.agg ⟨c5⟩) h7 fun h8 =>
Sem J 60 h.length 138 (subC [1, 1, 1, 0, 1, 0] (codeOf f138)) (RG.p (RG.p (RG.p (RG.p (RG.p (RG.p (RG.p (RG.p (RG.p (RG.p (RG.p (RG.p (RG.mk (regs [a0, a1, a2]) []) 3 v1) 6 (Value.slice none 0 0)) 7 (Value.slice none 0 0)) 8 (Value.slice none 0 0)) 9 (Value.slice none 0 0)) 10 (Value.slice none 0 0)) 11 (Value.slice none 0 0)) 17 v3) 18 v4) 19 (Value.agg ⟨c5⟩)) 12 v6) 13 (vint 0)) h8 (contX pl138 prog J 60 h.length 138 ct138 [1, 1, 1, 0, 1, 0] (codeOf f138) [] (RetQ prog [.tmp 6, .tmp 7, .tmp 8] h.length K))) := top_eq pok138 ct138 (by kernel_rfl)
theorem g138 (hJ : Closed prog main J) {a0 a1 a2 : Value} (hs : heapOk h → W prog J 60 h.length 138 (codeOf f138) (RG.mk (regs [a0, a1, a2]) []) h (RetQ prog [.tmp 6, .tmp 7, .tmp 8] h.length K)) : Good prog J 138 [a0, a1, a2] h K :=
  good_of_W hJ mixed at138 body138 (by kernel_rfl) (Nat.le_of_ble_eq_true rfl) hs
theorem s138_1 {f : RG} {nx0 : RG → List AObj → Prop} : W prog J 60 n0 138 (subC [1, 1, 1, 0, 1, 0, 0] (codeOf f138)) f h (thenK nx0 (contX pl138 prog J 60 n0 138 ct138 [1, 1, 1, 0, 1, 0] (codeOf f138) [] (RetQ prog [.tmp 6, .tmp 7, .tmp 8] n0 K))) =
(aLenStr (f.r 2) fun v1 =>
aBin prog .lss 3 (f.r 13) v1 fun v2 =>
cnd v2
((∃ B, aLoad true 6 (f.r 3) h fun v3 =>
RdOk (some B) (ptrBlk (f.r 3)) ∧ (aLoad true 2 (f.r 12) h fun v4 =>
RdOk (some B) (ptrBlk (f.r 12)) ∧ (aIdx 1 (f.r 1) (f.r 13) fun v5 =>
aLoad false 1 v5 h fun v6 =>
RdOk (some B) (ptrBlk v5) ∧ (aIdxStr (f.r 2) (f.r 13) fun v7 =>
aBin prog .eql 5 v7 (Value.int .u8 119) fun v8 =>
(Good prog J 142 [v3, v4, v6, v8] h fun v9 h10 =>
aExt v9 0 fun v11 =>
aExt v9 1 fun v12 =>
aExt v9 2 fun v13 =>
aAlloc [(vint 0), (vint 0)] h10 fun v14 h15 =>
SameB (some B) h h15 ∧ (aStore 2 v14 v11 h15 fun h16 =>
Hold (W prog J 60 n0 138 (subC [1, 1, 1, 0, 1, 0, 0, 1, 0, 0, 1] (codeOf f138)) (RG.p (RG.p (RG.p (RG.p (RG.p (RG.p (RG.p (RG.p (RG.p (RG.p (RG.p (RG.p (RG.p (RG.p (RG.p (RG.p (RG.p (RG.p (RG.p (RG.p (RG.p (RG.p f 20 (f.r 13)) 21 (f.r 2)) 22 v1) 23 v2) 27 v3) 28 v4) 29 (f.r 1)) 30 (f.r 13)) 31 v5) 32 v6) 33 (f.r 2)) 34 (f.r 13)) 35 v7) 36 v8) 37 v9) 26 v9) 38 v11) 39 v12) 40 v13) 14 v14) 15 v12) 16 v13) h16 (contX pl138 prog J 60 n0 138 ct138 [1, 1, 1, 0, 1, 0, 0, 1, 0, 0, 1] (codeOf f138) [nx0] (RetQ prog [.tmp 6, .tmp 7, .tmp 8] n0 K))))) ∧ (aAlloc [(vint 0), (vint 0)] h fun v17 h18 =>
SameB (some B) h h18 ∧ (Good prog J 142 [v3, v4, v6, v8] h18 fun v19 h20 =>
aExt v19 0 fun v21 =>
aExt v19 1 fun v22 =>
aExt v19 2 fun v23 =>
aStore 2 v17 v21 h20 fun h24 =>
Hold (W prog J 60 n0 138 (subC [1, 1, 1, 0, 1, 0, 0, 1, 0, 0, 1] (codeOf f138)) (RG.p (RG.p (RG.p (RG.p (RG.p (RG.p (RG.p (RG.p (RG.p (RG.p (RG.p (RG.p (RG.p (RG.p (RG.p (RG.p (RG.p (RG.p (RG.p (RG.p (RG.p (RG.p f 20 (f.r 13)) 21 (f.r 2)) 22 v1) 23 v2) 27 v3) 28 v4) 29 (f.r 1)) 30 (f.r 13)) 31 v5) 32 v6) 33 (f.r 2)) 34 (f.r 13)) 35 v7) 36 v8) 14 v17) 37 v19) 26 v19) 38 v21) 39 v22) 40 v23) 15 v22) 16 v23) h24 (contX pl138 prog J 60 n0 138 ct138 [1, 1, 1, 0, 1, 0, 0, 1, 0, 0, 1] (codeOf f138) [nx0] (RetQ prog [.tmp 6, .tmp 7, .tmp 8] n0 K))))))))))
(retL n0 K f.ds [(f.r 9), (f.r 10), (f.r 11)] h)) := sub_eq pok138 ct138 (by kernel_rfl)
theorem l138_1 (hJ : Closed prog main J) {S : Type} (μ : S → Nat) (I : S → RG → List AObj → Prop) (hI : ∀ s f h, I s f h → heapOk h → n0 ≤ h.length → W prog J 60 n0 138 (subC [1, 1, 1, 0, 1, 0, 0] (codeOf f138)) f h (thenK (Nx n0 μ I s) (contX pl138 prog J 60 n0 138 ct138 [1, 1, 1, 0, 1, 0] (codeOf f138) [] (RetQ prog [.tmp 6, .tmp 7, .tmp 8] n0 K))))
  {s : S} {f : RG} (hi : Gets n0 I s f h) : Sem J 60 n0 138 (subC [1, 1, 1, 0, 1, 0] (codeOf f138)) f h (contX pl138 prog J 60 n0 138 ct138 [1, 1, 1, 0, 1, 0] (codeOf f138) [] (RetQ prog [.tmp 6, .tmp 7, .tmp 8] n0 K)) :=
  loop_rule hJ mixed (b := subC [1, 1, 1, 0, 1, 0, 0] (codeOf f138)) (by kernel_rfl) μ I hI hi
theorem s138_2 {f : RG} {nx0 : RG → List AObj → Prop} : W prog J 60 n0 138 (subC [1, 1, 1, 0, 1, 0, 0, 1, 0, 0, 1] (codeOf f138)) f h (contX pl138 prog J 60 n0 138 ct138 [1, 1, 1, 0, 1, 0, 0, 1, 0, 0, 1] (codeOf f138) [nx0] (RetQ prog [.tmp 6, .tmp 7, .tmp 8] n0 K)) =
(aLoad true 2 (f.r 14) h fun v1 =>
aStore 2 (f.r 12) v1 h fun h2 =>
aOff (f.r 12) 0 fun v3 =>
aLoad false 1 v3 h2 fun v4 =>
(((1 * 1 : Nat) ≤ 16777216 ∧ (1 : Nat) ≤ 16777216 ∧ List.length [(vint 0)] = 1) ∧ aFill (zrep [(vint 0)] 1) [(0, 1, v4)] fun c5 =>
aNewS 1 c5 h2 fun v6 h7 =>
((List.length [(vint 0)] = 1 ∧ 0 < (1 : Nat) ∧ 0 < (8 : Nat) ∧ (8 : Nat) ≤ 1024) ∧ aApp 1 (f.r 9) v6 h7 fun v8 h9 =>
cnd (f.r 15)
((((1 * 1 : Nat) ≤ 16777216 ∧ (1 : Nat) ≤ 16777216 ∧ List.length [(vint 0)] = 1) ∧ aFill (zrep [(vint 0)] 1) [(0, 1, (f.r 13))] fun c10 =>
aNewS 1 c10 h9 fun v11 h12 =>
((List.length [(vint 0)] = 1 ∧ 0 < (1 : Nat) ∧ 0 < (8 : Nat) ∧ (8 : Nat) ≤ 1024) ∧ aApp 1 (f.r 10) v11 h12 fun v13 h14 =>
Hold (W prog J 60 n0 138 (subC [1, 1, 1, 0, 1, 0, 0, 1, 0, 0, 1, 1, 1, 1] (codeOf f138)) (RG.p (RG.p (RG.p (RG.p (RG.p (RG.p (RG.p (RG.p (RG.p (RG.p (RG.p (RG.p (RG.p f 41 v1) 42 (f.r 9)) 43 v3) 44 v4) 45 v6) 46 v8) 9 v8) 47 (f.r 15)) 48 (f.r 10)) 49 (f.r 13)) 50 v11) 51 v13) 10 v13) h14 (contX pl138 prog J 60 n0 138 ct138 [1, 1, 1, 0, 1, 0, 0, 1, 0, 0, 1, 1, 1, 1] (codeOf f138) [nx0] (RetQ prog [.tmp 6, .tmp 7, .tmp 8] n0 K))))))
(Hold (W prog J 60 n0 138 (subC [1, 1, 1, 0, 1, 0, 0, 1, 0, 0, 1, 1, 1, 1] (codeOf f138)) (RG.p (RG.p (RG.p (RG.p (RG.p (RG.p (RG.p (RG.p f 41 v1) 42 (f.r 9)) 43 v3) 44 v4) 45 v6) 46 v8) 9 v8) 47 (f.r 15)) h9 (contX pl138 prog J 60 n0 138 ct138 [1, 1, 1, 0, 1, 0, 0, 1, 0, 0, 1, 1, 1, 1] (codeOf f138) [nx0] (RetQ prog [.tmp 6, .tmp 7, .tmp 8] n0 K))))))) := sub_eq pok138 ct138 (by kernel_rfl)
theorem s138_3 {f : RG} {nx0 : RG → List AObj → Prop} : W prog J 60 n0 138 (subC [1, 1, 1, 0, 1, 0, 0, 1, 0, 0, 1, 1, 1, 1] (codeOf f138)) f h (contX pl138 prog J 60 n0 138 ct138 [1, 1, 1, 0, 1, 0, 0, 1, 0, 0, 1, 1, 1, 1] (codeOf f138) [nx0] (RetQ prog [.tmp 6, .tmp 7, .tmp 8] n0 K)) =
(cnd (f.r 16)
((((1 * 1 : Nat) ≤ 16777216 ∧ (1 : Nat) ≤ 16777216 ∧ List.length [(vint 0)] = 1) ∧ aFill (zrep [(vint 0)] 1) [(0, 1, (f.r 13))] fun c1 =>
aNewS 1 c1 h fun v2 h3 =>
((List.length [(vint 0)] = 1 ∧ 0 < (1 : Nat) ∧ 0 < (8 : Nat) ∧ (8 : Nat) ≤ 1024) ∧ aApp 1 (f.r 11) v2 h3 fun v4 h5 =>
aBin prog .add 3 (f.r 13) (vint 1) fun v6 =>
nx0 (RG.p (RG.p (RG.p (RG.p (RG.p (RG.p (RG.p (RG.p (RG.p f 52 (f.r 16)) 53 (f.r 11)) 54 (f.r 13)) 55 v2) 56 v4) 11 v4) 24 (f.r 13)) 25 v6) 13 v6) h5)))
(aBin prog .add 3 (f.r 13) (vint 1) fun v7 =>
nx0 (RG.p (RG.p (RG.p (RG.p f 52 (f.r 16)) 24 (f.r 13)) 25 v7) 13 v7) h)) := sub_eq pok138 ct138 (by kernel_rfl)
end
section
variable {main : Bool} {J : JT} {n0 : Nat} {h : List AObj} {K : Value → List AObj → Prop}
theorem at115 : prog.funcs[115]? = some f115 := by kernel_rfl
theorem body115 : f115.body = some (codeOf f115) := by kernel_rfl
def pl115 : Plans := [(14, false, .take 0 (.take 1 (.take 2 (.take 3 (.take 4 (.take 5 (.take 6 (.take 7 (.take 8 (.last 9 true (.take 10 (.take 11 (.take 12 (.take 13 (.take 14 (.fin))))))))))))))))]
def ct115 : Cuts := .go
theorem pok115 : plansOk prog pl115 (codeOf f115) = true := by kernel_rfl
theorem e115 {a0 a1 a2 a3 a4 : Value} : W prog J 60 h.length 115 (codeOf f115) (RG.mk (regs [a0, a1, a2, a3, a4]) []) h (RetQ prog [.tmp 10] h.length K) =
(aBox a0 h fun v1 h2 =>
aBox a1 h2 fun v3 h4 =>
aBox a3 h4 fun v5 h6 =>
aBox a4 h6 fun v7 h8 =>
aOff v3 0 fun v9 =>
aLoad false 1 v9 h8 fun v10 =>
((List.length [(vint 0)] = 1 ∧ (8 : Nat) ≤ 1024) ∧ aMkS [(vint 0)] v10 v10 h8 fun v11 h12 =>
aAlloc [(Value.slice none 0 0)] h12 fun v13 h14 =>
aStore 1 v13 v11 h14 fun h15 =>
aLoad false 1 v7 h15 fun v16 =>
Sem J 60 h.length 115 (subC [1, 0, 1, 0, 1, 0] (codeOf f115)) (RG.p (RG.p (RG.p (RG.p (RG.p (RG.p (RG.p (RG.p (RG.p (RG.p (RG.p (RG.mk (regs [a0, a1, a2, a3, a4]) []) 5 v1) 6 v3) 8 v5) 9 v7) 10 (Value.bool false)) 19 v9) 20 v10) 21 v11) 11 v13) 22 v16) 23 (vint 0)) h15 (contX pl115 prog J 60 h.length 115 ct115 [1, 0, 1, 0, 1, 0] (codeOf f115) [] (RetQ prog [.tmp 10] h.length K)))) := top_eq pok115 ct115 (by kernel_rfl)
theorem g115 (hJ : Closed prog main J) {a0 a1 a2 a3 a4 : Value} (hs : heapOk h → W prog J 60 h.length 115 (codeOf f115) (RG.mk (regs [a0, a1, a2, a3, a4]) []) h (RetQ prog [.tmp 10] h.length K)) : Good prog J 115 [a0, a1, a2, a3, a4] h K :=
  good_of_W hJ mixed at115 body115 (by kernel_rfl) (Nat.le_of_ble_eq_true rfl) hs
theorem s115_1 {f : RG} {nx0 : RG → List AObj → Prop} : W prog J 60 n0 115 (subC [1, 0, 1, 0, 1, 0, 0] (codeOf f115)) f h (thenK nx0 (contX pl115 prog J 60 n0 115 ct115 [1, 0, 1, 0, 1, 0] (codeOf f115) [] (RetQ prog [.tmp 10] n0 K))) =
(aBin prog .lss 3 (f.r 23) (f.r 22) fun v1 =>
cnd v1
(aLoad false 1 (f.r 11) h fun v2 =>
aLoad false 1 (f.r 8) h fun v3 =>
aBin prog .add 3 v3 (f.r 23) fun v4 =>
aIdx 1 v2 v4 fun v5 =>
aStore 1 v5 (f.r 2) h fun h6 =>
aBin prog .add 3 (f.r 23) (vint 1) fun v7 =>
nx0 (RG.p (RG.p (RG.p (RG.p (RG.p (RG.p (RG.p (RG.p (RG.p (RG.p (RG.p f 24 v1) 25 (f.r 23)) 12 (f.r 23)) 26 v2) 27 v3) 28 (f.r 23)) 29 v4) 30 (f.r 2)) 31 v5) 32 v7) 23 v7) h6)
(aAlloc [(Value.bool false)] h fun v8 h9 =>
aStore 1 v8 (Value.bool true) h9 fun h10 =>
aLoad true 3 (f.r 6) h10 fun v11 =>
Good prog J 125 [v11] h10 fun v12 h13 =>
Sem J 60 n0 115 (subC [1, 0, 1, 1, 1, 1, 0, 1, 0] (codeOf f115)) (RG.p (RG.p (RG.p (RG.p f 24 v1) 13 v8) 33 v11) 34 v12) h13 (contX pl115 prog J 60 n0 115 ct115 [1, 0, 1, 1, 1, 1, 0, 1, 0] (codeOf f115) [] (RetQ prog [.tmp 10] n0 K)))) := sub_eq pok115 ct115 (by kernel_rfl)
theorem l115_1 (hJ : Closed prog main J) {S : Type} (μ : S → Nat) (I : S → RG → List AObj → Prop) (hI : ∀ s f h, I s f h → heapOk h → n0 ≤ h.length → W prog J 60 n0 115 (subC [1, 0, 1, 0, 1, 0, 0] (codeOf f115)) f h (thenK (Nx n0 μ I s) (contX pl115 prog J 60 n0 115 ct115 [1, 0, 1, 0, 1, 0] (codeOf f115) [] (RetQ prog [.tmp 10] n0 K))))
  {s : S} {f : RG} (hi : Gets n0 I s f h) : Sem J 60 n0 115 (subC [1, 0, 1, 0, 1, 0] (codeOf f115)) f h (contX pl115 prog J 60 n0 115 ct115 [1, 0, 1, 0, 1, 0] (codeOf f115) [] (RetQ prog [.tmp 10] n0 K)) :=
  loop_rule hJ mixed (b := subC [1, 0, 1, 0, 1, 0, 0] (codeOf f115)) (by kernel_rfl) μ I hI hi
theorem a115_2 {f : RG} {fr : FuncId} {Q : QT} : W prog J 60 n0 fr (subC [1, 0, 1, 1, 1, 1, 0, 1, 0, 0] (codeOf f115)) f h Q =
(Q .normal (RG.p f 14 (f.r 35)) h) := sub_eq pok115 ct115 (by kernel_rfl)
theorem b115_2 {f : RG} {fr : FuncId} {Q : QT} : W prog J 60 n0 fr (subC [1, 0, 1, 1, 1, 1, 0, 1, 0, 1] (codeOf f115)) f h Q =
(aLoad true 6 (f.r 5) h fun v1 =>
Good prog J 128 [v1] h fun v2 h3 =>
aLoad false 1 (f.r 8) h3 fun v4 =>
aLoad false 1 (f.r 9) h3 fun v5 =>
aBin prog .add 3 v4 v5 fun v6 =>
Sem J 60 n0 fr (subC [1, 0, 1, 1, 1, 1, 0, 1, 0, 1, 0, 1, 1, 0] (codeOf f115)) (RG.p (RG.p (RG.p (RG.p (RG.p (RG.p (RG.p f 36 v1) 37 v2) 15 v2) 38 v4) 39 v5) 40 v6) 41 (vint 0)) h3 (contX pl115 prog J 60 n0 fr .go [0, 1, 1, 0] (subC [1, 0, 1, 1, 1, 1, 0, 1, 0, 1] (codeOf f115)) [] Q)) := sub_eq pok115 ct115 (by kernel_rfl)
theorem c115_2x2 {f : RG} : (contX pl115 prog J 60 n0 115 ct115 [1, 0, 1, 1, 1, 1, 0, 1, 0] (codeOf f115) [] (RetQ prog [.tmp 10] n0 K)) (.exit 2) f h =
(aLoad false 1 (f.r 13) h fun v1 =>
retL n0 K f.ds [v1] h) := by kernel_rfl
theorem c115_2 {f : RG} : (contX pl115 prog J 60 n0 115 ct115 [1, 0, 1, 1, 1, 1, 0, 1, 0] (codeOf f115) [] (RetQ prog [.tmp 10] n0 K)) .normal f h =
(aLoad false 1 (f.r 13) h fun v1 =>
retL n0 K f.ds [v1] h) := by kernel_rfl
theorem l115_2 (hJ : Closed prog main J) {f : RG} {g : FuncId} {first cap : List Value} (hx : ev f.r ((Go.Operand.tmp 34)) = .func (.func g) ⟨first⟩ ⟨cap⟩) (hg : g < prog.funcs.size)
  (hs : Good prog J g (first ++ [.func (.yield (h.length + 1)) ⟨[]⟩ ⟨[]⟩] ++ cap) (h ++ [.deferred] ++ [.loop .ready none 115 f.r 60 #[35] (subC [1, 0, 1, 1, 1, 1, 0, 1, 0, 0] (codeOf f115)) (subC [1, 0, 1, 1, 1, 1, 0, 1, 0, 1] (codeOf f115)) h.length]) (endQ h.length f (contX pl115 prog J 60 n0 115 ct115 [1, 0, 1, 1, 1, 1, 0, 1, 0] (codeOf f115) [] (RetQ prog [.tmp 10] n0 K)))) : Sem J 60 n0 115 (subC [1, 0, 1, 1, 1, 1, 0, 1, 0] (codeOf f115)) f h (contX pl115 prog J 60 n0 115 ct115 [1, 0, 1, 1, 1, 1, 0, 1, 0] (codeOf f115) [] (RetQ prog [.tmp 10] n0 K)) :=
  Sem_range hJ (by decide) (fop := (Go.Operand.tmp 34)) (params := #[35]) (assign := subC [1, 0, 1, 1, 1, 1, 0, 1, 0, 0] (codeOf f115)) (body := subC [1, 0, 1, 1, 1, 1, 0, 1, 0, 1] (codeOf f115)) hx hg hs
theorem s115_3 {f : RG} {fr : FuncId} {Q : QT} {nx0 : RG → List AObj → Prop} : W prog J 60 n0 fr (subC [1, 0, 1, 1, 1, 1, 0, 1, 0, 1, 0, 1, 1, 0, 0] (codeOf f115)) f h (thenK nx0 (contX pl115 prog J 60 n0 fr .go [0, 1, 1, 0] (subC [1, 0, 1, 1, 1, 1, 0, 1, 0, 1] (codeOf f115)) [] Q)) =
(aBin prog .lss 3 (f.r 41) (f.r 40) fun v1 =>
cnd v1
((∃ B, aLoad false 1 (f.r 11) h fun v2 =>
RdOk (some B) (ptrBlk (f.r 11)) ∧ (aIdx 1 v2 (f.r 41) fun v3 =>
aLoad false 1 v3 h fun v4 =>
RdOk (some B) (ptrBlk v3) ∧ (aIdxStr (f.r 14) (f.r 41) fun v5 =>
aBin prog .eql 5 v5 (Value.int .u8 119) fun v6 =>
Good prog J 129 [(f.r 15), v4, v6] h fun v7 h8 =>
SameB (some B) h h8 ∧ (aExt v7 0 fun v9 =>
aExt v7 1 fun v10 =>
cnd v9
(aStore 1 (f.r 13) (Value.bool false) h8 fun h11 =>
Q (.exit 2) (RG.p (RG.p (RG.p (RG.p (RG.p (RG.p (RG.p (RG.p (RG.p (RG.p (RG.p (RG.p (RG.p (RG.p (RG.p (RG.p (RG.p (RG.p (RG.p f 42 v1) 43 (f.r 41)) 16 (f.r 41)) 45 (f.r 15)) 46 v2) 47 (f.r 41)) 48 v3) 49 v4) 50 (f.r 14)) 51 (f.r 41)) 52 v5) 53 v6) 54 v7) 44 v7) 55 v9) 56 v10) 17 v9) 18 v10) 57 v9) h11)
(aBin prog .add 3 (f.r 41) (vint 1) fun v12 =>
nx0 (RG.p (RG.p (RG.p (RG.p (RG.p (RG.p (RG.p (RG.p (RG.p (RG.p (RG.p (RG.p (RG.p (RG.p (RG.p (RG.p (RG.p (RG.p (RG.p (RG.p (RG.p f 42 v1) 43 (f.r 41)) 16 (f.r 41)) 45 (f.r 15)) 46 v2) 47 (f.r 41)) 48 v3) 49 v4) 50 (f.r 14)) 51 (f.r 41)) 52 v5) 53 v6) 54 v7) 44 v7) 55 v9) 56 v10) 17 v9) 18 v10) 57 v9) 58 v12) 41 v12) h8))))))
(Q .normal (RG.p f 42 v1) h)) := sub_eq pok115 ct115 (by kernel_rfl)
theorem l115_3 (hJ : Closed prog main J) {fr : FuncId} {Q : QT} {S : Type} (μ : S → Nat) (I : S → RG → List AObj → Prop) (hI : ∀ s f h, I s f h → heapOk h → n0 ≤ h.length → W prog J 60 n0 fr (subC [1, 0, 1, 1, 1, 1, 0, 1, 0, 1, 0, 1, 1, 0, 0] (codeOf f115)) f h (thenK (Nx n0 μ I s) (contX pl115 prog J 60 n0 fr .go [0, 1, 1, 0] (subC [1, 0, 1, 1, 1, 1, 0, 1, 0, 1] (codeOf f115)) [] Q)))
  {s : S} {f : RG} (hi : Gets n0 I s f h) : Sem J 60 n0 fr (subC [1, 0, 1, 1, 1, 1, 0, 1, 0, 1, 0, 1, 1, 0] (codeOf f115)) f h (contX pl115 prog J 60 n0 fr .go [0, 1, 1, 0] (subC [1, 0, 1, 1, 1, 1, 0, 1, 0, 1] (codeOf f115)) [] Q) :=
  loop_rule hJ mixed (b := subC [1, 0, 1, 1, 1, 1, 0, 1, 0, 1, 0, 1, 1, 0, 0] (codeOf f115)) (by kernel_rfl) μ I hI hi
theorem at78 : prog.funcs[78]? = some f78 := by kernel_rfl
theorem body78 : f78.body = some (codeOf f78) := by kernel_rfl
def pl78 : Plans := [(1, false, .take 0 (.take 2 (.last 1 true (.last 3 true (.last 4 true (.last 5 true (.take 6 (.fin))))))))]
def ct78 : Cuts := .bin (.go) (.bin (.go) (.bin (.go) (.bin (.go) (.bin (.go) (.bin (.un (.un (.bin (.bin (.go) (.cut (.go))) (.go)))) (.go))))))
theorem pok78 : plansOk prog pl78 (codeOf f78) = true := by kernel_rfl
theorem e78 {a0 a1 a2 a3 : Value} : W prog J 48 h.length 78 (codeOf f78) (RG.mk (regs [a0, a1, a2, a3]) []) h (RetQ prog [.tmp 8, .tmp 9] h.length K) =
(aBox a0 h fun v1 h2 =>
aBox a1 h2 fun v3 h4 =>
(∃ B, aLoad true 6 v1 h4 fun v5 =>
RdOk (some B) (ptrBlk v1) ∧ (aLoad true 3 v3 h4 fun v6 =>
RdOk (some B) (ptrBlk v3) ∧ (Good prog J 112 [v5] h4 fun v7 h8 =>
SameB (some B) h4 h8 ∧ (Good prog J 113 [v6] h8 fun v9 h10 =>
SameB (some B) h4 h10 ∧ ((((2 * 1 : Nat) ≤ 16777216 ∧ (2 : Nat) ≤ 16777216 ∧ List.length [(vint 0)] = 1) ∧ aFill (zrep [(vint 0)] 2) [(0, 1, v7), (1, 1, v9)] fun c11 =>
aNewS 2 c11 h10 fun v12 h13 =>
SameB (some B) h4 h13 ∧ (Good prog J 111 [v12] h13 fun v14 h15 =>
SameB (some B) h4 h15 ∧ (aBin prog .neq 39 v14 (vint 0) fun v16 =>
cnd v16
(retL h.length K [] [(vint 0), v14] h15)
(aOff v3 0 fun v17 =>
aLoad false 1 v17 h15 fun v18 =>
aBin prog .sub 3 v18 (vint 1) fun v19 =>
Good prog J 114 [a2, (vint 0), v19] h15 fun v20 h21 =>
aUn .not v20 fun v22 =>
cnd v22
(retL h.length K [] [(vint 0), (vint 3)] h21)
(aOff v3 0 fun v23 =>
aLoad false 1 v23 h21 fun v24 =>
aBin prog .sub 3 v24 a2 fun v25 =>
Good prog J 114 [a3, (vint 1), v25] h21 fun v26 h27 =>
aUn .not v26 fun v28 =>
cnd v28
(retL h.length K [] [(vint 0), (vint 1)] h27)
(Sem J 48 h.length 78 (subC [1, 1, 1, 1, 1, 0, 0] (codeOf f78)) (RG.p (RG.p (RG.p (RG.p (RG.p (RG.p (RG.p (RG.p (RG.p (RG.p (RG.p (RG.p (RG.p (RG.p (RG.p (RG.p (RG.p (RG.p (RG.p (RG.p (RG.p (RG.p (RG.p (RG.p (RG.p (RG.p (RG.p (RG.mk (regs [a0, a1, a2, a3]) []) 4 v1) 5 v3) 8 (vint 0)) 9 (vint 0)) 12 v5) 14 v6) 13 v7) 15 v9) 16 v12) 17 v14) 10 v14) 18 v14) 19 v16) 21 a2) 22 v17) 23 v18) 24 v19) 25 v20) 26 v22) 27 a3) 28 v23) 29 v24) 30 a2) 31 v25) 32 v26) 33 v28) 11 (vint 40)) h27 (contX pl78 prog J 48 h.length 78 ct78 [1, 1, 1, 1, 1, 0, 0] (codeOf f78) [] (RetQ prog [.tmp 8, .tmp 9] h.length K)))))))))))))) := top_eq pok78 ct78 (by kernel_rfl)
theorem g78 (hJ : Closed prog main J) {a0 a1 a2 a3 : Value} (hs : heapOk h → W prog J 48 h.length 78 (codeOf f78) (RG.mk (regs [a0, a1, a2, a3]) []) h (RetQ prog [.tmp 8, .tmp 9] h.length K)) : Good prog J 78 [a0, a1, a2, a3] h K :=
  good_of_W hJ mixed at78 body78 (by kernel_rfl) (Nat.le_of_ble_eq_true rfl) hs
theorem s78_1 {f : RG} {nx0 : RG → List AObj → Prop} : W prog J 48 n0 78 (subC [1, 1, 1, 1, 1, 0, 0, 0] (codeOf f78)) f h (thenK nx0 (contX pl78 prog J 48 n0 78 ct78 [1, 1, 1, 1, 1, 0, 0] (codeOf f78) [] (RetQ prog [.tmp 8, .tmp 9] n0 K))) =
(aBin prog .gtr 3 (f.r 11) (vint 0) fun v1 =>
cnd v1
(aLoad true 6 (f.r 4) h fun v2 =>
aLoad true 3 (f.r 5) h fun v3 =>
Good prog J 115 [v2, v3, (f.r 11), (f.r 2), (f.r 3)] h fun v4 h5 =>
aUn .not v4 fun v6 =>
Hold (W prog J 48 n0 78 (subC [1, 1, 1, 1, 1, 0, 0, 0, 0, 1] (codeOf f78)) (RG.p (RG.p (RG.p (RG.p (RG.p (RG.p (RG.p (RG.p (RG.p (RG.p (RG.p (RG.p f 34 (f.r 11)) 35 v1) 36 v1) 36 (Value.bool true)) 37 v2) 38 v3) 39 (f.r 11)) 40 (f.r 2)) 41 (f.r 3)) 42 v4) 43 v6) 44 v6) h5 (contX pl78 prog J 48 n0 78 ct78 [1, 1, 1, 1, 1, 0, 0, 0, 0, 1] (codeOf f78) [nx0] (RetQ prog [.tmp 8, .tmp 9] n0 K))))
(Hold (W prog J 48 n0 78 (subC [1, 1, 1, 1, 1, 0, 0, 0, 0, 1] (codeOf f78)) (RG.p (RG.p (RG.p (RG.p (RG.p (RG.p (RG.p (RG.p (RG.p (RG.p (RG.p (RG.p f 34 (f.r 11)) 35 v1) 36 v1) 36 (Value.bool false)) 37 undef) 38 undef) 39 undef) 40 undef) 41 undef) 42 undef) 43 undef) 44 (Value.bool false)) h (contX pl78 prog J 48 n0 78 ct78 [1, 1, 1, 1, 1, 0, 0, 0, 0, 1] (codeOf f78) [nx0] (RetQ prog [.tmp 8, .tmp 9] n0 K))))) := sub_eq pok78 ct78 (by kernel_rfl)
theorem l78_1 (hJ : Closed prog main J) {S : Type} (μ : S → Nat) (I : S → RG → List AObj → Prop) (hI : ∀ s f h, I s f h → heapOk h → n0 ≤ h.length → W prog J 48 n0 78 (subC [1, 1, 1, 1, 1, 0, 0, 0] (codeOf f78)) f h (thenK (Nx n0 μ I s) (contX pl78 prog J 48 n0 78 ct78 [1, 1, 1, 1, 1, 0, 0] (codeOf f78) [] (RetQ prog [.tmp 8, .tmp 9] n0 K))))
  {s : S} {f : RG} (hi : Gets n0 I s f h) : Sem J 48 n0 78 (subC [1, 1, 1, 1, 1, 0, 0] (codeOf f78)) f h (contX pl78 prog J 48 n0 78 ct78 [1, 1, 1, 1, 1, 0, 0] (codeOf f78) [] (RetQ prog [.tmp 8, .tmp 9] n0 K)) :=
  loop_rule hJ mixed (b := subC [1, 1, 1, 1, 1, 0, 0, 0] (codeOf f78)) (by kernel_rfl) μ I hI hi
theorem s78_2 {f : RG} {nx0 : RG → List AObj → Prop} : W prog J 48 n0 78 (subC [1, 1, 1, 1, 1, 0, 0, 0, 0, 1] (codeOf f78)) f h (contX pl78 prog J 48 n0 78 ct78 [1, 1, 1, 1, 1, 0, 0, 0, 0, 1] (codeOf f78) [nx0] (RetQ prog [.tmp 8, .tmp 9] n0 K)) =
(cnd (f.r 44)
(aBin prog .sub 3 (f.r 11) (vint 1) fun v1 =>
nx0 (RG.p (RG.p (RG.p f 45 (f.r 11)) 46 v1) 11 v1) h)
(retL n0 K f.ds [(f.r 11), (vint 0)] h)) := sub_eq pok78 ct78 (by kernel_rfl)
end
section
variable {main : Bool} {J : JT} {n0 : Nat} {h : List AObj} {K : Value → List AObj → Prop}
theorem at125 : prog.funcs[125]? = some f125 := by kernel_rfl
theorem body125 : f125.body = some (codeOf f125) := by kernel_rfl
def pl125 : Plans := []
def ct125 : Cuts := .go
theorem pok125 : plansOk prog pl125 (codeOf f125) = true := by kernel_rfl
theorem e125 {a0 : Value} : W prog J 4 h.length 125 (codeOf f125) (RG.mk (regs [a0]) []) h (RetQ prog [.tmp 2] h.length K) =
(aBox a0 h fun v1 h2 =>
aMkF 134 [] [v1] fun v3 =>
retL h.length K [] [v3] h2) := top_eq pok125 ct125 (by kernel_rfl)
theorem g125 (hJ : Closed prog main J) {a0 : Value} (hs : heapOk h → W prog J 4 h.length 125 (codeOf f125) (RG.mk (regs [a0]) []) h (RetQ prog [.tmp 2] h.length K)) : Good prog J 125 [a0] h K :=
  good_of_W hJ mixed at125 body125 (by kernel_rfl) (Nat.le_of_ble_eq_true rfl) hs
theorem at134 : prog.funcs[134]? = some f134 := by kernel_rfl
theorem body134 : f134.body = some (codeOf f134) := by kernel_rfl
def pl134 : Plans := [(3, false, .take 0 (.take 1 (.take 2 (.take 4 (.last 3 true (.last 5 true (.fin)))))))]
def ct134 : Cuts := .go
theorem pok134 : plansOk prog pl134 (codeOf f134) = true := by kernel_rfl
theorem e134 {a0 a1 : Value} : W prog J 11 h.length 134 (codeOf f134) (RG.mk (regs [a0, a1]) []) h (RetQ prog [] h.length K) =
(aBox a0 h fun v1 h2 =>
aAlloc [(Value.nilFunc)] h2 fun v3 h4 =>
aMkF 135 [] [a1, v1, v3] fun v5 =>
aStore 1 v3 v5 h4 fun h6 =>
(∃ B, aLoad false 1 v3 h6 fun v7 =>
RdOk (some B) (ptrBlk v3) ∧ (aOff a1 0 fun v8 =>
aLoad false 1 v8 h6 fun v9 =>
RdOk (some B) (ptrBlk v8) ∧ (aFill [(Value.int .u8 0), (vint 0)] [] fun c10 =>
((List.length [(Value.int .u8 0)] = 1 ∧ (1 : Nat) ≤ 1024) ∧ aMkS [(Value.int .u8 0)] (vint 0) v9 h6 fun v11 h12 =>
SameB (some B) h6 h12 ∧ (callV prog (Good prog J) v7 [v11, (Value.agg ⟨c10⟩)] h12 fun v13 h14 =>
SameB (some B) h6 h14 ∧ (retL h.length K [] [] h14))))))) := top_eq pok134 ct134 (by kernel_rfl)
theorem g134 (hJ : Closed prog main J) {a0 a1 : Value} (hs : heapOk h → W prog J 11 h.length 134 (codeOf f134) (RG.mk (regs [a0, a1]) []) h (RetQ prog [] h.length K)) : Good prog J 134 [a0, a1] h K :=
  good_of_W hJ mixed at134 body134 (by kernel_rfl) (Nat.le_of_ble_eq_true rfl) hs
theorem at135 : prog.funcs[135]? = some f135 := by kernel_rfl
theorem body135 : f135.body = some (codeOf f135) := by kernel_rfl
def pl135 : Plans := [(7, false, .take 0 (.take 1 (.take 2 (.take 3 (.take 4 (.take 7 (.last 5 true (.last 6 true (.last 8 false (.take 9 (.take 10 (.fin))))))))))))]
def ct135 : Cuts := .bin (.go) (.bin (.go) (.bin (.bin (.go) (.un (.un (.bin (.go) (.bin (.go) (.bin (.un (.bin (.go) (.bin (.go) (.bin (.go) (.cut (.go)))))) (.go))))))) (.go)))
theorem pok135 : plansOk prog pl135 (codeOf f135) = true := by kernel_rfl
theorem e135 {a0 a1 a2 a3 a4 : Value} : W prog J 44 h.length 135 (codeOf f135) (RG.mk (regs [a0, a1, a2, a3, a4]) []) h (RetQ prog [.tmp 7] h.length K) =
(aBox a1 h fun v1 h2 =>
aLenS a0 fun v3 =>
aOff a2 0 fun v4 =>
aLoad false 1 v4 h2 fun v5 =>
aBin prog .eql 3 v3 v5 fun v6 =>
cnd v6
(aLoad false 1 a3 h2 fun v7 =>
aB2S a0 h2 fun v8 =>
callV prog (Good prog J) v7 [v8] h2 fun v9 h10 =>
retL h.length K [] [v9] h10)
(aFill [(Value.int .u8 0), (Value.int .u8 0)] [(0, 1, (Value.int .u8 100)), (1, 1, (Value.int .u8 119))] fun c11 =>
Sem J 44 h.length 135 (subC [1, 1, 0, 1, 0] (codeOf f135)) (RG.p (RG.p (RG.p (RG.p (RG.p (RG.p (RG.p (RG.p (RG.p (RG.mk (regs [a0, a1, a2, a3, a4]) []) 6 v1) 7 (Value.bool false)) 12 a0) 13 v3) 14 v4) 15 v5) 16 v6) 21 (Value.agg ⟨c11⟩)) 22 (vint 0)) h2 (contX pl135 prog J 44 h.length 135 ct135 [1, 1, 0, 1, 0] (codeOf f135) [] (RetQ prog [.tmp 7] h.length K)))) := top_eq pok135 ct135 (by kernel_rfl)
theorem g135 (hJ : Closed prog main J) {a0 a1 a2 a3 a4 : Value} (hs : heapOk h → W prog J 44 h.length 135 (codeOf f135) (RG.mk (regs [a0, a1, a2, a3, a4]) []) h (RetQ prog [.tmp 7] h.length K)) : Good prog J 135 [a0, a1, a2, a3, a4] h K :=
  good_of_W hJ mixed at135 body135 (by kernel_rfl) (Nat.le_of_ble_eq_true rfl) hs
theorem s135_1 {f : RG} {nx0 : RG → List AObj → Prop} : W prog J 44 n0 135 (subC [1, 1, 0, 1, 0, 0] (codeOf f135)) f h (thenK nx0 (contX pl135 prog J 44 n0 135 ct135 [1, 1, 0, 1, 0] (codeOf f135) [] (RetQ prog [.tmp 7] n0 K))) =
(aBin prog .lss 3 (f.r 22) (vint 2) fun v1 =>
cnd v1
(aIdxV 2 1 false (f.r 21) (f.r 22) fun v2 =>
aLoad true 2 (f.r 6) h fun v3 =>
aLoad true 3 (f.r 2) h fun v4 =>
Good prog J 136 [v3, v4, v2] h fun v5 h6 =>
aExt v5 0 fun v7 =>
aExt v5 1 fun v8 =>
aAlloc [(Value.int .u8 0), (vint 0)] h6 fun v9 h10 =>
aStore 2 v9 v7 h10 fun h11 =>
(∃ B, cnd v8
(aLoad false 1 (f.r 4) h11 fun v12 =>
RdOk (some B) (ptrBlk (f.r 4)) ∧ (aLoad true 2 v9 h11 fun v13 =>
RdOk (some B) (ptrBlk v9) ∧ ((((1 * 1 : Nat) ≤ 16777216 ∧ (1 : Nat) ≤ 16777216 ∧ List.length [(Value.int .u8 0)] = 1) ∧ aFill (zrep [(Value.int .u8 0)] 1) [(0, 1, v2)] fun c14 =>
aNewS 1 c14 h11 fun v15 h16 =>
SameB (some B) h11 h16 ∧ (((List.length [(Value.int .u8 0)] = 1 ∧ 0 < (1 : Nat) ∧ 0 < (1 : Nat) ∧ (1 : Nat) ≤ 1024) ∧ aApp 1 (f.r 0) v15 h16 fun v17 h18 =>
SameB (some B) h11 h18 ∧ (callV prog (Good prog J) v12 [v17, v13] h18 fun v19 h20 =>
aUn .not v19 fun v21 =>
Hold (W prog J 44 n0 135 (subC [1, 1, 0, 1, 0, 0, 1, 1, 0, 0, 1, 1, 1] (codeOf f135)) (RG.p (RG.p (RG.p (RG.p (RG.p (RG.p (RG.p (RG.p (RG.p (RG.p (RG.p (RG.p (RG.p (RG.p (RG.p (RG.p (RG.p (RG.p (RG.p (RG.p (RG.p (RG.p (RG.p (RG.p f 23 v1) 24 v2) 9 v2) 26 v3) 27 v4) 28 v2) 29 v5) 25 v5) 30 v7) 31 v8) 10 v9) 11 v8) 32 v8) 33 v8) 33 (Value.bool true)) 34 v12) 35 (f.r 0)) 36 v2) 39 v13) 37 v15) 38 v17) 40 v19) 41 v21) 42 v21) h20 (contX pl135 prog J 44 n0 135 ct135 [1, 1, 0, 1, 0, 0, 1, 1, 0, 0, 1, 1, 1] (codeOf f135) [nx0] (RetQ prog [.tmp 7] n0 K))))))))))
(Hold (W prog J 44 n0 135 (subC [1, 1, 0, 1, 0, 0, 1, 1, 0, 0, 1, 1, 1] (codeOf f135)) (RG.p (RG.p (RG.p (RG.p (RG.p (RG.p (RG.p (RG.p (RG.p (RG.p (RG.p (RG.p (RG.p (RG.p (RG.p (RG.p (RG.p (RG.p (RG.p (RG.p (RG.p (RG.p (RG.p (RG.p f 23 v1) 24 v2) 9 v2) 26 v3) 27 v4) 28 v2) 29 v5) 25 v5) 30 v7) 31 v8) 10 v9) 11 v8) 32 v8) 33 v8) 33 (Value.bool false)) 34 undef) 35 undef) 36 undef) 39 undef) 37 undef) 38 undef) 40 undef) 41 undef) 42 (Value.bool false)) h11 (contX pl135 prog J 44 n0 135 ct135 [1, 1, 0, 1, 0, 0, 1, 1, 0, 0, 1, 1, 1] (codeOf f135) [nx0] (RetQ prog [.tmp 7] n0 K))))))
(retL n0 K f.ds [(Value.bool true)] h)) := sub_eq pok135 ct135 (by kernel_rfl)
theorem l135_1 (hJ : Closed prog main J) {S : Type} (μ : S → Nat) (I : S → RG → List AObj → Prop) (hI : ∀ s f h, I s f h → heapOk h → n0 ≤ h.length → W prog J 44 n0 135 (subC [1, 1, 0, 1, 0, 0] (codeOf f135)) f h (thenK (Nx n0 μ I s) (contX pl135 prog J 44 n0 135 ct135 [1, 1, 0, 1, 0] (codeOf f135) [] (RetQ prog [.tmp 7] n0 K))))
  {s : S} {f : RG} (hi : Gets n0 I s f h) : Sem J 44 n0 135 (subC [1, 1, 0, 1, 0] (codeOf f135)) f h (contX pl135 prog J 44 n0 135 ct135 [1, 1, 0, 1, 0] (codeOf f135) [] (RetQ prog [.tmp 7] n0 K)) :=
  loop_rule hJ mixed (b := subC [1, 1, 0, 1, 0, 0] (codeOf f135)) (by kernel_rfl) μ I hI hi
theorem s135_2 {f : RG} {nx0 : RG → List AObj → Prop} : W prog J 44 n0 135 (subC [1, 1, 0, 1, 0, 0, 1, 1, 0, 0, 1, 1, 1] (codeOf f135)) f h (contX pl135 prog J 44 n0 135 ct135 [1, 1, 0, 1, 0, 0, 1, 1, 0, 0, 1, 1, 1] (codeOf f135) [nx0] (RetQ prog [.tmp 7] n0 K)) =
(cnd (f.r 42)
(retL n0 K f.ds [(Value.bool false)] h)
(aBin prog .add 3 (f.r 22) (vint 1) fun v1 =>
nx0 (RG.p (RG.p f 43 v1) 22 v1) h)) := sub_eq pok135 ct135 (by kernel_rfl)
end
section
variable {main : Bool} {J : JT} {n0 : Nat} {h : List AObj} {K : Value → List AObj → Prop}
theorem at114 : prog.funcs[114]? = some f114 := by kernel_rfl
theorem body114 : f114.body = some (codeOf f114) := by kernel_rfl
def pl114 : Plans := []
def ct114 : Cuts := .go
theorem pok114 : plansOk prog pl114 (codeOf f114) = true := by kernel_rfl
theorem e114 {a0 a1 a2 : Value} : W prog J 15 h.length 114 (codeOf f114) (RG.mk (regs [a0, a1, a2]) []) h (RetQ prog [.tmp 6] h.length K) =
(aBin prog .leq 3 a1 a0 fun v1 =>
cnd v1
(aBin prog .leq 3 a0 a2 fun v2 =>
retL h.length K [] [v2] h)
(retL h.length K [] [(Value.bool false)] h)) := top_eq pok114 ct114 (by kernel_rfl)
theorem g114 (hJ : Closed prog main J) {a0 a1 a2 : Value} (hs : heapOk h → W prog J 15 h.length 114 (codeOf f114) (RG.mk (regs [a0, a1, a2]) []) h (RetQ prog [.tmp 6] h.length K)) : Good prog J 114 [a0, a1, a2] h K :=
  good_of_W hJ mixed at114 body114 (by kernel_rfl) (Nat.le_of_ble_eq_true rfl) hs
theorem at112 : prog.funcs[112]? = some f112 := by kernel_rfl
theorem body112 : f112.body = some (codeOf f112) := by kernel_rfl
def pl112 : Plans := []
def ct112 : Cuts := .bin (.go) (.bin (.bin (.go) (.cut (.go))) (.go))
theorem pok112 : plansOk prog pl112 (codeOf f112) = true := by kernel_rfl
theorem e112 {a0 : Value} : W prog J 37 h.length 112 (codeOf f112) (RG.mk (regs [a0]) []) h (RetQ prog [.tmp 2] h.length K) =
(aBox a0 h fun v1 h2 =>
aOff v1 1 fun v3 =>
aLoad false 1 v3 h2 fun v4 =>
Good prog J 114 [v4, (vint 1), (vint 99)] h2 fun v5 h6 =>
cnd v5
(aOff v1 0 fun v7 =>
aLoad false 1 v7 h6 fun v8 =>
aOff v1 1 fun v9 =>
aLoad false 1 v9 h6 fun v10 =>
Good prog J 114 [v8, (vint 0), v10] h6 fun v11 h12 =>
cnd v11
(aOff v1 2 fun v13 =>
aLoad false 1 v13 h12 fun v14 =>
Good prog J 114 [v14, (vint 0), (vint 9)] h12 fun v15 h16 =>
cnd v15
(aOff v1 3 fun v17 =>
aLoad false 1 v17 h16 fun v18 =>
aOff v1 2 fun v19 =>
aLoad false 1 v19 h16 fun v20 =>
Good prog J 114 [v18, v20, (vint 9)] h16 fun v21 h22 =>
cnd v21
(aOff v1 4 fun v23 =>
aLoad false 1 v23 h22 fun v24 =>
aOff v1 1 fun v25 =>
aLoad false 1 v25 h22 fun v26 =>
Good prog J 114 [v24, (vint 0), v26] h22 fun v27 h28 =>
cnd v27
(aOff v1 5 fun v29 =>
aLoad false 1 v29 h28 fun v30 =>
Good prog J 114 [v30, (vint 0), (vint 5)] h28 fun v31 h32 =>
Hold (W prog J 37 h.length 112 (subC [1, 0, 1] (codeOf f112)) (RG.p (RG.p (RG.p (RG.p (RG.p (RG.p (RG.p (RG.p (RG.p (RG.p (RG.p (RG.p (RG.p (RG.p (RG.p (RG.p (RG.p (RG.p (RG.p (RG.p (RG.p (RG.p (RG.p (RG.p (RG.p (RG.p (RG.p (RG.p (RG.p (RG.p (RG.p (RG.p (RG.p (RG.p (RG.p (RG.p (RG.p (RG.p (RG.p (RG.p (RG.p (RG.mk (regs [a0]) []) 1 v1) 2 (vint 0)) 3 v3) 4 v4) 5 v5) 6 v5) 6 (Value.bool true)) 7 v7) 8 v8) 9 v9) 10 v10) 11 v11) 12 v11) 13 v11) 13 (Value.bool true)) 14 v13) 15 v14) 16 v15) 17 v15) 18 v15) 18 (Value.bool true)) 19 v17) 20 v18) 21 v19) 22 v20) 23 v21) 24 v21) 25 v21) 25 (Value.bool true)) 26 v23) 27 v24) 28 v25) 29 v26) 30 v27) 31 v27) 32 v27) 32 (Value.bool true)) 33 v29) 34 v30) 35 v31) 36 v31) h32 (contX pl112 prog J 37 h.length 112 ct112 [1, 0, 1] (codeOf f112) [] (RetQ prog [.tmp 2] h.length K))))
(Hold (W prog J 37 h.length 112 (subC [1, 0, 1] (codeOf f112)) (RG.p (RG.p (RG.p (RG.p (RG.p (RG.p (RG.p (RG.p (RG.p (RG.p (RG.p (RG.p (RG.p (RG.p (RG.p (RG.p (RG.p (RG.p (RG.p (RG.p (RG.p (RG.p (RG.p (RG.p (RG.p (RG.p (RG.p (RG.p (RG.p (RG.p (RG.p (RG.p (RG.p (RG.p (RG.p (RG.p (RG.p (RG.p (RG.p (RG.p (RG.p (RG.mk (regs [a0]) []) 1 v1) 2 (vint 0)) 3 v3) 4 v4) 5 v5) 6 v5) 6 (Value.bool true)) 7 v7) 8 v8) 9 v9) 10 v10) 11 v11) 12 v11) 13 v11) 13 (Value.bool true)) 14 v13) 15 v14) 16 v15) 17 v15) 18 v15) 18 (Value.bool true)) 19 v17) 20 v18) 21 v19) 22 v20) 23 v21) 24 v21) 25 v21) 25 (Value.bool true)) 26 v23) 27 v24) 28 v25) 29 v26) 30 v27) 31 v27) 32 v27) 32 (Value.bool false)) 33 undef) 34 undef) 35 undef) 36 (Value.bool false)) h28 (contX pl112 prog J 37 h.length 112 ct112 [1, 0, 1] (codeOf f112) [] (RetQ prog [.tmp 2] h.length K)))))
(Hold (W prog J 37 h.length 112 (subC [1, 0, 1] (codeOf f112)) (RG.p (RG.p (RG.p (RG.p (RG.p (RG.p (RG.p (RG.p (RG.p (RG.p (RG.p (RG.p (RG.p (RG.p (RG.p (RG.p (RG.p (RG.p (RG.p (RG.p (RG.p (RG.p (RG.p (RG.p (RG.p (RG.p (RG.p (RG.p (RG.p (RG.p (RG.p (RG.p (RG.p (RG.p (RG.p (RG.p (RG.p (RG.p (RG.p (RG.p (RG.p (RG.mk (regs [a0]) []) 1 v1) 2 (vint 0)) 3 v3) 4 v4) 5 v5) 6 v5) 6 (Value.bool true)) 7 v7) 8 v8) 9 v9) 10 v10) 11 v11) 12 v11) 13 v11) 13 (Value.bool true)) 14 v13) 15 v14) 16 v15) 17 v15) 18 v15) 18 (Value.bool true)) 19 v17) 20 v18) 21 v19) 22 v20) 23 v21) 24 v21) 25 v21) 25 (Value.bool false)) 26 undef) 27 undef) 28 undef) 29 undef) 30 undef) 31 (Value.bool false)) 32 (Value.bool false)) 32 (Value.bool false)) 33 undef) 34 undef) 35 undef) 36 (Value.bool false)) h22 (contX pl112 prog J 37 h.length 112 ct112 [1, 0, 1] (codeOf f112) [] (RetQ prog [.tmp 2] h.length K)))))
(Hold (W prog J 37 h.length 112 (subC [1, 0, 1] (codeOf f112)) (RG.p (RG.p (RG.p (RG.p (RG.p (RG.p (RG.p (RG.p (RG.p (RG.p (RG.p (RG.p (RG.p (RG.p (RG.p (RG.p (RG.p (RG.p (RG.p (RG.p (RG.p (RG.p (RG.p (RG.p (RG.p (RG.p (RG.p (RG.p (RG.p (RG.p (RG.p (RG.p (RG.p (RG.p (RG.p (RG.p (RG.p (RG.p (RG.p (RG.p (RG.p (RG.mk (regs [a0]) []) 1 v1) 2 (vint 0)) 3 v3) 4 v4) 5 v5) 6 v5) 6 (Value.bool true)) 7 v7) 8 v8) 9 v9) 10 v10) 11 v11) 12 v11) 13 v11) 13 (Value.bool true)) 14 v13) 15 v14) 16 v15) 17 v15) 18 v15) 18 (Value.bool false)) 19 undef) 20 undef) 21 undef) 22 undef) 23 undef) 24 (Value.bool false)) 25 (Value.bool false)) 25 (Value.bool false)) 26 undef) 27 undef) 28 undef) 29 undef) 30 undef) 31 (Value.bool false)) 32 (Value.bool false)) 32 (Value.bool false)) 33 undef) 34 undef) 35 undef) 36 (Value.bool false)) h16 (contX pl112 prog J 37 h.length 112 ct112 [1, 0, 1] (codeOf f112) [] (RetQ prog [.tmp 2] h.length K)))))
(Hold (W prog J 37 h.length 112 (subC [1, 0, 1] (codeOf f112)) (RG.p (RG.p (RG.p (RG.p (RG.p (RG.p (RG.p (RG.p (RG.p (RG.p (RG.p (RG.p (RG.p (RG.p (RG.p (RG.p (RG.p (RG.p (RG.p (RG.p (RG.p (RG.p (RG.p (RG.p (RG.p (RG.p (RG.p (RG.p (RG.p (RG.p (RG.p (RG.p (RG.p (RG.p (RG.p (RG.p (RG.p (RG.p (RG.p (RG.p (RG.p (RG.mk (regs [a0]) []) 1 v1) 2 (vint 0)) 3 v3) 4 v4) 5 v5) 6 v5) 6 (Value.bool true)) 7 v7) 8 v8) 9 v9) 10 v10) 11 v11) 12 v11) 13 v11) 13 (Value.bool false)) 14 undef) 15 undef) 16 undef) 17 (Value.bool false)) 18 (Value.bool false)) 18 (Value.bool false)) 19 undef) 20 undef) 21 undef) 22 undef) 23 undef) 24 (Value.bool false)) 25 (Value.bool false)) 25 (Value.bool false)) 26 undef) 27 undef) 28 undef) 29 undef) 30 undef) 31 (Value.bool false)) 32 (Value.bool false)) 32 (Value.bool false)) 33 undef) 34 undef) 35 undef) 36 (Value.bool false)) h12 (contX pl112 prog J 37 h.length 112 ct112 [1, 0, 1] (codeOf f112) [] (RetQ prog [.tmp 2] h.length K)))))
(Hold (W prog J 37 h.length 112 (subC [1, 0, 1] (codeOf f112)) (RG.p (RG.p (RG.p (RG.p (RG.p (RG.p (RG.p (RG.p (RG.p (RG.p (RG.p (RG.p (RG.p (RG.p (RG.p (RG.p (RG.p (RG.p (RG.p (RG.p (RG.p (RG.p (RG.p (RG.p (RG.p (RG.p (RG.p (RG.p (RG.p (RG.p (RG.p (RG.p (RG.p (RG.p (RG.p (RG.p (RG.p (RG.p (RG.p (RG.p (RG.p (RG.mk (regs [a0]) []) 1 v1) 2 (vint 0)) 3 v3) 4 v4) 5 v5) 6 v5) 6 (Value.bool false)) 7 undef) 8 undef) 9 undef) 10 undef) 11 undef) 12 (Value.bool false)) 13 (Value.bool false)) 13 (Value.bool false)) 14 undef) 15 undef) 16 undef) 17 (Value.bool false)) 18 (Value.bool false)) 18 (Value.bool false)) 19 undef) 20 undef) 21 undef) 22 undef) 23 undef) 24 (Value.bool false)) 25 (Value.bool false)) 25 (Value.bool false)) 26 undef) 27 undef) 28 undef) 29 undef) 30 undef) 31 (Value.bool false)) 32 (Value.bool false)) 32 (Value.bool false)) 33 undef) 34 undef) 35 undef) 36 (Value.bool false)) h6 (contX pl112 prog J 37 h.length 112 ct112 [1, 0, 1] (codeOf f112) [] (RetQ prog [.tmp 2] h.length K))))) := top_eq pok112 ct112 (by kernel_rfl)
theorem g112 (hJ : Closed prog main J) {a0 : Value} (hs : heapOk h → W prog J 37 h.length 112 (codeOf f112) (RG.mk (regs [a0]) []) h (RetQ prog [.tmp 2] h.length K)) : Good prog J 112 [a0] h K :=
  good_of_W hJ mixed at112 body112 (by kernel_rfl) (Nat.le_of_ble_eq_true rfl) hs
theorem s112_1 {f : RG} : W prog J 37 n0 112 (subC [1, 0, 1] (codeOf f112)) f h (contX pl112 prog J 37 n0 112 ct112 [1, 0, 1] (codeOf f112) [] (RetQ prog [.tmp 2] n0 K)) =
(cnd (f.r 36)
(retL n0 K f.ds [(vint 0)] h)
(retL n0 K f.ds [(vint 1)] h)) := sub_eq pok112 ct112 (by kernel_rfl)
theorem at113 : prog.funcs[113]? = some f113 := by kernel_rfl
theorem body113 : f113.body = some (codeOf f113) := by kernel_rfl
def pl113 : Plans := []
def ct113 : Cuts := .bin (.go) (.bin (.bin (.go) (.cut (.go))) (.go))
theorem pok113 : plansOk prog pl113 (codeOf f113) = true := by kernel_rfl
theorem e113 {a0 : Value} : W prog J 20 h.length 113 (codeOf f113) (RG.mk (regs [a0]) []) h (RetQ prog [.tmp 2] h.length K) =
(aBox a0 h fun v1 h2 =>
aOff v1 0 fun v3 =>
aLoad false 1 v3 h2 fun v4 =>
Good prog J 114 [v4, (vint 1), (vint 8)] h2 fun v5 h6 =>
cnd v5
(aOff v1 1 fun v7 =>
aLoad false 1 v7 h6 fun v8 =>
aOff v1 0 fun v9 =>
aLoad false 1 v9 h6 fun v10 =>
Good prog J 114 [v8, (vint 1), v10] h6 fun v11 h12 =>
cnd v11
(aOff v1 2 fun v13 =>
aLoad false 1 v13 h12 fun v14 =>
aOff v1 0 fun v15 =>
aLoad false 1 v15 h12 fun v16 =>
Good prog J 114 [v14, (vint 1), v16] h12 fun v17 h18 =>
Hold (W prog J 20 h.length 113 (subC [1, 0, 1] (codeOf f113)) (RG.p (RG.p (RG.p (RG.p (RG.p (RG.p (RG.p (RG.p (RG.p (RG.p (RG.p (RG.p (RG.p (RG.p (RG.p (RG.p (RG.p (RG.p (RG.p (RG.p (RG.p (RG.mk (regs [a0]) []) 1 v1) 2 (vint 0)) 3 v3) 4 v4) 5 v5) 6 v5) 6 (Value.bool true)) 7 v7) 8 v8) 9 v9) 10 v10) 11 v11) 12 v11) 13 v11) 13 (Value.bool true)) 14 v13) 15 v14) 16 v15) 17 v16) 18 v17) 19 v17) h18 (contX pl113 prog J 20 h.length 113 ct113 [1, 0, 1] (codeOf f113) [] (RetQ prog [.tmp 2] h.length K))))
(Hold (W prog J 20 h.length 113 (subC [1, 0, 1] (codeOf f113)) (RG.p (RG.p (RG.p (RG.p (RG.p (RG.p (RG.p (RG.p (RG.p (RG.p (RG.p (RG.p (RG.p (RG.p (RG.p (RG.p (RG.p (RG.p (RG.p (RG.p (RG.p (RG.mk (regs [a0]) []) 1 v1) 2 (vint 0)) 3 v3) 4 v4) 5 v5) 6 v5) 6 (Value.bool true)) 7 v7) 8 v8) 9 v9) 10 v10) 11 v11) 12 v11) 13 v11) 13 (Value.bool false)) 14 undef) 15 undef) 16 undef) 17 undef) 18 undef) 19 (Value.bool false)) h12 (contX pl113 prog J 20 h.length 113 ct113 [1, 0, 1] (codeOf f113) [] (RetQ prog [.tmp 2] h.length K)))))
(Hold (W prog J 20 h.length 113 (subC [1, 0, 1] (codeOf f113)) (RG.p (RG.p (RG.p (RG.p (RG.p (RG.p (RG.p (RG.p (RG.p (RG.p (RG.p (RG.p (RG.p (RG.p (RG.p (RG.p (RG.p (RG.p (RG.p (RG.p (RG.p (RG.mk (regs [a0]) []) 1 v1) 2 (vint 0)) 3 v3) 4 v4) 5 v5) 6 v5) 6 (Value.bool false)) 7 undef) 8 undef) 9 undef) 10 undef) 11 undef) 12 (Value.bool false)) 13 (Value.bool false)) 13 (Value.bool false)) 14 undef) 15 undef) 16 undef) 17 undef) 18 undef) 19 (Value.bool false)) h6 (contX pl113 prog J 20 h.length 113 ct113 [1, 0, 1] (codeOf f113) [] (RetQ prog [.tmp 2] h.length K))))) := top_eq pok113 ct113 (by kernel_rfl)
theorem g113 (hJ : Closed prog main J) {a0 : Value} (hs : heapOk h → W prog J 20 h.length 113 (codeOf f113) (RG.mk (regs [a0]) []) h (RetQ prog [.tmp 2] h.length K)) : Good prog J 113 [a0] h K :=
  good_of_W hJ mixed at113 body113 (by kernel_rfl) (Nat.le_of_ble_eq_true rfl) hs
theorem s113_1 {f : RG} : W prog J 20 n0 113 (subC [1, 0, 1] (codeOf f113)) f h (contX pl113 prog J 20 n0 113 ct113 [1, 0, 1] (codeOf f113) [] (RetQ prog [.tmp 2] n0 K)) =
(cnd (f.r 19)
(retL n0 K f.ds [(vint 0)] h)
(retL n0 K f.ds [(vint 1)] h)) := sub_eq pok113 ct113 (by kernel_rfl)
theorem at111 : prog.funcs[111]? = some f111 := by kernel_rfl
theorem body111 : f111.body = some (codeOf f111) := by kernel_rfl
def pl111 : Plans := []
def ct111 : Cuts := .go
theorem pok111 : plansOk prog pl111 (codeOf f111) = true := by kernel_rfl
theorem e111 {a0 : Value} : W prog J 15 h.length 111 (codeOf f111) (RG.mk (regs [a0]) []) h (RetQ prog [.tmp 2] h.length K) =
(aLenS a0 fun v1 =>
Sem J 15 h.length 111 (subC [1, 0, 1, 0] (codeOf f111)) (RG.p (RG.p (RG.p (RG.p (RG.mk (regs [a0]) []) 2 (vint 0)) 5 a0) 6 v1) 7 (vint 0)) h (contX pl111 prog J 15 h.length 111 ct111 [1, 0, 1, 0] (codeOf f111) [] (RetQ prog [.tmp 2] h.length K))) := top_eq pok111 ct111 (by kernel_rfl)
theorem g111 (hJ : Closed prog main J) {a0 : Value} (hs : heapOk h → W prog J 15 h.length 111 (codeOf f111) (RG.mk (regs [a0]) []) h (RetQ prog [.tmp 2] h.length K)) : Good prog J 111 [a0] h K :=
  good_of_W hJ mixed at111 body111 (by kernel_rfl) (Nat.le_of_ble_eq_true rfl) hs
theorem s111_1 {f : RG} {nx0 : RG → List AObj → Prop} : W prog J 15 n0 111 (subC [1, 0, 1, 0, 0] (codeOf f111)) f h (thenK nx0 (contX pl111 prog J 15 n0 111 ct111 [1, 0, 1, 0] (codeOf f111) [] (RetQ prog [.tmp 2] n0 K))) =
(aBin prog .lss 3 (f.r 7) (f.r 6) fun v1 =>
cnd v1
(aIdx 1 (f.r 5) (f.r 7) fun v2 =>
aLoad false 1 v2 h fun v3 =>
aBin prog .neq 39 v3 (vint 0) fun v4 =>
cnd v4
(retL n0 K f.ds [v3] h)
(aBin prog .add 3 (f.r 7) (vint 1) fun v5 =>
nx0 (RG.p (RG.p (RG.p (RG.p (RG.p (RG.p (RG.p (RG.p f 8 v1) 9 v2) 10 v3) 4 v3) 11 v3) 12 v4) 14 v5) 7 v5) h))
(retL n0 K f.ds [(vint 0)] h)) := sub_eq pok111 ct111 (by kernel_rfl)
theorem l111_1 (hJ : Closed prog main J) {S : Type} (μ : S → Nat) (I : S → RG → List AObj → Prop) (hI : ∀ s f h, I s f h → heapOk h → n0 ≤ h.length → W prog J 15 n0 111 (subC [1, 0, 1, 0, 0] (codeOf f111)) f h (thenK (Nx n0 μ I s) (contX pl111 prog J 15 n0 111 ct111 [1, 0, 1, 0] (codeOf f111) [] (RetQ prog [.tmp 2] n0 K))))
  {s : S} {f : RG} (hi : Gets n0 I s f h) : Sem J 15 n0 111 (subC [1, 0, 1, 0] (codeOf f111)) f h (contX pl111 prog J 15 n0 111 ct111 [1, 0, 1, 0] (codeOf f111) [] (RetQ prog [.tmp 2] n0 K)) :=
  loop_rule hJ mixed (b := subC [1, 0, 1, 0, 0] (codeOf f111)) (by kernel_rfl) μ I hI hi
theorem at128 : prog.funcs[128]? = some f128 := by kernel_rfl
theorem body128 : f128.body = some (codeOf f128) := by kernel_rfl
def pl128 : Plans := []
def ct128 : Cuts := .go
theorem pok128 : plansOk prog pl128 (codeOf f128) = true := by kernel_rfl
theorem e128 {a0 : Value} : W prog J 9 h.length 128 (codeOf f128) (RG.mk (regs [a0]) []) h (RetQ prog [.tmp 2] h.length K) =
(aBox a0 h fun v1 h2 =>
aLoad true 6 v1 h2 fun v3 =>
aOff v1 0 fun v4 =>
aLoad false 1 v4 h2 fun v5 =>
aFill [(vint 0), (vint 0)] [(0, 1, v5)] fun c6 =>
aFill [(vint 0), (vint 0), (vint 0), (vint 0), (vint 0), (vint 0), (vint 0), (vint 0)] [(0, 6, v3), (6, 2, (Value.agg ⟨c6⟩))] fun c7 =>
aBox (Value.agg ⟨c7⟩) h2 fun v8 h9 =>
retL h.length K [] [v8] h9) := top_eq pok128 ct128 (by kernel_rfl)
theorem g128 (hJ : Closed prog main J) {a0 : Value} (hs : heapOk h → W prog J 9 h.length 128 (codeOf f128) (RG.mk (regs [a0]) []) h (RetQ prog [.tmp 2] h.length K)) : Good prog J 128 [a0] h K :=
  good_of_W hJ mixed at128 body128 (by kernel_rfl) (Nat.le_of_ble_eq_true rfl) hs
theorem at129 : prog.funcs[129]? = some f129 := by kernel_rfl
theorem body129 : f129.body = some (codeOf f129) := by kernel_rfl
def pl129 : Plans := [(2, true, .take 0 (.take 1 (.take 2 (.take 3 (.take 4 (.take 5 (.take 6 (.take 7 (.take 8 (.take 9 (.take 10 (.take 11 (.take 12 (.take 13 (.take 14 (.take 15 (.last 16 false (.fin)))))))))))))))))),
  (3, true, .take 0 (.take 1 (.take 2 (.take 3 (.take 4 (.take 5 (.take 6 (.take 7 (.take 8 (.take 9 (.take 10 (.take 11 (.take 12 (.take 13 (.take 14 (.take 15 (.fin))))))))))))))))),
  (10, true, .take 0 (.take 1 (.take 2 (.take 3 (.take 4 (.take 5 (.take 6 (.take 7 (.take 8 (.take 9 (.take 10 (.take 11 (.take 12 (.take 13 (.take 14 (.take 15 (.take 16 (.take 17 (.take 18 (.take 19 (.take 20 (.last 21 false (.fin))))))))))))))))))))))),
  (4, true, .take 0 (.take 1 (.take 2 (.take 3 (.take 4 (.take 5 (.take 6 (.take 7 (.take 8 (.take 9 (.take 10 (.take 11 (.take 12 (.take 13 (.take 14 (.take 15 (.take 16 (.take 17 (.take 18 (.take 19 (.take 20 (.last 21 false (.fin)))))))))))))))))))))))]
def ct129 : Cuts := .bin (.go) (.bin (.go) (.bin (.go) (.bin (.go) (.cut (.go)))))
theorem pok129 : plansOk prog pl129 (codeOf f129) = true := by kernel_rfl
theorem e129 {a0 a1 a2 : Value} : W prog J 119 h.length 129 (codeOf f129) (RG.mk (regs [a0, a1, a2]) []) h (RetQ prog [.tmp 6, .tmp 7] h.length K) =
(aNil a0 fun v1 =>
aOff v1 6 fun v2 =>
aOff v2 0 fun v3 =>
aLoad false 1 v3 h fun v4 =>
aBin prog .gtr 3 a1 v4 fun v5 =>
aNil a0 fun v6 =>
aOff v6 6 fun v7 =>
aOff v7 0 fun v8 =>
aLoad false 1 v8 h fun v9 =>
aNil a0 fun v10 =>
aOff v10 6 fun v11 =>
aOff v11 0 fun v12 =>
aLoad false 1 v12 h fun v13 =>
aMin a1 [v13] fun v14 =>
aBin prog .sub 3 v9 v14 fun v15 =>
aNil a0 fun v16 =>
aOff v16 6 fun v17 =>
aOff v17 0 fun v18 =>
aStore 1 v18 v15 h fun h19 =>
aBin prog .gtr 3 a1 (vint 0) fun v20 =>
cnd v20
(aNil a0 fun v21 =>
aOff v21 6 fun v22 =>
aOff v22 0 fun v23 =>
aLoad false 1 v23 h19 fun v24 =>
aNil a0 fun v25 =>
aOff v25 0 fun v26 =>
aOff v26 4 fun v27 =>
aLoad false 1 v27 h19 fun v28 =>
aBin prog .lss 3 v24 v28 fun v29 =>
Hold (W prog J 119 h.length 129 (subC [1, 1, 1, 1] (codeOf f129)) (RG.p (RG.p (RG.p (RG.p (RG.p (RG.p (RG.p (RG.p (RG.p (RG.p (RG.p (RG.p (RG.p (RG.p (RG.p (RG.p (RG.p (RG.p (RG.p (RG.p (RG.p (RG.p (RG.p (RG.p (RG.p (RG.p (RG.p (RG.p (RG.p (RG.p (RG.p (RG.p (RG.p (RG.p (RG.p (RG.p (RG.p (RG.p (RG.p (RG.p (RG.p (RG.p (RG.p (RG.mk (regs [a0, a1, a2]) []) 6 (Value.bool false)) 7 (Value.bool false)) 8 a1) 9 a0) 10 v1) 11 v2) 12 v3) 13 v4) 14 v5) 6 v5) 15 a0) 16 v6) 17 v7) 18 v8) 19 v9) 20 a1) 21 a0) 22 v10) 23 v11) 24 v12) 25 v13) 26 v14) 27 v15) 28 v16) 29 v17) 30 v18) 31 a1) 32 v20) 33 v20) 33 (Value.bool true)) 34 a0) 35 v21) 36 v22) 37 v23) 38 v24) 39 a0) 40 v25) 41 v26) 42 v27) 43 v28) 44 v29) 45 v29) 7 v29) h19 (contX pl129 prog J 119 h.length 129 ct129 [1, 1, 1, 1] (codeOf f129) [] (RetQ prog [.tmp 6, .tmp 7] h.length K))))
(Hold (W prog J 119 h.length 129 (subC [1, 1, 1, 1] (codeOf f129)) (RG.p (RG.p (RG.p (RG.p (RG.p (RG.p (RG.p (RG.p (RG.p (RG.p (RG.p (RG.p (RG.p (RG.p (RG.p (RG.p (RG.p (RG.p (RG.p (RG.p (RG.p (RG.p (RG.p (RG.p (RG.p (RG.p (RG.p (RG.p (RG.p (RG.p (RG.p (RG.p (RG.p (RG.p (RG.p (RG.p (RG.p (RG.p (RG.p (RG.p (RG.p (RG.p (RG.p (RG.mk (regs [a0, a1, a2]) []) 6 (Value.bool false)) 7 (Value.bool false)) 8 a1) 9 a0) 10 v1) 11 v2) 12 v3) 13 v4) 14 v5) 6 v5) 15 a0) 16 v6) 17 v7) 18 v8) 19 v9) 20 a1) 21 a0) 22 v10) 23 v11) 24 v12) 25 v13) 26 v14) 27 v15) 28 v16) 29 v17) 30 v18) 31 a1) 32 v20) 33 v20) 33 (Value.bool false)) 34 undef) 35 undef) 36 undef) 37 undef) 38 undef) 39 undef) 40 undef) 41 undef) 42 undef) 43 undef) 44 undef) 45 (Value.bool false)) 7 (Value.bool false)) h19 (contX pl129 prog J 119 h.length 129 ct129 [1, 1, 1, 1] (codeOf f129) [] (RetQ prog [.tmp 6, .tmp 7] h.length K))))) := top_eq pok129 ct129 (by kernel_rfl)
theorem g129 (hJ : Closed prog main J) {a0 a1 a2 : Value} (hs : heapOk h → W prog J 119 h.length 129 (codeOf f129) (RG.mk (regs [a0, a1, a2]) []) h (RetQ prog [.tmp 6, .tmp 7] h.length K)) : Good prog J 129 [a0, a1, a2] h K :=
  good_of_W hJ mixed at129 body129 (by kernel_rfl) (Nat.le_of_ble_eq_true rfl) hs
theorem s129_1 {f : RG} : W prog J 119 n0 129 (subC [1, 1, 1, 1] (codeOf f129)) f h (contX pl129 prog J 119 n0 129 ct129 [1, 1, 1, 1] (codeOf f129) [] (RetQ prog [.tmp 6, .tmp 7] n0 K)) =
(cnd (f.r 7)
(aNil (f.r 0) fun v1 =>
aOff v1 0 fun v2 =>
aOff v2 5 fun v3 =>
aLoad false 1 v3 h fun v4 =>
aNil (f.r 0) fun v5 =>
aOff v5 6 fun v6 =>
aOff v6 1 fun v7 =>
aStore 1 v7 v4 h fun h8 =>
retL n0 K f.ds [(f.r 6), (f.r 7)] h8)
(aNil (f.r 0) fun v9 =>
aOff v9 6 fun v10 =>
aOff v10 1 fun v11 =>
aLoad false 1 v11 h fun v12 =>
aBin prog .gtr 3 v12 (vint 0) fun v13 =>
cnd v13
(aNil (f.r 0) fun v14 =>
aOff v14 6 fun v15 =>
aOff v15 1 fun v16 =>
aLoad false 1 v16 h fun v17 =>
aBin prog .sub 3 v17 (vint 1) fun v18 =>
aNil (f.r 0) fun v19 =>
aOff v19 6 fun v20 =>
aOff v20 1 fun v21 =>
aStore 1 v21 v18 h fun h22 =>
retL n0 K f.ds [(f.r 6), (f.r 7)] h22)
(cnd (f.r 2)
(aNil (f.r 0) fun v23 =>
aOff v23 0 fun v24 =>
aOff v24 1 fun v25 =>
aLoad false 1 v25 h fun v26 =>
aNil (f.r 0) fun v27 =>
aOff v27 6 fun v28 =>
aOff v28 0 fun v29 =>
aLoad false 1 v29 h fun v30 =>
aNil (f.r 0) fun v31 =>
aOff v31 0 fun v32 =>
aOff v32 3 fun v33 =>
aLoad false 1 v33 h fun v34 =>
aBin prog .add 3 v30 v34 fun v35 =>
aMin v26 [v35] fun v36 =>
aNil (f.r 0) fun v37 =>
aOff v37 6 fun v38 =>
aOff v38 0 fun v39 =>
aStore 1 v39 v36 h fun h40 =>
retL n0 K f.ds [(f.r 6), (f.r 7)] h40)
(aNil (f.r 0) fun v41 =>
aOff v41 0 fun v42 =>
aOff v42 1 fun v43 =>
aLoad false 1 v43 h fun v44 =>
aNil (f.r 0) fun v45 =>
aOff v45 6 fun v46 =>
aOff v46 0 fun v47 =>
aLoad false 1 v47 h fun v48 =>
aNil (f.r 0) fun v49 =>
aOff v49 0 fun v50 =>
aOff v50 2 fun v51 =>
aLoad false 1 v51 h fun v52 =>
aBin prog .add 3 v48 v52 fun v53 =>
aMin v44 [v53] fun v54 =>
aNil (f.r 0) fun v55 =>
aOff v55 6 fun v56 =>
aOff v56 0 fun v57 =>
aStore 1 v57 v54 h fun h58 =>
retL n0 K f.ds [(f.r 6), (f.r 7)] h58)))) := sub_eq pok129 ct129 (by kernel_rfl)
theorem at136 : prog.funcs[136]? = some f136 := by kernel_rfl
theorem body136 : f136.body = some (codeOf f136) := by kernel_rfl
def pl136 : Plans := [(6, false, .take 0 (.take 1 (.take 2 (.take 3 (.take 4 (.take 5 (.take 6 (.take 7 (.take 8 (.last 9 true (.take 10 (.fin))))))))))))]
def ct136 : Cuts := .bin (.go) (.bin (.go) (.bin (.go) (.bin (.go) (.cut (.go)))))
theorem pok136 : plansOk prog pl136 (codeOf f136) = true := by kernel_rfl
theorem e136 {a0 a1 a2 : Value} : W prog J 30 h.length 136 (codeOf f136) (RG.mk (regs [a0, a1, a2]) []) h (RetQ prog [.cell 6 158, .tmp 7] h.length K) =
(aBox a0 h fun v1 h2 =>
aBox a1 h2 fun v3 h4 =>
aAlloc [(Value.int .u8 0), (vint 0)] h4 fun v5 h6 =>
aOff v1 0 fun v7 =>
aLoad false 1 v7 h6 fun v8 =>
aBin prog .neq 5 v8 a2 fun v9 =>
cnd v9
(aFill [(Value.int .u8 0), (vint 0)] [(0, 1, a2), (1, 1, (vint 1))] fun c10 =>
aStore 2 v5 (Value.agg ⟨c10⟩) h6 fun h11 =>
RetQ prog [.cell 6 158, .tmp 7] h.length K .ret (RG.p (RG.p (RG.p (RG.p (RG.p (RG.p (RG.p (RG.p (RG.p (RG.p (RG.p (RG.mk (regs [a0, a1, a2]) []) 3 v1) 4 v3) 6 v5) 7 (Value.bool false)) 9 v7) 10 v8) 11 a2) 12 v9) 13 a2) 14 (Value.agg ⟨c10⟩)) 7 (Value.bool true)) h11)
(aOff v3 1 fun v12 =>
aLoad false 1 v12 h6 fun v13 =>
aBin prog .eql 5 a2 (Value.int .u8 119) fun v14 =>
cnd v14
(aOff v3 2 fun v15 =>
aLoad false 1 v15 h6 fun v16 =>
Hold (W prog J 30 h.length 136 (subC [1, 1, 1, 1] (codeOf f136)) (RG.p (RG.p (RG.p (RG.p (RG.p (RG.p (RG.p (RG.p (RG.p (RG.p (RG.p (RG.p (RG.p (RG.p (RG.p (RG.p (RG.mk (regs [a0, a1, a2]) []) 3 v1) 4 v3) 6 v5) 7 (Value.bool false)) 9 v7) 10 v8) 11 a2) 12 v9) 15 v12) 16 v13) 8 v13) 17 a2) 18 v14) 19 v15) 20 v16) 8 v16) h6 (contX pl136 prog J 30 h.length 136 ct136 [1, 1, 1, 1] (codeOf f136) [] (RetQ prog [.cell 6 158, .tmp 7] h.length K))))
(Hold (W prog J 30 h.length 136 (subC [1, 1, 1, 1] (codeOf f136)) (RG.p (RG.p (RG.p (RG.p (RG.p (RG.p (RG.p (RG.p (RG.p (RG.p (RG.p (RG.p (RG.p (RG.mk (regs [a0, a1, a2]) []) 3 v1) 4 v3) 6 v5) 7 (Value.bool false)) 9 v7) 10 v8) 11 a2) 12 v9) 15 v12) 16 v13) 8 v13) 17 a2) 18 v14) h6 (contX pl136 prog J 30 h.length 136 ct136 [1, 1, 1, 1] (codeOf f136) [] (RetQ prog [.cell 6 158, .tmp 7] h.length K)))))) := top_eq pok136 ct136 (by kernel_rfl)
theorem g136 (hJ : Closed prog main J) {a0 a1 a2 : Value} (hs : heapOk h → W prog J 30 h.length 136 (codeOf f136) (RG.mk (regs [a0, a1, a2]) []) h (RetQ prog [.cell 6 158, .tmp 7] h.length K)) : Good prog J 136 [a0, a1, a2] h K :=
  good_of_W hJ mixed at136 body136 (by kernel_rfl) (Nat.le_of_ble_eq_true rfl) hs
theorem s136_1 {f : RG} : W prog J 30 n0 136 (subC [1, 1, 1, 1] (codeOf f136)) f h (contX pl136 prog J 30 n0 136 ct136 [1, 1, 1, 1] (codeOf f136) [] (RetQ prog [.cell 6 158, .tmp 7] n0 K)) =
((∃ B, aOff (f.r 3) 1 fun v1 =>
aLoad false 1 v1 h fun v2 =>
RdOk (some B) (ptrBlk v1) ∧ (aBin prog .add 3 v2 (vint 1) fun v3 =>
aFill [(Value.int .u8 0), (vint 0)] [(0, 1, (f.r 2)), (1, 1, v3)] fun c4 =>
aOff (f.r 3) 1 fun v5 =>
aLoad false 1 v5 h fun v6 =>
RdOk (some B) (ptrBlk v5) ∧ (aBin prog .lss 3 v6 (f.r 8) fun v7 =>
aStore 2 (f.r 6) (Value.agg ⟨c4⟩) h fun h8 =>
SameB (some B) h h8 ∧ (RetQ prog [.cell 6 158, .tmp 7] n0 K .ret (RG.p (RG.p (RG.p (RG.p (RG.p (RG.p (RG.p (RG.p (RG.p (RG.p f 21 (f.r 2)) 22 v1) 23 v2) 24 v3) 25 (Value.agg ⟨c4⟩)) 26 v5) 27 v6) 28 (f.r 8)) 29 v7) 7 v7) h8))))) := sub_eq pok136 ct136 (by kernel_rfl)
end
end Go.Proofs.Ytindillghipjjaa
namespace Go.Proofs.Ytindillghipjjaa
open Go.Conc Go.Proofs.Try
set_option maxRecDepth 100000
section
variable {main : Bool} {J : JT} {h H : List AObj} {K : Value → List AObj → Prop} {KV : Value → Prop} {HL : List AObj → Prop} {n0 : Nat}
theorem good114 (hJ : Closed prog main J) {n lo hi : Int} (hK : K (.bool (decide (lo ≤ n ∧ n ≤ hi))) h) : Good prog J 114 [vint n, vint lo, vint hi] h K := by
  refine g114 hJ fun ok => ?_
  rw [e114]
  refine leqI (cndI (fun h1 => leqI (retL_same (by simp [unk]) ?_)) fun h1 => retL_same (by simp [unk]) ?_)
  · simpa [pack, h1] using hK
  · simpa [pack, h1] using hK
theorem good112 (hJ : Closed prog main J) {p : Pas} (hK : K (vint (pasE p)) h) : Good prog J 112 [.agg ⟨p.cells⟩] h K := by
  refine g112 hJ fun ok => ?_
  rw [e112]
  refine qBox (l := p.cells) rfl fun H1 p1 e1 S1 c1 l1 => ?_
  have fin : ∀ e : Int, pasE p = e → retL h.length K [] [vint e] H1 := fun e he => by
    subst he
    exact retX ok (Nat.le_refl _) S1 (by simp) (by simp [unk]) (by simp [pack, VOk]) hK
  have no : ∀ {q : Prop}, (pasOk p → q) → ¬ q → retL h.length K [] [vint 1] H1 := fun a b => fin 1 (by unfold pasE; rw [if_neg fun x => b (a x)])
  refine offI (ldI (v := vint p.bears) c1 rfl rfl (good114 hJ (cndI (fun h1 => ?_) fun h1 => hold.2 ?_)))
  rotate_left
  · rw [s112_1]
    exact cnd_false.2 (no (fun x => x.1) h1)
  refine offI (ldI (v := vint p.grass) c1 rfl rfl (offI (ldI (v := vint p.bears) c1 rfl rfl (good114 hJ (cndI (fun h2 => ?_) fun h2 => hold.2 ?_)))))
  rotate_left
  · rw [s112_1]
    exact cnd_false.2 (no (fun x => x.2.1) h2)
  refine offI (ldI (v := vint p.dry) c1 rfl rfl (good114 hJ (cndI (fun h3 => ?_) fun h3 => hold.2 ?_)))
  rotate_left
  · rw [s112_1]
    exact cnd_false.2 (no (fun x => x.2.2.1) h3)
  refine offI (ldI (v := vint p.wet) c1 rfl rfl (offI (ldI (v := vint p.dry) c1 rfl rfl (good114 hJ (cndI (fun h4 => ?_) fun h4 => hold.2 ?_)))))
  rotate_left
  · rw [s112_1]
    exact cnd_false.2 (no (fun x => x.2.2.2.1) h4)
  refine offI (ldI (v := vint p.stubble) c1 rfl rfl (offI (ldI (v := vint p.bears) c1 rfl rfl (good114 hJ (cndI (fun h5 => ?_) fun h5 => hold.2 ?_)))))
  rotate_left
  · rw [s112_1]
    exact cnd_false.2 (no (fun x => x.2.2.2.2.1) h5)
  refine offI (ldI (v := vint p.sleep) c1 rfl rfl (good114 hJ (hold.2 ?_)))
  rw [s112_1]
  refine cndI (fun h6 => fin 0 ?_) fun h6 => no (fun x => x.2.2.2.2.2) h6
  unfold pasE
  rw [if_pos ⟨h1, h2, h3, h4, h5, h6⟩]
theorem good113 (hJ : Closed prog main J) {s : SkyR} (hK : K (vint (skyE s)) h) : Good prog J 113 [.agg ⟨s.cells⟩] h K := by
  refine g113 hJ fun ok => ?_
  rw [e113]
  refine qBox (l := s.cells) rfl fun H1 p1 e1 S1 c1 l1 => ?_
  have fin : ∀ e : Int, skyE s = e → retL h.length K [] [vint e] H1 := fun e he => by
    subst he
    exact retX ok (Nat.le_refl _) S1 (by simp) (by simp [unk]) (by simp [pack, VOk]) hK
  have no : ∀ {q : Prop}, (skyOk s → q) → ¬ q → retL h.length K [] [vint 1] H1 := fun a b => fin 1 (by unfold skyE; rw [if_neg fun x => b (a x)])
  refine offI (ldI (v := vint s.days) c1 rfl rfl (good114 hJ (cndI (fun h1 => ?_) fun h1 => hold.2 ?_)))
  rotate_left
  · rw [s113_1]
    exact cnd_false.2 (no (fun x => x.1) h1)
  refine offI (ldI (v := vint s.drought) c1 rfl rfl (offI (ldI (v := vint s.days) c1 rfl rfl (good114 hJ (cndI (fun h2 => ?_) fun h2 => hold.2 ?_)))))
  rotate_left
  · rw [s113_1]
    exact cnd_false.2 (no (fun x => x.2.1) h2)
  refine offI (ldI (v := vint s.flood) c1 rfl rfl (offI (ldI (v := vint s.days) c1 rfl rfl (good114 hJ (hold.2 ?_)))))
  rw [s113_1]
  refine cndI (fun h3 => fin 0 ?_) fun h3 => no (fun x => x.2.2) h3
  unfold skyE
  rw [if_pos ⟨h1, h2, h3⟩]
theorem good111 (hJ : Closed prog main J) {v : Value} {a b : Int} (hs : Sli H v 1 2 [vint a, vint b]) (hK : K (vint (fst2 a b)) H) : Good prog J 111 [v] H K := by
  refine g111 hJ fun ok => ?_
  rw [e111]
  have hs' : Sli H v 1 ([a, b] : List Int).length (([a, b] : List Int).map vint) := hs
  refine lenI hs ?_
  refine l111_1 hJ (fun i : Nat => 2 - i) (fun i F H' => H' = H ∧ i ≤ 2 ∧ (1 ≤ i → a = 0) ∧ (2 ≤ i → b = 0) ∧ F.ds = [] ∧ F.r 5 = v ∧ F.r 6 = vint (2 : Nat) ∧ F.r 7 = vint (i : Nat)) ?_ (s := 0)
    (.inl ⟨rfl, by omega, by omega, by omega, rfl, rfl, rfl, rfl⟩)
  rintro i F H' ⟨rfl, hi, ha, hb, ds, r5, r6, r7⟩ okc hnc
  rw [s111_1, r5, r6, r7, ds]
  refine lssI (cndI (fun hlt => ?_) fun hge => ?_)
  rotate_left
  · have h1 := ha (by omega)
    have h2 := hb (by omega)
    refine retL_same (by simp [unk]) ?_
    unfold fst2 at hK
    rw [if_neg (by omega), h2] at hK
    exact hK
  have hil : i < 2 := by omega
  by_cases e : i = 0
  · subst e
    refine sliN hs' (i := 0) (x := a) rfl fun q => neqI (cndI (fun hne => retL_same (by simp [unk]) ?_) fun heq => addI (by omega) ⟨1, by decide, .inl ⟨rfl, by omega, fun _ => by omega, by omega, ds, r5, r6, rfl⟩⟩)
    unfold fst2 at hK
    rw [if_pos hne] at hK
    exact hK
  · have : i = 1 := by omega
    subst this
    have h1 := ha (by omega)
    refine sliN hs' (i := 1) (x := b) rfl fun q => neqI (cndI (fun hne => retL_same (by simp [unk]) ?_) fun heq => addI (by omega) ⟨2, by decide, .inl ⟨rfl, by omega, fun _ => h1, fun _ => by omega, ds, r5, r6, rfl⟩⟩)
    unfold fst2 at hK
    rw [if_neg (by omega)] at hK
    exact hK
theorem fillM {p : Pas} {a b : Int} {KL : List Value → Prop} (hk : KL (medC p (a, b))) : aFill [(vint 0), (vint 0), (vint 0), (vint 0), (vint 0), (vint 0), (vint 0), (vint 0)] [(0, 6, .agg ⟨p.cells⟩), (6, 2, .agg ⟨[vint a, vint b]⟩)] KL := by
  refine fillO (l := p.cells) rfl rfl rfl (by decide) (fillO (l := [vint a, vint b]) rfl rfl rfl (by rw [wrAt_length]; decide) (fillI hk))
theorem good128 (hJ : Closed prog main J) {p : Pas} (hK : ∀ H' m, m = H'.length - 1 → SameX [] H H' → H'[m]? = some (.cells (medC p (p.grass, 0)) true 0) → H.length ≤ m → K (ptr m 0) H') : Good prog J 128 [.agg ⟨p.cells⟩] H K := by
  refine g128 hJ fun ok => ?_
  rw [e128]
  refine qBox (l := p.cells) rfl fun H1 p1 e1 S1 c1 l1 => load_part (c := p.cells) c1 (by simp [Pas.cells]) rfl rfl (offI (ldI (v := vint p.grass) c1 rfl rfl ?_))
  refine fillO (l := [vint p.grass]) rfl rfl rfl (by decide) (fillI (fillM (qBox (l := medC p (p.grass, 0)) rfl fun H2 p2 e2 S2 c2 l2 => retL_same (by simp [unk]) (hK H2 p2 (by omega) (S1.trans S2) c2 (by omega)))))
theorem good129 (hJ : Closed prog main J) {p : Pas} {x : Std} {n : Int} {w : Bool} {m : Nat} (hm : H[m]? = some (.cells (medC p x) true 0)) (f : pasOk p) (o : StdOk p x) (hn : 0 ≤ n ∧ n ≤ 1000000)
    (hK : ∀ H', SameX [m] H H' → H'[m]? = some (.cells (medC p (dayR p x n w)) true 0) → K (.tuple ⟨[.bool (hungR x n), .bool (shortR p x n)]⟩) H') : Good prog J 129 [ptr m 0, vint n, .bool w] H K := by
  refine g129 hJ fun ok => ?_
  rw [e129]
  have og := o.g
  have oa := o.a
  have hb := leftR_bd o hn.1
  obtain ⟨f1, f2, f3, f4, f5, f6⟩ := f
  have mc : ∀ (a b : Int), medC p (a, b) = [vint p.grass, vint p.bears, vint p.dry, vint p.wet, vint p.stubble, vint p.sleep, vint a, vint b] := fun a b => rfl
  obtain ⟨xa, xb⟩ := x
  dsimp only at og oa
  rw [mc] at hm
  refine nilI (offI (offI (ldI (v := vint xa) hm rfl rfl (gtrI ?_))))
  refine nilI (offI (offI (ldI (v := vint xa) hm rfl rfl ?_)))
  refine nilI (offI (offI (ldI (v := vint xa) hm rfl rfl (minI (subI (by omega) ?_)))))
  refine nilI (offI (offI (qSt hm (by simp) rfl rfl fun H1 S1 c1 l1 => ?_)))
  have el : xa - min n xa = leftR (xa, xb) n := rfl
  rw [el] at c1 ⊢
  have c1 : H1[m]? = some (.cells (medC p (leftR (xa, xb) n, xb)) true 0) := c1
  -- behind the eating
  have post : ∀ {F : RG}, F.ds = [] → F.r 0 = ptr m 0 → F.r 2 = .bool w → F.r 6 = .bool (hungR (xa, xb) n) → F.r 7 = .bool (shortR p (xa, xb) n) →
      W prog J 119 H.length 129 (subC [1, 1, 1, 1] (codeOf f129)) F H1 (contX pl129 prog J 119 H.length 129 ct129 [1, 1, 1, 1] (codeOf f129) [] (RetQ prog [.tmp 6, .tmp 7] H.length K)) := by
    intro F ds r0 r2 r6 r7
    rw [s129_1, r0, r2, r6, r7, ds]
    have fin : ∀ {y : Std} {H2 : List AObj}, dayR p (xa, xb) n w = y → SameX [m] H1 H2 → H2[m]? = some (.cells (medC p y) true 0) → retL H.length K [] [.bool (hungR (xa, xb) n), .bool (shortR p (xa, xb) n)] H2 := fun hy S2 c2 => by
      subst hy
      exact retL_same (by simp [unk]) (hK _ (S1.trans S2) c2)
    rw [mc] at c1
    refine cndB (fun hs => ?_) fun hs => ?_
    · refine nilI (offI (offI (ldI (v := vint p.sleep) c1 rfl rfl (nilI (offI (offI (qSt c1 (by simp) rfl rfl fun H2 S2 c2 l2 => ?_)))))))
      refine fin (y := (leftR (xa, xb) n, p.sleep)) ?_ S2 c2
      unfold dayR
      rw [if_pos hs]
    · have hs' : ¬ shortR p (xa, xb) n = true := by rw [hs]; decide
      refine nilI (offI (offI (ldI (v := vint xb) c1 rfl rfl (gtrI (cndI (fun h0 => ?_) fun h0 => ?_)))))
      · refine nilI (offI (offI (ldI (v := vint xb) c1 rfl rfl (subI (by omega) (nilI (offI (offI (qSt c1 (by simp) rfl rfl fun H2 S2 c2 l2 => ?_))))))))
        refine fin (y := (leftR (xa, xb) n, xb - 1)) ?_ S2 c2
        unfold dayR
        rw [if_neg hs', if_pos h0]
      · refine cndB (fun hw => ?_) fun hw => ?_
        · refine nilI (offI (offI (ldI (v := vint p.bears) c1 rfl rfl (nilI (offI (offI (ldI (v := vint (leftR (xa, xb) n)) c1 rfl rfl (nilI (offI (offI (ldI (v := vint p.wet) c1 rfl rfl (addI (by omega) (minI (nilI (offI (offI (qSt c1 (by simp) rfl rfl fun H2 S2 c2 l2 => ?_)))))))))))))))))
          refine fin (y := (min p.bears (leftR (xa, xb) n + p.wet), xb)) ?_ S2 c2
          unfold dayR
          rw [if_neg hs', if_neg h0, if_pos hw]
        · refine nilI (offI (offI (ldI (v := vint p.bears) c1 rfl rfl (nilI (offI (offI (ldI (v := vint (leftR (xa, xb) n)) c1 rfl rfl (nilI (offI (offI (ldI (v := vint p.dry) c1 rfl rfl (addI (by omega) (minI (nilI (offI (offI (qSt c1 (by simp) rfl rfl fun H2 S2 c2 l2 => ?_)))))))))))))))))
          refine fin (y := (min p.bears (leftR (xa, xb) n + p.dry), xb)) ?_ S2 c2
          unfold dayR
          rw [if_neg hs', if_neg h0, if_neg (by rw [hw]; decide)]
  refine gtrI (cndI (fun h0 => ?_) fun h0 => hold.2 ?_)
  · rw [mc] at c1
    refine nilI (offI (offI (ldI (v := vint (leftR (xa, xb) n)) c1 rfl rfl (nilI (offI (offI (ldI (v := vint p.stubble) c1 rfl rfl (lssI (hold.2 ?_)))))))))
    refine post rfl rfl rfl rfl ?_
    show Value.bool _ = Value.bool _
    unfold shortR
    rw [decide_eq_true h0]
    rfl
  · refine post rfl rfl rfl rfl ?_
    show Value.bool _ = Value.bool _
    unfold shortR
    rw [decide_eq_false h0]
    rfl
theorem good136 (hJ : Closed prog main J) {s : SkyR} {x : Spl} {c : UInt8} (hx : -1 ≤ x.2 ∧ x.2 ≤ 1000000) (hK : ∀ H', SameX [] H H' → K (.tuple ⟨[.agg ⟨spC (nextX x c)⟩, .bool (nextOk s x c)]⟩) H') : Good prog J 136 [.agg ⟨spC x⟩, .agg ⟨s.cells⟩, .int .u8 c.toNat] H K := by
  refine g136 hJ fun ok => ?_
  rw [e136]
  refine qBox (l := spC x) rfl fun H1 p1 e1 S1 c1 l1 => qBox (l := s.cells) rfl fun H2 p2 e2 S2 c2 l2 => qAl fun H3 p3 e3 S3 c3 l3 => ?_
  have c13 := S3.get (S2.get c1 (by simp)) (by simp)
  have c23 := S3.get c2 (by simp)
  have T3 := (S1.trans S2).trans S3
  refine offI (ldI (v := .int .u8 x.1.toNat) c13 rfl rfl (neqU (cndI (fun hne => ?_) fun heq => ?_)))
  · refine fillO (l := [.int .u8 c.toNat]) rfl rfl rfl (by decide) (fillO (l := [vint 1]) rfl rfl rfl (by rw [wrAt_length]; decide) (fillI ?_))
    refine qStA (c := spC (c, 1)) c3 rfl rfl rfl fun H4 S4 c4 l4 => ?_
    refine retQs rfl (resW_cell (gg := true) (s := 2) (by kernel_rfl) (load_part (c := spC (c, 1)) c4 (by simp [spC]) rfl rfl (resW_tmp (by simp [unk, RG.p]) (resW_nil ?_))))
    have := hK H4 (T3.thru S4 (by simp; omega))
    unfold nextX nextOk at this
    rw [if_pos hne, if_pos hne] at this
    exact this
  · have heq : x.1 = c := Classical.not_not.1 heq
    have post : ∀ {F : RG} {most : Int}, most = (if c = 119 then s.flood else s.drought) → F.ds = [] → F.r 2 = .int .u8 c.toNat → F.r 3 = ptr p1 0 → F.r 6 = ptr p3 0 → F.r 8 = vint most →
        W prog J 30 H.length 136 (subC [1, 1, 1, 1] (codeOf f136)) F H3 (contX pl136 prog J 30 H.length 136 ct136 [1, 1, 1, 1] (codeOf f136) [] (RetQ prog [.cell 6 158, .tmp 7] H.length K)) := by
      intro F most hm ds r2 r3 r6 r8
      rw [s136_1, r2, r3, r6, r8]
      refine ⟨[p1], offI (ldI (v := vint x.2) c13 rfl rfl ⟨by simp [RdOk, ptr, ptrBlk], addI (by omega) ?_⟩)⟩
      refine fillO (l := [.int .u8 c.toNat]) rfl rfl rfl (by decide) (fillO (l := [vint (x.2 + 1)]) rfl rfl rfl (by rw [wrAt_length]; decide) (fillI ?_))
      refine offI (ldI (v := vint x.2) c13 rfl rfl ⟨by simp [RdOk, ptr, ptrBlk], lssI ?_⟩)
      refine qStA (c := spC (c, x.2 + 1)) c3 rfl rfl rfl fun H4 S4 c4 l4 => ⟨sbOne S4 (lt_of_get c13) (by simp; omega), ?_⟩
      refine retQs ds (resW_cell (gg := true) (s := 2) (by kernel_rfl) ?_)
      show aLoad true 2 (F.r 6) H4 _
      rw [r6]
      refine load_part (c := spC (c, x.2 + 1)) c4 (by simp [spC]) rfl rfl (resW_tmp (by simp [unk, RG.p]) (resW_nil ?_))
      have := hK H4 (T3.thru S4 (by simp; omega))
      unfold nextX nextOk at this
      rw [if_neg (not_not_intro heq), if_neg (not_not_intro heq), ← hm] at this
      exact this
    refine offI (ldI (v := vint s.drought) c23 rfl rfl ?_)
    have e119 : (Value.int .u8 119) = .int .u8 (119 : UInt8).toNat := rfl
    rw [e119]
    refine eqlU (cndI (fun hw => ?_) fun hw => hold.2 ?_)
    · exact offI (ldI (v := vint s.flood) c23 rfl rfl (hold.2 (post (most := s.flood) (by rw [if_pos hw]) rfl rfl rfl rfl rfl)))
    · exact post (most := s.drought) (by rw [if_neg hw]) rfl rfl rfl rfl rfl
end
def bV (b : UInt8) : Value := .int .u8 b.toNat
def strV (w : List UInt8) : Value := .string ⟨⟨w⟩⟩
theorem kn_bV (w : List UInt8) : kn (w.map bV) = true := by
  simp [kn, kn1, bV]
theorem bytes_bV : ∀ w : List UInt8, bytesOf (w.map bV) = some w
  | [] => rfl
  | b :: w => by
    show (match byteOf (bV b), bytesOf (w.map bV) with
      | some b, some bs => some (b :: bs)
      | _, _ => none) = _
    rw [bytes_bV w]
    have : byteOf (bV b) = some b := by
      show some (UInt8.ofNat ((b.toNat : Nat) : Int).toNat) = some b
      rw [Int.toNat_natCast, UInt8.ofNat_toNat]
    rw [this]
def growF (ps py pg : Nat) : Value := .func (.func 135) ⟨[]⟩ ⟨[ptr ps 0, ptr py 0, ptr pg 0]⟩
def TillZ (n : Nat) (O : List Nat) (h H : List AObj) : Prop := h.length ≤ H.length ∧ ∀ i, i < n ∨ i ∈ O → H[i]? = h[i]?
structure Rnd (J : JT) (L : List (List UInt8)) (y : Value) (X : List Nat) (Hs : List AObj) (I : Nat → List Nat → List AObj → Prop) (St : List AObj → Prop) : Prop where
  hX : ∀ x ∈ X, x < Hs.length
  hO : ∀ {k O H'}, I k O H' → ∀ x ∈ O, x < H'.length
  hI : ∀ {k O H1 H2}, TillZ Hs.length O H1 H2 → I k O H1 → I k O H2
  round : ∀ (k : Nat) (w : List UInt8) (O : List Nat) (H1 : List AObj) (Q : Value → List AObj → Prop), L[k]? = some w → SameX X Hs H1 → (∀ x ∈ O, Hs.length ≤ x) → I k O H1 → (∀ O' H2, SameX (X ++ O) H1 H2 → (∀ x ∈ O', x ∈ O ∨ H1.length ≤ x) → I (k + 1) O' H2 → Q (.bool true) H2) → (∀ H2, SameX (X ++ O) H1 H2 → St H2 → Q (.bool false) H2) → callV prog (Good prog J) y [strV w] H1 Q
section
variable {main : Bool} {J : JT} {h H : List AObj} {K : Value → List AObj → Prop} {KV : Value → Prop} {HL : List AObj → Prop} {n0 : Nat}
theorem strI {b n m : Nat} {cs : List Value} {wr : Bool} {sz : Nat} {w : List UInt8} (hb : H[b]? = some (.cells cs wr sz)) (hn : w.length = n) (ht : cs.take n = w.map bV) (hk : KV (strV w)) : aB2S (.slice (some ⟨b, 0, none⟩) n m) H KV := by
  unfold aB2S
  simp only [hb]
  have hl : n ≤ cs.length := by
    have := congrArg List.length ht
    simp at this
    omega
  refine ⟨by omega, ?_⟩
  rw [List.drop_zero, ht, bytes_bV]
  exact hk
theorem appB {b k m : Nat} {cs : List Value} {v y : Value} (hb : H[b]? = some (.cells cs true 0)) (hl : cs.length = m) (hk : k < m) (hm : m < 1000) (hc : kn (cs.take k) = true) (hy : Sli H y 1 1 [v])
    (hK : ∀ H', SameX [b] H H' → H'[b]? = some (.cells (cs.set k v) true 0) → H'.length = H.length → K (.slice (some ⟨b, 0, none⟩) (k + 1) m) H') : aApp 1 (.slice (some ⟨b, 0, none⟩) k m) y H K := appIn hb hl hk hm hc hy hK
theorem good135 (hJ : Closed prog main J) {s : SkyR} {L : List (List UInt8)} {y : Value} {X : List Nat} {Hs : List AObj} {I : Nat → List Nat → List AObj → Prop} {St : List AObj → Prop} (R : Rnd J L y X Hs I St) (ky : y.cells = #[y] ∧ one y = true ∧ kn1 y = true)
    {ps py pg pb m : Nat} (hm : m ≤ 8) (hdays : s.days = (m : Int)) (cs0 : Hs[ps]? = some (.cells s.cells true 0)) (nX : ps ∉ X) (n1 : Hs.length ≤ py) (n2 : Hs.length ≤ pg) (n3 : Hs.length ≤ pb) (d1 : pb ≠ py) (d2 : pb ≠ pg) :
    ∀ (left : Nat) (w : List UInt8) (x : Spl) (k : Nat) (O : List Nat) (cs : List Value) {H : List AObj} {K : Value → List AObj → Prop},
    w.length + left = m → 0 ≤ x.2 ∧ x.2 ≤ 100 + w.length → (∀ j, j < (growB s left w x).length → L[k + j]? = (growB s left w x)[j]?) →
    SameX X Hs H → H[py]? = some (.cells [y] true 0) → H[pg]? = some (.cells [growF ps py pg] true 0) → H[pb]? = some (.cells cs true 0) → cs.length = m → cs.take w.length = w.map bV →
    I k O H → (∀ z ∈ O, Hs.length ≤ z ∧ z ≠ py ∧ z ≠ pg ∧ z ≠ pb) →
    (∀ H' O' cs', SameX (pb :: (X ++ O)) H H' → (∀ z ∈ O', z ∈ O ∨ H.length ≤ z) → H'[pb]? = some (.cells cs' true 0) → cs'.length = m → cs'.take w.length = w.map bV → I (k + (growB s left w x).length) O' H' → K (.bool true) H') →
    (∀ H', SameX (pb :: (X ++ O)) H H' → St H' → K (.bool false) H') →
    Good prog J 135 [.slice (some ⟨pb, 0, none⟩) w.length m, .agg ⟨spC x⟩, ptr ps 0, ptr py 0, ptr pg 0] H K
  | 0, w, x, k, O, cs, H, K, hwl, hx, hL, S0, cy, cg, cb, hcl, htk, ik, hO, hK1, hK2 => by
    refine g135 hJ fun ok => ?_
    rw [e135]
    refine qBox (l := spC x) rfl fun H1 p1 e1 S1 c1 l1 => ?_
    have lps := lt_of_get cs0
    have cps := S0.get cs0 nX
    have hs : Sli H1 (.slice (some ⟨pb, 0, none⟩) w.length m) 1 w.length (w.map bV) := ⟨_, _, rfl, ⟨by simp, kn_bV w⟩, .inr ⟨pb, 0, rfl, .inr ⟨cs, true, 0, S1.get cb (by simp), by simpa using htk⟩⟩⟩
    refine lenI hs (offI (ldI (v := vint s.days) (S1.get cps (by simp)) rfl rfl (eqlI (cndI (fun _ => ?_) fun hne => absurd (by rw [hdays]; congr 1) hne))))
    refine ldI (v := y) (S1.get cy (by simp)) rfl ky.2.2 (strI (S1.get cb (by simp)) rfl htk ?_)
    have hS0 := S0.1
    have hlH := lt_of_get cb
    have u : ∀ {H2 : List AObj}, SameX (X ++ O) H1 H2 → SameX (pb :: (X ++ O)) H H2 := fun S => (S1.weak0.trans (S.weak fun x hx => List.mem_cons_of_mem _ hx))
    have n4 : pb ∉ X ++ O := by
      intro hz
      rcases List.mem_append.1 hz with hz | hz
      · have := R.hX _ hz
        omega
      · exact (hO _ hz).2.2.2 rfl
    refine R.round k w O H1 _ (by have := hL 0 (by simp [growB]); simpa [growB] using this) (S0.thru S1.weak0 (Y := X) fun _ h => .inl h) (fun z hz => (hO z hz).1) (R.hI ⟨S1.1, fun i hi => S1.2 i (by rcases hi with hi | hi; omega; exact R.hO ik i hi) (by simp)⟩ ik) (fun O' H2 S2 hO' i2 => ?_) fun H2 S2 st => ?_
    · exact retL_same (by simp [unk]) (hK1 H2 O' cs (u S2) (fun z hz => (hO' z hz).imp id fun h => by have := S1.1; omega) (S2.get (S1.get cb (by simp)) n4) hcl htk i2)
    · exact retL_same (by simp [unk]) (hK2 H2 (u S2) st)
  | left + 1, w, x, k, O, cs, H, K, hwl, hx, hL, S0, cy, cg, cb, hcl, htk, ik, hO, hK1, hK2 => by
    refine g135 hJ fun ok => ?_
    rw [e135]
    have hfz : (1000 : Nat) < fz := by decide
    refine qBox (l := spC x) rfl fun Ha p1 e1 S1 c1 l1 => ?_
    have lps := lt_of_get cs0
    have hs : Sli Ha (.slice (some ⟨pb, 0, none⟩) w.length m) 1 w.length (w.map bV) := ⟨_, _, rfl, ⟨by simp, kn_bV w⟩, .inr ⟨pb, 0, rfl, .inr ⟨cs, true, 0, S1.get cb (by simp), by simpa using htk⟩⟩⟩
    have hS0 := S0.1
    have lpb := lt_of_get cb
    have lpy := lt_of_get cy
    have lpg := lt_of_get cg
    refine lenI hs (offI (ldI (v := vint s.days) (S1.get (S0.get cs0 nX) (by simp)) rfl rfl (eqlI (cndI (fun he => absurd he (by rw [hdays]; omega)) fun _ => ?_))))
    refine fillO (l := [bV 100]) rfl rfl rfl (by decide) (fillO (l := [bV 119]) rfl rfl rfl (by rw [wrAt_length]; decide) (fillI ?_))
    -- what both letters come to
    let A : List (List UInt8) := if nextOk s x 100 = true then growB s left (w ++ [100]) (nextX x 100) else []
    let B : List (List UInt8) := if nextOk s x 119 = true then growB s left (w ++ [119]) (nextX x 119) else []
    have hAB : growB s (left + 1) w x = A ++ B := rfl
    let off : Nat → Nat := fun i => if i = 0 then 0 else if i = 1 then A.length else A.length + B.length
    refine l135_1 hJ (fun i : Nat => 2 - i) (fun i F H' => ∃ O' cs', i ≤ 2 ∧ SameX (pb :: (X ++ O)) Ha H' ∧ (∀ z ∈ O', z ∈ O ∨ Ha.length ≤ z) ∧ H'[pb]? = some (.cells cs' true 0) ∧ cs'.length = m ∧ cs'.take w.length = w.map bV ∧ I (k + off i) O' H' ∧
        F.ds = [] ∧ F.r 0 = .slice (some ⟨pb, 0, none⟩) w.length m ∧ F.r 2 = ptr ps 0 ∧ F.r 4 = ptr pg 0 ∧ F.r 6 = ptr p1 0 ∧ F.r 21 = .agg ⟨[bV 100, bV 119]⟩ ∧ F.r 22 = vint (i : Nat)) ?_ (s := 0)
      (.inl ⟨O, cs, by omega, SameX.refl, fun z hz => .inl hz, S1.get cb (by simp), hcl, htk, R.hI ⟨S1.1, fun i hi => S1.2 i (by rcases hi with hi | hi; omega; exact R.hO ik i hi) (by simp)⟩ ik, rfl, rfl, rfl, rfl, rfl, rfl, rfl⟩)
    rintro i F Hc ⟨O1, cs1, hi, Sc, hO1, cb1, hcl1, htk1, ik1, ds, r0, r2, r4, r6, r21, r22⟩ okc hnc
    rw [s135_1, r0, r2, r4, r6, r21, r22, ds]
    have hSc := Sc.1
    have hOo : ∀ z ∈ O1, Hs.length ≤ z ∧ z ≠ py ∧ z ≠ pg ∧ z ≠ pb ∧ z ≠ p1 := fun z hz => by
      rcases hO1 z hz with h | h
      · have := hO z h
        have := R.hO ik z h
        omega
      · omega
    have notin : ∀ q, q < Hs.length → q ∉ X → q ∉ pb :: (X ++ O) := fun q h1 h2 hm' => by
      rcases List.mem_cons.1 hm' with hz | hz
      · omega
      · rcases List.mem_append.1 hz with hz | hz
        · exact h2 hz
        · have := (hO _ hz).1
          omega
    have notin2 : ∀ q, Hs.length ≤ q → q ≠ pb → q ∉ O → q ∉ pb :: (X ++ O) := fun q h1 h2 h3 hm' => by
      rcases List.mem_cons.1 hm' with hz | hz
      · exact h2 hz
      · rcases List.mem_append.1 hz with hz | hz
        · have := R.hX _ hz
          omega
        · exact h3 hz
    have cpsc := Sc.get (S1.get (S0.get cs0 nX) (by simp)) (notin ps lps nX)
    have cyc := Sc.get (S1.get cy (by simp)) (notin2 py n1 (by omega) (fun hz => (hO _ hz).2.1 rfl))
    have cgc := Sc.get (S1.get cg (by simp)) (notin2 pg n2 (by omega) (fun hz => (hO _ hz).2.2.1 rfl))
    have c1c := Sc.get c1 (notin2 p1 (by omega) (by omega) (fun hz => by have := R.hO ik _ hz; omega))
    have T1 : SameX (pb :: (X ++ O)) H Hc := (S1.weak0).trans Sc
    refine lssI (cndI (fun hlt => ?_) fun hge => ?_)
    rotate_left
    · have : i = 2 := by omega
      subst this
      refine retL_same (by simp [unk]) (hK1 Hc O1 cs1 T1 (fun z hz => (hO1 z hz).imp id fun h => by have := S1.1; omega) cb1 hcl1 htk1 ?_)
      rw [hAB, List.length_append]
      exact ik1
    have hi2 : i < 2 := by omega
    obtain ⟨c, hc, hcv⟩ : ∃ c : UInt8, (c = 100 ∧ i = 0 ∨ c = 119 ∧ i = 1) ∧ [bV 100, bV 119][i]? = some (bV c) := by
      rcases (by omega : i = 0 ∨ i = 1) with h | h
      · exact ⟨100, .inl ⟨rfl, h⟩, by rw [h]; rfl⟩
      · exact ⟨119, .inr ⟨rfl, h⟩, by rw [h]; rfl⟩
    -- the part of this letter
    let P : List (List UInt8) := if nextOk s x c = true then growB s left (w ++ [c]) (nextX x c) else []
    have hP : off (i + 1) = off i + P.length ∧ ∀ j, j < P.length → L[k + off i + j]? = P[j]? := by
      rcases hc with ⟨h1, h2⟩ | ⟨h1, h2⟩
      · subst h1 h2
        refine ⟨by show A.length = 0 + A.length; omega, fun j hj => ?_⟩
        have hj : j < A.length := hj
        have := hL j (by rw [hAB, List.length_append]; omega)
        rw [hAB, List.getElem?_append_left hj] at this
        exact this
      · subst h1 h2
        refine ⟨rfl, fun j hj => ?_⟩
        have hj : j < B.length := hj
        have := hL (A.length + j) (by rw [hAB, List.length_append]; omega)
        rw [hAB, List.getElem?_append_right (by omega), Nat.add_sub_cancel_left] at this
        show L[k + A.length + j]? = B[j]?
        rw [Nat.add_assoc]
        exact this
    have hidx : aIdxV 2 1 false (.agg ⟨[bV 100, bV 119]⟩) (vint (i : Nat)) = fun KI => KI (bV c) := by
      funext KI
      rcases hc with ⟨h1, h2⟩ | ⟨h1, h2⟩ <;> subst h1 h2 <;> exact propext ⟨fun h => h.2, fun h => ⟨⟨by decide, by decide⟩, h⟩⟩
    rw [hidx]
    refine load_part (c := spC x) c1c (by simp [spC]) rfl rfl (load_part (c := s.cells) cpsc (by simp [SkyR.cells]) rfl rfl ?_)
    refine good136 hJ (by omega) fun H2 S2 => ext0 (ext1 (qAl fun H3 p9 e3 S3 c3 l3 => qStA (c := spC (nextX x c)) c3 rfl rfl rfl fun H4 S4 c4 l4 => ?_))
    have hS2 := S2.1
    have T4 : SameX [] Hc H4 := (S2.trans S3).thru S4 (by simp; omega)
    have hT4 := T4.1
    have ik4 : I (k + off i) O1 H4 := R.hI ⟨T4.1, fun j hj => T4.2 j (by rcases hj with hj | hj; omega; exact R.hO ik1 j hj) (by simp)⟩ ik1
    -- behind this letter
    have next : ∀ {F' : RG} {H5 : List AObj} {O5 : List Nat} {cs5 : List Value}, F'.ds = [] → F'.r 0 = .slice (some ⟨pb, 0, none⟩) w.length m → F'.r 2 = ptr ps 0 → F'.r 4 = ptr pg 0 → F'.r 6 = ptr p1 0 → F'.r 21 = .agg ⟨[bV 100, bV 119]⟩ → F'.r 22 = vint (i : Nat) → F'.r 42 = .bool false →
        SameX (pb :: (X ++ O1)) H4 H5 → (∀ z ∈ O5, z ∈ O1 ∨ H4.length ≤ z) → H5[pb]? = some (.cells cs5 true 0) → cs5.length = m → cs5.take w.length = w.map bV → I (k + off (i + 1)) O5 H5 →
        W prog J 44 H.length 135 (subC [1, 1, 0, 1, 0, 0, 1, 1, 0, 0, 1, 1, 1] (codeOf f135)) F' H5 (contX pl135 prog J 44 H.length 135 ct135 [1, 1, 0, 1, 0, 0, 1, 1, 0, 0, 1, 1, 1] (codeOf f135) [Nx H.length (fun i : Nat => 2 - i) (fun i F H' => ∃ O' cs', i ≤ 2 ∧ SameX (pb :: (X ++ O)) Ha H' ∧ (∀ z ∈ O', z ∈ O ∨ Ha.length ≤ z) ∧ H'[pb]? = some (.cells cs' true 0) ∧ cs'.length = m ∧ cs'.take w.length = w.map bV ∧ I (k + off i) O' H' ∧
        F.ds = [] ∧ F.r 0 = .slice (some ⟨pb, 0, none⟩) w.length m ∧ F.r 2 = ptr ps 0 ∧ F.r 4 = ptr pg 0 ∧ F.r 6 = ptr p1 0 ∧ F.r 21 = .agg ⟨[bV 100, bV 119]⟩ ∧ F.r 22 = vint (i : Nat)) i] (RetQ prog [.tmp 7] H.length K)) := by
      intro F' H5 O5 cs5 ds r0 r2 r4 r6 r21 r22 r42 S5 hO5 cb5 hcl5 htk5 ik5
      rw [s135_2, r42, r22]
      refine cnd_false.2 (addI (by omega) ⟨i + 1, by dsimp only; omega, .inl ⟨O5, cs5, by omega, ?_, fun z hz => ?_, cb5, hcl5, htk5, ik5, ds, r0, r2, r4, r6, r21, by show vint _ = vint _; congr 1⟩⟩)
      · refine (Sc.thru (T4.weak0 (Y := pb :: (X ++ O))) fun _ h => .inl h).thru S5 fun z hz => ?_
        rcases List.mem_cons.1 hz with hz | hz
        · exact .inl (by rw [hz]; exact List.mem_cons_self)
        · rcases List.mem_append.1 hz with hz | hz
          · exact .inl (List.mem_cons_of_mem _ (List.mem_append_left _ hz))
          · rcases hO1 z hz with h | h
            · exact .inl (List.mem_cons_of_mem _ (List.mem_append_right _ h))
            · exact .inr h
      · rcases hO5 z hz with h | h
        · exact hO1 z h
        · exact .inr (by omega)
    have cb4 := T4.get cb1 (by simp)
    have cg4 := T4.get cgc (by simp)
    have lg4 := lt_of_get cg4
    have l9 : p9 < H4.length := lt_of_get c4
    refine ⟨[pg, p9], cndB (fun hyes => ?_) fun hno => hold.2 ?_⟩
    rotate_left
    · have hP0 : P.length = 0 := by show (if nextOk s x c = true then _ else []).length = 0; rw [hno]; rfl
      refine next ds r0 r2 r4 r6 r21 r22 rfl SameX.refl (fun z hz => .inl hz) cb4 hcl1 htk1 ?_
      rw [hP.1, hP0]
      exact ik4
    have hPe : P = growB s left (w ++ [c]) (nextX x c) := by show (if nextOk s x c = true then _ else []) = _; rw [if_pos hyes]
    refine ldI (v := growF ps py pg) cg4 rfl rfl ⟨by simp [RdOk, ptr, ptrBlk], load_part (c := spC (nextX x c)) c4 (by simp [spC]) rfl rfl ⟨by simp [RdOk, ptr, ptrBlk], ?_⟩⟩
    refine ⟨by decide, fillO (l := [bV c]) rfl rfl rfl (by decide) (fillI (qNew fun H5 p5 e5 S5 c5 l5 => ⟨sbTwo S5 lg4 l9 (by simp) (by simp), by decide, ?_⟩))⟩
    have c5 : H5[p5]? = some (.cells [bV c] true 0) := c5
    have y5 := ownX_sli (ownX_new (s := 1) (n := 1) (l := [bV c]) c5 rfl rfl)
    refine appB (S5.get cb4 (by simp)) hcl1 (by omega) (by omega) (by rw [htk1]; exact kn_bV w) y5 fun H6 S6 c6 l6 => ?_
    have T6 : SameX [pb] H4 H6 := S5.weak0.trans S6
    have hT6 := T6.1
    refine ⟨sbTwo T6 lg4 l9 (by simp; omega) (by simp; omega), callCz (by kernel_rfl) ?_⟩
    have hset : (cs1.set w.length (bV c)).take (w.length + 1) = (w ++ [c]).map bV := by
      rw [List.take_add_one, List.take_set_of_le (Nat.le_refl _), htk1, List.getElem?_set_self (by omega)]
      simp
    have hlen : (w ++ [c]).length = w.length + 1 := by simp
    have U6 : SameX [pb] Hc H6 := (T4.weak0).trans T6
    have nx2 : 0 ≤ (nextX x c).2 ∧ (nextX x c).2 ≤ 100 + (w.length + 1 : Nat) := by
      unfold nextX
      split
      · exact ⟨by dsimp only; omega, by dsimp only; omega⟩
      · exact ⟨by dsimp only; omega, by dsimp only; omega⟩
    rw [← hlen]
    refine good135 hJ R ky hm hdays cs0 nX n1 n2 n3 d1 d2 left (w ++ [c]) (nextX x c) (k + off i) O1 (cs1.set w.length (bV c)) (by rw [hlen]; omega) (by rw [hlen]; exact nx2) (by rw [← hPe]; exact hP.2)
      ?_ (U6.get cyc (by simp; omega)) (U6.get cgc (by simp; omega)) c6 (by rw [List.length_set, hcl1]) (by rw [hlen]; exact hset)
      (R.hI ⟨by omega, fun j hj => T6.2 j (by rcases hj with hj | hj; omega; exact R.hO ik4 j hj) (by
        rcases hj with hj | hj
        · simp
          omega
        · have := hOo j hj
          simp
          omega)⟩ ik4) (fun z hz => by have := hOo z hz; omega) (fun H7 O7 cs7 S7 hO7 c7 hc7 ht7 i7 => ?_) fun H7 S7 st => ?_
    · refine (S0.thru T1 fun z hz => ?_).thru U6 (by simp; omega)
      rcases List.mem_cons.1 hz with hz | hz
      · exact .inr (by omega)
      · rcases List.mem_append.1 hz with hz | hz
        · exact .inl hz
        · exact .inr (hO z hz).1
    · have S47 : SameX (pb :: (X ++ O1)) H4 H7 := (T6.weak (by simp)).trans S7
      have tk7 : cs7.take w.length = w.map bV := by
        have : (cs7.take (w.length + 1)).take w.length = cs7.take w.length := by rw [List.take_take, Nat.min_eq_left (by omega)]
        rw [← this, ← hlen, ht7, List.map_append]
        simp
      refine notI (hold.2 (next ds r0 r2 r4 r6 r21 r22 rfl S47 (fun z hz => (hO7 z hz).imp id fun h => by omega) c7 hc7 tk7 ?_))
      rw [hP.1, hPe, ← Nat.add_assoc]
      exact i7
    · refine notI (hold.2 ?_)
      rw [s135_2]
      show cnd (.bool true) _ _
      refine cnd_true.2 ?_
      show retL H.length K F.ds [.bool false] H7
      rw [ds]
      have S47 : SameX (pb :: (X ++ O1)) Hc H7 := (U6.weak (by simp)).trans S7
      refine retL_same (by simp [unk]) (hK2 H7 (T1.thru S47 fun z hz => ?_) st)
      rcases List.mem_cons.1 hz with hz | hz
      · exact .inl (by rw [hz]; exact List.mem_cons_self)
      · rcases List.mem_append.1 hz with hz | hz
        · exact .inl (List.mem_cons_of_mem _ (List.mem_append_left _ hz))
        · rcases hO1 z hz with h | h
          · exact .inl (List.mem_cons_of_mem _ (List.mem_append_right _ h))
          · exact .inr (by have := S1.1; omega)
theorem good125 (hJ : Closed prog main J) {s : SkyR} (hK : ∀ H' ps, SameX [] H H' → H'[ps]? = some (.cells s.cells true 0) → H.length ≤ ps → K (.func (.func 134) ⟨[]⟩ ⟨[ptr ps 0]⟩) H') : Good prog J 125 [.agg ⟨s.cells⟩] H K := by
  refine g125 hJ fun ok => ?_
  rw [e125]
  exact qBox (l := s.cells) rfl fun H1 p1 e1 S1 c1 l1 => ⟨rfl, retL_same (by simp [unk]) (hK H1 p1 S1 c1 (by omega))⟩
theorem good134 (hJ : Closed prog main J) {s : SkyR} (f : skyOk s) {y : Value} {X : List Nat} {ps : Nat} {I : Nat → List Nat → List AObj → Prop} {St : List AObj → Prop} (R : Rnd J (rainsB s) y X H I St) (ky : y.cells = #[y] ∧ one y = true ∧ kn1 y = true)
    (cs0 : H[ps]? = some (.cells s.cells true 0)) (nX : ps ∉ X) (h0 : I 0 [] H)
    (hK1 : ∀ H2 O, SameX X H H2 → (∀ z ∈ O, H.length ≤ z) → I (rainsB s).length O H2 → K (.tuple ⟨[]⟩) H2) (hK2 : ∀ H2, SameX X H H2 → St H2 → K (.tuple ⟨[]⟩) H2) : Good prog J 134 [y, ptr ps 0] H K := by
  refine g134 hJ fun ok => ?_
  rw [e134]
  obtain ⟨f1, f2, f3⟩ := f
  have lps := lt_of_get cs0
  refine qBox1 ky.1 ky.2.1 fun H1 py e1 S1 c1 l1 => qAl fun H2 pg e2 S2 c2 l2 => ⟨rfl, qSt c2 (by simp) rfl rfl fun H3 S3 c3 l3 => ?_⟩
  have c3 : H3[pg]? = some (.cells [growF ps py pg] true 0) := c3
  have T3 : SameX [] H H3 := (S1.trans S2).thru S3 (by simp; omega)
  have cy3 := S3.get (S2.get c1 (by simp)) (by simp; omega)
  have cs3 := T3.get cs0 (by simp)
  have lg := lt_of_get c3
  have ls3 := lt_of_get cs3
  refine ⟨[pg, ps], ldI (v := growF ps py pg) c3 rfl rfl ⟨by simp [RdOk, ptr, ptrBlk], offI (ldI (v := vint s.days) cs3 rfl rfl ⟨by simp [RdOk, ptr, ptrBlk], fillI ⟨by decide, ?_⟩⟩)⟩⟩
  have hrm : (2000 : Nat) < room := by decide
  refine ⟨by omega, by omega, by omega, ?_⟩
  obtain ⟨m, hm⟩ := Int.eq_ofNat_of_zero_le (by omega : (0 : Int) ≤ s.days)
  have em : s.days.toNat = m := by omega
  rw [em]
  generalize hH4 : H3 ++ [AObj.cells (zrep [Value.int .u8 0] m) true 0] = H4
  have c4 : H4[H3.length]? = some (.cells (zrep [Value.int .u8 0] m) true 0) := by rw [← hH4]; simp
  have S4 : SameX [] H3 H4 := by rw [← hH4]; exact SameX.refl.app
  have zl : ∀ n, (zrep [Value.int .u8 0] n).length = n := by
    intro n
    induction n with
    | zero => rfl
    | succ n ih => show ([Value.int .u8 0] ++ zrep [Value.int .u8 0] n).length = n + 1; rw [List.length_append, ih]; simp; omega
  have T4 : SameX [] H H4 := T3.trans S4
  refine ⟨sbTwo S4 lg ls3 (by simp) (by simp), callCz (by kernel_rfl) ?_⟩
  have hT3 := T3.1
  have hr : rainsB s = growB s m [] (0, 0) := by unfold rainsB; rw [em]
  have fin : ∀ {H5 : List AObj} {O : List Nat}, SameX (H3.length :: (X ++ ([] : List Nat))) H4 H5 → SameX X H H5 := fun S5 => by
    refine (T4.weak0 (Y := X)).thru S5 fun z hz => ?_
    rcases List.mem_cons.1 hz with hz | hz
    · exact .inr (by omega)
    · exact .inl (by simpa using hz)
  refine good135 hJ R ky (ps := ps) (py := py) (pg := pg) (pb := H3.length) (m := m) (by omega) hm cs0 nX (by omega) (by omega) (by omega) (by omega) (by omega) m [] (0, 0) 0 [] (zrep [Value.int .u8 0] m) (by simp) ⟨by decide, by decide⟩ (fun j _ => by rw [hr, Nat.zero_add]) (T4.weak0 (Y := X)) (S4.get cy3 (by simp)) (S4.get c3 (by simp)) c4 (zl m) rfl
    (R.hI ⟨T4.1, fun i hi => T4.2 i (by rcases hi with hi | hi; exact hi; cases hi) (by simp)⟩ h0) (by simp) (fun H5 O5 cs5 S5 hO5 c5 hc5 ht5 i5 => ?_) fun H5 S5 st => ?_
  · refine ⟨?_, retL_same (by simp) (hK1 H5 O5 (fin (O := O5) S5) (fun z hz => by rcases hO5 z hz with h | h; cases h; have := S4.1; omega) ?_)⟩
    · exact sbTwo (X := H3.length :: (X ++ [])) ((S4.weak0).trans S5) lg ls3 (by simp; exact ⟨by omega, fun hz => by have := R.hX _ hz; omega⟩) (by simp; exact ⟨by omega, nX⟩)
    · rw [hr]
      simpa using i5
  · refine ⟨?_, retL_same (by simp) (hK2 H5 (fin (O := []) S5) st)⟩
    exact sbTwo (X := H3.length :: (X ++ [])) ((S4.weak0).trans S5) lg ls3 (by simp; exact ⟨by omega, fun hz => by have := R.hX _ hz; omega⟩) (by simp; exact ⟨by omega, nX⟩)
end
end Go.Proofs.Ytindillghipjjaa
