/- TallyClash answers true at every input, and its argument reads behind the call as it read before. No conditions. -/
import Derived.Test.YtdgpacdknpahnaaK4
import Derived.Test.YtdgpacdknpahnaaK2
import Derived.Test.YtdgpacdknpahnaaK3
import Derived.Conc.Holds
import Derived.Conc.Beside
import Derived.Below
import Derived.Test.YtdgpacdknpahnaaRows
import Derived.Conc.LeavingOf
import Derived.ChangeSlices
import Derived.OpenShut
import Derived.Carry

namespace Go.Proofs.Ytdgpacdknpahnaa
open Go.Conc Go.Proofs.Try
set_option maxRecDepth 100000
def firstN {α : Type} (f : Nat → Option α) : Nat → Option α
  | 0 => none
  | n + 1 => (firstN f n).or (f n)
theorem firstN_none {α : Type} {f : Nat → Option α} : ∀ {n : Nat}, (∀ i, i < n → f i = none) → firstN f n = none
  | 0, _ => rfl
  | n + 1, h => by
    unfold firstN
    rw [firstN_none fun i hi => h i (by omega), h n (by omega)]
    rfl
theorem firstN_some {α : Type} {f : Nat → Option α} {k : Nat} {r : α} : ∀ {n : Nat}, k < n → (∀ i, i < k → f i = none) → f k = some r → firstN f n = some r
  | 0, h, _, _ => absurd h (Nat.not_lt_zero _)
  | n + 1, h, h0, hr => by
    unfold firstN
    by_cases e : k = n
    · subst e
      rw [firstN_none h0, hr]
      rfl
    · rw [firstN_some (by omega) h0 hr]
      rfl
theorem firstN_nil {α : Type} {f : Nat → Option α} {n : Nat} (h : firstN f n = none) : ∀ i, i < n → f i = none := by
  induction n with
  | zero => exact fun i hi => absurd hi (Nat.not_lt_zero _)
  | succ n ih =>
    unfold firstN at h
    cases e : firstN f n with
    | some x => rw [e] at h; cases h
    | none =>
      rw [e] at h
      intro i hi
      by_cases e2 : i = n
      · subst e2; exact h
      · exact ih e i (by omega)
theorem firstN_iff {α : Type} {f : Nat → Option α} {r : α} : ∀ {n : Nat}, firstN f n = some r → ∃ k, k < n ∧ (∀ i, i < k → f i = none) ∧ f k = some r
  | 0, h => by cases h
  | n + 1, h => by
    unfold firstN at h
    cases e : firstN f n with
    | some x =>
      rw [e] at h
      obtain ⟨k, h1, h2, h3⟩ := firstN_iff e
      exact ⟨k, by omega, h2, by rw [h3]; exact h⟩
    | none =>
      rw [e] at h
      exact ⟨n, by omega, firstN_nil e, h⟩
theorem firstN_range {α : Type} {f : Nat → Option α} : ∀ n, firstN f n = (List.range n).findSome? f
  | 0 => rfl
  | n + 1 => by
    rw [List.range_succ, List.findSome?_append, ← firstN_range n]
    show (firstN f n).or (f n) = _
    cases h : f n <;> simp [List.findSome?, h]
theorem firstN_more {α : Type} {f : Nat → Option α} {n : Nat} : ∀ {m : Nat}, n ≤ m → (∀ i, n ≤ i → i < m → f i = none) → firstN f m = firstN f n
  | 0, h, _ => by rw [show n = 0 from by omega]
  | m + 1, h, h0 => by
    rcases Nat.lt_or_ge m n with x | x
    · rw [show n = m + 1 from by omega]
    · show (firstN f m).or (f m) = firstN f n
      rw [firstN_more x fun i h1 h2 => h0 i h1 (by omega), h0 m x (by omega)]
      cases firstN f n <;> rfl

def andU (a b : Int) : Int := IntKind.u64.wrap (BitVec.ofInt 64 a &&& ~~~ BitVec.ofInt 64 b).toNat
def orU (a b : Int) : Int := IntKind.u64.wrap (BitVec.ofInt 64 a ||| BitVec.ofInt 64 b).toNat
def shU (i : Int) : Int := IntKind.u64.wrap (1 * 2 ^ min i.toNat 64)
def setF (s : Int) (l : List Int) : Int := l.foldl (fun s i => orU s (shU i)) s

def picksR (n : Nat) : Nat → Nat → List (List Int)
  | 0, _ => [[]]
  | m + 1, a => (List.range (n - a)).flatMap fun k => (picksR n m (a + k + 1)).map (((a + k : Nat) : Int) :: ·)
theorem picksR_few {n : Nat} : ∀ {m a : Nat}, n - a < m → picksR n m a = []
  | 0, a, h => by omega
  | m + 1, a, h => by
    unfold picksR
    rw [List.flatMap_eq_nil_iff]
    intro k hk
    have hk := List.mem_range.1 hk
    rw [picksR_few (by omega)]
    rfl
theorem picksR_mem {n : Nat} : ∀ {m a : Nat} {l : List Int}, l ∈ picksR n m a → l.length = m ∧ ∀ x ∈ l, (a : Int) ≤ x ∧ x < n
  | 0, a, l, h => by
    have : l = [] := by simpa [picksR] using h
    subst this
    simp
  | m + 1, a, l, h => by
    unfold picksR at h
    obtain ⟨k, hk, h⟩ := List.mem_flatMap.1 h
    obtain ⟨u, hu, rfl⟩ := List.mem_map.1 h
    have hk := List.mem_range.1 hk
    obtain ⟨h1, h2⟩ := picksR_mem hu
    refine ⟨by simp [h1], fun x hx => ?_⟩
    rcases List.mem_cons.1 hx with rfl | hx
    · omega
    · have := h2 x hx
      omega
def fromL (l : List Int) : Nat := match l.getLast? with
  | some x => x.toNat + 1
  | none => 0
theorem fromL_snoc {l : List Int} {k : Nat} : fromL (l ++ [(k : Int)]) = k + 1 := by
  unfold fromL
  rw [List.getLast?_concat]
  show (k : Int).toNat + 1 = _
  omega
def growP (Pu : Int → Bool) (n : Nat) : Nat → List Int → Int → Option (List Int)
  | 0, l, s => bif Pu s then some l else none
  | m + 1, l, s => firstN (fun k => growP Pu n m (l ++ [((fromL l + k : Nat) : Int)]) (orU s (shU ((fromL l + k : Nat) : Int)))) (n - m - fromL l)
def pickP (Pu : Int → Bool) (n : Nat) : Option (List Int) := firstN (fun m => growP Pu n m [] 0) (n + 1)
theorem growP_find {Pu : Int → Bool} {n : Nat} : ∀ (m : Nat) (l : List Int) (s : Int), growP Pu n m l s = ((picksR n m (fromL l)).find? fun r => Pu (setF s r)).map (l ++ ·)
  | 0, l, s => by
    unfold growP picksR
    show _ = Option.map _ (List.find? _ [[]])
    cases h : Pu s <;> simp [List.find?, setF, h]
  | m + 1, l, s => by
    unfold growP picksR
    rw [← firstN_more (m := n - fromL l) (by omega) fun k h1 h2 => ?_, firstN_range, List.find?_flatMap, List.map_findSome?]
    · congr 1
      funext k
      rw [growP_find m, fromL_snoc]
      show _ = Option.map _ (List.find? _ (List.map _ _))
      rw [List.find?_map, Option.map_map]
      have : (fun r => Pu (setF s r)) ∘ (fun x => ((fromL l + k : Nat) : Int) :: x) = fun r => Pu (setF (orU s (shU ((fromL l + k : Nat) : Int))) r) := rfl
      rw [this]
      congr 1
      funext r
      simp
    · rw [growP_find m, fromL_snoc, picksR_few (by omega)]
      rfl
theorem pickP_find {Pu : Int → Bool} {n : Nat} : pickP Pu n = firstN (fun m => (picksR n m 0).find? fun r => Pu (setF 0 r)) (n + 1) := by
  unfold pickP
  congr 1
  funext m
  rw [growP_find]
  show Option.map _ ((picksR n m 0).find? _) = _
  cases (picksR n m 0).find? fun r => Pu (setF 0 r) <;> rfl
theorem bits1 : ∀ n ∈ List.range 8, ∀ m ∈ List.range 8, ∀ l ∈ picksR n m 0, ((List.range n).filter (keepB (andU 127 (setF 0 l)))).map Int.ofNat = l ∧ ∀ i ∈ List.range n, keepB (setF 0 l) i = !(l.contains (i : Int)) :=
  of_decide_eq_true (by kernel_rfl)

noncomputable def truthS (t : Tal) (u : Int) : Bool := decide (TruthIs t (limN u t.counts t.counts.length))
def stepL (L : Nat → Rng) (c : Cnt) : Nat → Rng := updL L c.gate.toNat ((L c.gate.toNat).meet (rd c))
theorem limN_fold {u : Int} {cs : List Cnt} : ∀ k, limN u cs k = (((List.range k).filter (keepB u)).filterMap (cs[·]?)).foldl stepL fun _ => ⟨0, 600⟩
  | 0 => rfl
  | k + 1 => by
    rw [List.range_succ, List.filter_append, List.filterMap_append, List.foldl_append, ← limN_fold k]
    have e : limN u cs (k + 1) = match cs[k]? with
      | some c => bif keepB u k then stepL (limN u cs k) c else limN u cs k
      | none => limN u cs k := rfl
    rw [e]
    cases hc : cs[k]? with
    | none =>
      cases hk : keepB u k <;> simp [List.filter, hk, hc]
    | some c =>
      cases hk : keepB u k <;> simp [List.filter, hk, hc, stepL]
theorem limN_zero {cs : List Cnt} : limN 0 cs cs.length = cs.foldl stepL fun _ => ⟨0, 600⟩ := by
  rw [limN_fold]
  congr 1
  have h1 : (List.range cs.length).filter (keepB 0) = List.range cs.length := List.filter_eq_self.2 fun i _ => keep_zero i
  rw [h1]
  have : ∀ k, k ≤ cs.length → (List.range k).filterMap (cs[·]?) = cs.take k := by
    intro k
    induction k with
    | zero => intro _; simp
    | succ k ih =>
      intro hk
      have hx := List.getElem?_eq_getElem (show k < cs.length by omega)
      rw [List.range_succ, List.filterMap_append, ih (by omega), List.take_add_one, hx]
      simp [hx]
  rw [this _ (Nat.le_refl _), List.take_length]

def cntAt (t : Tal) (i : Int) : Cnt := t.counts.getD i.toNat ⟨0, 0, 0, 0⟩
def withT (t : Tal) (l : List Int) : Tal := { t with counts := l.map (cntAt t) }
theorem with_lim {t : Tal} {m : Nat} {l : List Int} (hn : t.counts.length ≤ 7) (hm : m ≤ 7) (hl : l ∈ picksR t.counts.length m 0) : limA (withT t l) 0 = limN (andU 127 (setF 0 l)) t.counts t.counts.length := by
  have hb := (bits1 _ (List.mem_range.2 (show t.counts.length < 8 by omega)) m (List.mem_range.2 (by omega)) l hl).1
  have hmem := (picksR_mem hl).2
  show limN 0 (withT t l).counts (withT t l).counts.length = _
  rw [limN_zero, limN_fold]
  congr 1
  show l.map (cntAt t) = _
  conv => lhs; rw [← hb]
  generalize hf : (List.range t.counts.length).filter (keepB (andU 127 (setF 0 l))) = q
  have hq : ∀ i ∈ q, i < t.counts.length := fun i hi => by
    rw [← hf] at hi
    exact List.mem_range.1 (List.mem_filter.1 hi).1
  clear hf hb
  induction q with
  | nil => rfl
  | cons i q ih =>
    have hi := hq i (by simp)
    have hx := List.getElem?_eq_getElem hi
    rw [List.map_cons, List.map_cons, ih fun j hj => hq j (by simp [hj]), List.filterMap_cons, hx]
    show _ :: _ = _ :: _
    congr 1
    unfold cntAt
    rw [List.getD_eq_getElem?_getD, show (Int.ofNat i).toNat = i from rfl, hx]
    rfl
theorem with_truth {t : Tal} {m : Nat} {l : List Int} (hn : t.counts.length ≤ 7) (hm : m ≤ 7) (hl : l ∈ picksR t.counts.length m 0) : decide (TruthIs (withT t l) (limA (withT t l) 0)) = truthS t (andU 127 (setF 0 l)) := by
  rw [with_lim hn hm hl]
  have h1 : ∀ (L : Nat → Rng) g, fwd (withT t l) L g = fwd t L g := by
    intro L g
    induction g with
    | zero => rfl
    | succ g ih =>
      show ((fwd (withT t l) L g).plus (stretchR (withT t l) g)).meet (L (g + 1)) = ((fwd t L g).plus (stretchR t g)).meet (L (g + 1))
      rw [ih]
      rfl
  unfold truthS
  refine decide_eq_decide.2 ⟨fun h g hg => ?_, fun h g hg => ?_⟩
  · have := h g hg
    rw [h1] at this
    exact this
  · rw [h1]
    exact h g hg
theorem limU_sub {u u' : Int} {cs : List Cnt} (hk : ∀ i, i < cs.length → keepB u' i = true → keepB u i = true) : ∀ k, k ≤ cs.length → ∀ g, (limN u cs k g).sub (limN u' cs k g)
  | 0, _, g => Rng.sub_refl _
  | k + 1, h, g => by
    have ih := limU_sub hk k (by omega)
    rw [limN_step (by omega), limN_step (by omega)]
    have hs : ∀ (L L' : Nat → Rng) (r : Rng), (∀ g, (L g).sub (L' g)) → (updL L cs[k].gate.toNat ((L cs[k].gate.toNat).meet r) g).sub (updL L' cs[k].gate.toNat ((L' cs[k].gate.toNat).meet r) g) := by
      intro L L' r hL
      unfold updL
      split
      · exact Rng.sub_meet (hL _) (Rng.sub_refl _)
      · exact hL g
    have hs2 : ∀ (L L' : Nat → Rng) (r : Rng), (∀ g, (L g).sub (L' g)) → (updL L cs[k].gate.toNat ((L cs[k].gate.toNat).meet r) g).sub (L' g) := by
      intro L L' r hL
      unfold updL
      split
      · rename_i e
        rw [e]
        obtain ⟨a, b⟩ := hL cs[k].gate.toNat
        unfold Rng.meet Rng.sub
        dsimp only
        omega
      · exact hL g
    cases h1 : keepB u k <;> cases h2 : keepB u' k
    · exact ih g
    · rw [hk k (by omega) h2] at h1
      cases h1
    · exact hs2 _ _ _ ih
    · exact hs _ _ _ ih
theorem truthS_more {t : Tal} {u u' : Int} (hk : ∀ i, i < t.counts.length → keepB u' i = true → keepB u i = true) (h : truthS t u = true) : truthS t u' = true := by
  unfold truthS at *
  refine decide_eq_true ?_
  have h := of_decide_eq_true h
  have tg : Tighter t t (limN u t.counts t.counts.length) (limN u' t.counts t.counts.length) := ⟨rfl, rfl, Rng.sub_refl _, fun _ _ _ => Rng.sub_refl _, Int.le_refl _, limU_sub hk _ (Nat.le_refl _)⟩
  exact tg.truth h
theorem truthS_zero {t : Tal} {u : Int} (h : truthS t 0 = true) : truthS t u = true := truthS_more (fun i _ _ => keep_zero i) h

noncomputable def clashO (t : Tal) : Option (List Int) := pickP (fun s => !truthS t (andU 127 s)) t.counts.length
noncomputable def wrongO (t : Tal) : Option (List Int) := pickP (truthS t) t.counts.length

theorem full_mem : ∀ n ∈ List.range 8, ∃ l ∈ picksR n n 0, (∀ i ∈ List.range n, keepB (andU 127 (setF 0 l)) i = true) ∧ ∀ i ∈ List.range n, keepB (setF 0 l) i = keepB 127 i := by
  have key : ∀ n ∈ List.range 8, (picksR n n 0).any (fun l => (List.range n).all (fun i => keepB (andU 127 (setF 0 l)) i) && (List.range n).all fun i => keepB (setF 0 l) i == keepB 127 i) = true := of_decide_eq_true (by kernel_rfl)
  intro n hn
  obtain ⟨l, hl, h⟩ := List.any_eq_true.1 (key n hn)
  simp only [Bool.and_eq_true, List.all_eq_true, beq_iff_eq] at h
  exact ⟨l, hl, h.1, h.2⟩
section
variable {t : Tal}
theorem wrong_some (hn : t.counts.length ≤ 7) (h : truthS t 127 = true) : ∃ w, wrongO t = some w ∧ truthS t (setF 0 w) = true ∧ ∃ m, m ≤ 7 ∧ w ∈ picksR t.counts.length m 0 := by
  obtain ⟨l, hl, _, hk⟩ := full_mem t.counts.length (List.mem_range.2 (by omega))
  have ht : truthS t (setF 0 l) = true := truthS_more (fun i hi h => by rw [← hk i (List.mem_range.2 hi)]; exact h) h
  cases e : wrongO t with
  | some w =>
    unfold wrongO at e
    rw [pickP_find] at e
    obtain ⟨m, h1, _, h3⟩ := firstN_iff e
    exact ⟨w, rfl, List.find?_some (p := fun r => truthS t (setF 0 r)) h3, m, by omega, List.mem_of_find?_eq_some h3⟩
  | none =>
    unfold wrongO at e
    rw [pickP_find] at e
    have := firstN_nil e t.counts.length (by omega)
    rw [List.find?_eq_none] at this
    exact absurd ht (this l hl)
theorem clash_meets (hn : t.counts.length ≤ 7) {m m' : Nat} (hm : m ≤ 7) (hm' : m' ≤ 7) {l w : List Int} (hl : l ∈ picksR t.counts.length m 0) (hw : w ∈ picksR t.counts.length m' 0) (h1 : truthS t (andU 127 (setF 0 l)) = false) (h2 : truthS t (setF 0 w) = true) : ∃ x ∈ l, x ∈ w := by
  have b1 := (bits1 _ (List.mem_range.2 (show t.counts.length < 8 by omega)) m (List.mem_range.2 (by omega)) l hl).1
  have b2 := (bits1 _ (List.mem_range.2 (show t.counts.length < 8 by omega)) m' (List.mem_range.2 (by omega)) w hw).2
  by_cases hx : ∃ x ∈ l, x ∈ w
  · exact hx
  · have := truthS_more (t := t) (u := setF 0 w) (u' := andU 127 (setF 0 l)) (fun i hi hk => by
      have hil : (i : Int) ∈ l := by
        rw [← b1]
        exact List.mem_map.2 ⟨i, List.mem_filter.2 ⟨List.mem_range.2 hi, hk⟩, rfl⟩
      rw [b2 i (List.mem_range.2 hi)]
      have : w.contains (i : Int) = false := by
        cases hc : w.contains (i : Int) with
        | false => rfl
        | true => exact absurd ⟨_, hil, List.contains_iff_mem.1 hc⟩ hx
      rw [this]
      rfl) h2
    rw [this] at h1
    cases h1
theorem clash_none (hn : t.counts.length ≤ 7) (h : ∀ m, m ≤ t.counts.length → ∀ l ∈ picksR t.counts.length m 0, truthS t (andU 127 (setF 0 l)) = true) : truthS t 0 = true ∧ wrongO t = some [] := by
  obtain ⟨l, hl, hk, _⟩ := full_mem t.counts.length (List.mem_range.2 (by omega))
  have h0 : truthS t 0 = true := truthS_more (u := andU 127 (setF 0 l)) (fun i hi _ => hk i (List.mem_range.2 hi)) (h _ (Nat.le_refl _) l hl)
  refine ⟨h0, ?_⟩
  unfold wrongO
  rw [pickP_find]
  refine firstN_some (k := 0) (by omega) (fun i hi => absurd hi (Nat.not_lt_zero _)) ?_
  show List.find? _ [[]] = _
  have : truthS t (setF 0 []) = true := h0
  simp [List.find?, this]
end
end Go.Proofs.Ytdgpacdknpahnaa

namespace Go.Proofs.Ytdgpacdknpahnaa
open Go.Conc Go.Proofs.Try
set_option maxRecDepth 100000
theorem picks_le {n m : Nat} (hn : n ≤ 7) (hm : m ≤ 7) (a : Nat) : (picksR n m a).length ≤ 100 := by
  have key : ∀ n ∈ List.range 8, ∀ m ∈ List.range 8, ∀ a ∈ List.range 9, (picksR n m a).length ≤ 100 := of_decide_eq_true (by kernel_rfl)
  rcases Nat.lt_or_ge a 9 with h | h
  · exact key n (List.mem_range.2 (by omega)) m (List.mem_range.2 (by omega)) a (List.mem_range.2 h)
  · cases m with
    | zero => simp [picksR]
    | succ m =>
      rw [picksR_few (by omega)]
      simp

section
variable {main : Bool} {J : JT} {h H : List AObj} {K : Value → List AObj → Prop} {KV : Value → Prop} {HL : List AObj → Prop} {n0 : Nat}
theorem good34 (hJ : Closed prog main J) {n : Nat} (hn : n ≤ 7) : ∀ (m : Nat) {a : Nat} {H : List AObj} {K : Value → List AObj → Prop}, m ≤ 7 → a ≤ 100 →
    (∀ H' v o, SameX [] H H' → OwnL H.length H' v (picksR n m a) o → v ≠ unk → K v H') → Good prog J 34 [vint (a : Nat), vint (n : Nat), vint (m : Nat)] H K
  | 0, a, H, K, _, _, hK => by
    refine g34 hJ fun ok => ?_
    rw [e34]
    refine eqlI (cndI (fun _ => ?_) fun hx => absurd rfl hx)
    refine ⟨by decide, fill_one (l := [.slice none 0 0]) rfl rfl rfl (by decide) (fillI (qNew fun H1 p1 e1 S1 c1 l1 => retL_same (by simp [unk]) ?_))⟩
    have L := one_nil (lo := H.length) (p := p1) c1 (by omega)
    exact hK H1 _ _ S1 L L.nunk
  | m + 1, a, H, K, hm, ha, hK => by
    refine g34 hJ fun ok => ?_
    rw [e34]
    refine eqlI (cndI (fun hx => absurd hx (by omega)) fun _ => ?_)
    let hd : Nat → Int := fun k => ((a + k : Nat) : Int)
    let g : Nat → List (List Int) := fun k => picksR n m (a + k + 1)
    have gle : ∀ j, (g j).length ≤ 100 := fun j => picks_le hn (by omega) _
    refine l34_1 hJ (fun i : Nat => n - a - i) (fun i Fr H' => ∃ v o, SameX [] H H' ∧ i ≤ n - a ∧ OwnL H.length H' v (partG hd g i 0) o ∧ Fr.ds = [] ∧ Fr.r 1 = vint (n : Nat) ∧ Fr.r 2 = vint ((m + 1 : Nat) : Int) ∧ Fr.r 7 = v ∧ Fr.r 8 = vint ((a + i : Nat) : Int)) ?_ (s := 0)
      (.inl ⟨.slice none 0 0, none, SameX.refl, by omega, by rw [partG_zero]; exact OwnL.nil, rfl, rfl, rfl, rfl, rfl⟩)
    rintro i Fr Hc ⟨v, o, Sc, hi, Lc, ds, r1, r2, r7, r8⟩ okc hnc
    rw [s34_1, r1, r2, r7, r8, ds]
    refine lssI (cndI (fun hlt => ?_) fun hge => ?_)
    rotate_left
    · have : i = n - a := by omega
      subst this
      refine retL_same (by simpa using Lc.nunk) (hK Hc v o Sc ?_ Lc.nunk)
      rw [partG_zero] at Lc
      exact Lc
    have hSc := Sc.1
    refine addI (by omega) (subI (by omega) ?_)
    have e1 : ((a + i : Nat) : Int) + 1 = ((a + i + 1 : Nat) : Int) := by omega
    have e2 : ((m + 1 : Nat) : Int) - 1 = (m : Nat) := by omega
    rw [e1, e2]
    refine good34 hJ hn m (by omega) (by omega) fun H3 av ao S3 A3 _ => ?_
    have hS3 := S3.1
    have hlc := Lc.lt
    refine l34_2 hJ (fun k : Nat => (g i).length - k) (fun k Fr H' => ∃ v o, SameX [] H H' ∧ k ≤ (g i).length ∧ OwnL H.length H' v (partG hd g i k) o ∧ SameX (List.range Hc.length) H3 H' ∧ (∀ j, o = some j → j < Hc.length ∨ H3.length ≤ j) ∧ Fr.ds = [] ∧ Fr.r 1 = vint (n : Nat) ∧ Fr.r 2 = vint ((m + 1 : Nat) : Int) ∧ Fr.r 7 = v ∧ Fr.r 8 = vint ((a + i : Nat) : Int) ∧ Fr.r 9 = av ∧ Fr.r 10 = vint (k : Nat)) ?_ (s := 0)
      (.inl ⟨v, o, Sc.trans S3, by omega, Lc.keep S3, SameX.refl, fun j hj => by have := hlc j hj; omega, ds, r1, r2, r7, r8, rfl, rfl⟩)
    rintro k Fr Hd ⟨v, o, Sd, hk, Ld, Xd, hod, ds, r1, r2, r7, r8, r9, r10⟩ okd hnd
    have Ad := A3.keepX Xd (fun x hx => List.mem_range.1 hx)
    obtain ⟨ac, sA⟩ := Ad.sli
    have hgl : (g i).length = (picksR n m (a + i + 1)).length := rfl
    have hg100 := gle i
    rw [s34_2, r7, r8, r9, r10]
    refine lenI sA (lssI (cndI (fun hlt3 => ?_) fun hge3 => ?_))
    rotate_left
    · have hke : k = (g i).length := by omega
      subst hke
      refine addI (by omega) ⟨i + 1, by dsimp only; omega, .inl ⟨v, o, Sd, by omega, by rw [← partG_all]; exact Ld, ds, r1, r2, r7, by show vint _ = vint _; congr 1⟩⟩
    have hkl : k < (picksR n m (a + i + 1)).length := by omega
    obtain ⟨w, hw⟩ : ∃ w, (picksR n m (a + i + 1))[k]? = some w := ⟨_, List.getElem?_eq_getElem hkl⟩
    have hwl := (picksR_mem (List.mem_of_getElem? hw)).1
    have hSd := Sd.1
    have hXd := Xd.1
    have hld := Ld.lt
    refine ⟨by decide, fill_one (l := [vint ((a + i : Nat) : Int)]) rfl rfl rfl (by decide) (fillI (qNew fun He pe ee Se ce le => ?_))⟩
    have ce : He[pe]? = some (.cells [vint ((a + i : Nat) : Int)] true 0) := ce
    refine (Ad.keep Se).get hw fun q lv b Ob hb => ⟨by decide, ?_⟩
    refine app_cons ce (ownX_sli Ob) (by omega) fun Hf wv2 bf Sf Of hbf => ?_
    have hSe := Se.1
    have Tf : SameX [] Hd Hf := Se.thru Sf (by simp; omega)
    have hbfl := ownX_lt Of bf rfl
    have hbf2 : Hd.length ≤ bf := by omega
    obtain ⟨w1, w2, w3⟩ := ownX_val Of
    refine ⟨by decide, fill_one (l := [wv2]) (by rw [w1]) rfl (by simp [w2]) (by decide) (fillI (qNew fun Hg pg eg Sg cg lg => ⟨by decide, ?_⟩))⟩
    have cg : Hg[pg]? = some (.cells [wv2] true 0) := cg
    have Tg := Tf.trans Sg
    have hpl := partG_le (hd := hd) (g := g) (i := i) (k := k) gle
    have hmul : (i + 1) * 100 ≤ 800 := by omega
    refine ((Ld.keep Tg).more (by have := Tg.1; omega) (by omega) (ownX_keep Of Sg (by simp)) (by omega) (fun e => by have := hld bf e.symm; omega) (ownX_sli (ownX_new (s := 1) (n := 1) (l := [wv2]) cg rfl (by simp [kn]; exact w3))) fun v' Hh o' Sh Lh ho' _ => ?_)
    have Th : SameX o.toList Hd Hh := Tg.weak0.trans Sh
    have hTg := Tg.1
    refine addI (by omega) ⟨k + 1, by dsimp only; omega, .inl ⟨v', some o', Sd.thru Th (fun y hy => .inr (hld y (Option.mem_toList.1 hy)).1), by omega, ?_, ?_, fun j hj => by cases hj; omega, ds, r1, r2, rfl, r8, r9, by show vint _ = vint _; congr 1⟩⟩
    · rw [partG_succ (hd := hd) (g := g) (i := i) (w := w) hw]
      exact Lh
    · refine ⟨by have := Th.1; omega, fun x hx1 hx2 => ?_⟩
      rw [Th.2 x (by omega) (fun hm => ?_), Xd.2 x hx1 hx2]
      have := hod x (Option.mem_toList.1 hm)
      have : ¬ x < Hc.length := fun y => hx2 (List.mem_range.2 y)
      omega

theorem good35 (hJ : Closed prog main J) {v cv nv : Value} {t : Tal} (ht : TalAt H v t cv nv) (h0 : talErr t = 0)
    (hK : ∀ H', SameX [] H H' → K (.tuple ⟨[.bool (decide (TruthIs t (limA t 0))), .bool true]⟩) H') : Good prog J 35 [v] H K := by
  refine g35 hJ fun ok => ?_
  rw [e35, ht.val]
  refine qBox (tal_one ht) fun H1 p1 e1 S1 c1 l1 => ?_
  have t1 : TalAt H1 (.agg ⟨talCells t cv nv⟩) t cv nv := ⟨rfl, S1.sli ht.ch (by simp), S1.sli ht.co (by simp)⟩
  refine load_part (c := talCells t cv nv) c1 (by rw [cs_val]; omega) rfl (talAt_kc t1) (good30' hJ t1 fun w H2 S2 _ => ext0 (ext1 ?_))
  have fin := hK H2 (S1.trans S2)
  by_cases hT : TruthIs t (limA t 0)
  · have eX : trulyE t = 0 := by unfold trulyE; rw [if_neg (not_not_intro h0), if_neg (not_not_intro hT)]
    rw [eX]
    rw [decide_eq_true hT] at fin
    exact eqlI (eqlI (cndI (fun _ => retL_same (by simp [unk]) fin) fun hx => absurd rfl hx))
  · have eX : trulyE t = 11 := by unfold trulyE; rw [if_neg (not_not_intro h0), if_pos hT]
    rw [eX]
    rw [decide_eq_false hT] at fin
    exact eqlI (eqlI (cndI (fun hx => absurd hx (by decide)) fun _ => eqlI (retL_same (by simp [unk]) fin)))

theorem good36 (hJ : Closed prog main J) {v cv nv lv : Value} {t : Tal} {l : List Int} (ht : TalAt H v t cv nv) (hl : Sli H lv 1 l.length (l.map vint)) (hb : ∀ x ∈ l, 0 ≤ x ∧ x < t.counts.length) (hll : l.length ≤ 100)
    (hK : ∀ H' nv', SameX [] H H' → TalAt H' (.agg ⟨talCells (withT t l) cv nv'⟩) (withT t l) cv nv' → K (.agg ⟨talCells (withT t l) cv nv'⟩) H') : Good prog J 36 [v, lv] H K := by
  refine g36 hJ fun ok => ?_
  rw [e36, ht.val]
  have kc : kn1 cv = true ∧ kn1 nv = true := ⟨(sli_one ht.ch).2.2, (sli_one ht.co).2.2⟩
  refine qBox (tal_one ht) fun H1 p1 e1 S1 b1 l1 => qAl fun H2 p2 e2 S2 b2 l2 => ?_
  have T2 := S1.trans S2
  have b12 := S2.get b1 (by simp)
  refine offI (ldI (v := nv) b12 rfl kc.2 (offI (qSt b12 (by rw [cs_val]; omega) rfl rfl fun H3 S3 c3 l3 => ?_)))
  have c3 : H3[p1]? = some (.cells (talCells (withT t []) cv (.slice none 0 0)) true 0) := c3
  have T3 : SameX [] H H3 := T2.thru S3 (by simp; omega)
  have c32 := S3.get b2 (by simp; omega)
  have hS1 := S1.1
  have hS2 := S2.1
  have lp1 := lt_of_get c3
  have lp2 := lt_of_get c32
  refine l36_1 hJ (fun k : Nat => l.length - k) (fun k F H' => ∃ nv' o', SameX [p1] H3 H' ∧ k ≤ l.length ∧ OwnX H' 4 (((l.take k).map (cntAt t)).flatMap Cnt.cells) k nv' o' ∧ (∀ j, o' = some j → H3.length ≤ j) ∧ H'[p1]? = some (.cells (talCells (withT t (l.take k)) cv nv') true 0) ∧ F.ds = [] ∧ F.r 1 = lv ∧ F.r 2 = ptr p1 0 ∧ F.r 4 = ptr p2 0 ∧ F.r 5 = nv ∧ F.r 6 = vint (k : Nat)) ?_ (s := 0)
    (.inl ⟨_, none, SameX.refl, by omega, ⟨rfl, rfl, .inl ⟨rfl, rfl, rfl⟩⟩, by simp, c3, rfl, rfl, rfl, rfl, rfl, rfl⟩)
  rintro k F H' ⟨nv', o', S, hk, O, ho, c', ds, r1, r2, r4, r5, r6⟩ okc hnc
  have T' : SameX [] H H' := T3.thru S (by simp; omega)
  have sl := T'.sli hl (by simp)
  have kO := (ownX_val O).2.2
  rw [s36_1, r1, r2, r4, r5, r6]
  refine lenI sl (lssI (cndI (fun hlt => ?_) fun hge => ?_))
  · have hkl : k < l.length := by omega
    have hx := List.getElem?_eq_getElem hkl
    obtain ⟨hx0, hx1⟩ := hb _ (List.getElem_mem hkl)
    have hcl : l[k].toNat < t.counts.length := by omega
    obtain ⟨b, off, cs, wr, sz, cp, hlv, hbb0, hg⟩ := sli_get hl (i := (k : Int)) ⟨by omega, by omega⟩
    have hgi := hg k (vint l[k]) (by rw [List.getElem?_map, hx]; rfl)
    have hbl := lt_of_get hbb0
    have hbb := T'.get hbb0 (by simp)
    obtain ⟨bn, on, cn, wn, zn, hidx, hbn0, hol, hft, hkn⟩ := sliE_elem (enc := Cnt.cells) (s := 4) (fun _ => rfl) (by omega) ht.co hcl
    have hbnl := lt_of_get hbn0
    have hbn := T'.get hbn0 (by simp)
    have hT := T3.1
    have hSS := S.1
    have sb : ∀ {Hn}, SameX o'.toList H' Hn → SameB (some [p1, b, bn]) H' Hn := fun S' x hx => S'.2 x (by simp at hx; rcases hx with rfl | rfl | rfl <;> omega) (fun hm => by
      have := ho x (Option.mem_toList.1 hm)
      simp at hx
      rcases hx with rfl | rfl | rfl <;> omega)
    refine ⟨[p1, b, bn], offI (ldI (v := nv') c' rfl kO ⟨by simp [RdOk, ptr, ptrBlk], ?_⟩)⟩
    rw [hlv]
    refine idxI ⟨by omega, by omega⟩ ?_
    have ei : off + (k : Int).toNat * 1 = off + k := by omega
    rw [ei]
    refine ldI (v := vint l[k]) hbb hgi rfl ⟨by simp [RdOk, ptr, ptrBlk], ?_⟩
    have ex : vint l[k] = vint (l[k].toNat : Nat) := by congr 1; omega
    rw [ex]
    refine hidx _ (load_part (c := t.counts[l[k].toNat].cells) hbn hol hft hkn ⟨by simp [RdOk, ptr, ptrBlk], ?_⟩)
    refine ⟨by decide, fill_one (l := t.counts[l[k].toNat].cells) rfl rfl rfl (by decide) (fillI (qNew fun He pe ee Se ce le => ⟨sb Se.weak0, by decide, ?_⟩))⟩
    have ce : He[pe]? = some (.cells t.counts[l[k].toNat].cells true 0) := ce
    have O1 := ownX_keep O Se (by simp)
    refine ownX_more O1 (by omega) (by omega) (ownX_sli (ownX_new (s := 4) (n := 1) (l := t.counts[l[k].toNat].cells) ce rfl rfl)) fun nv2 Hf pf ef Of Sf => ?_
    have Tf : SameX o'.toList H' Hf := Se.weak0.trans Sf
    have cf := Tf.get c' (fun hm => by have := ho p1 (Option.mem_toList.1 hm); omega)
    have hTf := Tf.1
    have hSe := Se.1
    refine ⟨sb Tf, offI (qSt cf (by rw [cs_val]; omega) (ownX_val Of).1 (ownX_val Of).2.1 fun Hg Sg cg lg => addI (by omega) ?_)⟩
    have eC : (l.take (k + 1)).map (cntAt t) = (l.take k).map (cntAt t) ++ [t.counts[l[k].toNat]] := by
      rw [List.take_add_one, hx, List.map_append]
      congr 1
      show [cntAt t l[k]] = _
      unfold cntAt
      rw [List.getD_eq_getElem?_getD, List.getElem?_eq_getElem hcl]
      rfl
    have cg : Hg[p1]? = some (.cells (talCells (withT t (l.take (k + 1))) cv nv2) true 0) := cg
    refine ⟨k + 1, by dsimp only; omega, .inl ⟨nv2, some pf, ?_, by omega, ?_, fun j hj => by cases hj; omega, cg, ds, r1.trans hlv, r2, r4, r5, by show vint _ = vint _; congr 1⟩⟩
    · exact (S.thru Tf (fun y hy => .inr (ho y (Option.mem_toList.1 hy)))).thru Sg (by simp)
    · rw [eC, List.flatMap_append]
      refine ownX_keep ?_ Sg (fun i hi => by cases hi; simp; omega)
      simpa using Of
  · have hke : k = l.length := by omega
    subst hke
    rw [List.take_length] at O c'
    have t' : TalAt H' (.agg ⟨talCells (withT t l) cv nv'⟩) (withT t l) cv nv' := ⟨rfl, T'.sli ht.ch (by simp), by
      have := ownX_sli O
      unfold SliE
      show Sli H' nv' 4 (l.map (cntAt t)).length _
      rw [List.length_map]
      exact this⟩
    refine load_part (c := talCells (withT t l) cv nv') c' (by rw [cs_val]; omega) rfl (talAt_kc t') ?_
    refine qStA (c := talCells (withT t l) cv nv') (S.get c32 (by simp; omega)) rfl rfl (tal_one t') fun Hg Sg cg lg => ?_
    refine retQ_same ds (resW_cell (gg := true) (s := 6) (by kernel_rfl) ?_)
    show aLoad true 6 (F.r 4) _ _
    rw [r4]
    have hSS := S.1
    have O2 := ownX_keep O Sg (fun i hi => by have := ho i hi; simp; omega)
    have Tg : SameX [] H Hg := T'.thru Sg (by simp; omega)
    have tg : TalAt Hg (.agg ⟨talCells (withT t l) cv nv'⟩) (withT t l) cv nv' := ⟨rfl, Tg.sli ht.ch (by simp), by
      have := ownX_sli O2
      unfold SliE
      show Sli Hg nv' 4 (l.map (cntAt t)).length _
      rw [List.length_map]
      exact this⟩
    exact load_part (c := talCells (withT t l) cv nv') cg (by rw [cs_val]; omega) rfl (talAt_kc t') (resW_nil (hK Hg nv' Tg tg))

theorem good37 (hJ : Closed prog main J) {lv : Value} {l : List Int} {x : Int} (hl : Sli H lv 1 l.length (l.map vint)) (hll : l.length ≤ 1000) (hK : ∀ p : Int, (0 ≤ p ↔ x ∈ l) → K (vint p) H) : Good prog J 37 [lv, vint x] H K := by
  refine g37 hJ fun ok => ?_
  rw [e37]
  refine l37_1 hJ (fun k : Nat => l.length - k) (fun k F H' => H' = H ∧ k ≤ l.length ∧ (∀ y ∈ l.take k, y ≠ x) ∧ F.ds = [] ∧ F.r 0 = lv ∧ F.r 1 = vint x ∧ F.r 5 = vint (k : Nat)) ?_ (s := 0)
    (.inl ⟨rfl, by omega, by simp, rfl, rfl, rfl, rfl⟩)
  rintro k F H ⟨rfl, hk, hno, ds, r0, r1, r5⟩ okc hnc
  rw [s37_1, r0, r1, r5, ds]
  refine lenI hl (lssI (cndI (fun hlt => ?_) fun hge => ?_))
  · have hkl : k < l.length := by omega
    have hx := List.getElem?_eq_getElem hkl
    refine idx_load hl ⟨by omega, by omega⟩ (x := vint l[k]) (by rw [Int.toNat_natCast, List.getElem?_map, hx]; rfl) fun p => eqlI (cndI (fun he => ?_) fun hne => ?_)
    · exact retL_same (by simp [unk]) (hK k ⟨fun _ => he ▸ List.getElem_mem hkl, fun _ => by omega⟩)
    · refine addI (by omega) ⟨k + 1, by dsimp only; omega, .inl ⟨rfl, by omega, fun y hy => ?_, ds, r0, r1, by show vint _ = vint _; congr 1⟩⟩
      rw [List.take_add_one, hx] at hy
      rcases List.mem_append.1 hy with hy | hy
      · exact hno y hy
      · have : y = l[k] := by simpa using hy
        rw [this]
        exact hne
  · have hke : k = l.length := by omega
    subst hke
    rw [List.take_length] at hno
    exact retL_same (by simp [unk]) (hK (-1) ⟨fun hx => absurd hx (by decide), fun hx => absurd rfl (hno x hx)⟩)
end
end Go.Proofs.Ytdgpacdknpahnaa

namespace Go.Proofs.Ytdgpacdknpahnaa
open Go.Conc Go.Proofs.Try
set_option maxRecDepth 100000
def ClipAt (H : List AObj) (v : Value) (l : List Int) : Prop := (l = [] ∧ v = .slice none 0 0) ∨ ∃ i sz, v = .slice (some ⟨i, 0, none⟩) l.length l.length ∧ H[i]? = some (.cells (l.map vint) true sz)
theorem ClipAt.keep {H H' : List AObj} {v : Value} {l : List Int} (a : ClipAt H v l) (S : SameX [] H H') : ClipAt H' v l := by
  rcases a with a | ⟨i, sz, h1, h2⟩
  · exact .inl a
  · exact .inr ⟨i, sz, h1, S.get h2 (by simp)⟩
theorem kn_vint (l : List Int) : kn (l.map vint) = true := by simp [kn]; exact fun _ _ => rfl

def growV (pp pn pg : Nat) : Value := .func (.func 105) ⟨[]⟩ ⟨[ptr pp 0, ptr pn 0, ptr pg 0]⟩

structure Pass (J : JT) (X : List Nat) (I : List AObj → Prop) (Pu : Int → Bool) (fv : Value) : Prop where
  call : ∀ {H : List AObj} {s : Int} {Kf : Value → List AObj → Prop}, I H → (∀ H', SameX X H H' → I H' → Kf (.bool (Pu s)) H') → callV prog (Good prog J) fv [.int .u64 s] H Kf
  keep : ∀ {H H' : List AObj}, I H → SameX [] H H' → I H'
  kn : kn1 fv = true
  val : fv.cells = #[fv] ∧ one fv = true

section
variable {main : Bool} {J : JT} {h H : List AObj} {K : Value → List AObj → Prop} {KV : Value → Prop} {HL : List AObj → Prop} {n0 : Nat}
theorem u_shlI {i : Int} {t : TypeId} (h0 : 0 ≤ i) (hk : KV (.int .u64 (shU i))) : aBin prog .shl t (.int .u64 1) (.int .u64 i) KV := ⟨h0, hk⟩
theorem u_orI {a b : Int} {t : TypeId} (hk : KV (.int .u64 (orU a b))) : aBin prog .or t (.int .u64 a) (.int .u64 b) KV := ⟨rfl, hk⟩
theorem u_andNotI {a b : Int} {t : TypeId} (hk : KV (.int .u64 (andU a b))) : aBin prog .andNot t (.int .u64 a) (.int .u64 b) KV := ⟨rfl, hk⟩

theorem good106 (hJ : Closed prog main J) {v : Value} {l : List Int} {o : Option Nat} (O : OwnX H 1 (l.map vint) l.length v o) (hl : l.length ≤ 100) (hK : ∀ v', ClipAt H v' l → K v' H) : Good prog J 106 [v] H K := by
  have hfz : (1000 : Nat) < fz := by decide
  have hrm : (2000 : Nat) < room := by decide
  refine g106 hJ fun ok => ?_
  rw [e106]
  refine lenI (ownX_sli O) (lenI (ownX_sli O) ?_)
  obtain ⟨_, _, ⟨h0, rfl, _⟩ | ⟨i, c, sz, _, rfl, hb, hc⟩⟩ := id O
  · have : l = [] := List.length_eq_zero_iff.1 h0
    subst this
    refine ⟨Int.le_refl _, ⟨Int.le_refl _, by decide⟩, ⟨fun _ => Int.le_refl _, fun hx => absurd hx (by decide)⟩, retL_same (by simp [unk]) (hK _ (.inl ⟨rfl, rfl⟩))⟩
  · refine ⟨by omega, ⟨Int.le_refl _, by omega⟩, ⟨fun hx => ?_, fun hx => ?_⟩, ?_⟩
    · rcases hc with ⟨rfl, _⟩ | rfl
      · exact absurd hx (by omega)
      · exact Int.le_refl _
    · rcases hc with ⟨rfl, rfl⟩ | rfl
      · show (match H[i]? with
          | some (.cells cs _ sz) => fz = fz ∧ sz ≠ 0 ∧ 0 = 0 ∧ ((l.length : Nat) : Int).toNat * sz ≤ cs.length
          | _ => False)
        rw [hb]
        exact ⟨rfl, by decide, rfl, by simp⟩
      · omega
    · refine retL_same (by simp [unk]) (hK _ (.inr ⟨i, sz, ?_, hb⟩))
      show Value.slice _ ((l.length : Nat) : Int).toNat ((l.length : Nat) : Int).toNat = _
      rw [Int.toNat_natCast]

theorem clip_app {v y : Value} {l : List Int} {x : Int} (a : ClipAt H v l) (hl : l.length ≤ 100) (hy : Sli H y 1 1 [vint x])
    (hK : ∀ v' H', SameX [] H H' → OwnX H' 1 ((l ++ [x]).map vint) (l ++ [x]).length v' (some H.length) → K v' H') : aApp 1 v y H K := by
  have hr : room = 1073741824 := rfl
  rcases a with ⟨rfl, rfl⟩ | ⟨i, sz, rfl, hb⟩
  · refine app_nil (by decide) hy (by omega) (fun e => absurd e (by decide)) fun _ => hK _ _ SameX.refl.app ?_
    exact ⟨rfl, rfl, .inr ⟨H.length, fz, 1, rfl, rfl, by simp, .inl ⟨rfl, rfl⟩⟩⟩
  · refine app_copy (cs := l.map vint) hb (by simp) (by rw [List.drop_zero, List.take_of_length_le (by simp)]; exact kn_vint l) (by omega) (by decide) hy (by omega) ?_
    refine hK _ _ SameX.refl.app ⟨by simp, kn_vint _, .inr ⟨H.length, fz, 1, rfl, by simp, ?_, .inl ⟨rfl, rfl⟩⟩⟩
    rw [List.getElem?_append_right (by omega)]
    simp
    exact List.take_of_length_le (by simp)

theorem callC {g : FuncId} {args cap : List Value} (hg : Nat.blt g prog.funcs.size = true) (hk : Good prog J g (args ++ cap) H K) : callV prog (Good prog J) (.func (.func g) ⟨[]⟩ ⟨cap⟩) args H K := by
  show (bif Nat.blt g prog.funcs.size then Good prog J g ([] ++ args ++ cap) H K else False)
  rw [hg, cond_true, List.nil_append]
  exact hk
theorem nu2 {a b : Value} (ha : a ≠ unk) (hb : b ≠ unk) : ∀ v ∈ [a, b], v ≠ unk := by
  intro v hv
  rcases List.mem_cons.1 hv with rfl | hv
  · exact ha
  · rw [List.mem_singleton.1 hv]
    exact hb

theorem good105 (hJ : Closed prog main J) {X : List Nat} {I : List AObj → Prop} {Pu : Int → Bool} {fv : Value} {n lo pp pn pg : Nat} (P : Pass J X I Pu fv) (hn : n ≤ 60) (hX : ∀ x ∈ X, x < lo) (hpp : lo ≤ pp) (hpn : lo ≤ pn) (hpg : lo ≤ pg) :
    ∀ (m : Nat) (l : List Int) (s : Int) {H : List AObj} {K : Value → List AObj → Prop} {lv : Value} {o : Option Nat}, H[pp]? = some (.cells [fv] true 0) → H[pn]? = some (.cells [vint (n : Nat)] true 0) → H[pg]? = some (.cells [growV pp pn pg] true 0) → I H →
      OwnX H 1 (l.map vint) l.length lv o → (∀ j, o = some j → lo ≤ j) → l.length + m ≤ 100 → (∀ x ∈ l, 0 ≤ x ∧ x < n) →
      (∀ H' v, SameX X H H' → I H' → v ≠ unk → (∀ r, growP Pu n m l s = some r → ∃ b, OwnX H' 1 (r.map vint) r.length v b ∧ ∀ j, b = some j → lo ≤ j) → K (.tuple ⟨[v, .bool (growP Pu n m l s).isSome]⟩) H') →
      Good prog J 105 [lv, .int .u64 s, vint (m : Nat), ptr pp 0, ptr pn 0, ptr pg 0] H K
  | 0, l, s, H, K, lv, o, cp, cn, cg, hI, O, ho, hlm, hlb, hK => by
    refine g105 hJ fun ok => ?_
    rw [e105]
    refine eqlI (cndI (fun _ => ldI (v := fv) cp rfl P.kn (P.call hI fun H' S I' => ?_)) fun hx => absurd rfl hx)
    have nu : lv ≠ unk := by
      have := (ownX_val O).2.2
      intro e
      rw [e] at this
      cases this
    have O' := ownX_keep O S (fun i hi hm => by have := ho i hi; have := hX i hm; omega)
    have fin := hK H' lv S I' nu fun r hr => ?_
    · refine retL_same (nu2 nu (by simp [unk])) ?_
      have e : (growP Pu n 0 l s).isSome = Pu s := by
        unfold growP
        cases Pu s <;> rfl
      rw [e] at fin
      exact fin
    · unfold growP at hr
      cases hp : Pu s with
      | false => rw [hp] at hr; cases hr
      | true =>
        rw [hp] at hr
        have hr : some l = some r := hr
        injection hr with hr
        subst hr
        exact ⟨o, O', ho⟩
  | m + 1, l, s, H, K, lv, o, cp, cn, cg, hI, O, ho, hlm, hlb, hK => by
    refine g105 hJ fun ok => ?_
    rw [e105]
    -- the loop
    have loop : ∀ {F : RG}, F.ds = [] → F.r 0 = lv → F.r 1 = .int .u64 s → F.r 2 = vint ((m + 1 : Nat) : Int) → F.r 3 = ptr pp 0 → F.r 4 = ptr pn 0 → F.r 5 = ptr pg 0 → F.r 11 = vint (fromL l : Nat) →
        W prog J 58 H.length 105 (subC [1, 1, 1, 1] (codeOf f105)) F H (contX pl105 prog J 58 H.length 105 ct105 [1, 1, 1, 1] (codeOf f105) [] (RetQ prog [.tmp 9, .tmp 10] H.length K)) := by
      intro F ds r0 r1 r2 r3 r4 r5 r11
      rw [s105_1, r11]
      refine l105_2 hJ (fun k : Nat => n - m - fromL l - k) (fun k F H' => SameX X H H' ∧ I H' ∧ k ≤ n - m - fromL l ∧ (∀ i, i < k → growP Pu n m (l ++ [((fromL l + i : Nat) : Int)]) (orU s (shU ((fromL l + i : Nat) : Int))) = none) ∧ F.ds = [] ∧ F.r 0 = lv ∧ F.r 1 = .int .u64 s ∧ F.r 2 = vint ((m + 1 : Nat) : Int) ∧ F.r 3 = ptr pp 0 ∧ F.r 4 = ptr pn 0 ∧ F.r 5 = ptr pg 0 ∧ F.r 12 = vint ((fromL l + k : Nat) : Int)) ?_ (s := 0)
        (.inl ⟨SameX.refl, hI, by omega, fun i hi => absurd hi (Nat.not_lt_zero _), ds, r0, r1, r2, r3, r4, r5, rfl⟩)
      rintro k F H' ⟨S, I', hk, hno, ds, r0, r1, r2, r3, r4, r5, r12⟩ okc hnc
      have hfl : fromL l ≤ n := by
        unfold fromL
        cases hl : l.getLast? with
        | none => exact Nat.zero_le _
        | some x =>
          have := hlb x (List.mem_of_getLast? hl)
          show x.toNat + 1 ≤ n
          omega
      have nX : ∀ {p}, lo ≤ p → p ∉ X := fun h hm => by have := hX _ hm; omega
      have cp' := S.get cp (nX hpp)
      have cn' := S.get cn (nX hpn)
      have cg' := S.get cg (nX hpg)
      have O' := ownX_keep O S (fun i hi => nX (ho i hi))
      have lg := lt_of_get cg'
      rw [s105_2, r0, r1, r2, r4, r5, r12, ds]
      refine ldI (v := vint (n : Nat)) cn' rfl rfl (subI (by omega) (leqI (cndI (fun hle => ?_) fun hgt => ?_)))
      rotate_left
      · have hke : k = n - m - fromL l := by omega
        refine retL_same (by simp [unk]) ?_
        have e : growP Pu n (m + 1) l s = none := by
          unfold growP
          exact firstN_none fun i hi => hno i (by omega)
        have := hK H' (.slice none 0 0) S I' (by simp [unk]) fun r hr => by rw [e] at hr; cases hr
        rw [e] at this
        exact this
      have hkl : k < n - m - fromL l := by omega
      have hsb : ∀ {H2}, SameX [] H' H2 → SameB (some [pg]) H' H2 := fun S2 x hx => S2.2 x (by simp at hx; omega) (by simp)
      have e8 : ((m + 1 : Nat) : Int) - 1 = (m : Nat) := by omega
      -- behind the call
      have post : ∀ {H2 : List AObj} {wv : Value} {q : Nat} {F2 : Value → Value → Value → RG}, SameX [] H' H2 → OwnX H2 1 ((l ++ [((fromL l + k : Nat) : Int)]).map vint) (l ++ [((fromL l + k : Nat) : Int)]).length wv (some q) → H'.length ≤ q →
          (∀ a b c, (F2 a b c).ds = [] ∧ (F2 a b c).r 0 = lv ∧ (F2 a b c).r 1 = .int .u64 s ∧ (F2 a b c).r 2 = vint ((m + 1 : Nat) : Int) ∧ (F2 a b c).r 3 = ptr pp 0 ∧ (F2 a b c).r 4 = ptr pn 0 ∧ (F2 a b c).r 5 = ptr pg 0 ∧ (F2 a b c).r 12 = vint ((fromL l + k : Nat) : Int) ∧ (F2 a b c).r 13 = b ∧ (F2 a b c).r 14 = c) →
          callV prog (Good prog J) (growV pp pn pg) [wv, .int .u64 (orU s (shU ((fromL l + k : Nat) : Int))), vint (m : Nat)] H2 fun v16 h17 => aExt v16 0 fun v18 => aExt v16 1 fun v19 => Hold (W prog J 58 H.length 105 (subC [1, 1, 1, 1, 0, 1, 0, 0, 1, 0, 0, 1] (codeOf f105)) (F2 v16 v18 v19) h17 (contX pl105 prog J 58 H.length 105 ct105 [1, 1, 1, 1, 0, 1, 0, 0, 1, 0, 0, 1] (codeOf f105) [Nx H.length (fun k : Nat => n - m - fromL l - k) (fun k F H' => SameX X H H' ∧ I H' ∧ k ≤ n - m - fromL l ∧ (∀ i, i < k → growP Pu n m (l ++ [((fromL l + i : Nat) : Int)]) (orU s (shU ((fromL l + i : Nat) : Int))) = none) ∧ F.ds = [] ∧ F.r 0 = lv ∧ F.r 1 = .int .u64 s ∧ F.r 2 = vint ((m + 1 : Nat) : Int) ∧ F.r 3 = ptr pp 0 ∧ F.r 4 = ptr pn 0 ∧ F.r 5 = ptr pg 0 ∧ F.r 12 = vint ((fromL l + k : Nat) : Int)) k] (RetQ prog [.tmp 9, .tmp 10] H.length K))) := by
        intro H2 wv q F2 S2 O2 hlt hF
        refine callC (by kernel_rfl) ?_
        have hSl := S.1
        have hpgl := lt_of_get cg
        refine good105 hJ P hn hX hpp hpn hpg m (l ++ [((fromL l + k : Nat) : Int)]) (orU s (shU ((fromL l + k : Nat) : Int))) (S2.get cp' (by simp)) (S2.get cn' (by simp)) (S2.get cg' (by simp)) (P.keep I' S2) O2 (fun j hj => by cases hj; omega) (by simp; omega) (fun x hx => ?_) fun H3 v S3 I3 nu hr => ext0 (ext1 (hold.2 ?_))
        · rcases List.mem_append.1 hx with hx | hx
          · exact hlb x hx
          · have hx : x = ((fromL l + k : Nat) : Int) := by simpa using hx
            omega
        generalize hB : (growP Pu n m (l ++ [((fromL l + k : Nat) : Int)]) (orU s (shU ((fromL l + k : Nat) : Int)))).isSome = bb
        obtain ⟨f0, f1, f2, f3, f4, f5, f6, f7, f8, f9⟩ := hF (.tuple ⟨[v, .bool bb]⟩) v (.bool bb)
        have S13 : SameX X H H3 := (S.trans S2.weak0).trans S3
        rw [s105_3, f7, f8, f9, f0]
        cases bb with
        | true =>
          obtain ⟨r, hg⟩ := Option.isSome_iff_exists.1 hB
          have e : growP Pu n (m + 1) l s = some r := by
            unfold growP
            exact firstN_some hkl hno hg
          refine cnd_true.2 (retL_same (nu2 nu (by simp [unk])) ?_)
          have := hK H3 v S13 I3 nu fun r' hr' => by
            rw [e] at hr'
            injection hr' with hr'
            subst hr'
            exact hr _ hg
          rw [e] at this
          exact this
        | false =>
          have hg : growP Pu n m (l ++ [((fromL l + k : Nat) : Int)]) (orU s (shU ((fromL l + k : Nat) : Int))) = none := Option.isSome_eq_false_iff.1 hB |> Option.isNone_iff_eq_none.1
          refine cnd_false.2 (addI (by omega) ⟨k + 1, by dsimp only; omega, .inl ⟨S13, I3, by omega, fun i hi => ?_, f0, f1, f2, f3, f4, f5, f6, by show vint _ = vint _; congr 1⟩⟩)
          by_cases e : i = k
          · rw [e]
            exact hg
          · exact hno i (by omega)
      refine ⟨[pg], ldI (v := growV pp pn pg) cg' rfl rfl ⟨by simp [RdOk, ptr, ptrBlk], convI (by omega) (by omega) (u_shlI (by omega) (u_orI (subI (by omega) ?_)))⟩⟩
      rw [e8]
      refine ⟨?_, ?_⟩
      · refine good106 hJ O' (by omega) fun v' C => ⟨fun _ _ => rfl, by decide, fill_one (l := [vint ((fromL l + k : Nat) : Int)]) rfl rfl rfl (by decide) (fillI (qNew fun H1 p1 e1 S1 c1 l1 => ⟨hsb S1, by decide, ?_⟩))⟩
        have c1 : H1[p1]? = some (.cells [vint ((fromL l + k : Nat) : Int)] true 0) := c1
        refine clip_app (C.keep S1) (by omega) (ownX_sli (ownX_new (s := 1) (n := 1) (l := [vint ((fromL l + k : Nat) : Int)]) c1 rfl rfl)) fun w H2 S2 O2 => ⟨hsb (S1.trans S2), ?_⟩
        have hS1 := S1.1
        exact post (S1.trans S2) O2 hS1 fun a b c => ⟨ds, r0, r1, r2, r3, r4, r5, r12, rfl, rfl⟩
      · refine ⟨by decide, fill_one (l := [vint ((fromL l + k : Nat) : Int)]) rfl rfl rfl (by decide) (fillI (qNew fun H1 p1 e1 S1 c1 l1 => ⟨hsb S1, ?_⟩))⟩
        have c1 : H1[p1]? = some (.cells [vint ((fromL l + k : Nat) : Int)] true 0) := c1
        refine good106 hJ (ownX_keep O' S1 (by simp)) (by omega) fun v' C => ⟨hsb S1, by decide, ?_⟩
        refine clip_app C (by omega) (ownX_sli (ownX_new (s := 1) (n := 1) (l := [vint ((fromL l + k : Nat) : Int)]) c1 rfl rfl)) fun w H2 S2 O2 => ⟨hsb (S1.trans S2), ?_⟩
        have hS1 := S1.1
        exact post (S1.trans S2) O2 hS1 fun a b c => ⟨ds, r0, r1, r2, r3, r4, r5, r12, rfl, rfl⟩
    refine eqlI (cndI (fun hx => absurd hx (by omega)) fun _ => lenI (ownX_sli O) (gtrI (cndI (fun hpos => lenI (ownX_sli O) (subI (by omega) ?_)) fun h0 => hold.2 ?_)))
    · have hll : l.length - 1 < l.length := by omega
      have ei : ((l.length : Nat) : Int) - 1 = ((l.length - 1 : Nat) : Int) := by omega
      have hx := List.getElem?_eq_getElem hll
      have hb := hlb _ (List.getElem_mem hll)
      rw [ei]
      refine idx_load (ownX_sli O) ⟨by omega, by omega⟩ (x := vint l[l.length - 1]) (by rw [Int.toNat_natCast, List.getElem?_map, hx]; rfl) fun p => addI (by omega) (hold.2 (loop rfl rfl rfl rfl rfl rfl rfl ?_))
      show vint _ = vint _
      congr 1
      unfold fromL
      rw [List.getLast?_eq_getElem?, hx]
      show l[l.length - 1] + 1 = ((l[l.length - 1].toNat + 1 : Nat) : Int)
      omega
    · have : l = [] := List.length_eq_zero_iff.1 (by omega)
      refine loop rfl rfl rfl rfl rfl rfl rfl ?_
      rw [this]
      rfl

theorem good75 (hJ : Closed prog main J) {X : List Nat} {I : List AObj → Prop} {Pu : Int → Bool} {fv : Value} {n : Nat} (P : Pass J X I Pu fv) (hn : n ≤ 60) (hX : ∀ x ∈ X, x < H.length) (hI : I H)
    (hK : ∀ H' v, SameX X H H' → I H' → (∃ b, OwnX H' 1 (((pickP Pu n).getD []).map vint) ((pickP Pu n).getD []).length v b) → K (.tuple ⟨[v, .bool (pickP Pu n).isSome]⟩) H') : Good prog J 75 [vint (n : Nat), fv] H K := by
  refine g75 hJ fun ok => ?_
  rw [e75]
  refine qBox1 rfl rfl fun H1 pn e1 S1 c1 l1 => qBox1 P.val.1 P.val.2 fun H2 pp e2 S2 c2 l2 => qAl fun H3 pg e3 S3 c3 l3 => ⟨rfl, qSt c3 (by simp) rfl rfl fun H4 S4 c4 l4 => ?_⟩
  have c4 : H4[pg]? = some (.cells [growV pp pn pg] true 0) := c4
  have T24 : SameX [] H2 H4 := S3.thru S4 (by simp; omega)
  have T14 : SameX [] H1 H4 := S2.trans T24
  have T4 : SameX [] H H4 := S1.trans T14
  have n4 := T14.get c1 (by simp)
  have p4 := T24.get c2 (by simp)
  have hS1 := S1.1
  have hS2 := S2.1
  have hS3 := S3.1
  have nX : ∀ {p}, H.length ≤ p → p ∉ X := fun h hm => by have := hX _ hm; omega
  refine ldI (v := vint (n : Nat)) n4 rfl rfl (addI (by omega) ?_)
  refine l75_1 hJ (fun m : Nat => n + 1 - m) (fun m F H' => SameX X H4 H' ∧ I H' ∧ m ≤ n + 1 ∧ (∀ i, i < m → growP Pu n i [] 0 = none) ∧ F.ds = [] ∧ F.r 6 = ptr pg 0 ∧ F.r 12 = vint ((n : Int) + 1) ∧ F.r 13 = vint (m : Nat)) ?_ (s := 0)
    (.inl ⟨SameX.refl, P.keep hI T4, by omega, fun i hi => absurd hi (Nat.not_lt_zero _), rfl, rfl, rfl, rfl⟩)
  rintro m F H' ⟨S, I', hm, hno, ds, r6, r12, r13⟩ okc hnc
  have T' : SameX X H H' := T4.weak0.trans S
  rw [s75_1, r6, r12, r13, ds]
  refine lssI (cndI (fun hlt => ?_) fun hge => ?_)
  · refine ldI (v := growV pp pn pg) (S.get c4 (nX (by omega))) rfl rfl (callC (by kernel_rfl) ?_)
    refine good105 (lo := H.length) hJ P hn hX (by omega) (by omega) (by omega) m [] 0 (S.get p4 (nX (by omega))) (S.get n4 (nX (by omega))) (S.get c4 (nX (by omega))) I' ⟨rfl, rfl, .inl ⟨rfl, rfl, rfl⟩⟩ (by simp) (by simp; omega) (by simp) fun H5 v S5 I5 nu hr => ext0 (ext1 ?_)
    generalize hB : (growP Pu n m [] 0).isSome = bb
    cases bb with
    | true =>
      obtain ⟨r, hg⟩ := Option.isSome_iff_exists.1 hB
      have e : pickP Pu n = some r := firstN_some (k := m) (by omega) hno hg
      refine cnd_true.2 (retL_same (nu2 nu (by simp [unk])) ?_)
      obtain ⟨b, Ob, _⟩ := hr r hg
      have := hK H5 v (T'.trans S5) I5 (by rw [e]; exact ⟨b, Ob⟩)
      rw [e] at this
      exact this
    | false =>
      have hg : growP Pu n m [] 0 = none := Option.isNone_iff_eq_none.1 (Option.isSome_eq_false_iff.1 hB)
      refine cnd_false.2 (addI (by omega) ⟨m + 1, by dsimp only; omega, .inl ⟨S.trans S5, I5, by omega, fun i hi => ?_, ds, r6, r12, by show vint _ = vint _; congr 1⟩⟩)
      by_cases e : i = m
      · rw [e]
        exact hg
      · exact hno i (by omega)
  · have e : pickP Pu n = none := firstN_none fun i hi => hno i (by omega)
    have := hK H' (.slice none 0 0) T' I' (by rw [e]; exact ⟨none, rfl, rfl, .inl ⟨rfl, rfl, rfl⟩⟩)
    rw [e] at this
    exact retL_same (by simp [unk]) this

theorem callB {g : FuncId} {first args : List Value} (hg : Nat.blt g prog.funcs.size = true) (hk : Good prog J g (first ++ args) H K) : callV prog (Good prog J) (.func (.func g) ⟨first⟩ ⟨[]⟩) args H K := by
  show (bif Nat.blt g prog.funcs.size then Good prog J g (first ++ args ++ []) H K else False)
  rw [hg, cond_true, List.append_nil]
  exact hk

def Wk (h0 : List AObj) (bw bm : Nat) (t : Tal) (cv nv : Value) (H : List AObj) : Prop := ∃ u es, WorkIn h0 H bw t cv nv u (.map (some bm)) ∧ H[bm]? = some (.map es true) ∧ MetOk t es
theorem Wk.keep {h0 H' : List AObj} {bw bm : Nat} {t : Tal} {cv nv : Value} (a : Wk h0 bw bm t cv nv H) (S : SameX [] H H') : Wk h0 bw bm t cv nv H' := by
  obtain ⟨u, es, w, hm, met⟩ := a
  exact ⟨u, es, w.same S (by simp) (by simp), S.get hm (by simp), met⟩
theorem truthX (hJ : Closed prog main J) {h0 : List AObj} {bw bm : Nat} {t : Tal} {cv nv : Value} {u' : Int} (fine : TalFine t) (hbw : h0.length ≤ bw) (hbm : h0.length ≤ bm) (hne : bw ≠ bm) (a : Wk h0 bw bm t cv nv H)
    (hK : ∀ H', SameX [bw, bm] H H' → Wk h0 bw bm t cv nv H' → K (.bool (truthS t u')) H') : Good prog J 74 [ptr bw 0, .int .u64 u'] H K := by
  obtain ⟨u, es, w, hm, met⟩ := a
  exact good74 hJ w hbw hbm hne fine hm met fun H' es' S w' hm' met' => hK H' S ⟨u', es', w', hm', met'⟩

theorem passC (hJ : Closed prog main J) {h0 : List AObj} {bw bm pw : Nat} {t : Tal} {cv nv : Value} (fine : TalFine t) (hbw : h0.length ≤ bw) (hbm : h0.length ≤ bm) (hne : bw ≠ bm) (hp1 : pw ≠ bw) (hp2 : pw ≠ bm) :
    Pass J [bw, bm] (fun H => Wk h0 bw bm t cv nv H ∧ H[pw]? = some (.cells [ptr bw 0] true 0)) (fun s => !truthS t (andU 127 s)) (.func (.func 76) ⟨[]⟩ ⟨[ptr pw 0]⟩) where
  call := fun {H s Kf} hI hk => by
    refine callC (by kernel_rfl) (g76 hJ fun ok => ?_)
    rw [e76]
    refine ldI (v := ptr bw 0) hI.2 rfl rfl (u_andNotI (truthX hJ fine hbw hbm hne hI.1 fun H' S w' => notI (retL_same (by simp [unk]) ?_)))
    exact hk H' S ⟨w', S.get hI.2 (by simp; exact ⟨hp1, hp2⟩)⟩
  keep := fun hI S => ⟨hI.1.keep S, S.get hI.2 (by simp)⟩
  kn := rfl
  val := ⟨rfl, rfl⟩
theorem passW (hJ : Closed prog main J) {h0 : List AObj} {bw bm : Nat} {t : Tal} {cv nv : Value} (fine : TalFine t) (hbw : h0.length ≤ bw) (hbm : h0.length ≤ bm) (hne : bw ≠ bm) :
    Pass J [bw, bm] (Wk h0 bw bm t cv nv) (truthS t) (.func (.func 74) ⟨[ptr bw 0]⟩ ⟨[]⟩) where
  call := fun {H s Kf} hI hk => callB (by kernel_rfl) (truthX hJ fine hbw hbm hne hI hk)
  keep := fun hI S => hI.keep S
  kn := rfl
  val := ⟨rfl, rfl⟩

noncomputable def clashE (t : Tal) : Int := if talErr t ≠ 0 then talErr t else bif truthS t 0 then 11 else 0
noncomputable def clashL (t : Tal) : List Int := if clashE t = 0 then (clashO t).getD [] else []
noncomputable def wrongE (t : Tal) : Int := if talErr t ≠ 0 then talErr t else bif truthS t 127 then 0 else 11
noncomputable def wrongL (t : Tal) : List Int := if wrongE t = 0 then (wrongO t).getD [] else []

theorem good32 (hJ : Closed prog main J) {v cv nv : Value} {t : Tal} (ht : TalAt H v t cv nv) (hK : ∀ H' w, SameX [] H H' → Sli H' w 1 (clashL t).length ((clashL t).map vint) → K (.tuple ⟨[w, vint (clashE t)]⟩) H') : Good prog J 32 [v] H K := by
  refine g32 hJ fun ok => ?_
  rw [e32, ht.val]
  have kn : kn1 nv = true := (sli_one ht.co).2.2
  refine qBox (tal_one ht) fun H1 p1 e1 S1 c1 l1 => ?_
  have t1 : TalAt H1 (.agg ⟨talCells t cv nv⟩) t cv nv := ⟨rfl, S1.sli ht.ch (by simp), S1.sli ht.co (by simp)⟩
  refine load_part (c := talCells t cv nv) c1 (by rw [cs_val]; omega) rfl (talAt_kc t1) ?_
  refine good71 hJ t1 fun H2 bw bm S2 hbw hbm hne w hm => ext0 (ext1 ?_)
  refine qAl fun H3 p3 e3 S3 c3 l3 => qSt c3 (by simp) rfl rfl fun H4 S4 c4 l4 => ?_
  have c4 : H4[p3]? = some (.cells [ptr bw 0] true 0) := c4
  have S24 : SameX [] H2 H4 := S3.thru S4 (by simp; omega)
  have T4 : SameX [] H H4 := (S1.trans S2).trans S24
  have nil : ∀ {H' : List AObj} {e : Int}, SameX [] H H' → clashE t = e → e ≠ 0 → retL H.length K [] [.slice none 0 0, vint e] H' := fun {H' e} S he h0 => by
    subst he
    refine retL_same (by simp [unk]) (hK H' _ S ?_)
    unfold clashL
    rw [if_neg h0]
    exact ownX_sli (o := none) ⟨rfl, rfl, .inl ⟨rfl, rfl, rfl⟩⟩
  refine neqI (cndI (fun h1 => nil T4 (by unfold clashE; rw [if_pos h1]) h1) fun h1 => ?_)
  have he0 : talErr t = 0 := Decidable.not_not.1 h1
  have fine := talErr_fine he0
  have wbl := lt_of_get w.at_
  have wml := lt_of_get hm
  have hS1 := S1.1
  have hS2 := S2.1
  have W4 : Wk H1 bw bm t cv nv H4 := ⟨0, [], w.same S24 (by simp) (by simp), S24.get hm (by simp), metOk_nil⟩
  refine ldI (v := ptr bw 0) c4 rfl rfl (truthX hJ fine hbw hbm hne W4 fun H5 S5 W5 => ?_)
  have T5 : SameX [] H H5 := T4.thru S5 (by simp; omega)
  have c15 := S5.get (S24.get (S2.get c1 (by simp)) (by simp)) (by simp; omega)
  have c45 := S5.get c4 (by simp; omega)
  have hS5 := S5.1
  have hS24 := S24.1
  cases h2 : truthS t 0 with
  | true =>
    exact cnd_true.2 (nil T5 (by unfold clashE; rw [if_neg h1, h2]; rfl) (by decide))
  | false =>
    have eE : clashE t = 0 := by unfold clashE; rw [if_neg h1, h2]; rfl
    refine cnd_false.2 (offI (ldI (v := nv) c15 rfl kn (lenI (T5.sli ht.co (by simp)) ⟨rfl, ?_⟩)))
    have few := fine.few
    refine good75 hJ (passC hJ fine hbw hbm hne (pw := p3) (by omega) (by omega)) (by omega) (by simp; omega) ⟨W5, c45⟩ fun H6 v6 S6 _ hO => ext0 (ext1 ?_)
    obtain ⟨b, O⟩ := hO
    have nu : v6 ≠ unk := by
      have := (ownX_val O).2.2
      intro e
      rw [e] at this
      cases this
    refine retL_same (nu2 nu (by simp [unk])) ?_
    have := hK H6 v6 (T5.thru S6 (by simp; omega)) (by
      unfold clashL
      rw [if_pos eE]
      exact ownX_sli O)
    rw [eE] at this
    exact this

theorem good33 (hJ : Closed prog main J) {v cv nv : Value} {t : Tal} (ht : TalAt H v t cv nv) (hK : ∀ H' w, SameX [] H H' → Sli H' w 1 (wrongL t).length ((wrongL t).map vint) → K (.tuple ⟨[w, vint (wrongE t)]⟩) H') : Good prog J 33 [v] H K := by
  refine g33 hJ fun ok => ?_
  rw [e33, ht.val]
  have kn : kn1 nv = true := (sli_one ht.co).2.2
  refine qBox (tal_one ht) fun H1 p1 e1 S1 c1 l1 => ?_
  have t1 : TalAt H1 (.agg ⟨talCells t cv nv⟩) t cv nv := ⟨rfl, S1.sli ht.ch (by simp), S1.sli ht.co (by simp)⟩
  refine load_part (c := talCells t cv nv) c1 (by rw [cs_val]; omega) rfl (talAt_kc t1) ?_
  refine good71 hJ t1 fun H2 bw bm S2 hbw hbm hne w hm => ext0 (ext1 ?_)
  have T2 : SameX [] H H2 := S1.trans S2
  have nil : ∀ {H' : List AObj} {e : Int}, SameX [] H H' → wrongE t = e → e ≠ 0 → retL H.length K [] [.slice none 0 0, vint e] H' := fun {H' e} S he h0 => by
    subst he
    refine retL_same (by simp [unk]) (hK H' _ S ?_)
    unfold wrongL
    rw [if_neg h0]
    exact ownX_sli (o := none) ⟨rfl, rfl, .inl ⟨rfl, rfl, rfl⟩⟩
  refine neqI (cndI (fun h1 => nil T2 (by unfold wrongE; rw [if_pos h1]) h1) fun h1 => ?_)
  have he0 : talErr t = 0 := Decidable.not_not.1 h1
  have fine := talErr_fine he0
  have wbl := lt_of_get w.at_
  have wml := lt_of_get hm
  have hS1 := S1.1
  have W2 : Wk H1 bw bm t cv nv H2 := ⟨0, [], w, hm, metOk_nil⟩
  refine truthX hJ fine hbw hbm hne W2 fun H5 S5 W5 => notI ?_
  have T5 : SameX [] H H5 := T2.thru S5 (by simp; omega)
  have c15 := S5.get (S2.get c1 (by simp)) (by simp; omega)
  have hS5 := S5.1
  cases h2 : truthS t 127 with
  | false =>
    exact cnd_true.2 (nil T5 (by unfold wrongE; rw [if_neg h1, h2]; rfl) (by decide))
  | true =>
    have eE : wrongE t = 0 := by unfold wrongE; rw [if_neg h1, h2]; rfl
    refine cnd_false.2 (offI (ldI (v := nv) c15 rfl kn (lenI (T5.sli ht.co (by simp)) ⟨rfl, ?_⟩)))
    have few := fine.few
    refine good75 hJ (passW hJ fine hbw hbm hne) (by omega) (by simp; omega) W5 fun H6 v6 S6 _ hO => ext0 (ext1 ?_)
    obtain ⟨b, O⟩ := hO
    have nu : v6 ≠ unk := by
      have := (ownX_val O).2.2
      intro e
      rw [e] at this
      cases this
    refine retL_same (nu2 nu (by simp [unk])) ?_
    have := hK H6 v6 (T5.thru S6 (by simp; omega)) (by
      unfold wrongL
      rw [if_pos eE]
      exact ownX_sli O)
    rw [eE] at this
    exact this
end
end Go.Proofs.Ytdgpacdknpahnaa

namespace Go.Proofs.Ytdgpacdknpahnaa
open Go.Conc Go.Proofs.Try
set_option maxRecDepth 100000
theorem clash_at {t : Tal} {m i : Nat} {l : List Int} (hm : m ≤ t.counts.length) (hl : (picksR t.counts.length m 0)[i]? = some l) (hno : ∀ m', m' < m → ∀ l' ∈ picksR t.counts.length m' 0, truthS t (andU 127 (setF 0 l')) = true)
    (hni : ∀ j l', j < i → (picksR t.counts.length m 0)[j]? = some l' → truthS t (andU 127 (setF 0 l')) = true) (h : truthS t (andU 127 (setF 0 l)) = false) : clashO t = some l := by
  unfold clashO
  rw [pickP_find]
  refine firstN_some (k := m) (by omega) (fun m' hm' => ?_) ?_
  · rw [List.find?_eq_none]
    intro x hx
    rw [hno m' hm' x hx]
    decide
  · obtain ⟨hi, rfl⟩ := List.getElem?_eq_some_iff.1 hl
    rw [List.find?_eq_some_iff_getElem]
    refine ⟨by rw [h]; rfl, i, hi, rfl, fun j hj => ?_⟩
    rw [hni j _ hj (List.getElem?_eq_getElem (by omega))]
    rfl

theorem with_err {t : Tal} {l : List Int} (h0 : talErr t = 0) (hl : l.length ≤ 7) (hb : ∀ x ∈ l, 0 ≤ x ∧ x < t.counts.length) : talErr (withT t l) = 0 := by
  unfold talErr at h0
  split at h0
  · cases h0
  rename_i n1
  split at h0
  · rename_i x
    exact absurd h0 x
  rename_i n2
  split at h0
  · cases h0
  rename_i n3
  split at h0
  · cases h0
  rename_i n4
  split at h0
  · rename_i x
    exact absurd h0 x
  rename_i n5
  split at h0
  · cases h0
  rename_i n6
  split at h0
  · cases h0
  rename_i n7
  have n7' : ¬ (withT t l).counts.length > 7 := by
    show ¬ (l.map (cntAt t)).length > 7
    rw [List.length_map]
    omega
  unfold talErr
  rw [if_neg n7']
  show (if ¬ (1 ≤ t.gates ∧ t.gates ≤ 5) then 1 else if rngErr 0 300 t.first ≠ 0 then rngErr 0 300 t.first else
    if (t.changes.length : Int) < t.gates - 1 then 7 else if (t.changes.length : Int) > t.gates - 1 then 6 else
    if firstE (t.changes.map (rngErr (-60) 60)) ≠ 0 then firstE (t.changes.map (rngErr (-60) 60)) else
    if ¬ (0 ≤ t.most ∧ t.most ≤ 60) then 1 else firstE ((l.map (cntAt t)).map fun c => cntErr c t.gates)) = 0
  rw [if_neg n1, if_neg n2, if_neg n3, if_neg n4, if_neg n5, if_neg n6]
  refine firstE_zero fun e he => ?_
  obtain ⟨c, hc, rfl⟩ := List.mem_map.1 he
  obtain ⟨x, hx, rfl⟩ := List.mem_map.1 hc
  have := hb x hx
  have hxl : x.toNat < t.counts.length := by omega
  have hm : cntAt t x ∈ t.counts := by
    unfold cntAt
    rw [List.getD_eq_getElem?_getD, List.getElem?_eq_getElem hxl]
    exact List.getElem_mem hxl
  exact firstE_all h0 _ (List.mem_map.2 ⟨_, hm, rfl⟩)

structure Reg5 (t : Tal) (p : Nat) (lv wv : Value) (F : RG) : Prop where
  ds : F.ds = []
  r3 : F.r 3 = ptr p 0
  r4 : F.r 4 = lv
  r5 : F.r 5 = vint (clashE t)
  r6 : F.r 6 = wv
  r7 : F.r 7 = vint (wrongE t)

section
variable {main : Bool} {J : JT} {h H : List AObj} {K : Value → List AObj → Prop} {n0 : Nat} {nx0 nx1 : RG → List AObj → Prop}
theorem met5 (hJ : Closed prog main J) {t : Tal} {p m : Nat} {lv wv : Value} {l : List Int} {F : RG} (h0 : talErr t = 0) (hn : t.counts.length ≤ 7) (hm : m ≤ t.counts.length) (hl : l ∈ picksR t.counts.length m 0) (hf : truthS t (andU 127 (setF 0 l)) = false)
    (sl : Sli H lv 1 l.length (l.map vint)) (sw : Sli H wv 1 (wrongL t).length ((wrongL t).map vint)) (G : Reg5 t p lv wv F) (r8 : F.r 8 = vint (m : Nat)) (r13 : F.r 13 = .bool (decide (wrongE t = 11))) (r14 : F.r 14 = vint 0)
    (fin : ∀ H, Good prog J 18 [] H fun v h' => retL n0 K [] [v] h') :
    Sem J 110 n0 5 (subC [1, 1, 1, 1, 0, 1, 0, 0, 1, 0, 0, 1, 1, 0, 0, 1, 0, 0, 1, 1, 1, 1, 1, 0, 1, 0] (codeOf f5)) F H (contX pl5 prog J 110 n0 5 ct5 [1, 1, 1, 1, 0, 1, 0, 0, 1, 0, 0, 1, 1, 0, 0, 1, 0, 0, 1, 1, 1, 1, 1, 0, 1, 0] (codeOf f5) [nx0, nx1] (RetQ prog [.tmp 2] n0 K)) := by
  have hll : l.length = m := (picksR_mem hl).1
  -- who is wrong, and who clashes
  have meet : wrongE t = 11 ∨ ∃ x ∈ l, x ∈ wrongL t := by
    cases h2 : truthS t 127 with
    | false =>
      left
      unfold wrongE
      rw [if_neg (not_not_intro h0), h2]
      rfl
    | true =>
      right
      have eE : wrongE t = 0 := by unfold wrongE; rw [if_neg (not_not_intro h0), h2]; rfl
      obtain ⟨w, hw, ht, m', hm', hwm⟩ := wrong_some hn h2
      have eL : wrongL t = w := by unfold wrongL; rw [if_pos eE, hw]; rfl
      rw [eL]
      exact clash_meets hn (by omega) hm' hl hwm hf ht
  have wlen : (wrongL t).length ≤ 1000 := by
    unfold wrongL
    split
    · rename_i eE
      have h2 : truthS t 127 = true := by
        cases h2 : truthS t 127 with
        | true => rfl
        | false =>
          unfold wrongE at eE
          rw [if_neg (not_not_intro h0), h2] at eE
          cases eE
      obtain ⟨w, hw, _, m', hm', hwm⟩ := wrong_some hn h2
      rw [hw]
      have := (picksR_mem hwm).1
      show w.length ≤ 1000
      omega
    · simp
  refine l5_4 hJ (fun k : Nat => m - k) (fun k F H' => H' = H ∧ k ≤ m ∧ Reg5 t p lv wv F ∧ F.r 8 = vint (m : Nat) ∧ (∃ b, F.r 13 = .bool b ∧ (b = true ↔ wrongE t = 11 ∨ ∃ x ∈ l.take k, x ∈ wrongL t)) ∧ F.r 14 = vint (k : Nat)) ?_ (s := 0)
    (.inl ⟨rfl, by omega, G, r8, ⟨_, r13, by simp⟩, r14⟩)
  rintro k F H ⟨rfl, hk, G, r8, ⟨b, r13, hb⟩, r14⟩ okc hnc
  rw [s5_4, G.r4, G.r6, r8, r13, r14, G.ds]
  refine lssI (cndI (fun hlt => ?_) fun hge => ?_)
  · have hkl : k < l.length := by omega
    have hx := List.getElem?_eq_getElem hkl
    have htk : l.take (k + 1) = l.take k ++ [l[k]] := by rw [List.take_add_one, hx]; rfl
    cases b with
    | true =>
      refine cnd_true.2 (addI (by omega) ⟨k + 1, by dsimp only; omega, .inl ⟨rfl, by omega, ⟨G.ds, G.r3, G.r4, G.r5, G.r6, G.r7⟩, r8, ⟨true, rfl, ⟨fun _ => ?_, fun _ => rfl⟩⟩, by show vint _ = vint _; congr 1⟩⟩)
      rw [htk]
      exact (hb.1 rfl).imp id fun ⟨x, h1, h2⟩ => ⟨x, List.mem_append_left _ h1, h2⟩
    | false =>
      refine cnd_false.2 (idx_load sl ⟨by omega, by omega⟩ (x := vint l[k]) (by rw [Int.toNat_natCast, List.getElem?_map, hx]; rfl) fun q => ?_)
      refine good37 hJ sw wlen fun pz hp => geqI (addI (by omega) ⟨k + 1, by dsimp only; omega, .inl ⟨rfl, by omega, ⟨G.ds, G.r3, G.r4, G.r5, G.r6, G.r7⟩, r8, ⟨decide (pz ≥ 0), rfl, ?_⟩, by show vint _ = vint _; congr 1⟩⟩)
      rw [htk, decide_eq_true_iff]
      constructor
      · intro hz
        exact .inr ⟨l[k], List.mem_append_right _ (List.mem_singleton.2 rfl), hp.1 hz⟩
      · rintro (h1 | ⟨x, h1, h2⟩)
        · exact absurd (hb.2 (.inl h1)) (by decide)
        · rcases List.mem_append.1 h1 with h1 | h1
          · exact absurd (hb.2 (.inr ⟨x, h1, h2⟩)) (by decide)
          · rw [List.mem_singleton.1 h1] at h2
            exact hp.2 h2
  · have hke : k = l.length := by omega
    rw [hke, List.take_length] at hb
    have : b = true := hb.2 meet
    subst this
    exact cnd_true.2 (fin _)

theorem lists5 (hJ : Closed prog main J) {t : Tal} {cv nv : Value} {p m : Nat} {lv wv av : Value} {o : Option Nat} {F : RG} (h0 : talErr t = 0) (hn : t.counts.length ≤ 7) (hm : m ≤ t.counts.length) (cp : H[p]? = some (.cells (talCells t cv nv) true 0)) (ta : TalAt H (.agg ⟨talCells t cv nv⟩) t cv nv)
    (hno : ∀ m', m' < m → ∀ l' ∈ picksR t.counts.length m' 0, truthS t (andU 127 (setF 0 l')) = true)
    (sl : Sli H lv 1 (clashL t).length ((clashL t).map vint)) (sw : Sli H wv 1 (wrongL t).length ((wrongL t).map vint)) (L : OwnL 0 H av (picksR t.counts.length m 0) o) (G : Reg5 t p lv wv F) (r8 : F.r 8 = vint (m : Nat)) (r9 : F.r 9 = av) (r10 : F.r 10 = vint 0)
    (fin : ∀ H, Good prog J 18 [] H fun v h' => retL n0 K [] [v] h')
    (hnx : ∀ F' H', SameX [] H H' → (∀ l' ∈ picksR t.counts.length m 0, truthS t (andU 127 (setF 0 l')) = true) → Reg5 t p lv wv F' → F'.r 8 = vint ((m + 1 : Nat) : Int) → nx0 F' H') :
    Sem J 110 n0 5 (subC [1, 1, 1, 1, 0, 1, 0, 0, 1, 0, 0, 1, 1, 0] (codeOf f5)) F H (contX pl5 prog J 110 n0 5 ct5 [1, 1, 1, 1, 0, 1, 0, 0, 1, 0, 0, 1, 1, 0] (codeOf f5) [nx0] (RetQ prog [.tmp 2] n0 K)) := by
  have hlen := picks_le hn (show m ≤ 7 by omega) 0
  refine l5_2 hJ (fun i : Nat => (picksR t.counts.length m 0).length - i) (fun i F H' => SameX [] H H' ∧ i ≤ (picksR t.counts.length m 0).length ∧ (∀ j l', j < i → (picksR t.counts.length m 0)[j]? = some l' → truthS t (andU 127 (setF 0 l')) = true) ∧ Reg5 t p lv wv F ∧ F.r 8 = vint (m : Nat) ∧ F.r 9 = av ∧ F.r 10 = vint (i : Nat)) ?_ (s := 0)
    (.inl ⟨SameX.refl, by omega, fun j l' hj => absurd hj (Nat.not_lt_zero _), G, r8, r9, r10⟩)
  rintro i F H' ⟨S, hi, hni, G, r8, r9, r10⟩ okc hnc
  have L' := L.keep S
  obtain ⟨lc, sL⟩ := L'.sli
  rw [s5_2, G.r3, G.r4, G.r5, r8, r9, r10, G.ds]
  refine lenI sL (lssI (cndI (fun hlt => ?_) fun hge => ?_))
  rotate_left
  · refine addI (by omega) (hnx _ H' S (fun l' hl' => ?_) ⟨G.ds, G.r3, G.r4, G.r5, G.r6, G.r7⟩ (by show vint _ = vint _; congr 1))
    obtain ⟨j, hj⟩ := List.getElem?_of_mem hl'
    have := (List.getElem?_eq_some_iff.1 hj).1
    exact hni j l' (by omega) hj
  have hil : i < (picksR t.counts.length m 0).length := by omega
  obtain ⟨l, hl⟩ : ∃ l, (picksR t.counts.length m 0)[i]? = some l := ⟨_, List.getElem?_eq_getElem hil⟩
  have hlm := List.mem_of_getElem? hl
  obtain ⟨hll, hlb⟩ := picksR_mem hlm
  have c' := S.get cp (by simp)
  have t' := talAt_same ta S (by simp)
  have lp := lt_of_get c'
  obtain ⟨b0, hb0⟩ : ∃ b0, o = some b0 := by
    obtain ⟨_, cs0, ⟨_, _, ⟨h0, _⟩ | ⟨b0, c0, sz0, he, _⟩⟩, _⟩ := L'
    · omega
    · exact ⟨b0, he⟩
  have lb0 := (L'.lt b0 hb0).2
  refine ⟨[p, b0], load_part (c := talCells t cv nv) c' (by rw [cs_val]; omega) rfl (talAt_kc t') ⟨by simp [RdOk, ptr, ptrBlk], ?_⟩⟩
  refine L'.get' hl fun b1 off ev bw hb1 _ Ow _ => ⟨?_, ?_⟩
  · rw [hb0] at hb1
    injection hb1 with hb1
    subst hb1
    simp [RdOk, ptr, ptrBlk]
  have hwE : talErr (withT t l) = 0 := with_err h0 (by omega) fun x hx => by have := hlb x hx; omega
  refine good36 hJ t' (ownX_sli Ow) (fun x hx => by have := hlb x hx; omega) (by omega) fun H2 nv2 S2 T2 => good35 hJ T2 hwE fun H3 S3 => ⟨fun x hx => (S2.trans S3).2 x (by simp at hx; rcases hx with rfl | rfl <;> omega) (by simp), ext0 (ext1 (notI (cnd_false.2 ?_)))⟩
  have T3 := S.trans (S2.trans S3)
  rw [with_truth hn (by omega) hlm]
  cases hT : truthS t (andU 127 (setF 0 l)) with
  | true =>
    refine cnd_true.2 (addI (by omega) ⟨i + 1, by dsimp only; omega, .inl ⟨T3, by omega, fun j l' hj hjl => ?_, ⟨G.ds, G.r3, G.r4, G.r5, G.r6, G.r7⟩, r8, r9, by show vint _ = vint _; congr 1⟩⟩)
    by_cases e : j = i
    · rw [e, hl] at hjl
      injection hjl with hjl
      rw [← hjl]
      exact hT
    · exact hni j l' (by omega) hjl
  | false =>
    have hc := clash_at hm hl hno hni hT
    have hz : truthS t 0 = false := by
      cases h2 : truthS t 0 with
      | false => rfl
      | true =>
        rw [truthS_zero h2] at hT
        cases hT
    have eE : clashE t = 0 := by unfold clashE; rw [if_neg (not_not_intro h0), hz]; rfl
    have eL : clashL t = l := by unfold clashL; rw [if_pos eE, hc]; rfl
    rw [eL] at sl
    refine cnd_false.2 ?_
    rw [eE]
    refine neqI (cndI (fun hx => absurd rfl hx) fun _ => ?_)
    refine ((L'.keep (S2.trans S3)).get hl fun q ev2 b2 Ob _ => ?_)
    refine good27 hJ (T3.sli sl (by simp)) (ownX_sli Ob) (by omega) (notI (hold.2 ?_))
    rw [s5_3]
    have e1 : decide (l = l) = true := decide_eq_true rfl
    rw [e1]
    show cnd (.bool false) _ _
    refine cnd_false.2 ?_
    show aBin prog .eql 32 (F.r 7) (vint 11) _
    rw [G.r7]
    refine eqlI ?_
    exact met5 hJ h0 hn hm hlm hT (T3.sli sl (by simp)) (T3.sli sw (by simp)) ⟨G.ds, G.r3, G.r4, by rw [← eE]; exact G.r5, G.r6, G.r7⟩ r8 rfl rfl fin

theorem walk5 (hJ : Closed prog main J) {nv : Value} {ns : List Int} (sn : Sli h nv 1 ns.length (ns.map vint)) (hln : ns.length < 4611686018427387904) (hK : ∀ h', K (.bool true) h') :
    W prog J 110 h.length 5 (codeOf f5) (RG.mk (regs [nv]) []) h (RetQ prog [.tmp 2] h.length K) := by
  rw [e5]
  have fin : ∀ {n0 : Nat} (H : List AObj), Good prog J 18 [] H fun v h' => retL n0 K [] [v] h' := fun H => good18 hJ (retL_same (by simp [unk]) (hK _))
  refine newX hJ sn hln fun H0 a0 => talY hJ a0 (by omega) (by omega) (by omega) fun t cv co q1 q2 H1 T S1 a1 OT => ?_
  have ta := OT.at
  have fine := T.fine (by omega) (by omega)
  have h0 : talErr t = 0 := T.err (by omega) (by omega)
  have hcol := fine.few
  refine qAl fun H2 p2 e2 S2 c2 l2 => qStA (c := talCells t cv co) c2 rfl rfl (tal_one ta) fun H3 S3 c3 l3 => ?_
  have S13 : SameX [] H1 H3 := (SameX.refl.trans S2).thru S3 (by simp; omega)
  have ta3 := talAt_same ta S13 (by simp)
  refine load_part (c := talCells t cv co) c3 (by rw [cs_val]; omega) rfl (talAt_kc ta3) (good32 hJ ta3 fun H4 lv S4 L4 => ext0 (ext1 ?_))
  have c4 := S4.get c3 (by simp)
  have ta4 := talAt_same ta3 S4 (by simp)
  refine load_part (c := talCells t cv co) c4 (by rw [cs_val]; omega) rfl (talAt_kc ta4) (good33 hJ ta4 fun H5 wv S5 W5 => ext0 (ext1 ?_))
  have c5 := S5.get c4 (by simp)
  have ta5 := talAt_same ta4 S5 (by simp)
  have L5 := S5.sli L4 (by simp)
  have kn : kn1 co = true := (sli_one ta5.co).2.2
  refine l5_1 hJ (fun m : Nat => t.counts.length + 1 - m) (fun m F H' => SameX [] H5 H' ∧ m ≤ t.counts.length + 1 ∧ (∀ m', m' < m → ∀ l' ∈ picksR t.counts.length m' 0, truthS t (andU 127 (setF 0 l')) = true) ∧ Reg5 t p2 lv wv F ∧ F.r 8 = vint (m : Nat)) ?_ (s := 0)
    (.inl ⟨SameX.refl, by omega, fun m' hm' => absurd hm' (Nat.not_lt_zero _), ⟨rfl, rfl, rfl, rfl, rfl, rfl⟩, rfl⟩)
  rintro m F H' ⟨S, hm, hno, G, r8⟩ okc hnc
  have c' := S.get c5 (by simp)
  have t' := talAt_same ta5 S (by simp)
  rw [s5_1, G.r3, G.r4, G.r5, G.r6, G.r7, r8, G.ds]
  refine offI (ldI (v := co) c' rfl kn (lenI t'.co (leqI (cndI (fun hle => ?_) fun hgt => ?_))))
  · refine offI (ldI (v := co) c' rfl kn (lenI t'.co ?_))
    refine good34 (a := 0) hJ (by omega) m (by omega) (by omega) fun H6 av o6 S6 L6 _ => ?_
    refine lists5 hJ h0 (by omega) (by omega) (S6.get c' (by simp)) (talAt_same t' S6 (by simp)) hno ((S.trans S6).sli L5 (by simp)) ((S.trans S6).sli W5 (by simp)) (L6.lo (Nat.zero_le _)) ⟨G.ds, G.r3, G.r4, G.r5, G.r6, G.r7⟩ r8 rfl rfl fin fun F' H7 S7 hall G7 r8' => ⟨m + 1, by dsimp only; omega, .inl ⟨(S.trans S6).trans S7, by omega, fun m' hm' => ?_, G7, r8'⟩⟩
    by_cases e : m' = m
    · rw [e]
      exact hall
    · exact hno m' (by omega)
  · obtain ⟨hz, hw⟩ := clash_none (t := t) (by omega) fun m' hm' l' hl' => hno m' (by omega) l' hl'
    have eE : clashE t = 11 := by unfold clashE; rw [if_neg (not_not_intro h0), hz]; rfl
    have eL : clashL t = [] := by unfold clashL; rw [if_neg (by rw [eE]; decide)]
    have wE : wrongE t = 0 := by unfold wrongE; rw [if_neg (not_not_intro h0), truthS_zero hz]; rfl
    have wL : wrongL t = [] := by unfold wrongL; rw [if_pos wE, hw]; rfl
    rw [eE, wE]
    rw [eL] at L5
    rw [wL] at W5
    exact eqlI (cndI (fun _ => lenI (S.sli L5 (by simp)) (eqlI (cndI (fun _ => eqlI (cndI (fun _ => lenI (S.sli W5 (by simp)) (eqlI (cndI (fun _ => fin _) fun hx => absurd rfl hx))) fun hx => absurd rfl hx)) fun hx => absurd rfl hx))) fun hx => absurd rfl hx)
end
end Go.Proofs.Ytdgpacdknpahnaa

namespace Go.Proofs.Ytdgpacdknpahnaa
open Go.Conc
open Go.ConcN (sumTo upd sumTo_upd upd_ne upd_same)
def Ends (P : Program) (Post : Value → World → Prop) (m : Machine) (t : Trace) : Prop :=
  ∃ N last o w' t', runNT P (N + 1) m t = (.ended o w', t') ∧ runN P N m = .next last ∧ step P last = .ended o w' ∧ Go.Conc.Good P Post last o w' t'

structure Base (W0 w : World) : Prop where
  tape : w.tape = W0.tape
  os : w.os = W0.os
  output : w.output = W0.output
  size : W0.heap.size ≤ w.heap.size

def J1 (P : Program) (W0 : World) (Post : Value → World → Prop) (g : Goroutine) (w : World) (ft : Foot) : Prop :=
  ∀ (gs : Array Goroutine) (w₁ : World) (sl : Option (Nat × Nat)) (t : Trace) (q : Nat → Nat), (∀ b, ft.rd b → b < w₁.heap.size) → (∀ b, ft.wr b → ft.rd b) → RelyW ft w w₁ → Base W0 w₁ → gs[0]? = some g → Leavers P t gs q → Past (fun _ => False) w₁.heap.size t →
    Ends P Post (crowd gs w₁ sl) t

section
variable {P : Program} {W0 : World} {Post : Value → World → Prop} {g : Goroutine} {w w₁ : World} {ft : Foot}
theorem Ends.next {m m' : Machine} {t : Trace} {ops : Array MemOp} (hs : stepT P m = (.next m', ops)) (h : Ends P Post m' (t ++ ops)) : Ends P Post m t := by
  obtain ⟨n, last, o, w, t', h1, h2, h3, h4⟩ := h
  exact ⟨n + 1, last, o, w, t', by rw [runNT_succ_next hs]; exact h1, by rw [runN_succ_next hs]; exact h2, h3, h4⟩

theorem evL_of {e : Event} {B : Nat} (he : EvOk ft e) (hb : ∀ b, ft.rd b → b < B) : EvL (fun _ => False) B e := by
  obtain ⟨loc, wr, sync⟩ := e
  unfold EvOk at he
  refine ⟨fun x _ hs => hs.elim, ?_, ?_, ?_⟩
  · intro hl
    simp only at hl
    subst hl
    exact he
  · intro hl
    simp only at hl
    subst hl
    exact he
  · cases loc with
    | cell a => exact hb _ he.2.1
    | obj r =>
      have hs : sync = false := he.1
      subst hs
      have := hb _ he.2.1
      cases wr <;> exact this
    | mark m =>
      cases m <;> first | exact he.elim | trivial
    | output => trivial
    | goroutines => trivial

theorem mem_g {i : Nat} {fn : FuncId} {pos : String} {es : Array Event} {op : MemOp} (h : op ∈ MemOp.ofEvents i fn pos es) : op.g = i := by
  rw [ofEvents_eq] at h
  obtain ⟨e, he, rfl⟩ := Array.mem_map.1 h
  rfl

theorem relyW_at (ft : Foot) (w : World) (d : Nat) : RelyW ft w (w.at d) := ⟨fun _ _ => rfl, Nat.le_refl _, rfl, rfl, rfl⟩

theorem J1.both (hrun : g.status = .running)
    (h : ∀ w₁, RelyW ft w w₁ → Base W0 w₁ → (∃ g' w' es, stepG P true g w₁ = .go g' w' es ∧ g'.status = .running ∧ GuarW ft w₁ w' es ∧ J1 P W0 Post g' w' (ft.ext w₁.heap.size w'.heap.size)) ∨
      ∃ v es, stepG P true g w₁ = .ended (.done v) w₁ es ∧ (∀ e ∈ es, EvOk ft e) ∧ Post v w₁) : J1 P W0 Post g w ft := by
  intro gs w₁ sl t q hbd hsub hrel hbase h0 hL hP
  generalize hM : sumTo gs.size q = M
  induction M using Nat.strongRecOn generalizing gs w₁ sl t q with
  | ind M ih =>
    have haw : ∀ g ∈ gs, awake g := by
      intro x hx
      obtain ⟨i, hi, rfl⟩ := Array.mem_iff_getElem.1 hx
      rcases Nat.eq_zero_or_pos i with rfl | hpos
      · have : gs[0] = g := by simpa [Array.getElem?_eq_getElem hi] using h0
        rw [this]; exact awake_of (.inl hrun)
      · exact awake_of ((hL.old i _ hpos (Array.getElem?_eq_getElem hi)).status.elim .inl fun x => .inr (.inr x))
    obtain ⟨i, x, d, sl', hi, hg, hst⟩ := crowd_pick (P := P) (w := w₁) (sl := sl) haw ⟨0, g, h0, hrun⟩
    rcases Nat.eq_zero_or_pos i with rfl | hpos
    · obtain rfl : x = g := by rw [h0] at hi; exact (Option.some.inj hi).symm
      rcases h (w₁.at d) (hrel.trans (relyW_at ft w₁ d)) ⟨hbase.tape, hbase.os, hbase.output, hbase.size⟩ with ⟨g', w', es, hgo, hrun', hgu, hJ⟩ | ⟨v, es, hend, hes, hpost⟩
      · have hrunT := runT_crowd_go (P := P) (sl := sl') (i := 0) hi (show stepG P (0 == 0) x (w₁.at d) = _ from hgo)
        have hsz : ((gs.map (woken P x g' w')).setIfInBounds 0 g').size = gs.size := by simp
        have hlt : 0 < gs.size := (Array.getElem?_eq_some_iff.1 h0).1
        have hw' : w₁.heap.size ≤ w'.heap.size := hgu.size
        refine Ends.next (hst.trans hrunT) ?_
        refine hJ _ w' sl' _ q (fun b hb => ?_) (fun b hb => ?_) (RelyW.refl _ _) ⟨hgu.tape.trans hbase.tape, hgu.os.trans hbase.os, hgu.output.trans hbase.output, Nat.le_trans hbase.size hgu.size⟩ (by simp [hlt]) ⟨fun j y hj hy => ?_, fun j hj => ?_⟩ ?_
        · rcases hb with hb | hb
          · exact Nat.lt_of_lt_of_le (hbd b hb) hw'
          · exact hb.2
        · rcases hb with hb | hb
          · exact .inl (hsub b hb)
          · exact .inr hb
        · have hne : 0 ≠ j := by omega
          rw [Array.getElem?_setIfInBounds_ne hne, Array.getElem?_map] at hy
          obtain ⟨z, hz, rfl⟩ := Option.map_eq_some_iff.1 hy
          have hq := hL.old j z hj hz
          rw [woken_quitsD hq, Deaf_other t (by omega) _ (fun op hop => mem_g hop)]
          exact hq
        · rw [Deaf_other t (g' := 0) (by simp at hj; omega) _ (fun op hop => mem_g hop)]
          exact hL.above j (by simpa using hj)
        · exact (hP.mono hw').own fun e he => evL_of (hgu.evs e he) fun b hb => Nat.lt_of_lt_of_le (hbd b hb) hw'
      · have hrunT := runT_many_ended (P := P) (sl := sl') (i := 0) hi (show stepG P (0 == 0) x (w₁.at d) = _ from hend)
        have hP' := hP.own (fn := x.frame.fn) (pos := x.frame.place) fun e he => evL_of (hes e he) hbd
        refine ⟨0, crowd gs w₁ sl, .done v, w₁.at d, _, by simp only [runNT, hst.trans hrunT], rfl, by simp [step, hst.trans hrunT], v, rfl, hpost, hP'.clean, hP'.over, ⟨fun y hy => ?_, rfl⟩, fun j y hy hj => ?_⟩
        · obtain ⟨j, hj⟩ := List.mem_iff_getElem?.1 hy
          rw [List.getElem?_drop] at hj
          exact ⟨_, (hL.old (1 + j) y (by omega) (by simpa [crowd] using hj)).leaves⟩
        · have hq := hL.old j y (by omega) hy
          refine ⟨q j, ?_⟩
          have e : (t ++ MemOp.ofEvents 0 x.frame.fn x.frame.place es).deaf j (t ++ MemOp.ofEvents 0 x.frame.fn x.frame.place es).size = Deaf t j :=
            Deaf_other t (g := j) (g' := 0) (by omega) _ (fun op hop => mem_g hop)
          rw [e]
          exact hq.hears _
    · have hq := hL.old i x hpos hi
      have hi0 : (i == 0) = false := by simp; omega
      have hlt : i < gs.size := (Array.getElem?_eq_some_iff.1 hi).1
      cases hqi : q i with
      | zero => rw [hqi] at hq; rw [hq.1] at hg; cases hg
      | succ k =>
        rw [hqi] at hq
        rcases hq with ⟨hf, _⟩ | ⟨_, g', es, hm, hstp, hq'⟩
        · rw [hf] at hg; cases hg
        have hrunT := runT_crowd_go (P := P) (sl := sl') (i := i) hi (by rw [hi0]; exact hstp (w₁.at d))
        have hsz : ((gs.map (woken P x g' (w₁.at d))).setIfInBounds i g').size = gs.size := by simp
        have hsum : sumTo gs.size (upd q i k) + (k + 1) = sumTo gs.size q + k := by
          have := sumTo_upd q k id hlt
          simpa [hqi] using this
        refine Ends.next (hst.trans hrunT) (ih (sumTo gs.size (upd q i k)) (by omega) _ (w₁.at d) sl' _ (upd q i k) hbd (hrel.trans (relyW_at ft w₁ d)) ⟨hbase.tape, hbase.os, hbase.output, hbase.size⟩ ?_ ⟨fun j y hj hy => ?_, fun j hj => ?_⟩ (hP.mute (by omega) hm) (by rw [hsz]))
        · have hne : i ≠ 0 := by omega
          rw [Array.getElem?_setIfInBounds_ne hne, Array.getElem?_map, h0]
          simp [woken_run hrun]
        · by_cases hji : i = j
          · subst hji
            rw [Array.getElem?_setIfInBounds_self_of_lt (by simpa using hlt)] at hy
            obtain rfl := Option.some.inj hy
            rw [upd_same, Deaf_own]
            exact hq'
          · rw [Array.getElem?_setIfInBounds_ne hji, Array.getElem?_map] at hy
            obtain ⟨z, hz, rfl⟩ := Option.map_eq_some_iff.1 hy
            have hqj := hL.old j z hj hz
            rw [woken_quitsD hqj, upd_ne q k (Ne.symm hji), Deaf_other t hji _ (fun op hop => mem_g hop)]
            exact hqj
        · rw [Deaf_other t (g' := i) (by simp at hj; omega) _ (fun op hop => mem_g hop)]
          exact hL.above j (by simpa using hj)

theorem J1.closed (P : Program) (W0 : World) (Post : Value → World → Prop) : Closed P true (J1 P W0 Post) where
  rely := fun h hr gs w₂ sl t q hbd hsub hrel hbase h0 hL hP => h gs w₂ sl t q hbd hsub (hr.trans hrel) hbase h0 hL hP
  step := fun hrun h => J1.both hrun fun w₁ h₁ _ => by
    obtain ⟨g', w', es, a, b, c, d⟩ := h w₁ h₁
    exact .inl ⟨g', w', es, a, b, c, d⟩
end
end Go.Proofs.Ytdgpacdknpahnaa

namespace Go.Proofs.Ytdgpacdknpahnaa
open Go.Conc
section
variable {P : Program} {W0 : World} {Post : Value → World → Prop} {ρ : Env} {h : List AObj} {FC : Frm} {w : World} {ft : Foot} {f : RG} {a : Act} {b : FB} {K : Value → List AObj → Prop} {n0 : Nat}
theorem leave_top {fn : Func} (hk : b.kind = .normal) (hf : P.funcs[b.fn]? = some fn) (hin : P.inits.idxOf? b.fn = none)
    (hc : ∀ v h' ρ' w' ft' cv, K v h' → HRel ρ' h' FC w' ft' → Env.upto n0 ρ ρ' → n0 ≤ h'.length → VRel h'.length ρ' v cv → Base W0 w' → Post cv w') :
    ∀ (ds : List Nat) (h : List AObj) (w : World) (ft : Foot) (a : Act) (fr : Frame), fr.fn = b.fn → fr.kind = .normal → fr.mode = .returning → fr.tmps = a.tmps → fr.defers = ds.map (fun d => { target := .collected (ρ.blk d), args := #[] }) → RegRel h.length ρ f.r a.tmps → HRel ρ h FC w ft → n0 ≤ h.length →
      takeW ds h (fun h => resW P fn.results.toList f.r h fun vs => K (pack vs) h ∨ ∃ σ h' v, GC n0 σ h h' ∧ pack vs = sub σ v ∧ VOk h'.length v ∧ K v h') → J1 P W0 Post (G fr []) w ft
  | [], h, w, ft, a, fr, e1, e2, e3, e4, e5, hr, H, hn, hq => by
    obtain ⟨fn', tmps, todo, defers, mode, kind, ro⟩ := fr
    simp only at e1 e2 e3 e4 e5
    subst e1 e2 e3 e4 e5
    refine J1.both rfl fun w₁ h₁ hbase => .inr ?_
    have H₁ := H.rely h₁
    have hrun : RunsTo P (EvOk ft) (results fn a.tmps) w₁ fun cv w' => w' = w₁ ∧ ∃ vs, cv = ren ρ (pack vs) ∧ (∀ v ∈ vs, VOk h.length v) ∧ (K (pack vs) h ∨ ∃ σ h' v, GC n0 σ h h' ∧ pack vs = sub σ v ∧ VOk h'.length v ∧ K v h') := by
      unfold results
      have : (fn.results.mapM (resF a.tmps)) = List.toArray <$> fn.results.toList.mapM (resF a.tmps) := by
        rw [Array.mapM_eq_mapM_toList]
      show RunsTo P (EvOk ft) (do
        let vs ← fn.results.mapM (resF a.tmps)
        pure (if h : vs.size = 1 then vs[0] else .tuple vs)) w₁ _
      rw [this]
      refine RunsTo.bind (RunsTo.map (res_run (n := 0) H₁ hr fn.results.toList hq fun vs hvs hok => RunsTo.pure ⟨rfl, vs, ?_, hok, hvs⟩))
      exact pack_ren vs
    obtain ⟨cv, w', es, hr', he, rfl, vs, rfl, hvok, hvs⟩ := hrun #[] (by simp)
    have hes : ∀ e ∈ seen P b.fn es, EvOk ft e := fun e hm => he e (mem_seen hm)
    refine ⟨ren ρ (pack vs), seen P b.fn es, ?_, hes, ?_⟩
    · simp only [G, stepG, unwind, List.map_nil, hf, hr']
      simp [doReturn, GStep.after, hin]
    · rcases hvs with hK | ⟨σ, h', v, g, hp, hok, hK⟩
      · exact hc _ h _ w' ft _ hK H₁ (Env.upto_refl _ _) hn (.inr ⟨pack_ok hvok, rfl⟩) hbase
      · rw [hp, ren_sub]
        exact hc v h' _ w' ft _ hK (g.rel H₁) g.upto g.le (.inr ⟨hok, rfl⟩) hbase
  | d :: ds, h, w, ft, a, fr, e1, e2, e3, e4, e5, hr, H, hn, hq => by
    obtain ⟨fn', tmps, todo, defers, mode, kind, ro⟩ := fr
    simp only at e1 e2 e3 e4 e5
    subst e1 e2 e3 e4 e5
    obtain ⟨hd, hq⟩ := hq
    refine (J1.closed P W0 Post).step rfl fun w₁ h₁ => ?_
    have H₁ := H.rely h₁
    obtain ⟨cv, w', es, hr', he, rfl, H', hst, hsz⟩ := take_run (P := P) H₁ hd (Q := fun l w' => l = [] ∧ HRel ρ (h.set d .dead) FC w' ft ∧ Stays ft w₁ w' ∧ w'.heap.size = w₁.heap.size) (fun w' a1 a2 a3 => ⟨rfl, a1, a2, a3⟩) #[] (by simp)
    have hes : ∀ e ∈ seen P b.fn es, EvOk ft e := fun e hm => he e (mem_seen hm)
    refine ⟨G { fn := b.fn, tmps := a.tmps, todo := todo, defers := ds.map (fun d => { target := .collected (ρ.blk d), args := #[] }), mode := .returning, kind := .normal, roundOf := ro } [], w', seen P b.fn es, ?_, rfl, hst.guar hes, ?_⟩
    · simp only [G, stepG, unwind, List.map_cons, hr']
      simp [GStep.after]
    · rw [hsz, Foot.ext_self]
      exact leave_top hk hf hin hc ds _ w' ft a _ rfl rfl rfl rfl rfl (by rw [List.length_set]; exact hr) H' (by rw [List.length_set]; exact hn) hq

theorem top_of_W (hm : P.follows .mixedOrders = true) {g : FuncId} {fn : Func} (hf : P.funcs[g]? = some fn) {c : Code} (hb : fn.body = some c) (hin : P.inits.idxOf? g = none) {args : List Value} {cargs : Array Value} (ha : args.length ≤ fn.ntmps) (hl : cargs.size = args.length)
    (hr : ∀ i : Nat, VRel h.length ρ (args.getD i unk) (cargs.toList.getD i undef)) (H : HRel ρ h FC w ft)
    (hs : W P (J1 P W0 Post) fn.ntmps h.length g c ⟨regs args, []⟩ h (RetQ P fn.results.toList h.length K))
    (hc : ∀ v h' ρ' w' ft' cv, K v h' → HRel ρ' h' FC w' ft' → Env.upto h.length ρ ρ' → h.length ≤ h'.length → VRel h'.length ρ' v cv → Base W0 w' → Post cv w') : J1 P W0 Post (G (Frame.enter P g cargs .normal) []) w ft := by
  have hJ := J1.closed P W0 Post
  obtain ⟨cargs⟩ := cargs
  simp only at hl hr
  have he : Frame.enter P g ⟨cargs⟩ .normal = FB.at ⟨g, .normal, none⟩ ⟨⟨cargs⟩ ++ Array.replicate (fn.ntmps - cargs.length) undef, []⟩ [.code c] := by
    simp [Frame.enter, FB.at, hf, hb]
  rw [he]
  have A : ActRel h.length ρ fn.ntmps ⟨regs args, []⟩ ⟨⟨cargs⟩ ++ Array.replicate (fn.ntmps - cargs.length) undef, []⟩ := by
    refine ⟨fun t => ?_, by simp at hl ⊢; omega, rfl, by simp⟩
    have := hr t
    have ht : ((⟨cargs⟩ : Array Value) ++ Array.replicate (fn.ntmps - cargs.length) undef).getD t undef = cargs.getD t undef := by
      rw [Array.getD_eq_getD_getElem?, List.getD_eq_getElem?_getD]
      by_cases hx : t < cargs.length
      · rw [Array.getElem?_append_left (by simpa using hx)]
        simp
      · rw [Array.getElem?_append_right (by simp; omega), List.getElem?_eq_none (by omega)]
        simp only [Array.getElem?_replicate]
        split <;> rfl
    rw [ht]
    exact this
  have last : ∀ f' h' ρ' w' ft' a' todo, RetQ P fn.results.toList h.length K .ret f' h' → ActRel h'.length ρ' fn.ntmps f' a' → HRel ρ' h' FC w' ft' → Env.upto h.length ρ ρ' → h.length ≤ h'.length →
      J1 P W0 Post (G { (FB.at ⟨g, .normal, none⟩ a' todo) with mode := .returning } []) w' ft' := by
    intro f' h' ρ' w' ft' a' todo q A' H' hu hl
    exact leave_top (b := ⟨g, .normal, none⟩) (f := f') (n0 := h.length) (ρ := ρ') rfl hf hin (fun v h2 ρ2 w2 ft2 cv k H2 u2 l2 v2 => hc v h2 ρ2 w2 ft2 cv k H2 (Env.upto_trans hu u2) l2 v2) f'.ds h' w' ft' a' _ rfl rfl rfl rfl A'.defers A'.regs H' hl q
  refine W_sound hJ hm c hs ⟨g, .normal, none⟩ _ [] [] (fun jump a w ft => jump = some .ret ∧ ∀ todo, J1 P W0 Post (G { (FB.at ⟨g, .normal, none⟩ a todo) with mode := .returning } []) w ft) ρ FC w ft rfl (by simp) ?_ A H (Nat.le_refl _) ?_
  · rintro jump a w ft todo ⟨rfl, hj⟩ hh
    rcases hh with ⟨_, k, rfl⟩ | ⟨id, k, e, _⟩ | ⟨e, _⟩
    · exact hJ.ctrl rfl rfl (fun w => by simp [G, stepG, stepG.exec, FB.at]) (hj (.code .ret :: k))
    · cases e
    · cases e
  · intro e f' h' ρ' w' ft' a' q A' H' hu hl
    cases e with
    | normal => exact hJ.ctrl rfl rfl (fun w => by simp [G, stepG, stepG.exec, FB.at]) (last f' h' ρ' w' ft' a' [] q A' H' hu hl)
    | ret => exact ⟨rfl, fun todo => last f' h' ρ' w' ft' a' todo q A' H' hu hl⟩
    | exit id => exact q.elim
    | goto l => exact q.elim
    | panic l => exact q.elim
    | outgrown => exact q.elim

theorem run_of_J1 {g : Goroutine} {w : World} {ft : Foot} (h : J1 P W0 Post g w ft) (hb : ∀ b, ft.rd b → b < w.heap.size) (hs : ∀ b, ft.wr b → ft.rd b) (hw : W0 = w) : Ends P Post (solo g w) #[] := by
  rw [solo_eq_crowd]
  exact h #[g] w none #[] (fun _ => 0) hb hs (RelyW.refl _ _) (by subst hw; exact ⟨rfl, rfl, rfl, Nat.le_refl _⟩) rfl (leavers_one P g) (past_nil.mono (Nat.zero_le _))
end
end Go.Proofs.Ytdgpacdknpahnaa

namespace Go.Proofs.Ytdgpacdknpahnaa
open Go.Conc Go.RowKit
def idEnv : Env := ⟨fun b => b, fun _ => 0⟩
def startFt (w : World) : Foot := ⟨fun b => b < w.heap.size, fun _ => False⟩
def startFC (w : World) : Frm := ⟨fun b => w.heap[b]?, fun _ => False⟩

def Fine (n : Nat) (v : Value) : Prop := VOk n v ∧ one v = true ∧ ren idEnv v = v

open Classical in
noncomputable def clean (n : Nat) (v : Value) : Value := if Fine n v then v else unk

noncomputable def absO (n : Nat) : Obj → AObj
  | .cells c _ _ => .cells (c.toList.map (clean n)) false 0
  | _ => .dead

noncomputable def absH (w : World) : List AObj := w.heap.toList.map (absO w.heap.size)

section
variable {w w' : World} {n : Nat}
theorem clean_fine {v : Value} (h : Fine n v) : clean n v = v := by simp [clean, h]
theorem absH_len : (absH w).length = w.heap.size := by simp [absH]
theorem absH_get {b : Nat} : (absH w)[b]? = (w.heap[b]?).map (absO w.heap.size) := by simp [absH]

theorem absO_wrt (x : Obj) : (absO n x).wrt = false := by cases x <;> rfl

theorem start_rel (w : World) : HRel idEnv (absH w) (startFC w) w (startFt w) where
  obj := fun b o hb => by
    rw [absH_get] at hb
    obtain ⟨x, hx, rfl⟩ := Option.map_eq_some_iff.1 hb
    show ORel (absH w).length idEnv b (absO w.heap.size x) w.heap[b]?
    rw [absH_len, hx]
    cases x with
    | cells c ty fr =>
      refine ⟨fun i v hv => ?_, fun _ => by simp, fun hz => absurd rfl hz, fun e => by cases e⟩
      rw [List.getElem?_map] at hv
      obtain ⟨u, hu, rfl⟩ := Option.map_eq_some_iff.1 hv
      by_cases hf : Fine w.heap.size u
      · rw [clean_fine hf]
        exact .inr ⟨hf.1, hf.2.1, by rw [hf.2.2]; simpa using hu⟩
      · exact .inl ⟨by simp [clean, hf], rfl⟩
    | _ => trivial
  inj := fun b b' o o' _ _ _ _ e => e
  rd := fun b o hb _ => by
    have : b < (absH w).length := (List.getElem?_eq_some_iff.1 hb).1
    rw [absH_len] at this
    exact this
  wr := fun b o hb hw => by
    rw [absH_get] at hb
    obtain ⟨x, hx, rfl⟩ := Option.map_eq_some_iff.1 hb
    rw [absO_wrt] at hw
    cases hw
  lt := fun b hb => hb
  sub := fun b hb => hb.elim
  kept := fun b o hb => by
    refine ⟨hb, ?_, fun a oa ha hw => ?_⟩
    · exact (Array.getElem?_eq_some_iff.1 hb).1
    · rw [absH_get] at ha
      obtain ⟨x, hx, rfl⟩ := Option.map_eq_some_iff.1 ha
      rw [absO_wrt] at hw
      cases hw
  keptW := fun b hb => hb.elim

theorem absH_cell {b o : Nat} {v : Value} (hc : w.cell? ⟨b, o, none⟩ = some v) (hf : Fine w.heap.size v) : ∃ c, (absH w)[b]? = some (.cells c false 0) ∧ c[o]? = some v := by
  unfold World.cell? at hc
  simp only at hc
  split at hc
  · rename_i c ty fr hx
    refine ⟨c.toList.map (clean w.heap.size), by rw [absH_get, hx]; rfl, ?_⟩
    have hc' : c[o]? = some v := by simpa using hc
    rw [List.getElem?_map, Array.getElem?_toList, hc']
    simp [clean_fine hf]
  · cases hc

theorem below_of {ρ' : Env} {h' : List AObj} {ft' : Foot} (H : HRel ρ' h' (startFC w) w' ft') (B : Base w w') : Below w.heap.size w w' :=
  ⟨B.os, B.tape, B.output, B.size, fun k hk => by
    have : (startFC w).ob k = some w.heap[k] := by simp [startFC, hk]
    rw [(H.kept k _ this).1, Array.getElem?_eq_getElem hk]⟩
end
end Go.Proofs.Ytdgpacdknpahnaa

namespace Go.Proofs.Ytdgpacdknpahnaa
open Go.Conc Go.ChangeShapes Go.WideShapes Go.ChangeAt Go.RowKit Go.Proofs.Try
set_option maxRecDepth 100000
theorem own : ownKnob prog.godebug = none := by kernel_rfl
theorem laidOut : laidOutB prog = true := by kernel_rfl

def ArgOk (W : World) (v : Value) : Prop := VOk W.heap.size v ∧ ren idEnv v = v

theorem law_run1 {g : FuncId} {fn : Func} {c : Code} (hf : prog.funcs[g]? = some fn) (hb : fn.body = some c) (hin : prog.inits.idxOf? g = none) (W₀ : World) (args : List Value) (ha : args.length ≤ fn.ntmps) (hok : ∀ v ∈ args, ArgOk W₀ v)
    (walk : ∀ Post, W prog (J1 prog W₀ Post) fn.ntmps (absH W₀).length g c ⟨regs args, []⟩ (absH W₀) (RetQ prog fn.results.toList (absH W₀).length fun v _ => v = .bool true)) :
    Ends prog (fun v w' => v = .bool true ∧ Below W₀.heap.size W₀ w') (solo (G (Frame.enter prog g ⟨args⟩ .normal) []) W₀) #[] := by
  refine run_of_J1 (W0 := W₀) (ft := startFt W₀) (top_of_W mixed hf hb hin ha rfl (fun i => ?_) (start_rel W₀) (walk _) ?_) (fun b hb => hb) (fun b hb => hb.elim) rfl
  · show VRel (absH W₀).length idEnv (args.getD i unk) (args.getD i undef)
    simp only [List.getD_eq_getElem?_getD]
    cases hi : args[i]? with
    | none => exact .inl rfl
    | some v =>
      obtain ⟨h1, h2⟩ := hok v (List.mem_of_getElem? hi)
      exact .inr ⟨by rw [absH_len]; exact h1, h2.symm⟩
  · intro v h' ρ' w' ft' cv hv H' _ _ hcv hB
    subst hv
    refine ⟨?_, below_of H' hB⟩
    rcases hcv with e | ⟨_, e⟩
    · cases e
    · rw [e]
      rfl

theorem law_run {g : FuncId} {fn : Func} {c : Code} (hf : prog.funcs[g]? = some fn) (hb : fn.body = some c) (hin : prog.inits.idxOf? g = none) (W₀ : World) (args : List Value) (ha : args.length ≤ fn.ntmps) (hok : ∀ v ∈ args, ArgOk W₀ v)
    (walk : ∀ J : JT, Closed prog true J → W prog J fn.ntmps (absH W₀).length g c ⟨regs args, []⟩ (absH W₀) (RetQ prog fn.results.toList (absH W₀).length fun v _ => v = .bool true)) :
    Ends prog (fun v w' => v = .bool true ∧ Below W₀.heap.size W₀ w') (solo (G (Frame.enter prog g ⟨args⟩ .normal) []) W₀) #[] :=
  law_run1 hf hb hin W₀ args ha hok fun _ => walk _ (J1.closed prog W₀ _)

section
variable {H : Type} {enc : TypeId × Value → H}
theorem arg_ints {t e : TypeId} (ht : prog.underlying t = some (.slice e)) (he : prog.underlying e = some (.int .i64)) (hc : prog.cellsOf e = 1) {W : World} {base : Nat} {v : Value} {d : DataW H} {ps : List MemPlace}
    (hval : Value.okWide prog W .any base t v) (hd : DataW.Trod enc prog W 0 (fun _ => true) true t v d ps) :
    ∃ zs : List Int, Sli (absH W) v 1 zs.length (zs.map vint) ∧ ArgOk W v ∧ (zs = [] ∨ ∃ es sp, d = .slice es sp ∧ zs.length ≤ es.length + sp.length) := by
  obtain ⟨a0, len, cap, rfl⟩ := okWide_slice ht hval
  obtain ⟨fuel, hf⟩ := hd
  rcases open_ints ht he hc hf with ⟨hcs, hx⟩ | ⟨a, len', cap', zs, hcs, _, hl, hm, hz, hx, hcell, hwz⟩
  · simp [Value.cells] at hcs
    obtain ⟨rfl, rfl, rfl⟩ := hcs
    exact ⟨[], sli_nil, ⟨by simp [VOk], by simp [ren]⟩, .inl rfl⟩
  · simp [Value.cells] at hcs
    obtain ⟨rfl, rfl, rfl⟩ := hcs
    simp only [Prod.mk.injEq] at hx
    obtain ⟨rfl, rfl⟩ := hx
    simp only [if_true] at hz
    simp only [Value.okWide, ht, Cell.okWide, Cell.ok, World.has] at hval
    obtain ⟨_, _, _, hspot, row, cells, hshape, _⟩ := hval
    obtain ⟨b, o, spot⟩ := a
    simp only at hspot hshape
    subst hspot
    have hb : b < W.heap.size := by
      unfold World.shape? at hshape
      split at hshape
      · rename_i h
        exact (Array.getElem?_eq_some_iff.1 h).1
      · cases hshape
    have hlen : (zs.take len).length = len := by simp; omega
    have hcell' : ∀ i, i < zs.length → W.cell? ⟨b, o + i, none⟩ = some (vint (zs.getD i 0)) := by
      intro i hi
      have := hcell i hi
      unfold Addr.add at this
      by_cases h0 : i = 0
      · subst h0; simpa using this
      · simpa [h0] using this
    have hmax : cap < fz := by
      simp only [maxLen] at hm
      unfold fz
      omega
    refine ⟨zs.take len, ?_, ⟨by simp only [VOk, AddrOk]; exact ⟨hb, trivial⟩, ?_⟩, .inr ⟨_, _, rfl, ?_⟩⟩
    · refine ⟨some ⟨b, o, none⟩, cap, by rw [hlen], ⟨by simp, kn_ints _⟩, .inr ⟨b, o, rfl, ?_⟩⟩
      rw [hlen]
      by_cases h0 : len = 0
      · exact .inl h0
      · right
        have fine : ∀ n : Int, Fine W.heap.size (vint n) := fun n => ⟨by simp [VOk], rfl, by simp [ren]⟩
        obtain ⟨c, hc1, hc2⟩ := absH_cell (hcell' 0 (by omega)) (fine _)
        refine ⟨c, false, 0, hc1, ?_⟩
        apply List.ext_getElem?
        intro i
        rw [Nat.mul_one]
        by_cases hi : i < len
        · obtain ⟨c', hc1', hc2'⟩ := absH_cell (hcell' i (by omega)) (fine _)
          rw [hc1] at hc1'
          cases hc1'
          rw [List.getElem?_take, if_pos hi, List.getElem?_drop, hc2']
          have hzi : i < zs.length := by omega
          simp [hi, hzi]
        · rw [List.getElem?_take, if_neg hi, List.getElem?_eq_none (by simp; omega)]
    · have hnf : ¬ fz ≤ cap := by omega
      simp [ren, renAddr, renCap, idEnv, hnf]
    · simp only [lits, List.length_map, List.length_take, List.length_drop]
      omega
end
end Go.Proofs.Ytdgpacdknpahnaa

namespace Go.Proofs.Ytdgpacdknpahnaa
open Go.Conc Go.ChangeShapes Go.WideShapes Go.ChangeAt Go.RowKit Go.Proofs.Try
set_option maxRecDepth 100000
theorem lifted5 (os : Os) (started : os.Started) (H : Type) (enc : TypeId × Value → H) :
    ReturnsInLeavingWide {} checked os 5 .any (Rows.tallyClashSpec.pre6 enc prog f5 Rows.tallyClashRow.domain false) (Rows.tallyClashSpec.post enc prog f5 false true false false) := by
  refine returnsInLeavingWide_of_change_sized (C := checked) own started at5
    (ChangeSpec.witness6 (enc := enc) (C := checked) false ⟨#[], #[.slice none 0 0], []⟩ 8 (by kernel_rfl) (by kernel_rfl) (by kernel_rfl) (by kernel_rfl)) ?_
  intro W base args ds gs before hval0 hW _ hsz0 _
  have hsz : (DataW.weightsEach prog (f5.params.toList ++ Rows.tallyClashSpec.plain.varTypes prog) (ds ++ gs)).all (· ≤ reachBytes) = true := hsz0
  clear hsz0
  have hval : ∀ (j : Nat) t v, f5.params[j]? = some t → args[j]? = some v → Value.okWide prog W .any base t v := hval0
  have hW' := hW
  obtain ⟨p, q, hA0, hV, rfl, _, _⟩ := hW
  have hA : DataW.TrodAll enc prog W 0 (fun _ => true) true f5.params.toList args.toList ds p := hA0
  have hps : f5.params = #[22] := by kernel_rfl
  rw [hps] at hA hval hsz
  obtain ⟨v0, d0, rfl, rfl, h0⟩ := trodAll_one hA
  obtain ⟨rfl, rfl⟩ := trodVars_none hV
  have u3 : prog.underlying 3 = some (.int .i64) := by kernel_rfl
  have u22 : prog.underlying 22 = some (.slice 3) := by kernel_rfl
  have u4 : prog.underlying 4 = some .bool := by kernel_rfl
  have c3 : prog.cellsOf 3 = 1 := by kernel_rfl
  have b3 : prog.bytesOf 3 = 8 := by kernel_rfl
  have hlt : ∀ x ∈ p, x.block < W.heap.size := fun x hx => by simpa using hW'.lt x (by simpa using hx)
  have hargs : ∀ (W' : World), Below W.heap.size W W' → DataW.TrodAll enc prog W' 0 (fun b => decide (b < W.heap.size)) true [22] [v0] [d0] p := fun W' hn =>
    trodAll_mk1 (Below.trod laidOut (by kernel_rfl) (of_decide_eq_true (by kernel_rfl)) h0 hn hlt)
  obtain ⟨ns, sn, ok2, hbig⟩ := arg_ints u22 u3 c3 (hval 0 22 v0 rfl rfl) h0
  have hln : ns.length < 4611686018427387904 := by
    rcases hbig with rfl | ⟨es, sp, rfl, hle⟩
    · simp
    · have := sized_slice hsz (j := 0) (t := 22) (e := 3) rfl rfl u22
      rw [b3] at this
      simp only [reachBytes] at this
      omega
  obtain ⟨M, last, o, w', t', r1, r2, r3, r4⟩ := law_run (g := 5) (fn := f5) at5 body5 (by kernel_rfl) W [v0] (Nat.le_of_ble_eq_true (by kernel_rfl : Nat.ble 1 f5.ntmps = true))
    (by
      intro v hv
      simp only [List.mem_cons, List.not_mem_nil, or_false] at hv
      subst hv
      exact ok2)
    (fun J hJ => walk5 (K := fun v _ => v = .bool true) hJ sn hln fun _ => rfl)
  refine ⟨M, last, o, w', t', r1, r2, r3, r4.mono fun v hF => ?_⟩
  obtain ⟨rfl, hbelow⟩ := hF
  refine ⟨_, _, _, [], _, [], hW', ?_, hargs _ hbelow, by rfl, hbelow.frame _, fun h => by cases h⟩
  exact trodAll_mk1 (shut_bool u4 true)

theorem tallyClash_holds : Rows.TallyClashSaid :=
  OpenClaim.holds_of_wide_leaving 5 f5 rfl rfl rfl rfl rfl rfl rfl ⟨rfl, rfl, rfl, rfl, rfl⟩ rfl rfl rfl rfl rfl (by kernel_rfl) at5 (by kernel_rfl)
    (of_decide_eq_true (by kernel_rfl)) (by unfold Func.isWrapper; first | (rw [if_pos (by decide +kernel)]; kernel_rfl) | (rw [if_neg (by decide +kernel)]; exact ⟨rfl, rfl⟩))
    (fun os started H enc _ => lifted5 os started H enc)

#print axioms tallyClash_holds
end Go.Proofs.Ytdgpacdknpahnaa
