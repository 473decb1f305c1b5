/- Parts of the proof, 6. No conditions. -/
import Derived.Test.YthnccaajpdnndaaK5
import Derived.Test.YthnccaajpdnndaaK2
import Derived.Test.YthnccaajpdnndaaK3
set_option linter.unusedSimpArgs false
set_option linter.unusedVariables false
namespace Go.Proofs.Ythnccaajpdnndaa
open Go.Conc Go.Proofs.Try
set_option maxRecDepth 100000
def strsB : Nat → List (List UInt8)
 | 0 => [[]]
 | n + 1 => (strsB n).map (100 :: ·) ++ (strsB n).map (119 :: ·)
def fallX (s : SkyR) : Spl → List UInt8 → Bool
 | _, [] => true
 | x, c :: u => nextOk s x c && fallX s (nextX x c) u
theorem growB_strs {s : SkyR} : ∀ {n : Nat} {w : List UInt8} {x : Spl}, growB s n w x = ((strsB n).filter (fallX s x)).map (w ++ ·)
 | 0, w, x => by
  have e : List.filter (fallX s x) [[]] = [[]] := by
   rw [List.filter_cons, if_pos (show fallX s x [] = true by unfold fallX; rfl)]
   rfl
  show [w] = (List.filter (fallX s x) [[]]).map (w ++ ·)
  rw [e]
  simp
 | n + 1, w, x => by
  have part : ∀ c : UInt8, (if nextOk s x c = true then growB s n (w ++ [c]) (nextX x c) else []) = (((strsB n).map (c :: ·)).filter (fallX s x)).map (w ++ ·) := by
   intro c
   rw [List.filter_map]
   by_cases h : nextOk s x c = true
   ·rw [if_pos h, growB_strs]
    have : (fallX s x ∘ fun x => c :: x) = fallX s (nextX x c) := by
     funext u
     show (nextOk s x c && fallX s (nextX x c) u) = _
     rw [h, Bool.true_and]
    rw [this, List.map_map]
    congr 1
    funext u
    simp
   ·rw [if_neg h]
    have h' : nextOk s x c = false := by simpa using h
    have : (fallX s x ∘ fun x => c :: x) = fun _ => false := by
     funext u
     show (nextOk s x c && fallX s (nextX x c) u) = _
     rw [h', Bool.false_and]
    rw [this]
    simp
  unfold growB strsB
  rw [part, part, List.filter_append, List.map_append]
theorem rainsB_strs {s : SkyR} : rainsB s = (strsB s.days.toNat).filter (fallX s (0, 0)) := by
 unfold rainsB
 rw [growB_strs]
 simp
theorem strsB_len : ∀ {n : Nat}, ∀ u ∈ strsB n, u.length = n ∧ ∀ c ∈ u, c = 100 ∨ c = 119
 | 0, u, hu => by
  rw [List.mem_singleton.1 hu]
  exact ⟨rfl, by simp⟩
 | n + 1, u, hu => by
  unfold strsB at hu
  rcases List.mem_append.1 hu with hu | hu <;> obtain ⟨v, hv, rfl⟩ := List.mem_map.1 hu <;> obtain ⟨h1, h2⟩ := strsB_len v hv
  ·exact ⟨by rw [List.length_cons, h1], fun c hc => by
   rcases List.mem_cons.1 hc with h | h
   ·exact .inl h
   ·exact h2 c h⟩
  ·exact ⟨by rw [List.length_cons, h1], fun c hc => by
   rcases List.mem_cons.1 hc with h | h
   ·exact .inr h
   ·exact h2 c h⟩
theorem strsB_few : ∀ {n : Nat}, (strsB n).length = 2 ^ n
 | 0 => rfl
 | n + 1 => by
  unfold strsB
  rw [List.length_append, List.length_map, List.length_map, strsB_few, Nat.pow_succ]
  omega
def splN (w : List UInt8) : Nat → Spl
 | 0 => (0, 0)
 | k + 1 => nextX (splN w k) (w.getD k 0)
theorem splN_row {w : List UInt8} : ∀ k, 0 ≤ (splN w k).2 ∧ (splN w k).2 ≤ k
 | 0 => ⟨Int.le_refl _, Int.le_refl _⟩
 | k + 1 => by
  have := splN_row (w := w) k
  unfold splN nextX
  split
  ·exact ⟨by dsimp only; omega, by dsimp only; omega⟩
  ·exact ⟨by dsimp only; omega, by dsimp only; omega⟩
theorem splN_letter {w : List UInt8} {k : Nat} : (splN w (k + 1)).1 = w.getD k 0 := by
 unfold splN nextX
 split <;> rfl
theorem fallX_drop {s : SkyR} {w : List UInt8} : ∀ {n k : Nat}, k + n = w.length → (fallX s (splN w k) (w.drop k) = true ↔ ∀ i, k ≤ i → i < w.length → nextOk s (splN w i) (w.getD i 0) = true)
 | 0, k, h => by
  rw [List.drop_of_length_le (by omega)]
  exact ⟨fun _ i h1 h2 => absurd h2 (by omega), fun _ => rfl⟩
 | n + 1, k, h => by
  have hk : k < w.length := by omega
  rw [List.drop_eq_getElem_cons hk]
  have hg : w[k] = w.getD k 0 := by
   rw [List.getD_eq_getElem?_getD, List.getElem?_eq_getElem hk]
   rfl
  rw [hg]
  show (nextOk s (splN w k) (w.getD k 0) && fallX s (nextX (splN w k) (w.getD k 0)) (w.drop (k + 1))) = true ↔ _
  have hs : nextX (splN w k) (w.getD k 0) = splN w (k + 1) := rfl
  rw [hs, Bool.and_eq_true, fallX_drop (n := n) (by omega)]
  constructor
  ·rintro ⟨h1, h2⟩ i hi1 hi2
   by_cases e : i = k
   ·rw [e]
    exact h1
   ·exact h2 i (by omega) hi2
  ·intro hh
   exact ⟨hh k (Nat.le_refl _) hk, fun i h1 h2 => hh i (by omega) h2⟩
theorem fallX_all {s : SkyR} {w : List UInt8} : fallX s (0, 0) w = true ↔ ∀ i, i < w.length → nextOk s (splN w i) (w.getD i 0) = true := by
 have := fallX_drop (s := s) (w := w) (n := w.length) (k := 0) (by omega)
 rw [List.drop_zero] at this
 exact this.trans ⟨fun h i hi => h i (Nat.zero_le _) hi, fun h i _ hi => h i hi⟩
theorem fallX_no {s : SkyR} {w : List UInt8} {i : Nat} (hi : i < w.length) (h : nextOk s (splN w i) (w.getD i 0) = false) : fallX s (0, 0) w = false := by
 cases e : fallX s (0, 0) w with
 | false => rfl
 | true =>
  have := fallX_all.1 e i hi
  rw [h] at this
  cases this
theorem next_row {s : SkyR} (g : skyOk s) {w : List UInt8} {i : Nat} : nextOk s (splN w i) (w.getD i 0) = decide (¬ (splN w (i + 1)).2 > (if w.getD i 0 = 119 then s.flood else s.drought)) := by
 obtain ⟨g1, g2, g3⟩ := g
 have e : splN w (i + 1) = nextX (splN w i) (w.getD i 0) := rfl
 rw [e]
 unfold nextOk nextX
 by_cases h : (splN w i).1 ≠ w.getD i 0
 ·rw [if_pos h, if_pos h]
  refine (decide_eq_true ?_).symm
  dsimp only
  split <;> omega
 ·rw [if_neg h, if_neg h]
  refine decide_eq_decide.2 ?_
  dsimp only
  split <;> omega
section
variable {main : Bool} {J : JT} {h H : List AObj} {K : Value → List AObj → Prop} {KV : Value → Prop} {HL : List AObj → Prop} {n0 : Nat}
theorem good82 (hJ : Closed prog main J) {n lo hi : Int} (hK : K (.bool (decide (lo ≤ n ∧ n ≤ hi))) h) : Good prog J 82 [vint n, vint lo, vint hi] h K := by
 refine g82 hJ fun ok => ?_
 rw [e82]
 refine geqI (cndI (fun h1 => leqI (retL_same (by simp [unk]) ?_)) fun h1 => retL_same (by simp [unk]) ?_)
 ·simpa [pack, h1] using hK
 ·simpa [pack, h1] using hK
theorem good37 (hJ : Closed prog main J) {p : Pas} (hK : K (vint (pasE p)) h) : Good prog J 37 [.agg ⟨p.cells⟩] h K := by
 refine g37 hJ fun ok => ?_
 rw [e37]
 refine qBox (l := p.cells) rfl fun H1 p1 e1 S1 c1 l1 => ?_
 have fin : ∀ e : Int, pasE p = e → retL h.length K [] [vint e] H1 := fun e he => by
  subst he
  exact retX ok (Nat.le_refl _) S1 (by simp) (by simp [unk]) (by simp [pack, VOk]) hK
 have no : ∀ {q : Prop}, (pasOk p → q) → ¬ q → retL h.length K [] [vint 1] H1 := fun a b => fin 1 (by unfold pasE; rw [if_neg fun x => b (a x)])
 refine offI (ldI (v := vint p.bears) c1 rfl rfl (good82 hJ (notI (cndN (fun h1 => hold.2 ?_) fun h1 => ?_))))
 ·rw [s37_1]
  exact cnd_true.2 (no (fun x => x.1) h1)
 refine offI (ldI (v := vint p.grass) c1 rfl rfl (offI (ldI (v := vint p.bears) c1 rfl rfl (good82 hJ (notI (cndN (fun h2 => hold.2 ?_) fun h2 => ?_))))))
 ·rw [s37_1]
  exact cnd_true.2 (no (fun x => x.2.1) h2)
 refine offI (ldI (v := vint p.dry) c1 rfl rfl (good82 hJ (notI (cndN (fun h3 => hold.2 ?_) fun h3 => ?_))))
 ·rw [s37_1]
  exact cnd_true.2 (no (fun x => x.2.2.1) h3)
 refine offI (ldI (v := vint p.wet) c1 rfl rfl (offI (ldI (v := vint p.dry) c1 rfl rfl (good82 hJ (notI (cndN (fun h4 => hold.2 ?_) fun h4 => ?_))))))
 ·rw [s37_1]
  exact cnd_true.2 (no (fun x => x.2.2.2.1) h4)
 refine offI (ldI (v := vint p.stubble) c1 rfl rfl (offI (ldI (v := vint p.bears) c1 rfl rfl (good82 hJ (notI (cndN (fun h5 => hold.2 ?_) fun h5 => ?_))))))
 ·rw [s37_1]
  exact cnd_true.2 (no (fun x => x.2.2.2.2.1) h5)
 refine offI (ldI (v := vint p.sleep) c1 rfl rfl (good82 hJ (notI (hold.2 ?_))))
 rw [s37_1]
 refine cndN (fun h6 => no (fun x => x.2.2.2.2.2) h6) fun h6 => fin 0 ?_
 unfold pasE
 rw [if_pos ⟨h1, h2, h3, h4, h5, h6⟩]
theorem good81 (hJ : Closed prog main J) {s : SkyR} (hK : K (vint (skyE s)) h) : Good prog J 81 [.agg ⟨s.cells⟩] h K := by
 refine g81 hJ fun ok => ?_
 rw [e81]
 refine qBox (l := s.cells) rfl fun H1 p1 e1 S1 c1 l1 => ?_
 have fin : ∀ e : Int, skyE s = e → retL h.length K [] [vint e] H1 := fun e he => by
  subst he
  exact retX ok (Nat.le_refl _) S1 (by simp) (by simp [unk]) (by simp [pack, VOk]) hK
 have no : ∀ {q : Prop}, (skyOk s → q) → ¬ q → retL h.length K [] [vint 1] H1 := fun a b => fin 1 (by unfold skyE; rw [if_neg fun x => b (a x)])
 refine offI (ldI (v := vint s.days) c1 rfl rfl (good82 hJ (notI (cndN (fun h1 => hold.2 ?_) fun h1 => ?_))))
 ·rw [s81_1]
  exact cnd_true.2 (no (fun x => x.1) h1)
 refine offI (ldI (v := vint s.drought) c1 rfl rfl (offI (ldI (v := vint s.days) c1 rfl rfl (good82 hJ (notI (cndN (fun h2 => hold.2 ?_) fun h2 => ?_))))))
 ·rw [s81_1]
  exact cnd_true.2 (no (fun x => x.2.1) h2)
 refine offI (ldI (v := vint s.flood) c1 rfl rfl (offI (ldI (v := vint s.days) c1 rfl rfl (good82 hJ (notI (hold.2 ?_))))))
 rw [s81_1]
 refine cndN (fun h3 => no (fun x => x.2.2) h3) fun h3 => fin 0 ?_
 unfold skyE
 rw [if_pos ⟨h1, h2, h3⟩]
def stC (x : Std) : List Value := [vint x.1, vint x.2]
theorem good133 (hJ : Closed prog main J) {p : Pas} {x : Std} {n : Int} {w : Bool} (f : pasOk p) (o : StdOk p x) (hn : 0 ≤ n ∧ n ≤ 1000000)
  (hK : ∀ H', SameX [] H H' → K (.tuple ⟨[.agg ⟨stC (dayR p x n w)⟩, .bool (shortR p x n), .bool (hungR x n)]⟩) H') : Good prog J 133 [.agg ⟨p.cells⟩, .agg ⟨stC x⟩, vint n, .bool w] H K := by
 refine g133 hJ fun ok => ?_
 rw [e133]
 have og := o.g
 have oa := o.a
 have hb := leftR_bd o hn.1
 obtain ⟨f1, f2, f3, f4, f5, f6⟩ := f
 refine qBox (l := p.cells) rfl fun H1 p1 e1 S1 c1 l1 => qBox (l := stC x) rfl fun H2 p2 e2 S2 c2 l2 => qAl fun H3 p3 e3 S3 c3 l3 => ?_
 have c13 := S3.get (S2.get c1 (by simp)) (by simp)
 have c23 := S3.get c2 (by simp)
 have T3 := (S1.trans S2).trans S3
 refine offI (ldI (v := vint x.1) c23 rfl rfl (lssI (offI (ldI (v := vint x.1) c23 rfl rfl (subI (by omega) (maxI ?_))))))
 have el : max 0 (x.1 - n) = leftR x n := by unfold leftR; omega
 have eh : decide (x.1 < n) = hungR x n := by unfold hungR; exact decide_eq_decide.2 (by omega)
 rw [el, eh]
 have post : ∀ {F : RG}, F.ds = [] → F.r 3 = .bool w → F.r 4 = ptr p1 0 → F.r 5 = ptr p2 0 → F.r 8 = ptr p3 0 → F.r 11 = .bool (hungR x n) → F.r 12 = vint (leftR x n) → F.r 30 = .bool (shortR p x n) →
   W prog J 58 H.length 133 (subC [1, 1, 1, 0, 1] (codeOf f133)) F H3 (contX pl133 prog J 58 H.length 133 ct133 [1, 1, 1, 0, 1] (codeOf f133) [] (RetQ prog [.cell 8 167, .tmp 9, .tmp 10] H.length K)) := by
  intro F ds r3 r4 r5 r8 r11 r12 r30
  rw [s133_1, r3, r4, r5, r8, r11, r12, r30]
  have fin : ∀ {y : Std} {H4 : List AObj} {F' : RG}, dayR p x n w = y → SameX [p3] H3 H4 → H4[p3]? = some (.cells (stC y) true 0) → F'.ds = [] → F'.r 8 = ptr p3 0 → F'.r 9 = .bool (shortR p x n) → F'.r 10 = .bool (hungR x n) → RetQ prog [.cell 8 167, .tmp 9, .tmp 10] H.length K .ret F' H4 := fun hy S4 c4 q0 q8 q9 q10 => by
   subst hy
   refine retQs q0 (resW_cell (gg := true) (s := 2) (by kernel_rfl) ?_)
   rw [q8]
   refine load_part (c := stC (dayR p x n w)) c4 (by simp [stC]) rfl rfl (resW_tmp (by rw [q9]; simp [unk]) (resW_tmp (by rw [q10]; simp [unk]) (resW_nil ?_)))
   rw [q9, q10]
   exact hK _ (T3.thru S4 (by simp; omega))
  refine cndB (fun hs => ?_) fun hs => ?_
  ·refine offI (ldI (v := vint p.sleep) c13 rfl rfl (fillO (l := [vint (leftR x n)]) rfl rfl rfl (by decide) (fillO (l := [vint p.sleep]) rfl rfl rfl (by rw [wrAt_length]; decide) (fillI ?_))))
   refine qStA (c := stC (leftR x n, p.sleep)) c3 rfl rfl rfl fun H4 S4 c4 l4 => fin (y := (leftR x n, p.sleep)) ?_ S4 c4 ds r8 (by rw [hs]; rfl) rfl
   unfold dayR
   rw [if_pos hs]
  ·have hs' : ¬ shortR p x n = true := by rw [hs]; decide
   refine offI (ldI (v := vint x.2) c23 rfl rfl (gtrI (cndI (fun h0 => ?_) fun h0 => ?_)))
   ·refine offI (ldI (v := vint x.2) c23 rfl rfl (subI (by omega) (fillO (l := [vint (leftR x n)]) rfl rfl rfl (by decide) (fillO (l := [vint (x.2 - 1)]) rfl rfl rfl (by rw [wrAt_length]; decide) (fillI ?_)))))
    refine qStA (c := stC (leftR x n, x.2 - 1)) c3 rfl rfl rfl fun H4 S4 c4 l4 => fin (y := (leftR x n, x.2 - 1)) ?_ S4 c4 ds r8 (by rw [hs]; rfl) rfl
    unfold dayR
    rw [if_neg hs', if_pos h0]
   ·have hx2 : x.2 = 0 := by omega
    refine offI (ldI (v := vint p.dry) c13 rfl rfl (cndB (fun hw => ?_) fun hw => ?_))
    ·refine offI (ldI (v := vint p.wet) c13 rfl rfl (offI (ldI (v := vint p.bears) c13 rfl rfl (addI (by omega) (minI (fillO (l := [vint (min p.bears (leftR x n + p.wet))]) rfl rfl rfl (by decide) (fillO (l := [vint 0]) rfl rfl rfl (by rw [wrAt_length]; decide) (fillI ?_))))))))
     refine qStA (c := stC (min p.bears (leftR x n + p.wet), 0)) c3 rfl rfl rfl fun H4 S4 c4 l4 => fin (y := (min p.bears (leftR x n + p.wet), 0)) ?_ S4 c4 ds r8 (by rw [hs]; rfl) rfl
     unfold dayR
     rw [if_neg hs', if_neg h0, if_pos hw, hx2]
    ·refine offI (ldI (v := vint p.bears) c13 rfl rfl (addI (by omega) (minI (fillO (l := [vint (min p.bears (leftR x n + p.dry))]) rfl rfl rfl (by decide) (fillO (l := [vint 0]) rfl rfl rfl (by rw [wrAt_length]; decide) (fillI ?_))))))
     refine qStA (c := stC (min p.bears (leftR x n + p.dry), 0)) c3 rfl rfl rfl fun H4 S4 c4 l4 => fin (y := (min p.bears (leftR x n + p.dry), 0)) ?_ S4 c4 ds r8 (by rw [hs]; rfl) rfl
     unfold dayR
     rw [if_neg hs', if_neg h0, if_neg (by rw [hw]; decide), hx2]
 refine gtrI (cndI (fun h0 => ?_) fun h0 => hold.2 ?_)
 ·refine offI (ldI (v := vint p.stubble) c13 rfl rfl (lssI (hold.2 ?_)))
  refine post rfl rfl rfl rfl rfl rfl rfl ?_
  show Value.bool _ = Value.bool _
  unfold shortR
  rw [decide_eq_true h0]
  rfl
 ·refine post rfl rfl rfl rfl rfl rfl rfl ?_
  show Value.bool _ = Value.bool _
  unfold shortR
  rw [decide_eq_false h0]
  rfl
theorem good129 (hJ : Closed prog main J) {s : SkyR} {w : List UInt8} (g : skyOk s) (hl : (w.length : Int) = s.days) (hw : ∀ c ∈ w, c = 100 ∨ c = 119) (hK : ∀ H', SameX [] H H' → K (.bool (fallX s (0, 0) w)) H') : Good prog J 129 [.agg ⟨s.cells⟩, strV w] H K := by
 refine g129 hJ fun ok => ?_
 rw [e129]
 obtain ⟨g1, g2, g3⟩ := id g
 refine qBox (l := s.cells) rfl fun H1 p1 e1 S1 c1 l1 => lenStrI (offI (ldI (v := vint s.days) c1 rfl rfl (neqI (cndI (fun hne => absurd hl hne) fun _ => ?_))))
 refine l129_1 hJ (fun i : Nat => w.length - i) (fun i F H' => SameX [] H1 H' ∧ i ≤ w.length ∧ (∀ j, j < i → nextOk s (splN w j) (w.getD j 0) = true) ∧ F.ds = [] ∧ F.r 1 = strV w ∧ F.r 2 = ptr p1 0 ∧ F.r 5 = vint (splN w i).2 ∧ F.r 6 = vint (i : Nat)) ?_ (s := 0)
  (.inl ⟨SameX.refl, by omega, fun j hj => absurd hj (Nat.not_lt_zero _), rfl, rfl, rfl, rfl, rfl⟩)
 rintro i F H' ⟨S, hi, hno, ds, r1, r2, r5, r6⟩ okc hnc
 rw [s129_1, r1, r6, ds]
 refine lenStrI (lssI (cndI (fun hlt => ?_) fun hge => ?_))
 rotate_left
 ·have : i = w.length := by omega
  subst this
  have := hK H' (S1.trans S)
  rw [fallX_all.2 hno] at this
  exact retL_same (by simp [unk]) this
 have hil : i < w.length := by omega
 have gi : w[i]? = some (w.getD i 0) := by rw [List.getD_eq_getElem?_getD, List.getElem?_eq_getElem hil]; rfl
 have hrow := splN_row (w := w) (i + 1)
 have hrow0 := splN_row (w := w) i
 have hlet := hw _ (List.mem_of_getElem? gi)
 have hnext := next_row g (w := w) (i := i)
 have cp := S.get c1 (by simp)
 -- behind the counting
 have post3 : ∀ {F' : RG}, F'.ds = [] → F'.r 1 = strV w → F'.r 2 = ptr p1 0 → F'.r 5 = vint (splN w (i + 1)).2 → F'.r 6 = vint (i : Nat) →
   W prog J 54 H.length 129 (subC [1, 1, 1, 0, 1, 0, 0, 1, 0, 0, 1] (codeOf f129)) F' H' (contX pl129 prog J 54 H.length 129 ct129 [1, 1, 1, 0, 1, 0, 0, 1, 0, 0, 1] (codeOf f129) [Nx H.length (fun i : Nat => w.length - i) (fun i F H' => SameX [] H1 H' ∧ i ≤ w.length ∧ (∀ j, j < i → nextOk s (splN w j) (w.getD j 0) = true) ∧ F.ds = [] ∧ F.r 1 = strV w ∧ F.r 2 = ptr p1 0 ∧ F.r 5 = vint (splN w i).2 ∧ F.r 6 = vint (i : Nat)) i] (RetQ prog [.tmp 4] H.length K)) := by
  intro F' ds r1 r2 r5 r6
  rw [s129_3, r1, r2, r5, r6]
  have e100 : (Value.int .u8 100) = .int .u8 (100 : UInt8).toNat := rfl
  have bad : ∀ {F2 : RG}, nextOk s (splN w i) (w.getD i 0) = false → F2.ds = [] → F2.r 53 = .bool true →
    W prog J 54 H.length 129 (subC [1, 1, 1, 0, 1, 0, 0, 1, 0, 0, 1, 1] (codeOf f129)) F2 H' (contX pl129 prog J 54 H.length 129 ct129 [1, 1, 1, 0, 1, 0, 0, 1, 0, 0, 1, 1] (codeOf f129) [Nx H.length (fun i : Nat => w.length - i) (fun i F H' => SameX [] H1 H' ∧ i ≤ w.length ∧ (∀ j, j < i → nextOk s (splN w j) (w.getD j 0) = true) ∧ F.ds = [] ∧ F.r 1 = strV w ∧ F.r 2 = ptr p1 0 ∧ F.r 5 = vint (splN w i).2 ∧ F.r 6 = vint (i : Nat)) i] (RetQ prog [.tmp 4] H.length K)) := by
   intro F2 hb d2 q53
   rw [s129_4, q53, d2]
   have := hK H' (S1.trans S)
   rw [fallX_no hil hb] at this
   exact cnd_true.2 (retL_same (by simp [unk]) this)
  have fine : ∀ {F2 : RG}, nextOk s (splN w i) (w.getD i 0) = true → F2.ds = [] → F2.r 1 = strV w → F2.r 2 = ptr p1 0 → F2.r 5 = vint (splN w (i + 1)).2 → F2.r 6 = vint (i : Nat) → F2.r 53 = .bool false →
    W prog J 54 H.length 129 (subC [1, 1, 1, 0, 1, 0, 0, 1, 0, 0, 1, 1] (codeOf f129)) F2 H' (contX pl129 prog J 54 H.length 129 ct129 [1, 1, 1, 0, 1, 0, 0, 1, 0, 0, 1, 1] (codeOf f129) [Nx H.length (fun i : Nat => w.length - i) (fun i F H' => SameX [] H1 H' ∧ i ≤ w.length ∧ (∀ j, j < i → nextOk s (splN w j) (w.getD j 0) = true) ∧ F.ds = [] ∧ F.r 1 = strV w ∧ F.r 2 = ptr p1 0 ∧ F.r 5 = vint (splN w i).2 ∧ F.r 6 = vint (i : Nat)) i] (RetQ prog [.tmp 4] H.length K)) := by
   intro F2 hb d2 q1 q2 q5 q6 q53
   rw [s129_4, q53, q6]
   refine cnd_false.2 (addI (by omega) ⟨i + 1, by dsimp only; omega, .inl ⟨S, by omega, fun j hj => ?_, d2, q1, q2, q5, by show vint _ = vint _; congr 1⟩⟩)
   by_cases e : j = i
   ·rw [e]
    exact hb
   ·exact hno j (by omega)
  refine byteI gi ?_
  rw [e100]
  refine eqlU (cndI (fun hd => ?_) fun hd => ?_)
  ·have hno9 : ¬ w.getD i 0 = 119 := by rw [hd]; decide
   rw [if_neg hno9] at hnext
   refine offI (ldI (v := vint s.drought) cp rfl rfl (gtrI (cndI (fun hgt => hold.2 (bad ?_ ds rfl)) fun hle => byteI gi (eqlW ?_))))
   ·rw [hnext]
    exact decide_eq_false (not_not_intro hgt)
   ·have : wetB (w.getD i 0) = false := decide_eq_false hno9
    rw [this]
    refine cnd_false.2 (hold.2 (fine ?_ ds r1 r2 r5 r6 rfl))
    rw [hnext]
    exact decide_eq_true hle
  ·have h9 : w.getD i 0 = 119 := hlet.resolve_left hd
   rw [if_pos h9] at hnext
   refine byteI gi (eqlW ?_)
   have : wetB (w.getD i 0) = true := decide_eq_true h9
   rw [this]
   refine cnd_true.2 (offI (ldI (v := vint s.flood) cp rfl rfl (gtrI (hold.2 ?_))))
   by_cases hgt : (splN w (i + 1)).2 > s.flood
   ·rw [decide_eq_true hgt]
    refine bad ?_ ds rfl
    rw [hnext]
    exact decide_eq_false (not_not_intro hgt)
   ·rw [decide_eq_false hgt]
    refine fine ?_ ds r1 r2 r5 r6 rfl
    rw [hnext]
    exact decide_eq_true hgt
 have post2 : ∀ {F' : RG} {z : Bool}, z = decide ((splN w i).1 = w.getD i 0 ∧ 0 < i) → F'.ds = [] → F'.r 1 = strV w → F'.r 2 = ptr p1 0 → F'.r 5 = vint (splN w i).2 → F'.r 6 = vint (i : Nat) → F'.r 29 = .bool z →
   W prog J 54 H.length 129 (subC [1, 1, 1, 0, 1, 0, 0, 1, 0, 0, 0, 1] (codeOf f129)) F' H' (contX pl129 prog J 54 H.length 129 ct129 [1, 1, 1, 0, 1, 0, 0, 1, 0, 0, 0, 1] (codeOf f129) [Nx H.length (fun i : Nat => w.length - i) (fun i F H' => SameX [] H1 H' ∧ i ≤ w.length ∧ (∀ j, j < i → nextOk s (splN w j) (w.getD j 0) = true) ∧ F.ds = [] ∧ F.r 1 = strV w ∧ F.r 2 = ptr p1 0 ∧ F.r 5 = vint (splN w i).2 ∧ F.r 6 = vint (i : Nat)) i] (RetQ prog [.tmp 4] H.length K)) := by
  intro F' z hz ds r1 r2 r5 r6 r29
  rw [s129_2, r29, r5]
  have e : splN w (i + 1) = nextX (splN w i) (w.getD i 0) := rfl
  cases z with
  | true =>
   have hc := of_decide_eq_true hz.symm
   refine cnd_true.2 (addI (by omega) (hold.2 (post3 ds r1 r2 ?_ r6)))
   rw [e]
   unfold nextX
   rw [if_neg (not_not_intro hc.1)]
   rfl
  | false =>
   have hc := of_decide_eq_false hz.symm
   refine cnd_false.2 (hold.2 (post3 ds r1 r2 ?_ r6))
   rw [e]
   unfold nextX
   by_cases hne : (splN w i).1 ≠ w.getD i 0
   ·rw [if_pos hne]
    rfl
   ·have hi0 : i = 0 := by
     rcases Nat.eq_zero_or_pos i with x | x
     ·exact x
     ·exact absurd ⟨Classical.not_not.1 hne, x⟩ hc
    have : (0 : UInt8) = w.getD i 0 := by
     have := Classical.not_not.1 hne
     rw [hi0] at this ⊢
     exact this
    rcases hlet with x | x <;> rw [x] at this <;> cases this
 refine gtrI (cndI (fun hpos => ?_) fun hz => hold.2 ?_)
 ·have hip : 0 < i := by omega
  obtain ⟨k, rfl⟩ : ∃ k, i = k + 1 := ⟨i - 1, by omega⟩
  have gk : w[k]? = some (w.getD k 0) := by rw [List.getD_eq_getElem?_getD, List.getElem?_eq_getElem (by omega)]; rfl
  refine byteI gi (subI (by omega) ?_)
  rw [show (((k + 1 : Nat) : Int) - 1) = ((k : Nat) : Int) by omega]
  refine byteI gk (eqlU (hold.2 (post2 ?_ ds r1 r2 r5 r6 rfl)))
  refine decide_eq_decide.2 ?_
  rw [splN_letter]
  exact ⟨fun e => ⟨e.symm, by omega⟩, fun e => e.1.symm⟩
 ·refine post2 (z := false) ?_ ds r1 r2 r5 r6 rfl
  exact (decide_eq_false fun e => hz (by omega)).symm
end
def strL (l : List (List UInt8)) : List Value := l.map strV
def endsR (p : Pas) (heads : List Int) (w : List UInt8) (k : Nat) : List Int := (List.range k).map fun i => (stdR p heads w (i + 1)).1
def daysR (q : Nat → Bool) (k : Nat) : List Int := ((List.range k).filter q).map Int.ofNat
theorem endsR_succ {p : Pas} {heads : List Int} {w : List UInt8} {k : Nat} : endsR p heads w (k + 1) = endsR p heads w k ++ [(stdR p heads w (k + 1)).1] := by simp [endsR, List.range_succ]
theorem daysR_succ {q : Nat → Bool} {k : Nat} : daysR q (k + 1) = daysR q k ++ (if q k = true then [(k : Int)] else []) := by
 unfold daysR
 rw [List.range_succ, List.filter_append, List.map_append]
 congr 1
 by_cases h : q k = true
 ·rw [if_pos h]
  simp [h]
 ·rw [if_neg h]
  simp [h]
theorem daysR_few {q : Nat → Bool} {k : Nat} : (daysR q k).length ≤ k := by
 unfold daysR
 rw [List.length_map]
 have := List.length_filter_le q (List.range k)
 rw [List.length_range] at this
 exact this
theorem daysR_none {q : Nat → Bool} {k : Nat} : (daysR q k).length = 0 ↔ fstH q k < 0 := by
 constructor
 ·intro h
  have : fstH q k = -1 := fstH_none fun i hi => by
   cases e : q i with
   | false => rfl
   | true =>
    have hm : (i : Int) ∈ daysR q k := List.mem_map.2 ⟨i, List.mem_filter.2 ⟨List.mem_range.2 hi, e⟩, rfl⟩
    rw [List.length_eq_zero_iff.1 h] at hm
    cases hm
  rw [this]
  decide
 ·intro h
  rw [List.length_eq_zero_iff]
  cases e : daysR q k with
  | nil => rfl
  | cons x l =>
   have hm : x ∈ daysR q k := by rw [e]; exact List.mem_cons_self
   unfold daysR at hm
   obtain ⟨i, hi, _⟩ := List.mem_map.1 hm
   obtain ⟨h1, h2⟩ := List.mem_filter.1 hi
   have := fstH_pos h2 (List.mem_range.1 h1)
   omega
section
variable {main : Bool} {J : JT} {h H : List AObj} {K : Value → List AObj → Prop} {KV : Value → Prop} {HL : List AObj → Prop} {n0 : Nat}
theorem strAdd {c : UInt8} {u : List UInt8} {t : TypeId} (hu : u.length ≤ 1000000) (hk : KV (strV (c :: u))) : aBin prog .add t (Value.string { data := #[c] }) (strV u) KV := by
 have hrm : (2000000 : Nat) < room := by decide
 show (ByteArray.mk #[c]).size + (ByteArray.mk ⟨u⟩).size ≤ room ∧ KV (.string (ByteArray.mk #[c] ++ ByteArray.mk ⟨u⟩))
 have e1 : (ByteArray.mk #[c]).size = 1 := rfl
 have e2 : (ByteArray.mk ⟨u⟩).size = u.length := rfl
 have e3 : ByteArray.mk #[c] ++ ByteArray.mk ⟨u⟩ = ByteArray.mk ⟨c :: u⟩ := by
  apply ByteArray.ext
  rw [ByteArray.data_append]
  apply Array.ext'
  rw [Array.toList_append]
  rfl
 rw [e1, e2, e3]
 exact ⟨by omega, hk⟩
theorem strGet {v : Value} {L : List (List UInt8)} {c : List Value} (hc : c = strL L) (hs : Sli H v 1 L.length c) {i : Nat} {u : List UInt8} (hu : L[i]? = some u) {K2 : Value → Value → Prop} (hK : ∀ p, K2 p (strV u)) : aIdx 1 v (vint (i : Nat)) fun p => aLoad false 1 p H (K2 p) := by
 subst hc
 have hi := (List.getElem?_eq_some_iff.1 hu).1
 exact idx_load hs ⟨by omega, by omega⟩ (by rw [Int.toNat_natCast]; unfold strL; rw [List.getElem?_map, hu]; rfl) hK
theorem strMore {v : Value} {L : List (List UInt8)} {o : Option Nat} {u : List UInt8} (O : OwnX H 1 (strL L) L.length v o) (hl : L.length < 90000)
  (hk : ∀ v' H' o', SameX o.toList H H' → OwnX H' 1 (strL (L ++ [u])) (L ++ [u]).length v' (some o') → H.length ≤ o' → K v' H') :
  (((1 * 1 : Nat) ≤ 16777216 ∧ (1 : Nat) ≤ 16777216 ∧ List.length [(Value.string { data := #[] })] = 1) ∧ aFill (zrep [(Value.string { data := #[] })] 1) [(0, 1, strV u)] fun c6 => aNewS 1 c6 H fun v7 h8 =>
   ((List.length [(Value.string { data := #[] })] = 1 ∧ 0 < (1 : Nat) ∧ 0 < (16 : Nat) ∧ (16 : Nat) ≤ 1024) ∧ aApp 1 v v7 h8 K)) := by
 refine ⟨by decide, fillO (l := [strV u]) rfl rfl rfl (by decide) (fillI (qNew fun H1 p1 e1 S1 c1 l1 => ⟨by decide, ?_⟩))⟩
 have c1 : H1[p1]? = some (.cells [strV u] true 0) := c1
 have h1 := S1.1
 refine ownX_more (ownX_keep O S1 (by simp)) (by omega) (by omega) (ownX_sli (ownX_new (s := 1) (n := 1) c1 rfl rfl)) fun v' H' p' e' O' S' => hk v' H' p' (S1.weak0.trans S') ?_ (by omega)
 unfold strL at O' ⊢
 rw [List.map_append, List.length_append]
 exact O'
theorem good39 (hJ : Closed prog main J) : ∀ (n : Nat) {H : List AObj} {K : Value → List AObj → Prop}, n ≤ 8 → (∀ H' v o, SameX [] H H' → OwnX H' 1 (strL (strsB n)) (strsB n).length v (some o) → H.length ≤ o → K v H') → Good prog J 39 [vint (n : Nat)] H K
 | 0, H, K, _, hK => by
  refine g39 hJ fun ok => ?_
  rw [e39]
  refine eqlI (cndI (fun _ => ?_) fun hx => absurd rfl hx)
  refine ⟨by decide, fillO (l := [strV []]) rfl rfl rfl (by decide) (fillI (qNew fun H1 p1 e1 S1 c1 l1 => ?_))⟩
  have c1 : H1[p1]? = some (.cells [strV []] true 0) := c1
  have O := ownX_new (s := 1) (n := 1) c1 rfl rfl
  exact retL_same (by simp [unk]) (hK H1 _ p1 S1 O (by omega))
 | n + 1, H, K, hn, hK => by
  refine g39 hJ fun ok => ?_
  rw [e39]
  refine eqlI (cndI (fun hx => absurd hx (by omega)) fun _ => subI (by omega) ?_)
  rw [show (((n + 1 : Nat) : Int) - 1) = ((n : Nat) : Int) by omega]
  refine good39 hJ n (by omega) fun H1 av ao S1 A1 hao => ?_
  have hlen := strsB_few (n := n)
  have hpow : 2 ^ n ≤ 2 ^ 8 := Nat.pow_le_pow_right (by decide) (by omega)
  have hu : ∀ (i : Nat) (u : List UInt8), (strsB n)[i]? = some u → u.length ≤ 8 := fun i u hi => by
   have := (strsB_len u (List.mem_of_getElem? hi)).1
   omega
  let A := (strsB n).map (100 :: ·)
  refine l39_1 hJ (fun i : Nat => (strsB n).length - i) (fun i F H' => ∃ v o, SameX [] H1 H' ∧ i ≤ (strsB n).length ∧ OwnX H' 1 (strL (A.take i)) (A.take i).length v o ∧ (∀ j, o = some j → H1.length ≤ j) ∧ F.ds = [] ∧ F.r 3 = v ∧ F.r 4 = av ∧ F.r 5 = vint (i : Nat)) ?_ (s := 0)
   (.inl ⟨.slice none 0 0, none, SameX.refl, by omega, ⟨rfl, rfl, .inl ⟨rfl, rfl, rfl⟩⟩, by simp, rfl, rfl, rfl, rfl⟩)
  rintro i F Hc ⟨v, o, Sc, hi, O, ho, ds, r3, r4, r5⟩ okc hnc
  have Ac := ownX_keep A1 Sc (by simp)
  rw [s39_1, r3, r4, r5]
  refine lenI (ownX_sli Ac) (lssI (cndI (fun hlt => ?_) fun hge => ?_))
  ·have hil : i < (strsB n).length := by omega
   have hui : (strsB n)[i]? = some (strsB n)[i] := List.getElem?_eq_getElem hil
   refine strGet rfl (ownX_sli Ac) hui fun p => strAdd (by have := hu i _ hui; omega) (strMore O (by simp [A]; omega) fun v' H5 o5 S5 O5 ho5 => addI (by omega) ⟨i + 1, by dsimp only; omega, .inl ⟨v', some o5, Sc.thru S5 fun y hy => .inr (ho y (by simpa using hy)), by omega, ?_, fun j hj => by cases hj; have := Sc.1; omega, ds, rfl, r4, by show vint _ = vint _; congr 1⟩⟩)
   have e : A.take (i + 1) = A.take i ++ [100 :: (strsB n)[i]] := by
    rw [List.take_add_one]
    congr 1
    rw [List.getElem?_map, hui]
    rfl
   rw [e]
   exact O5
  have hie : i = (strsB n).length := by omega
  subst hie
  have eA : A.take (strsB n).length = A := List.take_of_length_le (by simp [A])
  rw [eA] at O
  let B := (strsB n).map (119 :: ·)
  refine l39_2 hJ (fun i : Nat => (strsB n).length - i) (fun i F H' => ∃ v o, SameX [] H1 H' ∧ i ≤ (strsB n).length ∧ OwnX H' 1 (strL (A ++ B.take i)) (A ++ B.take i).length v o ∧ (∀ j, o = some j → H1.length ≤ j) ∧ F.ds = [] ∧ F.r 3 = v ∧ F.r 4 = av ∧ F.r 6 = vint (i : Nat)) ?_ (s := 0)
   (.inl ⟨v, o, Sc, by omega, by simpa using O, ho, ds, r3, r4, rfl⟩)
  clear ds r3 r4 r5 okc hnc O ho Ac Sc
  rintro i F Hd ⟨v, o, Sc, hi, O, ho, ds, r3, r4, r6⟩ okc hnc
  have Ac := ownX_keep A1 Sc (by simp)
  rw [s39_2, r3, r4, r6, ds]
  refine lenI (ownX_sli Ac) (lssI (cndI (fun hlt => ?_) fun hge => ?_))
  ·have hil : i < (strsB n).length := by omega
   have hui : (strsB n)[i]? = some (strsB n)[i] := List.getElem?_eq_getElem hil
   refine strGet rfl (ownX_sli Ac) hui fun p => strAdd (by have := hu i _ hui; omega) (strMore O (by simp [A, B]; omega) fun v' H5 o5 S5 O5 ho5 => addI (by omega) ⟨i + 1, by dsimp only; omega, .inl ⟨v', some o5, Sc.thru S5 fun y hy => .inr (ho y (by simpa using hy)), by omega, ?_, fun j hj => by cases hj; have := Sc.1; omega, ds, rfl, r4, by show vint _ = vint _; congr 1⟩⟩)
   have e : B.take (i + 1) = B.take i ++ [119 :: (strsB n)[i]] := by
    rw [List.take_add_one]
    congr 1
    rw [List.getElem?_map, hui]
    rfl
   rw [e, ← List.append_assoc]
   exact O5
  ·have hie : i = (strsB n).length := by omega
   subst hie
   have eB : B.take (strsB n).length = B := List.take_of_length_le (by simp [B])
   rw [eB] at O
   have hAB : strsB (n + 1) = A ++ B := rfl
   rw [← hAB] at O
   have hS1 := S1.1
   have hne : ∃ j, o = some j := by
    obtain ⟨_, _, ⟨h0, _, _⟩ | ⟨j, _, _, e, _⟩⟩ := id O
    ·rw [strsB_few] at h0
     have := Nat.pow_pos (n := n + 1) (show 0 < 2 by decide)
     omega
    ·exact ⟨j, e⟩
   obtain ⟨j, rfl⟩ := hne
   exact retL_same (by simpa using ownU O) (hK Hd v j (S1.trans Sc) O (by have := ho j rfl; omega))
theorem good91 (hJ : Closed prog main J) {s : SkyR} (g : skyOk s) (hK : ∀ H' v o, SameX [] H H' → OwnX H' 1 (strL (rainsB s)) (rainsB s).length v o → (∀ j, o = some j → H.length ≤ j) → K v H') : Good prog J 91 [.agg ⟨s.cells⟩] H K := by
 refine g91 hJ fun ok => ?_
 rw [e91]
 obtain ⟨g1, g2, g3⟩ := id g
 obtain ⟨n, hn⟩ := Int.eq_ofNat_of_zero_le (by omega : (0 : Int) ≤ s.days)
 have en : s.days.toNat = n := by omega
 refine qBox (l := s.cells) rfl fun H1 p1 e1 S1 c1 l1 => offI (ldI (v := vint s.days) c1 rfl rfl ?_)
 rw [hn]
 refine good39 hJ n (by omega) fun H2 av ao S2 A2 hao => ?_
 have hlen := strsB_few (n := n)
 have hpow : 2 ^ n ≤ 2 ^ 8 := Nat.pow_le_pow_right (by decide) (by omega)
 have T2 := S1.trans S2
 refine l91_1 hJ (fun i : Nat => (strsB n).length - i) (fun i F H' => ∃ v o, SameX [] H2 H' ∧ i ≤ (strsB n).length ∧ OwnX H' 1 (strL (((strsB n).take i).filter (fallX s (0, 0)))) (((strsB n).take i).filter (fallX s (0, 0))).length v o ∧ (∀ j, o = some j → H2.length ≤ j) ∧ F.ds = [] ∧ F.r 1 = ptr p1 0 ∧ F.r 3 = v ∧ F.r 4 = av ∧ F.r 5 = vint (i : Nat)) ?_ (s := 0)
  (.inl ⟨.slice none 0 0, none, SameX.refl, by omega, ⟨rfl, rfl, .inl ⟨rfl, rfl, rfl⟩⟩, by simp, rfl, rfl, rfl, rfl, rfl⟩)
 rintro i F Hc ⟨v, o, Sc, hi, O, ho, ds, r1, r3, r4, r5⟩ okc hnc
 have Ac := ownX_keep A2 Sc (by simp)
 rw [s91_1, r1, r3, r4, r5, ds]
 have hsc := Sc.1
 refine lenI (ownX_sli Ac) (lssI (cndI (fun hlt => ?_) fun hge => ?_))
 ·have hil : i < (strsB n).length := by omega
  have hui : (strsB n)[i]? = some (strsB n)[i] := List.getElem?_eq_getElem hil
  have hw := strsB_len _ (List.getElem_mem hil)
  have et : (strsB n).take (i + 1) = (strsB n).take i ++ [(strsB n)[i]] := by
   rw [List.take_add_one, hui]
   rfl
  have hfl : (((strsB n).take i).filter (fallX s (0, 0))).length ≤ i := by
   have := List.length_filter_le (fallX s (0, 0)) ((strsB n).take i)
   rw [List.length_take] at this
   omega
  refine load_part (c := s.cells) ((S2.trans Sc).get c1 (by simp)) (by simp [SkyR.cells]) rfl rfl (strGet rfl (ownX_sli Ac) hui fun p => ?_)
  refine good129 hJ g (by rw [hw.1]; omega) hw.2 fun H3 S3 => cndB (fun hy => ?_) fun hno => ?_
  ·refine strGet rfl (ownX_sli (ownX_keep Ac S3 (by simp))) hui fun p2 => strMore (ownX_keep O S3 (by simp)) (by omega) fun v' H5 o5 S5 O5 ho5 => addI (by omega) ⟨i + 1, by dsimp only; omega, .inl ⟨v', some o5, (Sc.trans S3).thru S5 fun y hy => .inr (ho y (by simpa using hy)), by omega, ?_, fun j hj => by cases hj; have := S3.1; omega, ds, r1, rfl, r4, by show vint _ = vint _; congr 1⟩⟩
   have e : ((strsB n).take (i + 1)).filter (fallX s (0, 0)) = ((strsB n).take i).filter (fallX s (0, 0)) ++ [(strsB n)[i]] := by
    rw [et, List.filter_append]
    simp [hy]
   rw [e]
   exact O5
  ·refine addI (by omega) ⟨i + 1, by dsimp only; omega, .inl ⟨v, o, Sc.trans S3, by omega, ?_, ho, ds, r1, r3, r4, by show vint _ = vint _; congr 1⟩⟩
   have e : ((strsB n).take (i + 1)).filter (fallX s (0, 0)) = ((strsB n).take i).filter (fallX s (0, 0)) := by
    rw [et, List.filter_append]
    simp [hno]
   rw [e]
   exact ownX_keep O S3 (by simp)
 ·have hie : i = (strsB n).length := by omega
  subst hie
  rw [List.take_of_length_le (Nat.le_refl _)] at O
  have er : rainsB s = (strsB n).filter (fallX s (0, 0)) := by rw [rainsB_strs, en]
  rw [← er] at O
  have hT2 := T2.1
  exact retL_same (by simpa using ownU O) (hK Hc v o (T2.trans Sc) O fun j hj => by have := ho j hj; omega)
end
section
variable {main : Bool} {J : JT} {h H Hb : List AObj} {K : Value → List AObj → Prop} {KV : Value → Prop} {HL : List AObj → Prop} {n0 : Nat}
def TillN (n : Nat) (H H' : List AObj) : Prop := H.length ≤ H'.length ∧ ∀ i, i < n → H'[i]? = H[i]?
theorem TillN.same {X : List Nat} (T : TillN Hb.length H h) (S : SameX X Hb H) : SameX X Hb h := ⟨Nat.le_trans S.1 T.1, fun i hi hx => by rw [T.2 i hi]; exact S.2 i hi hx⟩
theorem TillN.trans {n : Nat} {H1 H2 H3 : List AObj} (a : TillN n H1 H2) (b : TillN n H2 H3) : TillN n H1 H3 := ⟨Nat.le_trans a.1 b.1, fun i hi => (b.2 i hi).trans (a.2 i hi)⟩
theorem tillN_of {n : Nat} {X : List Nat} {H1 H2 : List AObj} (S : SameX X H1 H2) (hn : n ≤ H1.length) (hX : ∀ x ∈ X, n ≤ x) : TillN n H1 H2 := ⟨S.1, fun i hi => S.2 i (by omega) fun hx => by have := hX i hx; omega⟩
def Own3 (n : Nat) (H : List AObj) (a b c : List Int) (va vb vc : Value) : Prop :=
 ∃ oa ob oc, OwnX H 1 (a.map vint) a.length va oa ∧ OwnX H 1 (b.map vint) b.length vb ob ∧ OwnX H 1 (c.map vint) c.length vc oc ∧ (∀ j, oa = some j → n ≤ j ∧ ob ≠ some j ∧ oc ≠ some j) ∧ (∀ j, ob = some j → n ≤ j ∧ oc ≠ some j) ∧ (∀ j, oc = some j → n ≤ j)
theorem Own3.rot {n : Nat} {a b c : List Int} {va vb vc : Value} (O : Own3 n H a b c va vb vc) : Own3 n H b c a vb vc va := by
 obtain ⟨oa, ob, oc, A, B, C, h1, h2, h3⟩ := O
 exact ⟨ob, oc, oa, B, C, A, fun j hj => ⟨(h2 j hj).1, (h2 j hj).2, fun e => (h1 j e).2.1 hj⟩, fun j hj => ⟨h3 j hj, fun e => (h1 j e).2.2 hj⟩, fun j hj => (h1 j hj).1⟩
theorem Own3.keep {n : Nat} {a b c : List Int} {va vb vc : Value} {X : List Nat} {H' : List AObj} (O : Own3 n H a b c va vb vc) (S : SameX X H H') (hX : ∀ x ∈ X, x < n) : Own3 n H' a b c va vb vc := by
 obtain ⟨oa, ob, oc, A, B, C, h1, h2, h3⟩ := O
 refine ⟨oa, ob, oc, ownX_keep A S fun i hi hx => ?_, ownX_keep B S fun i hi hx => ?_, ownX_keep C S fun i hi hx => ?_, h1, h2, h3⟩
 ·have := h1 i hi; have := hX i hx; omega
 ·have := h2 i hi; have := hX i hx; omega
 ·have := h3 i hi; have := hX i hx; omega
theorem Own3.nil {n : Nat} : Own3 n H [] [] [] (.slice none 0 0) (.slice none 0 0) (.slice none 0 0) := ⟨none, none, none, ⟨rfl, rfl, .inl ⟨rfl, rfl, rfl⟩⟩, ⟨rfl, rfl, .inl ⟨rfl, rfl, rfl⟩⟩, ⟨rfl, rfl, .inl ⟨rfl, rfl, rfl⟩⟩, by simp, by simp, by simp⟩
theorem Own3.add {n : Nat} {a b c : List Int} {va vb vc : Value} {x : Int} {K : Value → Value → List AObj → Prop} (O : Own3 n H a b c va vb vc) (hl : a.length < 90000) (hn : n ≤ H.length)
  (hK : ∀ y v' H', TillN n H H' → Own3 n H' (a ++ [x]) b c v' vb vc → K y v' H') :
  (((1 * 1 : Nat) ≤ 16777216 ∧ (1 : Nat) ≤ 16777216 ∧ List.length [(vint 0)] = 1) ∧ aFill (zrep [(vint 0)] 1) [(0, 1, vint x)] fun c6 => aNewS 1 c6 H fun v7 h8 =>
   ((List.length [(vint 0)] = 1 ∧ 0 < (1 : Nat) ∧ 0 < (8 : Nat) ∧ (8 : Nat) ≤ 1024) ∧ aApp 1 va v7 h8 (K v7))) := by
 obtain ⟨oa, ob, oc, A, B, C, h1, h2, h3⟩ := O
 refine ⟨by decide, fillO (l := [vint x]) rfl rfl rfl (by decide) (fillI (qNew fun H1 p1 e1 S1 c1 l1 => ⟨by decide, ?_⟩))⟩
 have c1 : H1[p1]? = some (.cells [vint x] true 0) := c1
 have hS := S1.1
 refine ownX_more (ownX_keep A S1 (by simp)) (by omega) (by omega) (ownX_sli (ownX_new (s := 1) (n := 1) c1 rfl rfl)) fun v' H' p' e' O' S' => ?_
 have hb1 := ownX_lt B
 have hc1 := ownX_lt C
 have na : ∀ z ∈ oa.toList, n ≤ z := fun z hz => (h1 z (Option.mem_toList.1 hz)).1
 refine hK _ v' H' ((tillN_of S1 hn (by simp)).trans (tillN_of S' (by omega) na)) ⟨some p', ob, oc, ?_, ownX_keep (ownX_keep B S1 (by simp)) S' fun j hj hm => (h1 j (Option.mem_toList.1 hm)).2.1 hj, ownX_keep (ownX_keep C S1 (by simp)) S' fun j hj hm => (h1 j (Option.mem_toList.1 hm)).2.2 hj, fun j hj => ?_, h2, h3⟩
 ·rw [List.map_append, List.length_append]
  exact O'
 ·cases hj
  exact ⟨by omega, fun e => by have := hb1 _ e; omega, fun e => by have := hc1 _ e; omega⟩
set_option maxHeartbeats 800000 in
theorem good97 (hJ : Closed prog main J) {p : Pas} {heads : List Int} {w : List UInt8} {hv : Value} (f : pasOk p) (hh : headsOk heads) (sh : Sli H hv 1 heads.length (heads.map vint)) (hl : w.length ≤ heads.length) (hw : w.length ≤ 1000)
  (hK : ∀ H' ev bv nv, SameX [] H H' → Own3 H.length H' (endsR p heads w w.length) (daysR (shortAt p heads w) w.length) (daysR (hungAt p heads w) w.length) ev bv nv → K (.tuple ⟨[ev, bv, nv]⟩) H') : Good prog J 97 [.agg ⟨p.cells⟩, hv, strV w] H K := by
 refine g97 hJ fun ok => ?_
 rw [e97]
 refine qBox (l := p.cells) rfl fun H1 p3 e1 S1 c3 l1 => offI (ldI (v := vint p.grass) c3 rfl rfl ?_)
 refine fillO (l := [vint p.grass]) rfl rfl rfl (by decide) (fillO (l := [vint 0]) rfl rfl rfl (by rw [wrAt_length]; decide) (fillI ?_))
 refine qAl fun H2 px e2 S2 cx l2 => qStA (c := stC (p.grass, 0)) cx rfl rfl rfl fun Hb Sb cx' lb => ?_
 have c3b : Hb[p3]? = some (.cells p.cells true 0) := Sb.get (S2.get c3 (by simp)) (by simp; omega)
 have Tb : SameX [] H Hb := (S1.trans S2).thru Sb (by simp; omega)
 have hlb : H.length ≤ Hb.length := Tb.1
 refine l97_1 hJ (fun k : Nat => w.length - k) (fun k F H' => ∃ ev bv nv, k ≤ w.length ∧ SameX [px] Hb H' ∧ H'[px]? = some (.cells (stC (stdR p heads w k)) true 0) ∧ Own3 Hb.length H' (endsR p heads w k) (daysR (shortAt p heads w) k) (daysR (hungAt p heads w) k) ev bv nv ∧ F.ds = [] ∧ F.r 1 = hv ∧ F.r 2 = strV w ∧ F.r 3 = ptr p3 0 ∧ F.r 9 = ev ∧ F.r 10 = bv ∧ F.r 11 = nv ∧ F.r 12 = ptr px 0 ∧ F.r 13 = vint (k : Nat)) ?_ (s := 0)
  (.inl ⟨_, _, _, by omega, SameX.refl, cx', Own3.nil, rfl, rfl, rfl, rfl, rfl, rfl, rfl, rfl, rfl⟩)
 rintro k F Hc ⟨ev, bv, nv, hk, S, cxc, O, ds, r1, r2, r3, r9, r10, r11, r12, r13⟩ okc hnc
 rw [s97_1, r1, r2, r3, r9, r10, r11, r12, r13, ds]
 have TH : SameX [] H Hc := Tb.thru S (by simp; omega)
 refine lenStrI (lssI (cndI (fun hlt => ?_) fun hge => ?_))
 rotate_left
 ·have hkw : k = w.length := by omega
  subst hkw
  obtain ⟨oa, ob, oc, A, B, C, h1, h2, h3⟩ := id O
  refine retL_same ?_ (hK Hc ev bv nv TH ?_)
  ·intro v hv
   simp only [List.mem_cons, List.not_mem_nil, or_false] at hv
   rcases hv with rfl | rfl | rfl
   ·exact ownU A
   ·exact ownU B
   ·exact ownU C
  ·exact ⟨oa, ob, oc, A, B, C, fun j hj => ⟨by have := (h1 j hj).1; omega, (h1 j hj).2⟩, fun j hj => ⟨by have := (h2 j hj).1; omega, (h2 j hj).2⟩, fun j hj => by have := h3 j hj; omega⟩
 have hkl : k < w.length := by omega
 have hb : w[k]? = some (w.getD k 0) := by rw [List.getD_eq_getElem?_getD, List.getElem?_eq_getElem hkl]; rfl
 have hx : heads[k]? = some (heads.getD k 0) := by rw [List.getD_eq_getElem?_getD, List.getElem?_eq_getElem (by omega)]; rfl
 have hbd := headsOk_getD hh k
 have so := stdR_ok (rain := w) f hh k
 have shc := TH.sli sh (by simp)
 obtain ⟨hb0, hbl, get⟩ := sliBlk shc (by omega)
 have c3c := S.get c3b (by simp; omega)
 have l3 := lt_of_get c3c
 have lx := lt_of_get cxc
 have hSc := S.1
 have lxb := lt_of_get cx'
 -- behind a day
 have post : ∀ {F' : RG} {H4 : List AObj} {pq : Nat}, F'.ds = [] → F'.r 1 = hv → F'.r 2 = strV w → F'.r 3 = ptr p3 0 → F'.r 9 = ev → F'.r 10 = bv → F'.r 11 = nv → F'.r 12 = ptr px 0 → F'.r 13 = vint (k : Nat) → F'.r 14 = ptr pq 0 → F'.r 15 = .bool (shortAt p heads w k) → F'.r 16 = .bool (hungAt p heads w k) → SameX [] Hc H4 → H4[pq]? = some (.cells (stC (stdR p heads w (k + 1))) true 0) → Hc.length ≤ pq →
   W prog J 60 H.length 97 (subC [1, 1, 1, 0, 1, 0, 0, 1, 0, 0, 1] (codeOf f97)) F' H4 (contX pl97 prog J 60 H.length 97 ct97 [1, 1, 1, 0, 1, 0, 0, 1, 0, 0, 1] (codeOf f97) [Nx H.length (fun k : Nat => w.length - k) (fun k F H' => ∃ ev bv nv, k ≤ w.length ∧ SameX [px] Hb H' ∧ H'[px]? = some (.cells (stC (stdR p heads w k)) true 0) ∧ Own3 Hb.length H' (endsR p heads w k) (daysR (shortAt p heads w) k) (daysR (hungAt p heads w) k) ev bv nv ∧ F.ds = [] ∧ F.r 1 = hv ∧ F.r 2 = strV w ∧ F.r 3 = ptr p3 0 ∧ F.r 9 = ev ∧ F.r 10 = bv ∧ F.r 11 = nv ∧ F.r 12 = ptr px 0 ∧ F.r 13 = vint (k : Nat)) k] (RetQ prog [.tmp 6, .tmp 7, .tmp 8] H.length K)) := by
  intro F' H4 pq q0 q1 q2 q3 q9 q10 q11 q12 q13 q14 q15 q16 S4 cq hpq
  rw [s97_2, q9, q10, q12, q13, q14, q15]
  have cx4 := S4.get cxc (by simp)
  have h4 := S4.1
  refine load_part (c := stC (stdR p heads w (k + 1))) cq (by simp [stC]) rfl rfl (qStA (c := stC (stdR p heads w (k + 1))) cx4 rfl rfl rfl fun H5 S5 cx5 l5 => offI (ldI (v := vint (stdR p heads w (k + 1)).1) cx5 rfl rfl ?_))
  have O5 : Own3 Hb.length H5 (endsR p heads w k) (daysR (shortAt p heads w) k) (daysR (hungAt p heads w) k) ev bv nv := (O.keep S4 (by simp)).keep S5 (by simp; omega)
  have Q5 : SameX [px] Hb H5 := (S.trans S4.weak0).trans S5
  have d1 : (endsR p heads w k).length ≤ 1000 := by simp [endsR]; omega
  have d2 := daysR_few (q := shortAt p heads w) (k := k)
  have d3 := daysR_few (q := hungAt p heads w) (k := k)
  refine O5.add (by omega) (by have := Q5.1; omega) fun _ ev' H6 T6 O6 => ?_
  rw [← endsR_succ] at O6
  have Q6 : SameX [px] Hb H6 := T6.same Q5
  have cx6 : H6[px]? = some (.cells (stC (stdR p heads w (k + 1))) true 0) := by rw [T6.2 px lxb]; exact cx5
  -- behind the bites
  have post2 : ∀ {F2 : RG} {H7 : List AObj} {bv' : Value}, F2.ds = [] → F2.r 1 = hv → F2.r 2 = strV w → F2.r 3 = ptr p3 0 → F2.r 9 = ev' → F2.r 10 = bv' → F2.r 11 = nv → F2.r 12 = ptr px 0 → F2.r 13 = vint (k : Nat) → F2.r 16 = .bool (hungAt p heads w k) → TillN Hb.length H6 H7 → Own3 Hb.length H7 (endsR p heads w (k + 1)) (daysR (shortAt p heads w) (k + 1)) (daysR (hungAt p heads w) k) ev' bv' nv →
    W prog J 60 H.length 97 (subC [1, 1, 1, 0, 1, 0, 0, 1, 0, 0, 1, 1, 1, 1] (codeOf f97)) F2 H7 (contX pl97 prog J 60 H.length 97 ct97 [1, 1, 1, 0, 1, 0, 0, 1, 0, 0, 1, 1, 1, 1] (codeOf f97) [Nx H.length (fun k : Nat => w.length - k) (fun k F H' => ∃ ev bv nv, k ≤ w.length ∧ SameX [px] Hb H' ∧ H'[px]? = some (.cells (stC (stdR p heads w k)) true 0) ∧ Own3 Hb.length H' (endsR p heads w k) (daysR (shortAt p heads w) k) (daysR (hungAt p heads w) k) ev bv nv ∧ F.ds = [] ∧ F.r 1 = hv ∧ F.r 2 = strV w ∧ F.r 3 = ptr p3 0 ∧ F.r 9 = ev ∧ F.r 10 = bv ∧ F.r 11 = nv ∧ F.r 12 = ptr px 0 ∧ F.r 13 = vint (k : Nat)) k] (RetQ prog [.tmp 6, .tmp 7, .tmp 8] H.length K)) := by
   intro F2 H7 bv' t0 t1 t2 t3 t9 t10 t11 t12 t13 t16 T7 O7
   rw [s97_3, t11, t13, t16]
   have Q7 := T7.same Q6
   have cx7 : H7[px]? = some (.cells (stC (stdR p heads w (k + 1))) true 0) := by rw [T7.2 px lxb]; exact cx6
   refine cndB (fun hy => ?_) fun hno => ?_
   ·refine O7.rot.rot.add (by omega) (by have := Q7.1; omega) fun _ nv' H8 T8 O8 => addI (by omega) ⟨k + 1, by dsimp only; omega, .inl ⟨ev', bv', nv', by omega, T8.same Q7, by rw [T8.2 px lxb]; exact cx7, ?_, t0, t1, t2, t3, t9, t10, rfl, t12, by show vint _ = vint _; congr 1⟩⟩
    have := O8.rot
    rw [daysR_succ (q := hungAt p heads w), if_pos hy]
    exact this
   ·refine addI (by omega) ⟨k + 1, by dsimp only; omega, .inl ⟨ev', bv', nv, by omega, Q7, cx7, ?_, t0, t1, t2, t3, t9, t10, t11, t12, by show vint _ = vint _; congr 1⟩⟩
    rw [daysR_succ (q := hungAt p heads w), if_neg (by rw [hno]; decide), List.append_nil]
    exact O7
  refine cndB (fun hy => ?_) fun hno => hold.2 ?_
  ·refine O6.rot.add (by omega) (by have := Q6.1; omega) fun _ bv' H7 T7 O7 => hold.2 (post2 q0 q1 q2 q3 rfl rfl q11 q12 q13 q16 T7 ?_)
   have := O7.rot.rot
   rw [daysR_succ (q := shortAt p heads w), if_pos hy]
   exact this
  ·refine post2 q0 q1 q2 q3 rfl q10 q11 q12 q13 q16 ⟨Nat.le_refl _, fun _ _ => rfl⟩ ?_
   rw [daysR_succ (q := shortAt p heads w), if_neg (by rw [hno]; decide), List.append_nil]
   exact O6
 have sb : ∀ {H'}, SameX [] Hc H' → SameB (some [p3, px, hb0]) Hc H' := fun S' b hb' => S'.2 b (by simp at hb'; rcases hb' with rfl | rfl | rfl <;> omega) (by simp)
 refine ⟨[p3, px, hb0], load_part (c := p.cells) c3c (by simp [Pas.cells]) rfl rfl ⟨by simp [RdOk, ptrBlk], load_part (c := stC (stdR p heads w k)) cxc (by simp [stC]) rfl rfl ⟨by simp [RdOk, ptrBlk], get SameX.refl hx fun o => ⟨by simp [RdOk, ptrBlk], byteI hb (eqlW ⟨?_, ?_⟩)⟩⟩⟩⟩
 ·refine good133 hJ f so ⟨hbd.1, by omega⟩ fun H3 S3 => ext30 (ext31 (ext32 (qAl fun H4 pq e4 S4 cq l4 => ⟨sb (S3.trans S4), ?_⟩)))
  have h3 := S3.1
  refine qStA (c := stC (stdR p heads w (k + 1))) cq rfl rfl rfl fun H5 S5 cq5 l5 => hold.2 ?_
  exact post ds r1 r2 r3 r9 r10 r11 r12 r13 rfl rfl rfl ((S3.trans S4).thru S5 (by simp; omega)) cq5 (by omega)
 ·refine qAl fun H3 pq e3 S3 cq l3 => ⟨sb S3, ?_⟩
  refine good133 hJ f so ⟨hbd.1, by omega⟩ fun H4 S4 => ext30 (ext31 (ext32 ?_))
  have h4 := S4.1
  refine qStA (c := stC (stdR p heads w (k + 1))) (S4.get cq (by simp)) rfl rfl rfl fun H5 S5 cq5 l5 => hold.2 ?_
  exact post ds r1 r2 r3 r9 r10 r11 r12 r13 rfl rfl rfl ((S3.trans S4).thru S5 (by simp; omega)) cq5 (by omega)
theorem good100 (hJ : Closed prog main J) {a fr dy : Nat} {n : Int} (ha : a ≤ 8) (hfd : fr + dy ≤ a) (hK : ∀ H' v o, SameX [] H H' → OwnX H' 1 ((stayH a fr dy n).map vint) (stayH a fr dy n).length v (some o) → H.length ≤ o → K v H') : Good prog J 100 [vint (a : Nat), vint n, vint (fr : Nat), vint (dy : Nat)] H K := by
 refine g100 hJ fun ok => ?_
 rw [e100]
 have hrm : (2000 : Nat) < room := by decide
 refine ⟨by decide, by omega, Int.le_refl _, by omega, ?_⟩
 rw [Int.toNat_natCast]
 have zl : ∀ k, zrep [vint 0] k = (List.replicate k (0 : Int)).map vint := by
  intro k
  induction k with
  | zero => rfl
  | succ k ih =>
   show [vint 0] ++ zrep [vint 0] k = _
   rw [ih, List.replicate_succ]
   rfl
 generalize hH5 : H ++ [AObj.cells (zrep [vint 0] a) true 0] = H5
 have c5 : H5[H.length]? = some (.cells ((stayH a fr 0 n).map vint) true 0) := by rw [← hH5, zl, stayH_zero]; simp
 have S5 : SameX [] H H5 := by rw [← hH5]; exact SameX.refl.app
 generalize hpl : H.length = pl at c5
 refine l100_1 hJ (fun i : Nat => dy - i) (fun i F H' => i ≤ dy ∧ SameX [pl] H5 H' ∧ H'[pl]? = some (.cells ((stayH a fr i n).map vint) true 0) ∧ F.ds = [] ∧ F.r 1 = vint n ∧ F.r 2 = vint (fr : Nat) ∧ F.r 3 = vint (dy : Nat) ∧ F.r 9 = .slice (some ⟨pl, 0, none⟩) a a ∧ F.r 10 = vint ((fr + i : Nat) : Int)) ?_ (s := 0)
  (.inl ⟨by omega, SameX.refl, c5, rfl, rfl, rfl, rfl, rfl, rfl⟩)
 rintro i F H' ⟨hi, S, cl, ds, r1, r2, r3, r9, r10⟩ okc hnc
 rw [s100_1, r1, r2, r3, r9, r10, ds]
 refine addI (by omega) (lssI (cndI (fun hlt => ?_) fun hge => ?_))
 ·refine idxI ⟨by omega, by omega⟩ ?_
  have e1 : 0 + ((fr + i : Nat) : Int).toNat * 1 = fr + i := by omega
  rw [e1]
  refine qSt cl (by simp [stayH_len]; omega) rfl rfl fun H8 S8 c8' l8 => addI (by omega) ⟨i + 1, by dsimp only; omega, .inl ⟨by omega, S.trans S8, ?_, ds, r1, r2, r3, r9, by show vint _ = vint _; congr 1⟩⟩
  rw [c8', ← List.map_set, stayH_set (by omega)]
 ·have hid : i = dy := by omega
  subst hid
  refine retL_same (by simp [unk]) (hK H' (.slice (some ⟨pl, 0, none⟩) a a) pl (S5.thru S (by simp; omega)) ⟨by simp, knV _, .inr ⟨pl, a, 0, rfl, by rw [stayH_len], cl, .inr (by rw [stayH_len])⟩⟩ (by omega))
theorem good99 (hJ : Closed prog main J) {p : Pas} {heads : List Int} {s : SkyR} {hv : Value} (f : pasOk p) (g : skyOk s) (hh : headsOk heads) (sh : Sli H hv 1 heads.length (heads.map vint)) (hl : s.days ≤ heads.length)
  (hK : ∀ H', SameX [] H H' → K (.tuple ⟨[vint (((rainsB s).filter fun w => decide (starvR p heads w < 0)).length : Nat), vint ((rainsB s).length : Nat)]⟩) H') : Good prog J 99 [.agg ⟨p.cells⟩, hv, .agg ⟨s.cells⟩] H K := by
 refine g99 hJ fun ok => ?_
 rw [e99]
 obtain ⟨g1, g2, g3⟩ := id g
 refine qBox (l := p.cells) rfl fun H1 p3 e1 S1 c3 l1 => qBox (l := s.cells) rfl fun H2 p5 e2 S2 c5 l2 => load_part (c := s.cells) c5 (by simp [SkyR.cells]) rfl rfl ?_
 refine good91 hJ g fun H3 av ao S3 A3 hao => ?_
 have T3 := (S1.trans S2).trans S3
 have c33 := S3.get (S2.get c3 (by simp)) (by simp)
 have hfew := rainsB_few g
 refine l99_1 hJ (fun i : Nat => (rainsB s).length - i) (fun i F H' => SameX [] H3 H' ∧ i ≤ (rainsB s).length ∧ F.ds = [] ∧ F.r 1 = hv ∧ F.r 3 = ptr p3 0 ∧ F.r 8 = vint ((((rainsB s).take i).filter fun w => decide (starvR p heads w < 0)).length : Nat) ∧ F.r 9 = av ∧ F.r 10 = vint (i : Nat)) ?_ (s := 0)
  (.inl ⟨SameX.refl, by omega, rfl, rfl, rfl, rfl, rfl, rfl⟩)
 rintro i F Hc ⟨S, hi, ds, r1, r3, r8, r9, r10⟩ okc hnc
 have Ac := ownX_keep A3 S (by simp)
 rw [s99_1, r1, r3, r8, r9, r10, ds]
 refine lenI (ownX_sli Ac) (lssI (cndI (fun hlt => ?_) fun hge => ?_))
 rotate_left
 ·have hie : i = (rainsB s).length := by omega
  subst hie
  rw [List.take_of_length_le (Nat.le_refl _)]
  exact lenI (ownX_sli Ac) (retL_same (nu2 (by simp [unk]) (by simp [unk])) (hK Hc (T3.trans S)))
 have hil : i < (rainsB s).length := by omega
 have hui : (rainsB s)[i]? = some (rainsB s)[i] := List.getElem?_eq_getElem hil
 have hwl := rainsB_len (List.getElem_mem hil)
 have et : (rainsB s).take (i + 1) = (rainsB s).take i ++ [(rainsB s)[i]] := by
  rw [List.take_add_one, hui]
  rfl
 have hfl : (((rainsB s).take i).filter fun w => decide (starvR p heads w < 0)).length ≤ i := by
  have := List.length_filter_le (fun w => decide (starvR p heads w < 0)) ((rainsB s).take i)
  rw [List.length_take] at this
  omega
 refine load_part (c := p.cells) (S.get c33 (by simp)) (by simp [Pas.cells]) rfl rfl (strGet rfl (ownX_sli Ac) hui fun q => ?_)
 refine good97 hJ f hh ((T3.trans S).sli sh (by simp)) (by omega) (by omega) fun H4 ev bv nv S4 O4 => ext30 (ext31 (ext32 ?_))
 obtain ⟨_, _, oc, _, _, C, _, _, _⟩ := O4
 have hz := daysR_none (q := hungAt p heads (rainsB s)[i]) (k := (rainsB s)[i].length)
 refine lenI (ownX_sli C) (eqlI (cndI (fun h0 => ?_) fun h0 => ?_))
 ·refine addI (by omega) (addI (by omega) ⟨i + 1, by dsimp only; omega, .inl ⟨S.trans S4, by omega, ds, r1, r3, ?_, r9, by show vint _ = vint _; congr 1⟩⟩)
  have hs : starvR p heads (rainsB s)[i] < 0 := hz.1 (by omega)
  show vint _ = vint _
  rw [et, List.filter_append, List.length_append]
  simp [hs]
 ·refine addI (by omega) ⟨i + 1, by dsimp only; omega, .inl ⟨S.trans S4, by omega, ds, r1, r3, ?_, r9, by show vint _ = vint _; congr 1⟩⟩
  have hs : ¬ starvR p heads (rainsB s)[i] < 0 := fun e => h0 (by have := hz.2 e; omega)
  show F.r 8 = _
  rw [r8, et, List.filter_append, List.length_append]
  simp [hs]
theorem good95 (hJ : Closed prog main J) {p : Pas} {s : SkyR} {n : Int} {fr dy : Nat} (f : pasOk p) (g : skyOk s) (hn : 0 ≤ n ∧ n ≤ 40) (hfd : ((fr + dy : Nat) : Int) ≤ s.days)
  (hK : ∀ H', SameX [] H H' → K (.bool (stayB p s n fr dy)) H') : Good prog J 95 [.agg ⟨p.cells⟩, .agg ⟨s.cells⟩, vint n, vint (fr : Nat), vint (dy : Nat)] H K := by
 refine g95 hJ fun ok => ?_
 rw [e95]
 obtain ⟨g1, g2, g3⟩ := id g
 obtain ⟨a, ha⟩ := Int.eq_ofNat_of_zero_le (by omega : (0 : Int) ≤ s.days)
 have ea : s.days.toNat = a := by omega
 refine qBox (l := p.cells) rfl fun H1 p1 e1 S1 c1 l1 => qBox (l := s.cells) rfl fun H2 p2 e2 S2 c2 l2 => ?_
 have c12 := S2.get c1 (by simp)
 have b1 := lt_of_get c12
 have b2 := lt_of_get c2
 have T2 := S1.trans S2
 refine ⟨[p1, p2], load_part (c := p.cells) c12 (by simp [Pas.cells]) rfl rfl ⟨by simp [RdOk, ptrBlk], offI (ldI (v := vint s.days) c2 rfl rfl ⟨by simp [RdOk, ptrBlk], load_part (c := s.cells) c2 (by simp [SkyR.cells]) rfl rfl ⟨by simp [RdOk, ptrBlk], ?_⟩⟩)⟩⟩
 rw [ha]
 refine good100 hJ (a := a) (by omega) (by omega) fun H3 v o S3 O3 ho => ⟨sbTwo S3 b1 b2 (by simp) (by simp), ?_⟩
 refine good99 hJ f g (stayH_ok hn) (ownX_sli O3) (by rw [stayH_len]; omega) fun H4 S4 => ⟨sbTwo (S3.trans S4) b1 b2 (by simp) (by simp), ext0 (ext1 (eqlI (retL_same (by simp [unk]) ?_)))⟩
 have := hK H4 ((T2.trans S3).trans S4)
 have e : decide ((((rainsB s).filter fun w => decide (starvR p (stayH a fr dy n) w < 0)).length : Int) = ((rainsB s).length : Int)) = stayB p s n fr dy := by
  unfold stayB fedB
  rw [ea, Int.toNat_natCast, Int.toNat_natCast]
  cases hall : (rainsB s).all fun w => decide (starvR p (stayH a fr dy n) w < 0) with
  | true =>
   rw [List.filter_eq_self.2 (fun w hw => List.all_eq_true.1 hall w hw)]
   exact decide_eq_true rfl
  | false =>
   refine decide_eq_false fun e => ?_
   have e' : ((rainsB s).filter fun w => decide (starvR p (stayH a fr dy n) w < 0)).length = (rainsB s).length := by omega
   have := List.length_filter_eq_length_iff.1 e'
   rw [List.all_eq_false] at hall
   obtain ⟨w, hw, hno⟩ := hall
   exact hno (this w hw)
 rw [e]
 exact this
theorem good44 (hJ : Closed prog main J) {p : Pas} {s : SkyR} {fr dy : Int} (hK : ∀ H', SameX [] H H' → K (.tuple ⟨[vint (headN p s fr dy), vint (headE p s fr dy)]⟩) H') : Good prog J 44 [.agg ⟨p.cells⟩, .agg ⟨s.cells⟩, vint fr, vint dy] H K := by
 refine g44 hJ fun ok => ?_
 rw [e44]
 refine qBox (l := p.cells) rfl fun H1 p4 e1 S1 c4 l1 => qBox (l := s.cells) rfl fun H2 p5 e2 S2 c5 l2 => ?_
 have c42 := S2.get c4 (by simp)
 have T2 := S1.trans S2
 have fin : ∀ {e : Int}, headE p s fr dy = e → e ≠ 0 → retL H.length K [] [vint 0, vint e] H2 := fun he h0 => by
  have := hK _ T2
  unfold headN at this
  rw [if_neg (by omega), he] at this
  exact retL_same (nu2 (by simp [unk]) (by simp [unk])) this
 refine load_part (c := p.cells) c42 (by simp [Pas.cells]) rfl rfl (good37 hJ (neqI (cndI (fun h1 => fin ?_ h1) fun h1 => ?_)))
 ·unfold headE fst2
  rw [if_pos h1, if_pos h1]
 have z1 : pasE p = 0 := by omega
 refine load_part (c := s.cells) c5 (by simp [SkyR.cells]) rfl rfl (good81 hJ (neqI (cndI (fun h1s => fin ?_ h1s) fun h1s => ?_)))
 ·unfold headE fst2
  rw [if_neg h1, if_pos h1s]
 have z2 : skyE s = 0 := by omega
 have hf : ¬ fst2 (pasE p) (skyE s) ≠ 0 := by unfold fst2; rw [if_neg h1]; exact h1s
 have f : pasOk p := by
  unfold pasE at z1
  split at z1
  ·assumption
  ·cases z1
 have g : skyOk s := by
  unfold skyE at z2
  split at z2
  ·assumption
  ·cases z2
 obtain ⟨g1, g2, g3⟩ := id g
 refine offI (ldI (v := vint s.days) c5 rfl rfl (subI (by omega) (good82 hJ (notI (cndN (fun h2 => fin ?_ (by decide)) fun h2 => ?_)))))
 ·unfold headE; rw [if_neg hf, if_pos h2]
 refine offI (ldI (v := vint s.days) c5 rfl rfl (subI (by omega) (good82 hJ (notI (cndN (fun h3 => fin ?_ (by decide)) fun h3 => ?_)))))
 ·unfold headE; rw [if_neg hf, if_neg (not_not_intro h2), if_pos h3]
 have h0 : headE p s fr dy = 0 := by unfold headE; rw [if_neg hf, if_neg (not_not_intro h2), if_neg (not_not_intro h3)]
 obtain ⟨a, rfl⟩ := Int.eq_ofNat_of_zero_le (by omega : (0 : Int) ≤ fr)
 obtain ⟨b, rfl⟩ := Int.eq_ofNat_of_zero_le (by omega : (0 : Int) ≤ dy)
 let q : Int → Bool := fun n => stayB p s n (a : Nat) (b : Nat)
 refine l44_1 hJ (fun m : Nat => 41 - m) (fun m F H' => m ≤ 41 ∧ SameX [] H2 H' ∧ F.ds = [] ∧ F.r 2 = vint (a : Nat) ∧ F.r 3 = vint (b : Nat) ∧ F.r 4 = ptr p4 0 ∧ F.r 5 = ptr p5 0 ∧ F.r 12 = vint (topH q (m - 1)) ∧ F.r 13 = vint (m : Nat)) ?_ (s := 0)
  (.inl ⟨by omega, SameX.refl, rfl, rfl, rfl, rfl, rfl, rfl, rfl⟩)
 rintro m F H' ⟨hm, S, ds, r2, r3, r4, r5, r12, r13⟩ okc hnc
 rw [s44_1, r2, r3, r4, r5, r12, r13, ds]
 refine leqI (cndI (fun hle => ?_) fun hgt => ?_)
 ·refine load_part (c := p.cells) (S.get c42 (by simp)) (by simp [Pas.cells]) rfl rfl (load_part (c := s.cells) (S.get c5 (by simp)) (by simp [SkyR.cells]) rfl rfl ?_)
  refine good95 hJ f g (by omega) (by omega) fun H4 S4 => ?_
  have step : topH q (m + 1 - 1) = if q (m : Nat) = true then (m : Int) else topH q (m - 1) := by
   rcases Nat.eq_zero_or_pos m with h | h
   ·subst h
    show topH q 0 = _
    split <;> rfl
   ·obtain ⟨k, rfl⟩ : ∃ k, m = k + 1 := ⟨m - 1, by omega⟩
    rfl
  refine cndB (fun hy => ?_) fun hno => ?_
  ·refine addI (by omega) ⟨m + 1, by dsimp only; omega, .inl ⟨by omega, S.trans S4, ds, r2, r3, r4, r5, ?_, by show vint _ = vint _; congr 1⟩⟩
   rw [step, if_pos (show q (m : Nat) = true from hy)]
   rfl
  ·refine addI (by omega) ⟨m + 1, by dsimp only; omega, .inl ⟨by omega, S.trans S4, ds, r2, r3, r4, r5, ?_, by show vint _ = vint _; congr 1⟩⟩
   rw [step, if_neg (show ¬ q (m : Nat) = true by rw [show q (m : Nat) = _ from hno]; decide)]
   exact r12
 ·have : m = 41 := by omega
  subst this
  have := hK H' (T2.trans S)
  unfold headN at this
  rw [if_pos h0, h0] at this
  exact retL_same (nu2 (by simp [unk]) (by simp [unk])) this
end
def lngD (q : Nat → Bool) : Nat → Nat
 | 0 => 0
 | d + 1 => if q (d + 1) = true then d + 1 else lngD q d
theorem lngD_le {q : Nat → Bool} : ∀ d, lngD q d ≤ d
 | 0 => Nat.le_refl _
 | d + 1 => by
  unfold lngD
  split
  ·exact Nat.le_refl _
  ·exact Nat.le_succ_of_le (lngD_le d)
section
variable {main : Bool} {J : JT} {h H : List AObj} {K : Value → List AObj → Prop} {KV : Value → Prop} {HL : List AObj → Prop} {n0 : Nat}
theorem good45 (hJ : Closed prog main J) {p : Pas} {s : SkyR} {n : Int} {fr D : Nat} (f : pasOk p) (g : skyOk s) (hn : 0 ≤ n ∧ n ≤ 40) (hD : s.days = ((fr + D : Nat) : Int)) (hD1 : 1 ≤ D)
  (hK : ∀ H', SameX [] H H' → K (.tuple ⟨[vint (lngD (fun d => stayB p s n fr d) D : Nat), vint 0]⟩) H') : Good prog J 45 [.agg ⟨p.cells⟩, .agg ⟨s.cells⟩, vint n, vint (fr : Nat)] H K := by
 refine g45 hJ fun ok => ?_
 rw [e45]
 obtain ⟨g1, g2, g3⟩ := id g
 refine qBox (l := p.cells) rfl fun H1 p4 e1 S1 c4 l1 => qBox (l := s.cells) rfl fun H2 p5 e2 S2 c5 l2 => ?_
 have c42 := S2.get c4 (by simp)
 have T2 := S1.trans S2
 have b4 := lt_of_get c42
 have b5 := lt_of_get c5
 refine ⟨[p4, p5], load_part (c := p.cells) c42 (by simp [Pas.cells]) rfl rfl ⟨by simp [RdOk, ptrBlk], load_part (c := s.cells) c5 (by simp [SkyR.cells]) rfl rfl ⟨by simp [RdOk, ptrBlk], ?_⟩⟩⟩
 have sb : ∀ {H'}, SameX [] H2 H' → SameB (some [p4, p5]) H2 H' := fun S => sbTwo S b4 b5 (by simp) (by simp)
 refine good36 hJ ⟨sb SameX.refl, good72 hJ ⟨sb SameX.refl, by decide, fillP2 ⟨rfl, rfl⟩ ⟨rfl, rfl⟩ (qNew fun H3 p3 e3 S3 c3 l3 => ⟨sb S3, ?_⟩)⟩⟩
 have z1 : pasE p = 0 := by unfold pasE; rw [if_pos f]
 have z2 : skyE s = 0 := by unfold skyE; rw [if_pos g]
 have z3 : fst2 (pasE p) (skyE s) = 0 := by rw [z1, z2]; rfl
 refine good88 hJ (ownX_sli (ownX_new (s := 1) (n := 2) c3 rfl rfl)) ⟨sb S3, ?_⟩
 have T3 := T2.trans S3
 have c43 := S3.get c42 (by simp)
 have c53 := S3.get c5 (by simp)
 refine neqI (cndI (fun h1 => absurd z3 h1) fun _ => ?_)
 refine good73 hJ (notI (cndN (fun h1 => absurd hn h1) fun _ => ?_))
 refine offI (ldI (v := vint s.days) c53 rfl rfl (subI (by omega) (good73 hJ (notI (cndN (fun h1 => absurd (by omega) h1) fun _ => ?_)))))
 refine offI (ldI (v := vint s.days) c53 rfl rfl (subI (by omega) ?_))
 have eD : s.days - (fr : Int) = (D : Int) := by omega
 rw [eD]
 refine l45_1 hJ (fun d : Nat => d) (fun d F H' => d ≤ D ∧ SameX [] H H' ∧ H'[p4]? = some (.cells p.cells true 0) ∧ H'[p5]? = some (.cells s.cells true 0) ∧ lngD (fun d => stayB p s n fr d) D = lngD (fun d => stayB p s n fr d) d ∧ F.ds = [] ∧ F.r 2 = vint n ∧ F.r 3 = vint (fr : Nat) ∧ F.r 4 = ptr p4 0 ∧ F.r 5 = ptr p5 0 ∧ F.r 11 = vint (d : Nat)) ?_ (s := D)
  (.inl ⟨Nat.le_refl _, T3, c43, c53, rfl, rfl, rfl, rfl, rfl, rfl, rfl⟩)
 rintro d F H' ⟨hd, S, d4, d5, hq, ds, r2, r3, r4, r5, r11⟩ okc hnc
 rw [s45_1, r2, r3, r4, r5, r11]
 have stop : ∀ {F2 : RG} {H2 : List AObj}, SameX [] H H2 → lngD (fun d => stayB p s n fr d) D = d → F2.ds = [] → F2.r 11 = vint (d : Nat) → F2.r 44 = .bool false →
   W prog J 48 H.length 45 (subC [1, 1, 1, 1, 1, 0, 0, 0, 0, 1] (codeOf f45)) F2 H2 (contX pl45 prog J 48 H.length 45 ct45 [1, 1, 1, 1, 1, 0, 0, 0, 0, 1] (codeOf f45) [Nx H.length (fun d : Nat => d) (fun d F H' => d ≤ D ∧ SameX [] H H' ∧ H'[p4]? = some (.cells p.cells true 0) ∧ H'[p5]? = some (.cells s.cells true 0) ∧ lngD (fun d => stayB p s n fr d) D = lngD (fun d => stayB p s n fr d) d ∧ F.ds = [] ∧ F.r 2 = vint n ∧ F.r 3 = vint (fr : Nat) ∧ F.r 4 = ptr p4 0 ∧ F.r 5 = ptr p5 0 ∧ F.r 11 = vint (d : Nat)) d] (RetQ prog [.tmp 8, .tmp 9] H.length K)) := by
  intro F2 H2 S2 he ds2 q11 q44
  rw [s45_2, q44, q11, ds2]
  have := hK H2 S2
  rw [he] at this
  exact cnd_false.2 (retL_same (nu2 (by simp [unk]) (by simp [unk])) this)
 refine gtrI (cndI (fun hpos => ?_) fun hz => hold.2 ?_)
 ·obtain ⟨e, rfl⟩ : ∃ e, d = e + 1 := ⟨d - 1, by omega⟩
  refine load_part (c := p.cells) d4 (by simp [Pas.cells]) rfl rfl (load_part (c := s.cells) d5 (by simp [SkyR.cells]) rfl rfl ?_)
  refine good89 hJ f g hn (by omega) fun H4 S4 => notI (hold.2 ?_)
  cases hb : stayB p s n (fr : Nat) ((e + 1 : Nat) : Int) with
  | true =>
   refine stop (S.trans S4) ?_ ds r11 rfl
   rw [hq]
   unfold lngD
   rw [if_pos hb]
  | false =>
   rw [s45_2]
   refine cnd_true.2 ?_
   show aBin prog .sub 3 (F.r 11) (vint 1) _
   rw [r11]
   refine subI (by omega) ⟨e, by dsimp only; omega, .inl ⟨by omega, S.trans S4, S4.get d4 (by simp), S4.get d5 (by simp), ?_, ds, r2, r3, r4, r5, ?_⟩⟩
   ·rw [hq]
    conv => lhs; unfold lngD
    rw [if_neg (by rw [hb]; decide)]
   ·show vint _ = vint _
    congr 1
    omega
 ·have : d = 0 := by omega
  subst this
  exact stop S (by rw [hq]; rfl) ds r11 rfl
end
end Go.Proofs.Ythnccaajpdnndaa
namespace Go.Proofs.Ythnccaajpdnndaa
open Go.Conc Go.Proofs.Try
set_option maxRecDepth 100000
set_option maxHeartbeats 4000000
set_option linter.unusedVariables false
section
variable {main : Bool} {J : JT} {n0 : Nat} {h : List AObj} {K : Value → List AObj → Prop}
theorem at24 : prog.funcs[24]? = some f24 := by kernel_rfl
theorem body24 : f24.body = some (codeOf f24) := by kernel_rfl
def pl24 : Plans := [(2, false, .take 0 (.take 1 (.take 2 (.take 3 (.take 4 (.take 5 (.take 7 (.take 8 (.take 9 (.take 10 (.take 11 (.take 12 (.last 6 true (.last 13 true (.last 14 true (.last 15 true (.take 16 (.last 17 false (.fin))))))))))))))))))),
 (4, false, .take 0 (.take 1 (.take 2 (.take 3 (.take 4 (.take 6 (.take 7 (.take 8 (.last 5 true (.last 9 true (.last 10 true (.last 11 true (.take 12 (.last 13 false (.fin)))))))))))))))]
def ct24 : Cuts := .go
theorem pok24 : plansOk prog pl24 (codeOf f24) = true := by kernel_rfl
theorem e24 {a0 : Value} : W prog J 55 h.length 24 (codeOf f24) (RG.mk (regs [a0]) []) h (RetQ prog [.cell 2 31] h.length K) =
(aAlloc [(vint 0), (vint 0), (vint 0), (vint 0), (vint 0), (vint 0)] h fun v1 h2 =>
 Good prog J 23 [a0, (vint 3), (vint 30)] h2 fun v3 h4 =>
(((3 * 1 : Nat) ≤ 16777216 ∧ (3 : Nat) ≤ 16777216 ∧ List.length [(vint 0)] = 1) ∧ aFill (zrep [(vint 0)] 3) [(0, 1, (vint 1)), (1, 1, (vint 1)), (2, 1, (vint 2))] fun c5 =>
 aNewS 3 c5 h4 fun v6 h7 =>
 Good prog J 69 [a0, (vint 0), v6] h7 fun v8 h9 =>
 Good prog J 26 [a0, (vint 5)] h9 fun v10 h11 =>
(((3 * 1 : Nat) ≤ 16777216 ∧ (3 : Nat) ≤ 16777216 ∧ List.length [(vint 0)] = 1) ∧ aFill (zrep [(vint 0)] 3) [(0, 1, (vint 1)), (1, 1, (vint 2)), (2, 1, v10)] fun c12 =>
 aNewS 3 c12 h11 fun v13 h14 =>
 Good prog J 69 [a0, (vint 0), v13] h14 fun v15 h16 =>
 aFill [(vint 0), (vint 0), (vint 0), (vint 0), (vint 0), (vint 0)] [(1, 1, v3), (2, 1, v8), (5, 1, v15)] fun c17 =>
 aAlloc [(vint 0), (vint 0), (vint 0), (vint 0), (vint 0), (vint 0)] h16 fun v18 h19 =>
 aStore 6 v18 (Value.agg ⟨c17⟩) h19 fun h20 =>
(∃ B, aOff v18 1 fun v21 =>
 aLoad false 1 v21 h20 fun v22 =>
 RdOk (some B) (ptrBlk v21) ∧ (aOff v18 1 fun v23 =>
 aLoad false 1 v23 h20 fun v24 =>
 RdOk (some B) (ptrBlk v23) ∧ (aOff v18 1 fun v25 =>
 aLoad false 1 v25 h20 fun v26 =>
 RdOk (some B) (ptrBlk v25) ∧ (aBin prog .quo 3 v26 (vint 2) fun v27 =>
 aOff v18 1 fun v28 =>
 aLoad false 1 v28 h20 fun v29 =>
 RdOk (some B) (ptrBlk v28) ∧ (Good prog J 26 [a0, v24] h20 fun v30 h31 =>
 SameB (some B) h20 h31 ∧ (Good prog J 23 [a0, v27, v29] h31 fun v32 h33 =>
 SameB (some B) h20 h33 ∧ ((((2 * 1 : Nat) ≤ 16777216 ∧ (2 : Nat) ≤ 16777216 ∧ List.length [(vint 0)] = 1) ∧ aFill (zrep [(vint 0)] 2) [(0, 1, v30), (1, 1, v32)] fun c34 =>
 aNewS 2 c34 h33 fun v35 h36 =>
 SameB (some B) h20 h36 ∧ (Good prog J 69 [a0, v22, v35] h36 fun v37 h38 =>
 SameB (some B) h20 h38 ∧ (aOff v18 0 fun v39 =>
 aStore 1 v39 v37 h38 fun h40 =>
 aOff v18 2 fun v41 =>
 aLoad false 1 v41 h40 fun v42 =>
 aOff v18 2 fun v43 =>
 aLoad false 1 v43 h40 fun v44 =>
 aBin prog .add 3 v44 (vint 5) fun v45 =>
 aMin (vint 9) [v45] fun v46 =>
 Good prog J 23 [a0, v42, v46] h40 fun v47 h48 =>
 aOff v18 3 fun v49 =>
 aStore 1 v49 v47 h48 fun h50 =>
(∃ B, aOff v18 1 fun v51 =>
 aLoad false 1 v51 h50 fun v52 =>
 RdOk (some B) (ptrBlk v51) ∧ (aBin prog .quo 3 v52 (vint 2) fun v53 =>
 aOff v18 1 fun v54 =>
 aLoad false 1 v54 h50 fun v55 =>
 RdOk (some B) (ptrBlk v54) ∧ (Good prog J 26 [a0, v53] h50 fun v56 h57 =>
 SameB (some B) h50 h57 ∧ (Good prog J 26 [a0, v55] h57 fun v58 h59 =>
 SameB (some B) h50 h59 ∧ ((((4 * 1 : Nat) ≤ 16777216 ∧ (4 : Nat) ≤ 16777216 ∧ List.length [(vint 0)] = 1) ∧ aFill (zrep [(vint 0)] 4) [(0, 1, (vint 1)), (1, 1, (vint 2)), (2, 1, v56), (3, 1, v58)] fun c60 =>
 aNewS 4 c60 h59 fun v61 h62 =>
 SameB (some B) h50 h62 ∧ (Good prog J 69 [a0, (vint 0), v61] h62 fun v63 h64 =>
 SameB (some B) h50 h64 ∧ (aOff v18 4 fun v65 =>
 aStore 1 v65 v63 h64 fun h66 =>
 aLoad true 6 v18 h66 fun v67 =>
 aStore 6 v1 v67 h66 fun h68 =>
 RetQ prog [.cell 2 31] h.length K .ret (RG.p (RG.p (RG.p (RG.p (RG.p (RG.p (RG.p (RG.p (RG.p (RG.p (RG.p (RG.p (RG.p (RG.p (RG.p (RG.p (RG.p (RG.p (RG.p (RG.p (RG.p (RG.p (RG.p (RG.p (RG.p (RG.p (RG.p (RG.p (RG.p (RG.p (RG.p (RG.p (RG.p (RG.p (RG.p (RG.p (RG.p (RG.p (RG.p (RG.p (RG.p (RG.p (RG.p (RG.p (RG.p (RG.p (RG.p (RG.p (RG.p (RG.p (RG.p (RG.p (RG.p (RG.mk (regs [a0]) []) 2 v1) 4 a0) 5 v3) 6 a0) 7 v6) 8 v8) 9 a0) 10 a0) 11 v10) 12 v13) 13 v15) 14 (Value.agg ⟨c17⟩)) 3 v18) 15 a0) 16 v21) 17 v22) 18 a0) 19 v23) 20 v24) 22 a0) 23 v25) 24 v26) 25 v27) 26 v28) 27 v29) 21 v30) 28 v32) 29 v35) 30 v37) 31 v39) 32 a0) 33 v41) 34 v42) 35 v43) 36 v44) 37 v45) 38 v46) 39 v47) 40 v49) 41 a0) 42 a0) 43 v51) 44 v52) 45 v53) 47 a0) 48 v54) 49 v55) 46 v56) 50 v58) 51 v61) 52 v63) 53 v65) 54 v67) h68))))))))))))))))))))) := top_eq pok24 ct24 (by kernel_rfl)
theorem g24 (hJ : Closed prog main J) {a0 : Value} (hs : heapOk h → W prog J 55 h.length 24 (codeOf f24) (RG.mk (regs [a0]) []) h (RetQ prog [.cell 2 31] h.length K)) : Good prog J 24 [a0] h K :=
 good_of_W hJ mixed at24 body24 (by kernel_rfl) (Nat.le_of_ble_eq_true rfl) hs
theorem at25 : prog.funcs[25]? = some f25 := by kernel_rfl
theorem body25 : f25.body = some (codeOf f25) := by kernel_rfl
def pl25 : Plans := [(2, false, .take 0 (.take 1 (.take 2 (.take 4 (.take 5 (.take 6 (.last 3 true (.take 8 (.last 7 true (.last 9 false (.take 10 (.last 11 false (.fin)))))))))))))]
def ct25 : Cuts := .go
theorem pok25 : plansOk prog pl25 (codeOf f25) = true := by kernel_rfl
theorem e25 {a0 a1 : Value} : W prog J 21 h.length 25 (codeOf f25) (RG.mk (regs [a0, a1]) []) h (RetQ prog [.cell 4 24] h.length K) =
(aAlloc [(vint 0), (vint 0), (vint 0)] h fun v1 h2 =>
 Good prog J 23 [a0, (vint 1), a1] h2 fun v3 h4 =>
 aFill [(vint 0), (vint 0), (vint 0)] [(0, 1, v3)] fun c5 =>
 aAlloc [(vint 0), (vint 0), (vint 0)] h4 fun v6 h7 =>
 aStore 3 v6 (Value.agg ⟨c5⟩) h7 fun h8 =>
(∃ B, aOff v6 0 fun v9 =>
 aLoad false 1 v9 h8 fun v10 =>
 RdOk (some B) (ptrBlk v9) ∧ (aOff v6 0 fun v11 =>
 aLoad false 1 v11 h8 fun v12 =>
 RdOk (some B) (ptrBlk v11) ∧ (Good prog J 23 [a0, (vint 1), v10] h8 fun v13 h14 =>
 SameB (some B) h8 h14 ∧ (aOff v6 1 fun v15 =>
 Good prog J 23 [a0, (vint 1), v12] h14 fun v16 h17 =>
 SameB (some B) h8 h17 ∧ (aStore 1 v15 v13 h17 fun h18 =>
 aOff v6 2 fun v19 =>
 aStore 1 v19 v16 h18 fun h20 =>
 aLoad true 3 v6 h20 fun v21 =>
 aStore 3 v1 v21 h20 fun h22 =>
 RetQ prog [.cell 4 24] h.length K .ret (RG.p (RG.p (RG.p (RG.p (RG.p (RG.p (RG.p (RG.p (RG.p (RG.p (RG.p (RG.p (RG.p (RG.p (RG.p (RG.p (RG.p (RG.mk (regs [a0, a1]) []) 4 v1) 6 a0) 7 a1) 8 v3) 9 (Value.agg ⟨c5⟩)) 5 v6) 10 a0) 11 v9) 12 v10) 14 a0) 15 v11) 16 v12) 13 v13) 18 v15) 17 v16) 19 v19) 20 v21) h22)))))) := top_eq pok25 ct25 (by kernel_rfl)
theorem g25 (hJ : Closed prog main J) {a0 a1 : Value} (hs : heapOk h → W prog J 21 h.length 25 (codeOf f25) (RG.mk (regs [a0, a1]) []) h (RetQ prog [.cell 4 24] h.length K)) : Good prog J 25 [a0, a1] h K :=
 good_of_W hJ mixed at25 body25 (by kernel_rfl) (Nat.le_of_ble_eq_true rfl) hs
end
end Go.Proofs.Ythnccaajpdnndaa
namespace Go.Proofs.Ythnccaajpdnndaa
open Go.Conc Go.Proofs.Try
set_option maxRecDepth 100000
section
variable {main : Bool} {J : JT} {h H : List AObj} {K : Value → List AObj → Prop} {KV : Value → Prop} {HL : List AObj → Prop} {n0 : Nat} {ns : List Int} {k : Nat}
theorem quoZ {t : TypeId} {a b : Int} (ha : 0 ≤ a ∧ a ≤ 1000000) (hb : 0 < b) (hk : KV (vint (a / b))) : aBin prog .quo t (vint a) (vint b) KV := by
 have h1 : Int.tdiv a b = a / b := Int.tdiv_eq_ediv_of_nonneg ha.1
 have h2 : 0 ≤ a / b := Int.ediv_nonneg ha.1 (by omega)
 have h3 : a / b ≤ a := Int.ediv_le_self _ ha.1
 simp only [aBin, aInt, true_and]
 rw [h1, wrap64 (by omega) (by omega)]
 exact ⟨by omega, hk⟩
theorem hxLt (a : HX h H ns k) : h.length < H.length := by
 obtain ⟨nv, k1, s, rest, rfl, _⟩ := a
 rw [hf_len]
 omega
theorem ofZ (hJ : Closed prog main J) (a : HX h H ns k) (hk : k < 1000000) {x : Int} {others : List Int} {p n c : Nat} (hp : H[p]? = some (.cells (others.map vint) true 0)) (hne : p ≠ h.length) (hn : others.length = n) (hl : n < 1000)
  (hK : ∀ y H', (y = x ∨ y ∈ others) → SameX [h.length] H H' → H'.length = H.length → HX h H' ns (k + 1) → K (vint y) H') : Good prog J 69 [ptr h.length 0, vint x, .slice (some ⟨p, 0, none⟩) n c] H K := by
 subst hn
 obtain ⟨nv, k1, s, rest, rfl, b1, b2, b3⟩ := a
 refine good69 hJ (hf_hand b3.list b3.sane (by omega) b2.1 b2.2) (others := others) (fun h' hd => ?_) (by omega) fun y h1 hy hd => ?_
 ·obtain ⟨k', s', c1, c2, c3, rfl⟩ := hf_dealt hd
  have S := hf_same (h := h) (nv := nv) (k1 := k1) (k2 := k') (s1 := s) (s2 := s') (rest := rest) (g := [])
  rw [List.append_nil] at S
  exact sli_new (wr := true) (sz := 0) (S.get hp (by simpa using hne)) (by simp) (kn_ints _)
 ·obtain ⟨k', s', c1, c2, c3, rfl⟩ := hf_dealt hd
  have S := hf_same (h := h) (nv := nv) (k1 := k1) (k2 := k') (s1 := s) (s2 := s') (rest := rest) (g := [])
  rw [List.append_nil] at S
  exact hK y _ hy S (by simp [hf_len]) ⟨nv, k', s', rest, rfl, by omega, ⟨c2, c3⟩, b3⟩
theorem good25 (hJ : Closed prog main J) (a : HX h H ns k) (hk : k < 400000) {D : Int} (hD : 1 ≤ D ∧ D ≤ 8)
  (hK : ∀ s H', skyOk s → s.days ≤ D → SameX [h.length] H H' → HX h H' ns (k + 3) → K (.agg ⟨s.cells⟩) H') : Good prog J 25 [ptr h.length 0, vint D] H K := by
 refine g25 hJ fun ok => ?_
 rw [e25]
 have hlt := hxLt a
 refine qAl fun H1 p1 e1 S1 c1 l1 => ?_
 have a1 := a.same S1 (by simp)
 refine amX hJ a1 (by omega) (by omega) (by omega) fun d H2 b1 b2 S2 l2 a2 => ?_
 refine fillO (l := [vint d]) rfl rfl rfl (Nat.le_of_ble_eq_true rfl) (fillI ?_)
 refine qAl fun H3 p3 e3 S3 c3 l3 => qStA (c := [vint d, vint 0, vint 0]) c3 rfl rfl rfl fun H4 S4 c4 l4 => ?_
 have a4 := (a2.same S3 (by simp)).same S4 (by simp; omega)
 have hp4 : p3 < H4.length := lt_of_get c4
 refine ⟨[p3], offI (ldI (v := vint d) c4 rfl rfl ⟨by simp [RdOk, ptrBlk], offI (ldI (v := vint d) c4 rfl rfl ⟨by simp [RdOk, ptrBlk], ?_⟩)⟩)⟩
 refine amX hJ a4 (by omega) (by omega) (by omega) fun u H5 d1 d2 S5 l5 a5 => ⟨sbOne S5 hp4 (by simp; omega), offI ?_⟩
 refine amX hJ a5 (by omega) (by omega) (by omega) fun w H6 f1 f2 S6 l6 a6 => ⟨sbOne (S5.trans S6) hp4 (by simp; omega), ?_⟩
 have T6 : SameX [h.length] H4 H6 := S5.trans S6
 refine qSt (T6.get c4 (by simp; omega)) (by simp) rfl rfl fun H7 S7 c7 l7 => offI (qSt c7 (by simp) rfl rfl fun H8 S8 c8 l8 => ?_)
 refine load_part (c := (⟨d, u, w⟩ : SkyR).cells) c8 (by simp) rfl rfl ?_
 have T4 : SameX [h.length] H H4 := (((S1.weak0).trans S2).trans S3.weak0).thru S4 (by simp; omega)
 have T8 : SameX [h.length] H H8 := ((T4.trans T6).thru S7 (by simp; omega)).thru S8 (by simp; omega)
 have c1' := S8.get (S7.get (T6.get (S4.get (S3.get (S2.get c1 (by simp; omega)) (by simp)) (by simp; omega)) (by simp; omega)) (by simp; omega)) (by simp; omega)
 refine qStA (c := (⟨d, u, w⟩ : SkyR).cells) c1' rfl rfl rfl fun H9 S9 c9 l9 => ?_
 refine retQs rfl (resW_cell (gg := true) (s := 3) (by kernel_rfl) (load_part (c := (⟨d, u, w⟩ : SkyR).cells) c9 (by simp [SkyR.cells]) rfl rfl (resW_nil ?_)))
 refine hK ⟨d, u, w⟩ H9 ⟨by show 1 ≤ d ∧ d ≤ 8; omega, by show 1 ≤ u ∧ u ≤ d; omega, by show 1 ≤ w ∧ w ≤ d; omega⟩ (by show d ≤ D; omega) (T8.thru S9 (by simp; omega)) (((a6.same S7 (by simp; omega)).same S8 (by simp; omega)).same S9 (by simp; omega))
set_option maxHeartbeats 800000 in
theorem good24 (hJ : Closed prog main J) (a : HX h H ns k) (hk : k < 400000)
  (hK : ∀ p H', pasOk p → 3 ≤ p.bears ∧ p.bears ≤ 30 → SameX [h.length] H H' → HX h H' ns (k + 12) → K (.agg ⟨p.cells⟩) H') : Good prog J 24 [ptr h.length 0] H K := by
 refine g24 hJ fun ok => ?_
 rw [e24]
 have hlt := hxLt a
 refine qAl fun H1 p1 e1 S1 c1 l1 => ?_
 have a1 := a.same S1 (by simp)
 refine amX hJ a1 (by omega) (by omega) (by omega) fun b H2 b1 b2 S2 l2 a2 => ?_
 refine ⟨by decide, fillO (l := [vint 1]) rfl rfl rfl (Nat.le_of_ble_eq_true rfl) (fillO (l := [vint 1]) rfl rfl rfl (Nat.le_of_ble_eq_true rfl) (fillO (l := [vint 2]) rfl rfl rfl (Nat.le_of_ble_eq_true rfl) (fillI (qNew fun H3 p3 e3 S3 c3 l3 => ?_))))⟩
 have c3 : H3[p3]? = some (.cells (([1, 1, 2] : List Int).map vint) true 0) := c3
 refine ofZ hJ (a2.same S3 (by simp)) (by omega) c3 (by omega) rfl (by simp) fun dr H4 m4 S4 l4 a4 => ?_
 refine upX hJ a4 (by omega) (by omega) fun u5 H5 d1 d2 S5 l5 a5 => ?_
 refine ⟨by decide, fillO (l := [vint 1]) rfl rfl rfl (Nat.le_of_ble_eq_true rfl) (fillO (l := [vint 2]) rfl rfl rfl (Nat.le_of_ble_eq_true rfl) (fillO (l := [vint u5]) rfl rfl rfl (Nat.le_of_ble_eq_true rfl) (fillI (qNew fun H6 p6 e6 S6 c6 l6 => ?_))))⟩
 have c6 : H6[p6]? = some (.cells (([1, 2, u5] : List Int).map vint) true 0) := c6
 refine ofZ hJ (a5.same S6 (by simp)) (by omega) c6 (by omega) rfl (by simp) fun sl H7 m7 S7 l7 a7 => ?_
 refine fillO (l := [vint b]) rfl rfl rfl (Nat.le_of_ble_eq_true rfl) (fillO (l := [vint dr]) rfl rfl rfl (Nat.le_of_ble_eq_true rfl) (fillO (l := [vint sl]) rfl rfl rfl (Nat.le_of_ble_eq_true rfl) (fillI ?_)))
 refine qAl fun H8 p8 e8 S8 c8 l8 => qStA (c := [vint 0, vint b, vint dr, vint 0, vint 0, vint sl]) c8 rfl rfl rfl fun H9 S9 c9 l9 => ?_
 have a9 := (a7.same S8 (by simp)).same S9 (by simp; omega)
 have hp9 : p8 < H9.length := lt_of_get c9
 have hdr : 0 ≤ dr ∧ dr ≤ 2 := by
  rcases m4 with h | h
  ·omega
  ·simp only [List.mem_cons, List.not_mem_nil, or_false] at h
   omega
 have hsl : 0 ≤ sl ∧ sl ≤ 5 := by
  rcases m7 with h | h
  ·omega
  ·simp only [List.mem_cons, List.not_mem_nil, or_false] at h
   omega
 refine ⟨[p8], offI (ldI (v := vint b) c9 rfl rfl ⟨by simp [RdOk, ptrBlk], offI (ldI (v := vint b) c9 rfl rfl ⟨by simp [RdOk, ptrBlk], offI (ldI (v := vint b) c9 rfl rfl ⟨by simp [RdOk, ptrBlk], quoZ (by omega) (by decide) (offI (ldI (v := vint b) c9 rfl rfl ⟨by simp [RdOk, ptrBlk], ?_⟩))⟩)⟩)⟩)⟩
 have T9 : ∀ {H'}, SameX [h.length] H9 H' → SameB (some [p8]) H9 H' := fun S => sbOne S hp9 (by simp; omega)
 refine upX hJ a9 (by omega) (by omega) fun u10 H10 f1 f2 S10 l10 a10 => ⟨T9 S10, ?_⟩
 refine amX hJ a10 (by omega) (by omega) (by omega) fun u11 H11 g1 g2 S11 l11 a11 => ⟨T9 (S10.trans S11), ?_⟩
 have Q11 : SameX [h.length] H9 H11 := S10.trans S11
 refine ⟨by decide, fillO (l := [vint u10]) rfl rfl rfl (Nat.le_of_ble_eq_true rfl) (fillO (l := [vint u11]) rfl rfl rfl (Nat.le_of_ble_eq_true rfl) (fillI (qNew fun H12 p12 e12 S12 c12 l12 => ⟨T9 (Q11.trans S12.weak0), ?_⟩)))⟩
 have c12 : H12[p12]? = some (.cells (([u10, u11] : List Int).map vint) true 0) := c12
 have hl11 := hxLt a11
 refine ofZ hJ (a11.same S12 (by simp)) (by omega) c12 (by omega) rfl (by simp) fun gr H13 m13 S13 l13 a13 => ?_
 have Q13 : SameX [h.length] H9 H13 := (Q11.trans S12.weak0).trans S13
 refine ⟨T9 Q13, offI ?_⟩
 have hgr : 0 ≤ gr ∧ gr ≤ b := by
  rcases m13 with h | h
  ·omega
  ·simp only [List.mem_cons, List.not_mem_nil, or_false] at h
   omega
 refine qSt (Q13.get c9 (by simp; omega)) (by simp) rfl rfl fun H14 S14 c14 l14 => ?_
 have c14 : H14[p8]? = some (.cells [vint gr, vint b, vint dr, vint 0, vint 0, vint sl] true 0) := c14
 have a14 := a13.same S14 (by simp; omega)
 refine offI (ldI (v := vint dr) c14 rfl rfl (offI (ldI (v := vint dr) c14 rfl rfl (addI (by omega) (minI ?_)))))
 refine amX hJ a14 (by omega) (by omega) (by omega) fun wt H15 h1 h2 S15 l15 a15 => offI ?_
 refine qSt (S15.get c14 (by simp; omega)) (by simp) rfl rfl fun H16 S16 c16 l16 => ?_
 have c16 : H16[p8]? = some (.cells [vint gr, vint b, vint dr, vint wt, vint 0, vint sl] true 0) := c16
 have a16 := a15.same S16 (by simp; omega)
 have hp16 : p8 < H16.length := lt_of_get c16
 have T16 : ∀ {H'}, SameX [h.length] H16 H' → SameB (some [p8]) H16 H' := fun S => sbOne S hp16 (by simp; omega)
 refine ⟨[p8], offI (ldI (v := vint b) c16 rfl rfl ⟨by simp [RdOk, ptrBlk], quoZ (by omega) (by decide) (offI (ldI (v := vint b) c16 rfl rfl ⟨by simp [RdOk, ptrBlk], ?_⟩))⟩)⟩
 refine upX hJ a16 (by omega) (by omega) fun u17 H17 q1 q2 S17 l17 a17 => ⟨T16 S17, ?_⟩
 refine upX hJ a17 (by omega) (by omega) fun u18 H18 q3 q4 S18 l18 a18 => ⟨T16 (S17.trans S18), ?_⟩
 have Q18 : SameX [h.length] H16 H18 := S17.trans S18
 refine ⟨by decide, fillO (l := [vint 1]) rfl rfl rfl (Nat.le_of_ble_eq_true rfl) (fillO (l := [vint 2]) rfl rfl rfl (Nat.le_of_ble_eq_true rfl) (fillO (l := [vint u17]) rfl rfl rfl (Nat.le_of_ble_eq_true rfl) (fillO (l := [vint u18]) rfl rfl rfl (Nat.le_of_ble_eq_true rfl) (fillI (qNew fun H19 p19 e19 S19 c19 l19 => ⟨T16 (Q18.trans S19.weak0), ?_⟩)))))⟩
 have c19 : H19[p19]? = some (.cells (([1, 2, u17, u18] : List Int).map vint) true 0) := c19
 have hl18 := hxLt a18
 refine ofZ hJ (a18.same S19 (by simp)) (by omega) c19 (by omega) rfl (by simp) fun st H20 m20 S20 l20 a20 => ?_
 have Q20 : SameX [h.length] H16 H20 := (Q18.trans S19.weak0).trans S20
 have hst : 0 ≤ st ∧ st ≤ b := by
  rcases m20 with h | h
  ·omega
  ·simp only [List.mem_cons, List.not_mem_nil, or_false] at h
   omega
 refine ⟨T16 Q20, offI (qSt (Q20.get c16 (by simp; omega)) (by simp) rfl rfl fun H21 S21 c21 l21 => ?_)⟩
 have c21 : H21[p8]? = some (.cells (⟨gr, b, dr, wt, st, sl⟩ : Pas).cells true 0) := c21
 refine load_part (c := (⟨gr, b, dr, wt, st, sl⟩ : Pas).cells) c21 (by simp [Pas.cells]) rfl rfl ?_
 have U7 : SameX [h.length] H H7 := ((((((S1.weak0).trans S2).trans S3.weak0).trans S4).trans S5).trans S6.weak0).trans S7
 have U9 : SameX [h.length] H H9 := (U7.trans S8.weak0).thru S9 (by have := U7.1; simp; omega)
 have U21 : SameX [h.length] H H21 := ((((U9.trans Q13).thru S14 (by have := U7.1; simp; omega)).trans S15).thru S16 (by have := U7.1; simp; omega)).trans Q20 |>.thru S21 (by have := U7.1; simp; omega)
 have V1 : SameX [h.length] H1 H7 := ((((S2.trans S3.weak0).trans S4).trans S5).trans S6.weak0).trans S7
 have hv1 := V1.1
 have V9 : SameX [h.length, p8] H1 H9 := ((V1.trans S8.weak0).weak (by simp)).trans (S9.weak (by simp))
 have V21 : SameX [h.length, p8] H1 H21 := (((((V9.trans (Q13.weak (by simp))).trans (S14.weak (by simp))).trans (S15.weak (by simp))).trans (S16.weak (by simp))).trans (Q20.weak (by simp))).trans (S21.weak (by simp))
 have c1' := V21.get c1 (by simp; omega)
 refine qStA (c := (⟨gr, b, dr, wt, st, sl⟩ : Pas).cells) c1' rfl rfl rfl fun H22 S22 c22 l22 => ?_
 refine retQs rfl (resW_cell (gg := true) (s := 6) (by kernel_rfl) (load_part (c := (⟨gr, b, dr, wt, st, sl⟩ : Pas).cells) c22 (by simp [Pas.cells]) rfl rfl (resW_nil ?_)))
 refine hK ⟨gr, b, dr, wt, st, sl⟩ H22 ⟨by show 1 ≤ b ∧ b ≤ 99; omega, hgr, by show 0 ≤ dr ∧ dr ≤ 9; omega, by show dr ≤ wt ∧ wt ≤ 9; omega, hst, hsl⟩ (by show 3 ≤ b ∧ b ≤ 30; omega) (U21.thru S22 (by simp; omega)) ?_
 have z21 := a20.same S21 (by simp; omega)
 have z22 := z21.same S22 (by simp; omega)
 exact z22.mono (by omega)
end
end Go.Proofs.Ythnccaajpdnndaa
