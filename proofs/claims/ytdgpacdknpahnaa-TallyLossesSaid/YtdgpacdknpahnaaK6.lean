/- Parts of the proof, 6. No conditions. -/
import Derived.Test.YtdgpacdknpahnaaK5
import Derived.Test.YtdgpacdknpahnaaK4
import Derived.Test.YtdgpacdknpahnaaK2

namespace Go.Proofs.Ytdgpacdknpahnaa
open Go.Conc Go.Proofs.Try
set_option maxRecDepth 100000
def TruthIs (t : Tal) (L : Nat → Rng) : Prop := ∀ g : Nat, (g : Int) < t.gates → (fwd t L g).lo ≤ (fwd t L g).hi
noncomputable instance (t : Tal) (L : Nat → Rng) : Decidable (TruthIs t L) := Classical.propDecidable _

section
variable {main : Bool} {J : JT} {h h0 : List AObj} {K : Value → List AObj → Prop} {KV : Value → Prop} {HL : List AObj → Prop}
theorem lim_key (L : Nat → Rng) : kOk prog 10000 127 (.agg ⟨limCells L⟩) = true := by kernel_rfl

theorem look_none {b : Nat} {es : List (Value × Value)} {wr : Bool} {L : Nat → Rng} (hb : h[b]? = some (.map es wr)) (hf : mfind prog 127 (.agg ⟨limCells L⟩) es = some none) (hk : KV (.tuple ⟨[.bool false, .bool false]⟩)) : aLook prog 120 true (.map (some b)) (.agg ⟨limCells L⟩) h KV := by
  have e1 : prog.underlying 120 = some (.map 127 4) := by kernel_rfl
  have e2 : zv1 prog 4 = some (.bool false) := by kernel_rfl
  unfold aLook
  rw [e1]
  simp only
  rw [hb, e2]
  simp only
  rw [hf]
  exact ⟨lim_key L, hk⟩
theorem look_some {b : Nat} {es : List (Value × Value)} {wr : Bool} {L : Nat → Rng} {v : Value} (hb : h[b]? = some (.map es wr)) (hf : mfind prog 127 (.agg ⟨limCells L⟩) es = some (some v)) (hk : KV (.tuple ⟨[v, .bool true]⟩)) : aLook prog 120 true (.map (some b)) (.agg ⟨limCells L⟩) h KV := by
  have e1 : prog.underlying 120 = some (.map 127 4) := by kernel_rfl
  have e2 : zv1 prog 4 = some (.bool false) := by kernel_rfl
  unfold aLook
  rw [e1]
  simp only
  rw [hb, e2]
  simp only
  rw [hf]
  exact ⟨lim_key L, hk⟩
theorem upd_none {b : Nat} {es : List (Value × Value)} {L : Nat → Rng} {v : Value} (hb : h[b]? = some (.map es true)) (hf : mfind prog 127 (.agg ⟨limCells L⟩) es = some none) (hk : HL (h.set b (.map (es ++ [(.agg ⟨limCells L⟩, v)]) true))) : aUpd prog 120 (.map (some b)) (.agg ⟨limCells L⟩) v h HL := by
  have e1 : prog.underlying 120 = some (.map 127 4) := by kernel_rfl
  unfold aUpd
  rw [e1]
  simp only
  rw [hb]
  exact ⟨lim_key L, lim_ok L 0, hf, hk⟩

theorem retL_def {n0 n : Nat} {vs : List Value} (hd : h[n]? = some .deferred) (hv : ∀ v ∈ vs, v ≠ unk) (hk : K (pack vs) (h.set n .dead)) : retL n0 K [n] vs h := by
  have := retL_same (n0 := n0) (H := K) hv hk
  unfold retL at *
  exact ⟨hd, this⟩

theorem good96 (hJ : Closed prog main J) {b : Nat} {L : Nat → Rng} (hK : K (.func (.func 111) ⟨[]⟩ ⟨[ptr h.length 0, ptr (h.length + 1) 0]⟩) (h ++ [.cells [ptr b 0] true 0, .cells (limCells L) true 0])) : Good prog J 96 [ptr b 0, .agg ⟨limCells L⟩] h K := by
  refine g96 hJ fun ok => ?_
  rw [e96]
  refine box_one rfl rfl (box_agg rfl ?_)
  refine ⟨rfl, retL_same (by simp [unk]) ?_⟩
  simpa [pack] using hK

theorem WorkIn.setU {b : Nat} {t : Tal} {cv nv : Value} {u u' : Int} {m : Value} (w : WorkIn h0 h b t cv nv u m) (hb : h0.length ≤ b) : WorkIn h0 (h.set b (.cells (talCells t cv nv ++ [.int .u64 u', m]) true 0)) b t cv nv u' m := by
  obtain ⟨a, ⟨g, rfl⟩, c, d⟩ := w
  refine ⟨List.getElem?_set_self (List.getElem?_eq_some_iff.1 a).1, ?_, c, d⟩
  rw [List.set_append_right _ _ hb]
  exact ⟨_, rfl⟩


noncomputable abbrev lp74 (st : LoopState) (pend : Option Code) (r : Nat → Value) (d : Nat) : AObj := .loop st pend 74 r 43 #[31, 32] (subC [1, 0, 1, 1, 1, 1, 1, 0, 1, 0, 0] (codeOf f74)) (subC [1, 0, 1, 1, 1, 1, 1, 0, 1, 0, 1] (codeOf f74)) d

theorem endQ_normal {n : Nat} {f : RG} {Q : QT} {v : Value} {st : LoopState} {fn : FuncId} {r : Nat → Value} {size : Nat} {params : Array Tmp} {assign body : Code} {dfr : Nat} (hl : h[n + 1]? = some (.loop st none fn r size params assign body dfr)) (hs : st ≠ .busy) (hq : Q .normal ⟨f.r, n :: f.ds⟩ (h.set (n + 1) .dead)) : endQ n f Q v h :=
  ⟨st, none, _, _, _, _, _, _, _, hl, hs, hq⟩
theorem endQ_exit {n id : Nat} {f : RG} {Q : QT} {v : Value} {st : LoopState} {fn : FuncId} {r : Nat → Value} {size : Nat} {params : Array Tmp} {assign body : Code} {dfr : Nat} (hl : h[n + 1]? = some (.loop st (some (.exit id)) fn r size params assign body dfr)) (hs : st ≠ .busy) (hq : Q (.exit id) ⟨f.r, n :: f.ds⟩ (h.set (n + 1) .dead)) : endQ n f Q v h :=
  ⟨st, some (.exit id), _, _, _, _, _, _, _, hl, hs, hq⟩
theorem app2_get1 {a b : AObj} : (h ++ [a, b])[h.length + 1]? = some b := by simp

theorem round74 (hJ : Closed prog main J) {H : List AObj} {l p2 d g : Nat} {r : Nat → Value} {s : Rng} {Q : Value → List AObj → Prop} (hl : H[l]? = some (lp74 .ready none r d))
    (r8 : r 8 = ptr p2 0) (hp : H[p2]? = some (.cells [.bool true] true 0)) (hne : p2 ≠ l)
    (h1 : ∀ H', SameX [l, p2] H H' → s.lo ≤ s.hi → H'[l]? = some (lp74 .ready none r d) → H'[p2]? = some (.cells [.bool true] true 0) → Q (.bool true) H')
    (h2 : ∀ H', SameX [l, p2] H H' → ¬ s.lo ≤ s.hi → H'[l]? = some (lp74 .done (some (.exit 0)) r d) → H'[p2]? = some (.cells [.bool false] true 0) → Q (.bool false) H') :
    callV prog (Good prog J) (.func (.yield l) ⟨[]⟩ ⟨[]⟩) [vint g, s.val] H Q := by
  show Good prog J (yid prog l) [vint g, s.val] H Q
  have hll : l < H.length := (List.getElem?_eq_some_iff.1 hl).1
  have hpl : p2 < H.length := (List.getElem?_eq_some_iff.1 hp).1
  refine good_round hJ hl rfl (by decide) fun ok => W_sound hJ mixed _ ?_
  rw [a74_1]
  unfold aAlloc
  refine store_agg (c := s.cells) (cs := [vint 0, vint 0]) (sz := 0) (by simp) rfl rfl rfl ?_
  rw [show ∀ (l : List AObj) (x y : AObj), (l ++ [x]).set l.length y = l ++ [y] from fun l x y => by simp]
  refine ⟨rfl, none, _, _, _, _, _, _, _, get_app hl, W_sound hJ mixed _ ?_⟩
  have hll' : l < (H ++ [AObj.cells s.cells true 0]).length := by simp; omega
  rw [b74_1]
  refine load_part (c := s.cells) (cs := s.cells) (wr := true) (sz := 0) (b := H.length) (get_set (by simp) (by omega)) (by simp [Rng.cells]) rfl rfl ?_
  refine good104 hJ (cndI (fun hgt => ?_) fun hle => ?_)
  · have hp' : ((H ++ [AObj.cells s.cells true 0]).set l (lp74 .busy none r d))[p2]? = some (.cells [.bool true] true 0) := get_set (get_app hp) hne
    show aStore 1 (r 8) _ _ _
    rw [r8]
    refine store_cell hp' (by simp) rfl rfl ?_
    refine ⟨.busy, none, _, _, _, _, _, _, _, get_set (List.getElem?_set_self hll') (Ne.symm hne), .inl (h2 _ ?_ (by omega) (List.getElem?_set_self (by simpa using hll')) ?_)⟩
    · exact ((SameX.refl.app.set (.inl (by simp))).set (.inl (by simp))).set (.inl (by simp))
    · exact get_set (List.getElem?_set_self (by simp; omega)) hne
  · refine ⟨.busy, none, _, _, _, _, _, _, _, List.getElem?_set_self hll', .inl (h1 _ ?_ (by omega) (List.getElem?_set_self (by simpa using hll')) ?_)⟩
    · exact (SameX.refl.app.set (.inl (by simp))).set (.inl (by simp))
    · exact get_set (get_set (get_app hp) hne) hne

theorem range74 (hJ : Closed prog main J) {n0 p1 p2 b1 b2 bw bm : Nat} {t : Tal} {L : Nat → Rng} {cv nv : Value} {u : Int} {es : List (Value × Value)} {f : RG} (w : WorkIn h0 h bw t cv nv u (.map (some bm))) (fine : TalFine t) (hL : ∀ g, (L g).sm 1000)
    (hm : h[bm]? = some (.map es true)) (hf : mfind prog 127 (.agg ⟨limCells L⟩) es = some none) (q1 : h[p1]? = some (.cells (limCells L) true 0)) (q2 : h[p2]? = some (.cells [.bool true] true 0)) (q3 : h[b1]? = some (.cells [ptr bw 0] true 0)) (q4 : h[b2]? = some (.cells (limCells L) true 0))
    (d1 : p1 ≠ p2) (d2 : p2 ≠ b1) (d3 : p2 ≠ b2) (d4 : p2 ≠ bw) (d5 : p2 ≠ bm) (hp2 : h0.length ≤ p2) (hbm : h0.length ≤ bm)
    (ds : f.ds = []) (r0 : f.r 0 = ptr bw 0) (r5 : f.r 5 = ptr p1 0) (r8 : f.r 8 = ptr p2 0) (r30 : f.r 30 = .func (.func 111) ⟨[]⟩ ⟨[ptr b1 0, ptr b2 0]⟩)
    (hK : ∀ H, SameX [p2, bm] h H → H[bm]? = some (.map (es ++ [(.agg ⟨limCells L⟩, .bool (decide (TruthIs t L)))]) true) → K (.bool (decide (TruthIs t L))) H) :
    Sem J 43 n0 74 (subC [1, 0, 1, 1, 1, 1, 1, 0, 1, 0] (codeOf f74)) f h (contQ prog J 43 n0 74 [1, 0, 1, 1, 1, 1, 1, 0, 1, 0] (codeOf f74) [] (RetQ prog [.tmp 4] n0 K)) := by
  have hlen : ∀ {i o}, h[i]? = some o → i < h.length := fun hx => (List.getElem?_eq_some_iff.1 hx).1
  have l1 := hlen q1
  have l2 := hlen q2
  have l3 := hlen q3
  have l4 := hlen q4
  have lw := hlen w.at_
  have lm := hlen hm
  refine l74_1 hJ (first := []) (cap := [ptr b1 0, ptr b2 0]) r30 (by decide) ?_
  have hpre : h0.length ≤ h.length := by
    obtain ⟨g, rfl⟩ := w.pre
    simp
  have S0 : SameX [h.length + 1, p2] h (h ++ [AObj.deferred] ++ [lp74 .ready none f.r h.length]) := SameX.refl.app.app
  -- what is asked behind the loop
  have post : ∀ (H : List AObj) (b : Bool), b = decide (TruthIs t L) → SameX [h.length + 1, p2] (h ++ [AObj.deferred] ++ [lp74 .ready none f.r h.length]) H → H[p2]? = some (.cells [.bool b] true 0) →
      (aNil (f.r 0) fun v1 => aOff v1 7 fun v2 => aLoad false 1 v2 (H.set (h.length + 1) .dead) fun v3 => aLoad true 10 (f.r 5) (H.set (h.length + 1) .dead) fun v4 => aLoad false 1 (f.r 8) (H.set (h.length + 1) .dead) fun v5 =>
        ((VOk (H.set (h.length + 1) .dead).length v5 ∧ one v5 = true) ∧ aUpd prog 120 v3 v4 v5 (H.set (h.length + 1) .dead) fun h6 => aLoad false 1 (f.r 8) h6 fun v7 => retL n0 K [h.length] [v7] h6)) := by
    intro H b hb S hH
    have S1 := S0.trans S
    have hd : H[h.length]? = some .deferred := S.get (by simp) (by simp; omega)
    have S2 : SameX [h.length + 1, p2] h (H.set (h.length + 1) .dead) := S1.set (.inl (by simp))
    rw [r0, r5, r8]
    refine nilI (offI (ldI (v := .map (some bm)) (S2.get w.at_ (by simp; omega)) rfl rfl ?_))
    refine load_part (c := limCells L) (S2.get q1 (by simp; omega)) (by rw [lim_len]; omega) rfl rfl ?_
    have hH2 : (H.set (h.length + 1) AObj.dead)[p2]? = some (.cells [.bool b] true 0) := get_set hH (by omega)
    refine ldI hH2 rfl rfl ⟨⟨by simp [VOk], rfl⟩, upd_none (S2.get hm (by simp; omega)) hf ?_⟩
    refine ldI (v := .bool b) (get_set hH2 d5) rfl rfl (retL_def ?_ (by simp [unk]) ?_)
    · exact get_set (get_set hd (by omega)) (by omega)
    have hml : bm < (H.set (h.length + 1) AObj.dead).length := by have := S2.1; omega
    rw [hb]
    refine hK _ ?_ ?_
    · have : SameX [p2, bm] h (H.set (h.length + 1) .dead) := ⟨S2.1, fun i hi hx => S2.2 i hi (by simp at hx ⊢; omega)⟩
      exact (this.set (.inl (by simp))).set (.inr (Nat.le_refl _))
    · exact get_set (List.getElem?_set_self hml) (by omega)
  have hIl : (h ++ [AObj.deferred] ++ [lp74 .ready none f.r h.length])[h.length + 1]? = some (lp74 .ready none f.r h.length) := by
    rw [List.append_assoc]
    exact app2_get1
  have hsl : (h ++ [AObj.deferred] ++ [lp74 .ready none f.r h.length]).length = h.length + 2 := by simp
  have fin : ∀ (H : List AObj) (b : Bool), b = decide (TruthIs t L) → SameX [h.length + 1, p2] (h ++ [AObj.deferred] ++ [lp74 .ready none f.r h.length]) H → H[p2]? = some (.cells [.bool b] true 0) → (H[h.length + 1]? = some (lp74 .ready none f.r h.length) ∨ H[h.length + 1]? = some (lp74 .done (some (.exit 0)) f.r h.length)) →
      endQ h.length f (contQ prog J 43 n0 74 [1, 0, 1, 1, 1, 1, 1, 0, 1, 0] (codeOf f74) [] (RetQ prog [.tmp 4] n0 K)) (pack []) H := by
    intro H b hb S hH hl
    have := post H b hb S hH
    rcases hl with hl | hl
    · refine endQ_normal hl (by simp) ?_
      rw [c74_1, ds]
      exact this
    · refine endQ_exit hl (by simp) ?_
      rw [c74_1x0, ds]
      exact this
  have hX : ∀ x ∈ [h.length + 1, p2], h0.length ≤ x ∧ x < (h ++ [AObj.deferred] ++ [lp74 .ready none f.r h.length]).length := by
    rw [hsl]
    simp
    omega
  refine good111 hJ (h0 := h0) (X := [h.length + 1, p2]) (L := L) (t := t) (I := fun g H => H[h.length + 1]? = some (lp74 .ready none f.r h.length) ∧ H[p2]? = some (.cells [.bool true] true 0) ∧ ∀ j, j < g → (fwd t L j).lo ≤ (fwd t L j).hi)
    (Stop := fun g H => H[h.length + 1]? = some (lp74 .done (some (.exit 0)) f.r h.length) ∧ H[p2]? = some (.cells [.bool false] true 0) ∧ ¬ (fwd t L g).lo ≤ (fwd t L g).hi)
    (w.same S0 (fun x hx => (hX x hx).1) (by simp; omega)) fine hL hX (S0.get q3 (by simp; omega)) (S0.get q4 (by simp; omega)) (by simp; omega) (by simp; omega) (by simp; omega) (fun g H H' hx hI => ?_) ⟨hIl, get_app (get_app q2), by simp⟩ (fun g H Q hg S hI k1 k2 => ?_) (fun H S hI => ?_) (fun g H hg S hI => ?_)
  · rw [hx _ (by simp), hx _ (by simp)]
    exact hI
  · refine round74 hJ hI.1 r8 hI.2.1 (by omega) (fun H' S' hs a b => k1 H' S' ⟨a, b, fun j hj => ?_⟩) (fun H' S' hs a b => k2 H' S' ⟨a, b, hs⟩)
    rcases Nat.lt_or_ge j g with x | x
    · exact hI.2.2 j x
    · have : j = g := by omega
      subst this
      exact hs
  · refine fin H true ?_ S hI.2.1 (.inl hI.1)
    rw [eq_comm, decide_eq_true_eq]
    intro g hg
    exact hI.2.2 g (by omega)
  · refine fin H false ?_ S hI.2.1 (.inr hI.1)
    rw [eq_comm, decide_eq_false_iff_not]
    intro hT
    exact hI.2.2 (hT g hg)

theorem teq_span (a b c d : Int) : teq prog 9999 98 (.agg ⟨[vint a, vint b]⟩) (.agg ⟨[vint c, vint d]⟩) =
    (match some (a == c) with
    | some true => (match some (b == d) with
      | some true => some true
      | some false => some false
      | none => none)
    | some false => some false
    | none => none) := by kernel_rfl
theorem teq_lim (L L' : Nat → Rng) : teq prog 10000 127 (.agg ⟨limCells L⟩) (.agg ⟨limCells L'⟩) =
    (match teq prog 9999 98 (.agg ⟨(L 0).cells⟩) (.agg ⟨(L' 0).cells⟩) with
    | some true => (match teq prog 9999 98 (.agg ⟨(L 1).cells⟩) (.agg ⟨(L' 1).cells⟩) with
      | some true => (match teq prog 9999 98 (.agg ⟨(L 2).cells⟩) (.agg ⟨(L' 2).cells⟩) with
        | some true => (match teq prog 9999 98 (.agg ⟨(L 3).cells⟩) (.agg ⟨(L' 3).cells⟩) with
          | some true => (match teq prog 9999 98 (.agg ⟨(L 4).cells⟩) (.agg ⟨(L' 4).cells⟩) with
            | some true => some true
            | some false => some false
            | none => none)
          | some false => some false
          | none => none)
        | some false => some false
        | none => none)
      | some false => some false
      | none => none)
    | some false => some false
    | none => none) := by kernel_rfl
theorem teq_span2 (x y : Rng) : (teq prog 9999 98 (.agg ⟨x.cells⟩) (.agg ⟨y.cells⟩) = some true ∧ x = y) ∨ teq prog 9999 98 (.agg ⟨x.cells⟩) (.agg ⟨y.cells⟩) = some false := by
  obtain ⟨a, b⟩ := x
  obtain ⟨c, d⟩ := y
  unfold Rng.cells
  rw [teq_span]
  by_cases e1 : a = c
  · by_cases e2 : b = d
    · left
      simp [e1, e2]
    · right
      rw [beq_eq_false_iff_ne.2 e2, beq_iff_eq.2 e1]
  · right
    rw [beq_eq_false_iff_ne.2 e1]

theorem teq_lim2 (L L' : Nat → Rng) : (teq prog 10000 127 (.agg ⟨limCells L⟩) (.agg ⟨limCells L'⟩) = some true ∧ ∀ g, g < 5 → L g = L' g) ∨ teq prog 10000 127 (.agg ⟨limCells L⟩) (.agg ⟨limCells L'⟩) = some false := by
  rw [teq_lim]
  rcases teq_span2 (L 0) (L' 0) with ⟨h0, e0⟩ | h0
  · rw [h0]
    rcases teq_span2 (L 1) (L' 1) with ⟨h1, e1⟩ | h1
    · rw [h1]
      rcases teq_span2 (L 2) (L' 2) with ⟨h2, e2⟩ | h2
      · rw [h2]
        rcases teq_span2 (L 3) (L' 3) with ⟨h3, e3⟩ | h3
        · rw [h3]
          rcases teq_span2 (L 4) (L' 4) with ⟨h4, e4⟩ | h4
          · rw [h4]
            left
            refine ⟨rfl, fun g hg => ?_⟩
            match g, hg with
            | 0, _ => exact e0
            | 1, _ => exact e1
            | 2, _ => exact e2
            | 3, _ => exact e3
            | 4, _ => exact e4
          · rw [h4]; exact .inr rfl
        · rw [h3]; exact .inr rfl
      · rw [h2]; exact .inr rfl
    · rw [h1]; exact .inr rfl
  · rw [h0]; exact .inr rfl

theorem fwd_congr {t : Tal} {L L' : Nat → Rng} (h : ∀ g, g < 5 → L g = L' g) : ∀ g : Nat, g < 5 → fwd t L g = fwd t L' g
  | 0, _ => by
    unfold fwd
    rw [h 0 (by omega)]
  | g + 1, hg => by
    unfold fwd
    rw [fwd_congr h g (by omega), h (g + 1) hg]
theorem truthIs_congr {t : Tal} {L L' : Nat → Rng} (hg : t.gates ≤ 5) (h : ∀ g, g < 5 → L g = L' g) : TruthIs t L ↔ TruthIs t L' :=
  ⟨fun x g hl => by rw [← fwd_congr h g (by omega)]; exact x g hl, fun x g hl => by rw [fwd_congr h g (by omega)]; exact x g hl⟩

def MetOk (t : Tal) (es : List (Value × Value)) : Prop := ∀ L : Nat → Rng, mfind prog 127 (.agg ⟨limCells L⟩) es = some none ∨ mfind prog 127 (.agg ⟨limCells L⟩) es = some (some (.bool (decide (TruthIs t L))))
theorem metOk_nil {t : Tal} : MetOk t [] := fun _ => .inl rfl
theorem metOk_more {t : Tal} {es : List (Value × Value)} {L' : Nat → Rng} (hg : t.gates ≤ 5) (h : MetOk t es) : MetOk t (es ++ [(.agg ⟨limCells L'⟩, .bool (decide (TruthIs t L')))]) := by
  intro L
  have key : ∀ es : List (Value × Value), (mfind prog 127 (.agg ⟨limCells L⟩) es = some none ∨ mfind prog 127 (.agg ⟨limCells L⟩) es = some (some (.bool (decide (TruthIs t L))))) →
      mfind prog 127 (.agg ⟨limCells L⟩) (es ++ [(.agg ⟨limCells L'⟩, .bool (decide (TruthIs t L')))]) = some none ∨ mfind prog 127 (.agg ⟨limCells L⟩) (es ++ [(.agg ⟨limCells L'⟩, .bool (decide (TruthIs t L')))]) = some (some (.bool (decide (TruthIs t L)))) := by
    intro es
    induction es with
    | nil =>
      intro _
      simp only [List.nil_append, mfind]
      rcases teq_lim2 L L' with ⟨e, hl⟩ | e
      · rw [e]
        right
        have := truthIs_congr (t := t) hg hl
        simp [this]
      · rw [e]
        exact .inl rfl
    | cons x es ih =>
      obtain ⟨a, v⟩ := x
      simp only [List.cons_append, mfind]
      cases teq prog 10000 127 (.agg ⟨limCells L⟩) a with
      | none => intro h; rcases h with h | h <;> cases h
      | some b => cases b with
        | true => exact fun h => h
        | false => exact ih
  exact key es (h L)

theorem good74 (hJ : Closed prog main J) {bw bm : Nat} {t : Tal} {cv nv : Value} {u u' : Int} (w : WorkIn h0 h bw t cv nv u (.map (some bm))) (hbw : h0.length ≤ bw) (hbm : h0.length ≤ bm) (hne : bw ≠ bm) (fine : TalFine t) {es : List (Value × Value)} (hm : h[bm]? = some (.map es true)) (met : MetOk t es)
    (hK : ∀ H es', SameX [bw, bm] h H → WorkIn h0 H bw t cv nv u' (.map (some bm)) → H[bm]? = some (.map es' true) → MetOk t es' → K (.bool (decide (TruthIs t (limN u' t.counts t.counts.length)))) H) :
    Good prog J 74 [ptr bw 0, .int .u64 u'] h K := by
  refine g74 hJ fun ok => ?_
  rw [e74]
  have hlw : bw < h.length := (List.getElem?_eq_some_iff.1 w.at_).1
  have hlm : bm < h.length := (List.getElem?_eq_some_iff.1 hm).1
  refine nilI (offI (store_cell (c := talCells t cv nv ++ [.int .u64 u, .map (some bm)]) w.at_ (by simp [talCells]) rfl rfl ?_))
  have w1 := w.setU (u' := u') hbw
  have hm1 : (h.set bw (.cells (talCells t cv nv ++ [.int .u64 u', .map (some bm)]) true 0))[bm]? = some (.map es true) := get_set hm (Ne.symm hne)
  have S1 : SameX [bw, bm] h (h.set bw (.cells (talCells t cv nv ++ [.int .u64 u', .map (some bm)]) true 0)) := SameX.refl.set (.inl (by simp))
  change Good prog J 97 [ptr bw 0] (h.set bw (.cells (talCells t cv nv ++ [.int .u64 u', .map (some bm)]) true 0)) _
  have hlen1 : (h.set bw (.cells (talCells t cv nv ++ [.int .u64 u', .map (some bm)]) true 0)).length = h.length := by simp
  generalize h.set bw (.cells (talCells t cv nv ++ [.int .u64 u', .map (some bm)]) true 0) = h1 at *
  refine good97 hJ w1.work fine.cosm ?_
  have hL : ∀ g, (limN u' t.counts t.counts.length g).sm 1000 := limN_sm (fun c hc => (fine.cosm.2 c hc).2) _
  generalize limN u' t.counts t.counts.length = L at *
  unfold aAlloc
  refine store_agg (cs := [vint 0, vint 0, vint 0, vint 0, vint 0, vint 0, vint 0, vint 0, vint 0, vint 0]) (sz := 0) (by simp) rfl rfl rfl ?_
  rw [show ∀ (l : List AObj) (x y : AObj), (l ++ [x]).set l.length y = l ++ [y] from fun l x y => by simp]
  refine nilI (offI (ldI (v := .map (some bm)) (get_app w1.at_) rfl rfl ?_))
  refine load_part (c := limCells L) (cs := limCells L) (wr := true) (sz := 0) (by simp) (by rw [lim_len]; omega) rfl rfl ?_
  rcases met L with hf | hf
  rotate_left
  · refine look_some (get_app hm1) hf (ext0 (ext1 (cnd_true.2 (retL_same (by simp [unk]) ?_))))
    refine hK _ es S1.app (w1.same (X := []) SameX.refl.app (by simp) (by simp)) (get_app hm1) met
  refine look_none (get_app hm1) hf (ext0 (ext1 (cnd_false.2 ?_)))
  refine store_cell (c := [.bool false]) (sz := 0) (by simp) (by simp) rfl rfl ?_
  rw [show [Value.bool false].set 0 (Value.bool true) = [Value.bool true] from rfl]
  rw [show ∀ (l : List AObj) (x y : AObj), (l ++ [x]).set l.length y = l ++ [y] from fun l x y => by simp]
  refine load_part (c := limCells L) (cs := limCells L) (wr := true) (sz := 0) (by simp) (by rw [lim_len]; omega) rfl rfl ?_
  refine good96 hJ ?_
  have hl0 : h0.length ≤ h1.length := by
    obtain ⟨g, rfl⟩ := w1.pre
    simp
  have E : h1 ++ [AObj.cells (limCells L) true 0] ++ [AObj.cells [Value.bool true] true 0] ++ [AObj.cells [ptr bw 0] true 0, AObj.cells (limCells L) true 0] = h1 ++ [.cells (limCells L) true 0, .cells [.bool true] true 0, .cells [ptr bw 0] true 0, .cells (limCells L) true 0] := by simp
  have w2 := w1.same (X := []) (SameX.refl.app (g := [.cells (limCells L) true 0, .cells [.bool true] true 0, .cells [ptr bw 0] true 0, .cells (limCells L) true 0])) (by simp) (by simp)
  have S2 : SameX [bw, bm] h (h1 ++ [.cells (limCells L) true 0, .cells [.bool true] true 0, .cells [ptr bw 0] true 0, .cells (limCells L) true 0]) := S1.app
  rw [E]
  have e1 : (h1 ++ [AObj.cells (limCells L) true 0]).length = h1.length + 1 := by simp
  have e2 : (h1 ++ [AObj.cells (limCells L) true 0] ++ [AObj.cells [Value.bool true] true 0]).length = h1.length + 2 := by simp
  rw [e1, e2]
  refine range74 hJ (p1 := h1.length + 0) (p2 := h1.length + 1) (b1 := h1.length + 2) (b2 := h1.length + 3) w2 fine hL (get_app hm1) hf (by rw [back_get]; rfl) (by rw [back_get]; rfl) (by rw [back_get]; rfl) (by rw [back_get]; rfl) (by omega) (by omega) (by omega) (by omega) (by omega) (by omega) hbm rfl rfl rfl rfl rfl ?_
  intro H S hH
  have S3 : SameX [bw, bm] h H := by
    refine ⟨by have := S2.1; have := S.1; omega, fun i hi hx => ?_⟩
    simp at hx
    rw [S.2 i (by simp; omega) (by simp; omega), S2.2 i hi (by simp; omega)]
  exact hK H _ S3 (w2.same S (by simp; omega) (by simp; omega)) hH (metOk_more fine.gates.2 met)
end
end Go.Proofs.Ytdgpacdknpahnaa

namespace Go.Proofs.Ytdgpacdknpahnaa
open Go.Conc Go.Proofs.Try
set_option maxRecDepth 100000
def OwnX (H : List AObj) (s : Nat) (cs : List Value) (len : Nat) (v : Value) (o : Option Nat) : Prop :=
  cs.length = len * s ∧ kn cs = true ∧ ((len = 0 ∧ v = .slice none 0 0 ∧ o = none) ∨ ∃ i c sz, o = some i ∧ v = .slice (some ⟨i, 0, none⟩) len c ∧ H[i]? = some (.cells cs true sz) ∧ ((c = fz ∧ sz = s) ∨ c = len))

section
variable {h H : List AObj} {K : Value → List AObj → Prop} {KV : Value → Prop} {HL : List AObj → Prop} {n0 : Nat}
theorem SameX.weak {X Y : List Nat} {h H : List AObj} (a : SameX X h H) (hxy : ∀ x ∈ X, x ∈ Y) : SameX Y h H := ⟨a.1, fun i hi hx => a.2 i hi fun hm => hx (hxy i hm)⟩
theorem SameX.weak0 {Y : List Nat} {h H : List AObj} (a : SameX [] h H) : SameX Y h H := a.weak (by simp)
theorem SameX.thru {X Y : List Nat} {h H H' : List AObj} (a : SameX X h H) (b : SameX Y H H') (hy : ∀ y ∈ Y, y ∈ X ∨ h.length ≤ y) : SameX X h H' :=
  ⟨Nat.le_trans a.1 b.1, fun i hi hx => by
    rw [b.2 i (Nat.lt_of_lt_of_le hi a.1) fun hm => ?_, a.2 i hi hx]
    rcases hy i hm with h1 | h1
    · exact hx h1
    · omega⟩
theorem SameX.app0 {X : List Nat} {h H : List AObj} (a : SameX X h H) (hX : ∀ x ∈ X, h.length ≤ x) : ∃ g, H = h ++ g := by
  have := SameX.pre (h0 := h) (g := []) (X := X) (H := H) (by simpa using a) hX
  exact this
theorem lt_of_get {i : Nat} {o : AObj} (hx : H[i]? = some o) : i < H.length := (List.getElem?_eq_some_iff.1 hx).1
theorem SameX.sli {X : List Nat} {v : Value} {s n : Nat} {cs : List Value} (a : SameX X h H) (hs : Sli h v s n cs) (hX : ∀ x ∈ X, h.length ≤ x) : Sli H v s n cs := by
  obtain ⟨g, rfl⟩ := a.app0 hX
  exact sli_app hs

theorem qAl {l : List Value} (hk : ∀ H' p, p = H.length → SameX [] H H' → H'[p]? = some (.cells l true 0) → H'.length = p + 1 → K (ptr p 0) H') : aAlloc l H K :=
  hk _ _ rfl SameX.refl.app (by simp) (by simp)
theorem qBox {l : List Value} (h1 : l.all one = true) (hk : ∀ H' p, p = H.length → SameX [] H H' → H'[p]? = some (.cells l true 0) → H'.length = p + 1 → K (ptr p 0) H') : aBox (.agg ⟨l⟩) H K :=
  box_agg h1 (hk _ _ rfl SameX.refl.app (by simp) (by simp))
theorem qBox1 {v : Value} (hc : v.cells = #[v]) (h1 : one v = true) (hk : ∀ H' p, p = H.length → SameX [] H H' → H'[p]? = some (.cells [v] true 0) → H'.length = p + 1 → K (ptr p 0) H') : aBox v H K :=
  box_one hc h1 (hk _ _ rfl SameX.refl.app (by simp) (by simp))
theorem qNew {n : Nat} {l : List Value} (hk : ∀ H' p, p = H.length → SameX [] H H' → H'[p]? = some (.cells l true 0) → H'.length = p + 1 → K (.slice (some ⟨p, 0, none⟩) n n) H') : aNewS n l H K :=
  hk _ _ rfl SameX.refl.app (by simp) (by simp)
theorem qNewM (hk : ∀ H' p, p = H.length → SameX [] H H' → H'[p]? = some (.map [] true) → H'.length = p + 1 → K (.map (some p)) H') : aNewM H K :=
  hk _ _ rfl SameX.refl.app (by simp) (by simp)
theorem qMk {z : List Value} {n : Nat} (hn : n ≤ 100000) (hk : ∀ H' p, p = H.length → SameX [] H H' → H'[p]? = some (.cells (zrep z n) true 0) → H'.length = p + 1 → K (.slice (some ⟨p, 0, none⟩) n n) H') : aMkS z (vint n) (vint n) H K := by
  have hr : room = 1073741824 := rfl
  simp only [aMkS, Int.toNat_natCast]
  exact ⟨by omega, by omega, by omega, hk _ _ rfl SameX.refl.app (by simp) (by simp)⟩
theorem qSt {b o : Nat} {c : List Value} {sz : Nat} {v : Value} (hb : H[b]? = some (.cells c true sz)) (ho : o < c.length) (h1 : v.cells = #[v]) (h2 : one v = true) (hk : ∀ H', SameX [b] H H' → H'[b]? = some (.cells (c.set o v) true sz) → H'.length = H.length → HL H') : aStore 1 (ptr b o) v H HL :=
  store_cell hb ho h1 h2 (hk _ (SameX.refl.set (.inl (by simp))) (List.getElem?_set_self (lt_of_get hb)) (by simp))
theorem qStA {b n : Nat} {cs c : List Value} {sz : Nat} (hb : H[b]? = some (.cells cs true sz)) (hl : c.length = n) (hs : cs.length = n) (h1 : c.all one = true) (hk : ∀ H', SameX [b] H H' → H'[b]? = some (.cells c true sz) → H'.length = H.length → HL H') : aStore n (ptr b 0) (.agg ⟨c⟩) H HL :=
  store_agg hb hl hs h1 (hk _ (SameX.refl.set (.inl (by simp))) (List.getElem?_set_self (lt_of_get hb)) (by simp))
theorem qSt2 {b o : Nat} {c : List Value} {sz : Nat} {x y : Value} (hb : H[b]? = some (.cells c true sz)) (ho : o + 2 ≤ c.length) (h1 : one x = true) (h2 : one y = true) (hk : ∀ H', SameX [b] H H' → H'[b]? = some (.cells ((c.set o x).set (o + 1) y) true sz) → H'.length = H.length → HL H') : aStore 2 (ptr b o) (.agg ⟨[x, y]⟩) H HL := by
  have := bSt2 (A := []) (g := H) (i := b) (o := o) (c := c) (sz := sz) (x := x) (y := y) (HL := HL) hb ho h1 h2 (hk _ (SameX.refl.set (.inl (by simp))) (List.getElem?_set_self (lt_of_get hb)) (by simp))
  simpa using this

theorem ownX_iff {s len : Nat} {cs : List Value} {v : Value} {o : Option Nat} : OwnX H s cs len v o ↔ OwnE 0 H s cs len v o := by
  simp [OwnX, OwnE]
theorem ownX_nil {s : Nat} : OwnX H s [] 0 (.slice none 0 0) none := ⟨by simp, rfl, .inl ⟨rfl, rfl, rfl⟩⟩
theorem ownX_keep {s len : Nat} {cs : List Value} {v : Value} {o : Option Nat} {H' : List AObj} {X : List Nat} (ho : OwnX H s cs len v o) (a : SameX X H H') (hX : ∀ i, o = some i → i ∉ X) : OwnX H' s cs len v o := by
  obtain ⟨h1, h2, h3 | ⟨i, c, sz, rfl, h4, h5, h6⟩⟩ := ho
  · exact ⟨h1, h2, .inl h3⟩
  · exact ⟨h1, h2, .inr ⟨i, c, sz, rfl, h4, a.get h5 (hX i rfl), h6⟩⟩
theorem ownX_sli {s len : Nat} {cs : List Value} {v : Value} {o : Option Nat} (ho : OwnX H s cs len v o) : Sli H v s len cs := by
  have := ownE_sli (A := []) (ownX_iff.1 ho)
  exact this
theorem ownX_val {s len : Nat} {cs : List Value} {v : Value} {o : Option Nat} (ho : OwnX H s cs len v o) : v.cells = #[v] ∧ one v = true ∧ kn1 v = true := ownE_val (ownX_iff.1 ho)
theorem ownX_lt {s len : Nat} {cs : List Value} {v : Value} {o : Option Nat} (ho : OwnX H s cs len v o) : ∀ i, o = some i → i < H.length := fun _ hi => ownE_lt (ownX_iff.1 ho) hi
theorem ownX_new {s n p : Nat} {l : List Value} (hp : H[p]? = some (.cells l true 0)) (hl : l.length = n * s) (hk : kn l = true) : OwnX H s l n (.slice (some ⟨p, 0, none⟩) n n) (some p) :=
  ⟨hl, hk, .inr ⟨p, n, 0, rfl, rfl, hp, .inr rfl⟩⟩

theorem ownX_more {s len : Nat} {cs e : List Value} {v y : Value} {o : Option Nat} (ho : OwnX H s cs len v o) (hs : 0 < s) (hl : len < 1000) (hy : Sli H y s 1 e)
    (hk : ∀ v' H' p, p = H.length → OwnX H' s (cs ++ e) (len + 1) v' (some p) → SameX o.toList H H' → K v' H') : aApp s v y H K := by
  have hlo := ownX_lt ho
  refine ownE_more (A := []) (g := H) (ownX_iff.1 ho) hs hl hy fun v' g' ho' hkeep => hk v' ([] ++ g') _ rfl (ownX_iff.2 ho') ⟨?_, fun i hi hx => ?_⟩
  · have := ownE_lt ho' rfl
    simp only [List.nil_append]
    omega
  · have hx' : o ≠ some i := fun e => hx (by rw [e]; simp)
    obtain ⟨x, hxx⟩ : ∃ x, H[i]? = some x := ⟨H[i], List.getElem?_eq_getElem hi⟩
    rw [hxx]
    exact hkeep i x hx' hxx

theorem retX {X : List Nat} {vs : List Value} (ok : heapOk h) (hn : n0 ≤ h.length) (S : SameX X h H) (hX : ∀ x ∈ X, h.length ≤ x) (hv : ∀ v ∈ vs, v ≠ unk) (hw : VOk h.length (pack vs)) (hk : K (pack vs) h) : retL n0 K [] vs H := by
  obtain ⟨g, rfl⟩ := S.app0 hX
  exact retL_drop ok hn hv hw hk
end
def rngsC (f : Nat → Rng) (n : Nat) : List Value := (List.range n).flatMap fun j => (f j).cells
theorem rngsC_succ (f : Nat → Rng) (n : Nat) : rngsC f (n + 1) = rngsC f n ++ (f n).cells := by
  simp [rngsC, List.range_succ]
theorem rngsC_len (f : Nat → Rng) : ∀ n, (rngsC f n).length = n * 2
  | 0 => rfl
  | n + 1 => by rw [rngsC_succ, List.length_append, rngsC_len f n, rng_len]; omega
theorem rngsC_congr {f f' : Nat → Rng} : ∀ {n : Nat}, (∀ j, j < n → f j = f' j) → rngsC f n = rngsC f' n
  | 0, _ => rfl
  | n + 1, h => by rw [rngsC_succ, rngsC_succ, rngsC_congr fun j hj => h j (by omega), h n (by omega)]
theorem rngsC_zero : ∀ n, zrep [vint 0, vint 0] n = rngsC (fun _ => ⟨0, 0⟩) n := by
  intro n
  have : ∀ n, rngsC (fun _ => ⟨0, 0⟩) (n + 1) = [vint 0, vint 0] ++ rngsC (fun _ => ⟨0, 0⟩) n := by
    intro n
    unfold rngsC
    rw [List.range_succ_eq_map, List.flatMap_cons, List.flatMap_map]
    rfl
  induction n with
  | zero => rfl
  | succ n ih => rw [this, ← ih]; rfl
theorem rngsC_get (f : Nat → Rng) {n i : Nat} (hi : i < n) : ((rngsC f n).drop (i * 2)).take 2 = (f i).cells := by
  have := flat_take (enc := fun j => (f j).cells) (s := 2) (fun j => rng_len (f j)) (List.range n) i (by simpa using hi)
  simpa [rngsC] using this
theorem rngsC_set (f : Nat → Rng) (r : Rng) : ∀ {n i : Nat}, i < n → ((rngsC f n).set (i * 2) (vint r.lo)).set (i * 2 + 1) (vint r.hi) = rngsC (fun j => if j = i then r else f j) n
  | n + 1, i, hi => by
    have hl := rngsC_len f n
    rw [rngsC_succ, rngsC_succ]
    rcases Nat.lt_or_ge i n with x | x
    · rw [List.set_append_left _ _ (by omega), List.set_append_left _ _ (by simp; omega), rngsC_set f r x, if_neg (by omega)]
    · have : i = n := by omega
      subst this
      rw [List.set_append_right _ _ (by omega), List.set_append_right _ _ (by omega), hl, if_pos rfl]
      congr 1
      · exact rngsC_congr fun j hj => by rw [if_neg (by omega)]
      · simp [Rng.cells, show i * 2 + 1 - i * 2 = 1 by omega]
end Go.Proofs.Ytdgpacdknpahnaa

namespace Go.Proofs.Ytdgpacdknpahnaa
open Go.Conc Go.Proofs.Try
set_option maxRecDepth 100000
def limA (t : Tal) (u : Int) : Nat → Rng := limN u t.counts t.counts.length
def bkN (t : Tal) (L : Nat → Rng) : Nat → Rng
  | 0 => fwd t L (t.gates.toNat - 1)
  | n + 1 => (fwd t L (t.gates.toNat - 2 - n)).meet ((bkN t L n).plus (stretchR t (t.gates.toNat - 2 - n)).turn)
def bkR (t : Tal) (L : Nat → Rng) (g : Nat) : Rng := bkN t L (t.gates.toNat - 1 - g)
def trulyL (t : Tal) : List Rng := (List.range t.gates.toNat).map (bkR t (limA t 0))

theorem bkR_last {t : Tal} {L : Nat → Rng} {g : Nat} (hg : t.gates.toNat = g + 1) : bkR t L g = fwd t L g := by
  unfold bkR
  rw [hg, show g + 1 - 1 - g = 0 from by omega]
  show fwd t L _ = _
  rw [hg]
  rfl
theorem bkR_step {t : Tal} {L : Nat → Rng} {g : Nat} (hg : g + 1 < t.gates.toNat) : bkR t L g = (fwd t L g).meet ((bkR t L (g + 1)).plus (stretchR t g).turn) := by
  unfold bkR
  obtain ⟨n, hn⟩ : ∃ n, t.gates.toNat - 1 - g = n + 1 := ⟨t.gates.toNat - 2 - g, by omega⟩
  rw [hn, show t.gates.toNat - 1 - (g + 1) = n from by omega]
  show (fwd t L (t.gates.toNat - 2 - n)).meet ((bkN t L n).plus (stretchR t (t.gates.toNat - 2 - n)).turn) = _
  rw [show t.gates.toNat - 2 - n = g from by omega]
theorem bkR_sm {t : Tal} (h : TalFine t) {L : Nat → Rng} (hL : ∀ g, (L g).sm 1000) (g : Nat) : (bkR t L g).sm 100000 := by
  have hg := h.gates
  have key : ∀ n : Nat, n < 5 → (bkN t L n).sm (6000 + 1000 * n) := by
    intro n
    induction n with
    | zero =>
      intro _
      exact Rng.sm_le (fwd_sm h hL _) (by omega)
    | succ n ih =>
      intro hn
      refine Rng.sm_meet (Rng.sm_le (fwd_sm h hL _) (by omega)) ?_
      exact Rng.sm_le (Rng.sm_plus (ih (by omega)) (Rng.sm_turn (stretch_sm h _))) (by omega)
  exact Rng.sm_le (key (t.gates.toNat - 1 - g) (by omega)) (by omega)
theorem limA_sm {t : Tal} (h : TalFine t) (u : Int) : ∀ g, (limA t u g).sm 1000 := limN_sm (fun c hc => (h.cosm.2 c hc).2) _

section
variable {main : Bool} {J : JT} {h h0 : List AObj} {K : Value → List AObj → Prop} {KV : Value → Prop} {HL : List AObj → Prop} {n0 : Nat}
theorem good95 (hJ : Closed prog main J) {v cv nv : Value} {t : Tal} (ht : TalAt h v t cv nv) (hs : SliE h0 cv 2 Rng.cells t.changes) (hs2 : SliE h0 nv 4 Cnt.cells t.counts) (hp : ∃ g, h = h0 ++ g)
    (hK : ∀ H bw bm, SameX [] h H → h.length ≤ bw → h.length ≤ bm → bw ≠ bm → WorkIn h0 H bw t cv nv 0 (.map (some bm)) → H[bm]? = some (.map [] true) → K (ptr bw 0) H) : Good prog J 95 [v] h K := by
  refine g95 hJ fun ok => ?_
  rw [e95, ht.val]
  have k1 : kn1 cv = true ∧ kn1 nv = true := ⟨(sli_one ht.ch).2.2, (sli_one ht.co).2.2⟩
  refine qBox (tal_one ht) fun H1 p1 e1 S1 b1 l1 => load_part (c := talCells t cv nv) b1 (by rw [cs_val]; omega) rfl (tal_kn k1.1 k1.2) ?_
  refine qNewM fun H2 p2 e2 S2 b2 l2 => ?_
  refine fill_agg (l := talCells t cv nv) rfl (tal_one ht) (by simp) (fill1 rfl rfl (by simp [wrAt, talCells]) (fillI ?_))
  have hone : (talCells t cv nv ++ [Value.int .u64 0, .map (some p2)]).all one = true := by
    rw [List.all_append, tal_one ht]
    rfl
  refine qBox (l := talCells t cv nv ++ [Value.int .u64 0, .map (some p2)]) hone fun H3 p3 e3 S3 b3 l3 => ?_
  have S13 : SameX [] h H3 := (S1.trans S2).trans S3
  refine retL_same (by simp [ptr, unk]) (hK H3 p3 p2 S13 (by omega) (by omega) (by omega) ⟨b3, ?_, hs, hs2⟩ (S3.get b2 (by simp)))
  obtain ⟨g, rfl⟩ := hp
  obtain ⟨g', e⟩ := S13.app0 (by simp)
  exact ⟨g ++ g', by rw [e, List.append_assoc]⟩

theorem good71 (hJ : Closed prog main J) {v cv nv : Value} {t : Tal} (ht : TalAt h v t cv nv)
    (hK : ∀ H bw bm, SameX [] h H → h.length ≤ bw → h.length ≤ bm → bw ≠ bm → WorkIn h H bw t cv nv 0 (.map (some bm)) → H[bm]? = some (.map [] true) → K (.tuple ⟨[ptr bw 0, vint (talErr t)]⟩) H) : Good prog J 71 [v] h K := by
  refine g71 hJ fun ok => ?_
  rw [e71, ht.val]
  have k1 : kn1 cv = true ∧ kn1 nv = true := ⟨(sli_one ht.ch).2.2, (sli_one ht.co).2.2⟩
  refine qBox (tal_one ht) fun H1 p1 e1 S1 b1 l1 => ⟨[p1], ?_⟩
  refine load_part (c := talCells t cv nv) b1 (by rw [cs_val]; omega) rfl (tal_kn k1.1 k1.2) ⟨by simp [RdOk, ptrBlk, ptr], ?_⟩
  refine load_part (c := talCells t cv nv) b1 (by rw [cs_val]; omega) rfl (tal_kn k1.1 k1.2) ⟨by simp [RdOk, ptrBlk, ptr], ?_⟩
  have t1 : TalAt H1 (.agg ⟨talCells t cv nv⟩) t cv nv := ⟨rfl, S1.sli ht.ch (by simp), S1.sli ht.co (by simp)⟩
  obtain ⟨g, hg⟩ := S1.app0 (by simp)
  refine good95 hJ t1 ht.ch ht.co ⟨g, hg⟩ fun H2 bw bm S2 a1 a2 a3 w hm => ⟨fun b hb => ?_, ?_⟩
  · simp at hb
    subst hb
    exact S2.2 _ (lt_of_get b1) (by simp)
  have t2 : TalAt H2 (.agg ⟨talCells t cv nv⟩) t cv nv := ⟨rfl, S2.sli t1.ch (by simp), S2.sli t1.co (by simp)⟩
  refine good51 hJ t2 ⟨fun b hb => ?_, ?_⟩
  · simp at hb
    subst hb
    exact S2.2 _ (lt_of_get b1) (by simp)
  exact retL_same (by simp [ptr, unk]) (hK H2 bw bm (S1.trans S2) (by omega) (by omega) a3 w hm)

noncomputable abbrev lp72 (st : LoopState) (pend : Option Code) (r : Nat → Value) (d : Nat) : AObj := .loop st pend 72 r 60 #[23, 24] (subC [1, 1, 1, 0, 1, 0, 0] (codeOf f72)) (subC [1, 1, 1, 0, 1, 0, 1] (codeOf f72)) d

def outF (t : Tal) (L : Nat → Rng) (g : Nat) : Nat → Rng := fun j => if j < g then fwd t L j else ⟨0, 0⟩
def outB (t : Tal) (L : Nat → Rng) (g : Nat) : Nat → Rng := fun j => if j < g then fwd t L j else bkR t L j

theorem round72 (hJ : Closed prog main J) {H : List AObj} {l p4 po d g G : Nat} {r : Nat → Value} {s : Rng} {f : Nat → Rng} {Q : Value → List AObj → Prop} (hl : H[l]? = some (lp72 .ready none r d))
    (r4 : r 4 = ptr p4 0) (h4 : H[p4]? = some (.cells [.slice (some ⟨po, 0, none⟩) G G] true 0)) (ho : H[po]? = some (.cells (rngsC f G) true 0)) (hg : g < G) (n1 : p4 ≠ l) (n2 : po ≠ l) (n3 : p4 ≠ po)
    (h1 : ∀ H', SameX [l, po] H H' → H'[l]? = some (lp72 .ready none r d) → H'[po]? = some (.cells (rngsC (fun j => if j = g then s else f j) G) true 0) → Q (.bool true) H') :
    callV prog (Good prog J) (.func (.yield l) ⟨[]⟩ ⟨[]⟩) [vint g, s.val] H Q := by
  show Good prog J (yid prog l) [vint g, s.val] H Q
  have hll := lt_of_get hl
  refine good_round hJ hl rfl (by decide) fun ok => W_sound hJ mixed _ ?_
  rw [a72_1]
  refine qAl fun H1 p e1 S1 b1 l1 => ?_
  refine qStA (c := s.cells) b1 rfl rfl rfl fun H2 S2 b2 l2 => ?_
  refine ⟨rfl, none, _, _, _, _, _, _, _, S2.get (S1.get hl (by simp)) (by simp; omega), W_sound hJ mixed _ ?_⟩
  rw [b72_1]
  have hpo := lt_of_get ho
  have hp4 := lt_of_get h4
  have S3 : SameX [l] H2 (H2.set l (lp72 .busy none r d)) := SameX.refl.set (.inl (by simp))
  have z4 := S3.get (S2.get (S1.get h4 (by simp)) (by simp; omega)) (by simp; omega)
  show aLoad false 1 (r 4) _ _
  rw [r4]
  refine ldI z4 rfl rfl ?_
  refine load_part (c := s.cells) (S3.get b2 (by simp; omega)) (by simp [Rng.cells]) rfl rfl ?_
  refine idxI ⟨by omega, by omega⟩ ?_
  rw [Int.toNat_natCast, Nat.zero_add]
  have zo := S3.get (S2.get (S1.get ho (by simp)) (by simp; omega)) (by simp; omega)
  refine qSt2 zo (by rw [rngsC_len]; omega) rfl rfl fun H4 S4 b4 l4 => ?_
  rw [rngsC_set f s hg] at b4
  have hl2 : l < H2.length := by omega
  refine ⟨.busy, none, _, _, _, _, _, _, _, S4.get (List.getElem?_set_self hl2) (by simp; omega), .inl (h1 _ ?_ (List.getElem?_set_self (by rw [l4]; simpa using hl2)) (get_set b4 n2))⟩
  have S12 : SameX [l, po] H H2 := (S1.weak0).thru S2 (by simp; omega)
  refine SameX.set ?_ (.inl (by simp))
  exact (S12.thru S3 (by simp)).thru S4 (by simp)

theorem back72 (hJ : Closed prog main J) {H : List AObj} {f : RG} {bw bm p4 po d : Nat} {t : Tal} {cv nv : Value} {u : Int} {L : Nat → Rng} {s : Nat} {nx0 : RG → List AObj → Prop} (w : WorkIn h0 H bw t cv nv u (.map (some bm))) (fine : TalFine t) (hL : ∀ g, (L g).sm 1000)
    (hs : s < t.gates.toNat) (z4 : H[p4]? = some (.cells [.slice (some ⟨po, 0, none⟩) t.gates.toNat t.gates.toNat] true 0)) (zo : H[po]? = some (.cells (rngsC (outB t L s) t.gates.toNat) true 0)) (hn : p4 ≠ po) (hd : H[d]? = some .deferred) (hdp : d ≠ po)
    (ds : f.ds = [d]) (r0 : f.r 0 = ptr bw 0) (r4 : f.r 4 = ptr p4 0) (r7 : f.r 7 = .func (.func 98) ⟨[]⟩ ⟨[]⟩) (r8 : f.r 8 = .func (.func 99) ⟨[]⟩ ⟨[]⟩) (r9 : f.r 9 = vint ((s : Int) - 1))
    (hx : 0 < s → ∀ H' f', SameX [po] H H' → H'[po]? = some (.cells (rngsC (outB t L (s - 1)) t.gates.toNat) true 0) → f'.ds = [d] → f'.r 0 = ptr bw 0 → f'.r 4 = ptr p4 0 → f'.r 7 = .func (.func 98) ⟨[]⟩ ⟨[]⟩ → f'.r 8 = .func (.func 99) ⟨[]⟩ ⟨[]⟩ → f'.r 9 = vint ((s : Int) - 1 - 1) → nx0 f' H')
    (hK : s = 0 → K (.tuple ⟨[.slice (some ⟨po, 0, none⟩) t.gates.toNat t.gates.toNat, .bool true]⟩) (H.set d .dead)) :
    W prog J 60 n0 72 (subC [1, 1, 1, 1, 1, 0, 1, 0, 0] (codeOf f72)) f H (thenK nx0 (contQ prog J 60 n0 72 [1, 1, 1, 1, 1, 0, 1, 0] (codeOf f72) [] (RetQ prog [.tmp 2, .tmp 3] n0 K))) := by
  have hg := fine.gates
  have hch := fine.chl
  rw [s72_2]
  simp only [r0, r4, r7, r8, r9, ds]
  refine geqI (cndI (fun hge => ?_) fun hlt => ?_)
  · refine ⟨[p4, po], ldI z4 rfl rfl ⟨by simp [RdOk, ptrBlk, ptr], ldI z4 rfl rfl ⟨by simp [RdOk, ptrBlk, ptr], ?_⟩⟩⟩
    have e1 : (s : Int) - 1 = ((s - 1 : Nat) : Int) := by omega
    have e2 : ((s - 1 : Nat) : Int) + 1 = (s : Nat) := by omega
    rw [e1]
    refine idxI ⟨by omega, by omega⟩ ?_
    rw [Int.toNat_natCast, Nat.zero_add]
    refine load_part (c := (outB t L s (s - 1)).cells) zo (by rw [rngsC_len]; omega) (rngsC_get _ (by omega)) rfl ⟨by simp [RdOk, ptrBlk, ptr], ldI z4 rfl rfl ⟨by simp [RdOk, ptrBlk, ptr], addI (by omega) ?_⟩⟩
    rw [e2]
    refine idxI ⟨by omega, by omega⟩ ?_
    rw [Int.toNat_natCast, Nat.zero_add]
    refine load_part (c := (outB t L s s).cells) zo (by rw [rngsC_len]; omega) (rngsC_get _ (by omega)) rfl ⟨by simp [RdOk, ptrBlk, ptr], ?_⟩
    have hj : s - 1 < t.changes.length := by omega
    refine good101 hJ w.work hj ?_ (by have := fine.most; omega) ⟨fun _ _ => rfl, ?_⟩
    · have := fine.ch _ (List.getElem_mem hj)
      unfold Rng.sm
      omega
    have b1 : outB t L s (s - 1) = fwd t L (s - 1) := by
      unfold outB
      rw [if_pos (by omega)]
    have b2 : outB t L s s = bkR t L s := by
      unfold outB
      rw [if_neg (by omega)]
    rw [b1, b2]
    show Good prog J 98 [(stretchR t (s - 1)).val] _ _
    refine good98 hJ (Rng.sm_le (stretch_sm fine _) (by omega)) ⟨fun _ _ => rfl, ?_⟩
    refine good100 hJ (r := bkR t L s) (q := (stretchR t (s - 1)).turn) (Rng.sm_le (bkR_sm fine hL s) (by omega)) (Rng.sm_le (Rng.sm_turn (stretch_sm fine _)) (by omega)) ⟨fun _ _ => rfl, ?_⟩
    show Good prog J 99 [(fwd t L (s - 1)).val, _] _ _
    refine good99 hJ (r := fwd t L (s - 1)) (q := (bkR t L s).plus (stretchR t (s - 1)).turn) ⟨fun _ _ => rfl, ?_⟩
    have b3 : (fwd t L (s - 1)).meet ((bkR t L s).plus (stretchR t (s - 1)).turn) = bkR t L (s - 1) := by
      rw [bkR_step (t := t) (L := L) (g := s - 1) (by omega), show s - 1 + 1 = s from by omega]
    rw [b3]
    refine idxI ⟨by omega, by omega⟩ ?_
    rw [Int.toNat_natCast, Nat.zero_add]
    refine qSt2 zo (by rw [rngsC_len]; omega) rfl rfl fun H1 S1 c1 l1 => subI (by omega) ?_
    rw [rngsC_set _ _ (by omega)] at c1
    have b4 : rngsC (fun j => if j = s - 1 then bkR t L (s - 1) else outB t L s j) t.gates.toNat = rngsC (outB t L (s - 1)) t.gates.toNat := rngsC_congr fun j _ => by
      unfold outB
      by_cases h1 : j = s - 1
      · subst h1
        rw [if_pos rfl, if_neg (by omega)]
      · rw [if_neg h1]
        by_cases h2 : j < s - 1
        · rw [if_pos (by omega), if_pos h2]
        · rw [if_neg (by omega), if_neg h2]
    rw [b4] at c1
    refine hx (by omega) H1 _ S1 c1 ds r0 r4 r7 r8 ?_
    show vint _ = vint _
    congr 1
    omega
  · refine ldI z4 rfl rfl (retL_def hd (by simp [unk]) (hK (by omega)))

theorem outF_all {t : Tal} {L : Nat → Rng} : rngsC (outF t L t.gates.toNat) t.gates.toNat = rngsC (outB t L (t.gates.toNat - 1)) t.gates.toNat := by
  refine rngsC_congr fun j hj => ?_
  unfold outF outB
  rw [if_pos hj]
  split
  · rfl
  · exact (bkR_last (by omega)).symm

theorem range72 (hJ : Closed prog main J) {n0 p4 po b1 b2 bw bm : Nat} {t : Tal} {L : Nat → Rng} {cv nv : Value} {u : Int} {f : RG} (w : WorkIn h0 h bw t cv nv u (.map (some bm))) (fine : TalFine t) (hL : ∀ g, (L g).sm 1000) (hT : TruthIs t L)
    (q1 : h[p4]? = some (.cells [.slice (some ⟨po, 0, none⟩) t.gates.toNat t.gates.toNat] true 0)) (q2 : h[po]? = some (.cells (rngsC (outF t L 0) t.gates.toNat) true 0)) (q3 : h[b1]? = some (.cells [ptr bw 0] true 0)) (q4 : h[b2]? = some (.cells (limCells L) true 0))
    (d1 : p4 ≠ po) (d2 : po ≠ b1) (d3 : po ≠ b2) (d4 : po ≠ bw) (hpo : h0.length ≤ po)
    (ds : f.ds = []) (r0 : f.r 0 = ptr bw 0) (r4 : f.r 4 = ptr p4 0) (r22 : f.r 22 = .func (.func 111) ⟨[]⟩ ⟨[ptr b1 0, ptr b2 0]⟩)
    (hK : ∀ H, SameX [po] h H → H[po]? = some (.cells (rngsC (bkR t L) t.gates.toNat) true 0) → K (.tuple ⟨[.slice (some ⟨po, 0, none⟩) t.gates.toNat t.gates.toNat, .bool true]⟩) H) :
    Sem J 60 n0 72 (subC [1, 1, 1, 0, 1, 0] (codeOf f72)) f h (contQ prog J 60 n0 72 [1, 1, 1, 0, 1, 0] (codeOf f72) [] (RetQ prog [.tmp 2, .tmp 3] n0 K)) := by
  have hg := fine.gates
  have l1 := lt_of_get q1
  have l2 := lt_of_get q2
  have l3 := lt_of_get q3
  have l4 := lt_of_get q4
  have lw := lt_of_get w.at_
  refine l72_1 hJ (first := []) (cap := [ptr b1 0, ptr b2 0]) r22 (by decide) ?_
  have hpre : h0.length ≤ h.length := by
    obtain ⟨g, rfl⟩ := w.pre
    simp
  have S0 : SameX [] h (h ++ [AObj.deferred] ++ [lp72 .ready none f.r h.length]) := SameX.refl.app.app
  have hIl : (h ++ [AObj.deferred] ++ [lp72 .ready none f.r h.length])[h.length + 1]? = some (lp72 .ready none f.r h.length) := by
    rw [List.append_assoc]
    exact app2_get1
  have hId : (h ++ [AObj.deferred] ++ [lp72 .ready none f.r h.length])[h.length]? = some .deferred := by simp
  have hsl : (h ++ [AObj.deferred] ++ [lp72 .ready none f.r h.length]).length = h.length + 2 := by simp
  generalize h ++ [AObj.deferred] ++ [lp72 .ready none f.r h.length] = h1 at *
  have hX : ∀ x ∈ [h.length + 1, po], h0.length ≤ x ∧ x < h1.length := by
    rw [hsl]
    simp
    omega
  refine good111 hJ (h0 := h0) (X := [h.length + 1, po]) (L := L) (t := t) (I := fun g H => H[h.length + 1]? = some (lp72 .ready none f.r h.length) ∧ H[po]? = some (.cells (rngsC (outF t L g) t.gates.toNat) true 0)) (Stop := fun _ _ => False)
    (w.same S0 (by simp) (by simp)) fine hL hX (S0.get q3 (by simp)) (S0.get q4 (by simp)) (by simp; omega) (by simp; omega) (by simp; omega) (fun g H H' hx hI => ?_) ⟨hIl, S0.get q2 (by simp)⟩ (fun g H Q hg' S hI k1 k2 => ?_) (fun H S hI => ?_) (fun g H hg' S hI => hI.elim)
  · rw [hx _ (by simp), hx _ (by simp)]
    exact hI
  · refine round72 hJ hI.1 r4 (S.get (S0.get q1 (by simp)) (by simp; omega)) hI.2 (by omega) (by omega) (by omega) d1 fun H' S' a b => k1 H' S' ⟨a, ?_⟩
    rw [b]
    congr 2
    refine rngsC_congr fun j _ => ?_
    unfold outF
    by_cases e1 : j = g
    · subst e1
      rw [if_pos rfl, if_pos (by omega)]
    · rw [if_neg e1]
      by_cases e2 : j < g
      · rw [if_pos e2, if_pos (by omega)]
      · rw [if_neg e2, if_neg (by omega)]
  · refine endQ_normal hI.1 (by simp) ?_
    rw [c72_1]
    have hlen := S.1
    have S2 : SameX [po] h (H.set (h.length + 1) .dead) := by
      have := (S0.weak0 (Y := [h.length + 1, po])).trans S
      refine SameX.thru (Y := [h.length + 1, po]) SameX.refl (this.set (.inl (by simp))) (by simp)
    have w2 := w.same S2 (by simp; omega) (by simp; omega)
    show aNil (f.r 0) _
    rw [r0]
    refine nilI (offI (offI (ldI (v := vint t.gates) w2.at_ rfl rfl (subI (by omega) ?_))))
    have z4 := S2.get q1 (by simp; omega)
    have zo : (H.set (h.length + 1) AObj.dead)[po]? = some (.cells (rngsC (outB t L (t.gates.toNat - 1)) t.gates.toNat) true 0) := by
      rw [← outF_all]
      exact get_set hI.2 (by omega)
    have zd : (H.set (h.length + 1) AObj.dead)[h.length]? = some .deferred := get_set (S.get hId (by simp; omega)) (by omega)
    generalize H.set (h.length + 1) AObj.dead = H1 at *
    refine l72_2 hJ (fun s : Nat => s) (fun s f' H' => SameX [po] h H' ∧ s < t.gates.toNat ∧ H'[po]? = some (.cells (rngsC (outB t L s) t.gates.toNat) true 0) ∧ H'[h.length]? = some .deferred ∧ f'.ds = [h.length] ∧ f'.r 0 = ptr bw 0 ∧ f'.r 4 = ptr p4 0 ∧ f'.r 7 = .func (.func 98) ⟨[]⟩ ⟨[]⟩ ∧ f'.r 8 = .func (.func 99) ⟨[]⟩ ⟨[]⟩ ∧ f'.r 9 = vint ((s : Int) - 1)) ?_ (s := t.gates.toNat - 1)
      (.inl ⟨S2, by omega, zo, zd, by show h.length :: f.ds = _; rw [ds], r0, r4, rfl, rfl, by show vint _ = vint _; congr 1; omega⟩)
    rintro s f' H' ⟨S3, hs, zo', zd', ds', r0', r4', r7', r8', r9'⟩ ok' hn'
    refine back72 hJ (w.same S3 (by simp; omega) (by simp; omega)) fine hL hs (S3.get q1 (by simp; omega)) zo' d1 zd' (by omega) ds' r0' r4' r7' r8' r9' (fun hpos H2 f2 S4 zo2 a1 a2 a3 a4 a5 a6 => ⟨s - 1, by dsimp only; omega, .inl ⟨S3.trans S4, by omega, zo2, S4.get zd' (by simp; omega), a1, a2, a3, a4, a5, by rw [a6]; congr 1; omega⟩⟩) fun hs0 => ?_
    subst hs0
    refine hK _ (S3.set (.inr (Nat.le_refl _))) ?_
    have : rngsC (outB t L 0) t.gates.toNat = rngsC (bkR t L) t.gates.toNat := rngsC_congr fun j _ => by
      unfold outB
      rw [if_neg (by omega)]
    rw [← this]
    exact get_set zo' (by omega)

theorem good72 (hJ : Closed prog main J) {bw bm : Nat} {t : Tal} {cv nv : Value} {u : Int} (w : WorkIn h0 h bw t cv nv u (.map (some bm))) (hbw : h0.length ≤ bw) (hbm : h0.length ≤ bm) (hne : bw ≠ bm) (fine : TalFine t) {es : List (Value × Value)} (hm : h[bm]? = some (.map es true)) (met : MetOk t es)
    (k1 : ¬ TruthIs t (limA t 0) → ∀ H, SameX [bw, bm] h H → K (.tuple ⟨[.slice none 0 0, .bool false]⟩) H)
    (k2 : TruthIs t (limA t 0) → ∀ H po es', SameX [bw, bm] h H → h.length ≤ po → WorkIn h0 H bw t cv nv 0 (.map (some bm)) → H[bm]? = some (.map es' true) → MetOk t es' → H[po]? = some (.cells (rngsC (bkR t (limA t 0)) t.gates.toNat) true 0) → K (.tuple ⟨[.slice (some ⟨po, 0, none⟩) t.gates.toNat t.gates.toNat, .bool true]⟩) H) :
    Good prog J 72 [ptr bw 0] h K := by
  refine g72 hJ fun ok => ?_
  rw [e72]
  have hg := fine.gates
  have lw := lt_of_get w.at_
  have lm := lt_of_get hm
  have hpre : h0.length ≤ h.length := by
    obtain ⟨g, rfl⟩ := w.pre
    simp
  refine good74 hJ (u' := 0) w hbw hbm hne fine hm met fun H1 es1 S1 w1 hm1 met1 => ?_
  refine notI (cndN (fun hf => retL_same (by simp [unk]) (k1 hf H1 S1)) fun hT => ?_)
  refine nilI (offI (offI (ldI (v := vint t.gates) w1.at_ rfl rfl ⟨by decide, ?_⟩)))
  have eg : t.gates = (t.gates.toNat : Int) := by omega
  rw [eg]
  refine qMk (by omega) fun H2 po e2 S2 c2 l2 => qAl fun H3 p4 e3 S3 c3 l3 => qSt (c := [.slice none 0 0]) c3 (by simp) rfl rfl fun H4 S4 c4 l4 => ?_
  have w4 : WorkIn h0 H4 bw t cv nv 0 (.map (some bm)) := ((w1.same S2 (by simp) (by simp)).same S3 (by simp) (by simp)).same S4 (by have := S1.1; simp; omega) (by have := S1.1; simp; omega)
  refine good97 hJ w4.work fine.cosm ?_
  show Good prog J 96 [ptr bw 0, .agg ⟨limCells (limA t 0)⟩] H4 _
  refine good96 hJ ?_
  have S5 : SameX [] H4 (H4 ++ [.cells [ptr bw 0] true 0, .cells (limCells (limA t 0)) true 0]) := SameX.refl.app
  have g1 : (H4 ++ [AObj.cells [ptr bw 0] true 0, .cells (limCells (limA t 0)) true 0])[H4.length]? = some (.cells [ptr bw 0] true 0) := by simp
  have g2 : (H4 ++ [AObj.cells [ptr bw 0] true 0, .cells (limCells (limA t 0)) true 0])[H4.length + 1]? = some (.cells (limCells (limA t 0)) true 0) := by simp
  generalize H4 ++ [AObj.cells [ptr bw 0] true 0, .cells (limCells (limA t 0)) true 0] = H5 at *
  have h1l := S1.1
  have SA : SameX [bw, bm] h H4 := ((S1.thru S2 (by simp)).thru S3 (by simp)).thru S4 (by simp; omega)
  have zpo : H5[po]? = some (.cells (rngsC (outF t (limA t 0) 0) t.gates.toNat) true 0) := by
    have := S5.get (S4.get (S3.get c2 (by simp)) (by simp; omega)) (by simp)
    rw [rngsC_zero] at this
    rw [this]
    congr 2
  refine range72 hJ (p4 := p4) (po := po) (b1 := H4.length) (b2 := H4.length + 1) (w4.same S5 (by simp) (by simp)) fine (limA_sm fine 0) hT (S5.get c4 (by simp)) zpo g1 g2 (by omega) (by omega) (by omega) (by omega) (by omega) rfl rfl rfl rfl fun H6 S6 c6 => ?_
  have S46 : SameX [po] H4 H6 := S5.weak0.trans S6
  refine k2 hT H6 po es1 (SA.thru S46 (by simp; omega)) (by omega) (w4.same S46 (by simp; omega) (by simp; omega)) ?_ met1 c6
  exact S46.get (S4.get (S3.get (S2.get hm1 (by simp)) (by simp)) (by simp; omega)) (by simp; omega)

theorem trulyL_len (t : Tal) : (trulyL t).length = t.gates.toNat := by simp [trulyL]
theorem trulyL_get (t : Tal) (i : Nat) (hi : i < (trulyL t).length) : (trulyL t)[i] = bkR t (limA t 0) i := by simp [trulyL]
theorem trulyL_take (t : Tal) {i : Nat} (hi : i < t.gates.toNat) : (trulyL t).take (i + 1) = (trulyL t).take i ++ [bkR t (limA t 0) i] := by
  have hl := trulyL_len t
  rw [List.take_add_one, List.getElem?_eq_getElem (by omega), trulyL_get]
  rfl

end
end Go.Proofs.Ytdgpacdknpahnaa

namespace Go.Proofs.Ytdgpacdknpahnaa
open Go.Conc Go.Proofs.Try
set_option maxRecDepth 100000
def HX (h H : List AObj) (ns : List Int) (k : Nat) : Prop := ∃ nv k' s rest, H = HF h nv k' s rest ∧ k' ≤ k ∧ (0 ≤ s ∧ s < 18446744073709551616) ∧ Hnd h nv ns

section
variable {main : Bool} {J : JT} {h H : List AObj} {K : Value → List AObj → Prop} {ns : List Int} {k : Nat}
theorem HX.mono {k' : Nat} (a : HX h H ns k) (hk : k ≤ k') : HX h H ns k' := by
  obtain ⟨nv, k1, s, rest, e, h1, h2, h3⟩ := a
  exact ⟨nv, k1, s, rest, e, by omega, h2, h3⟩
theorem HX.pre (a : HX h H ns k) : SameX [] h H := by
  obtain ⟨nv, k1, s, rest, rfl, _⟩ := a
  exact SameX.refl.app
theorem HX.lt (a : HX h H ns k) : h.length < H.length := by
  obtain ⟨nv, k1, s, rest, rfl, _⟩ := a
  rw [hf_len]
  omega
theorem HX.same {X : List Nat} {H' : List AObj} (a : HX h H ns k) (S : SameX X H H') (hX : ∀ x ∈ X, h.length < x) : HX h H' ns k := by
  obtain ⟨nv, k1, s, rest, rfl, h1, h2, h3⟩ := a
  have e : HF h nv k1 s rest = (h ++ [.cells [nv, vint k1, .int .u64 s] true 0]) ++ rest := by simp [HF]
  rw [e] at S
  obtain ⟨g, hg⟩ := S.pre (fun x hx => by have := hX x hx; simp; omega)
  exact ⟨nv, k1, s, g, by rw [hg]; simp [HF], h1, h2, h3⟩
theorem hf_same {nv : Value} {k1 k2 : Nat} {s1 s2 : Int} {rest g : List AObj} : SameX [h.length] (HF h nv k1 s1 rest) (HF h nv k2 s2 rest ++ g) := by
  refine ⟨by rw [hf_app, hf_len, hf_len]; simp, fun i hi hx => ?_⟩
  simp at hx
  rw [List.getElem?_append_left (by rw [hf_len] at hi ⊢; omega)]
  unfold HF
  rcases Nat.lt_or_ge i h.length with x | x
  · rw [List.getElem?_append_left x, List.getElem?_append_left x]
  · rw [List.getElem?_append_right x, List.getElem?_append_right x]
    obtain ⟨j, hj⟩ : ∃ j, i - h.length = j + 1 := ⟨i - h.length - 1, by omega⟩
    rw [hj]
    rfl

theorem newX (hJ : Closed prog main J) {nv : Value} (sn : Sli h nv 1 ns.length (ns.map vint)) (hln : ns.length < 4611686018427387904)
    (hK : ∀ H, HX h H ns 0 → K (ptr h.length 0) H) : Good prog J 19 [nv] h K := by
  obtain ⟨nb, nc, hnv, _⟩ := id sn
  subst hnv
  exact good19 hJ (hK _ ⟨_, 0, 88172645463325252, [], rfl, Nat.le_refl _, by omega, ⟨sn, hln⟩⟩)
theorem upX (hJ : Closed prog main J) (a : HX h H ns k) (hk : k < 1000000) {m : Int} (hm : m < 1000000)
    (hK : ∀ y H', 0 ≤ y → (y ≤ m ∨ y = 0) → SameX [h.length] H H' → H'.length = H.length → HX h H' ns (k + 1) → K (vint y) H') : Good prog J 22 [ptr h.length 0, vint m] H K := by
  obtain ⟨nv, k1, s, rest, rfl, h1, h2, h3⟩ := a
  have := up (k := k1) (g := []) (rest := rest) (K := K) hJ h3 h2 (by omega) hm fun y k' s' a1 a2 a3 a4 => hK y _ a1 a2 hf_same (by simp [hf_len]) ⟨nv, k', s', rest, by simp, by omega, a4, h3⟩
  simpa using this
theorem amX (hJ : Closed prog main J) (a : HX h H ns k) (hk : k < 1000000) {lo hi : Int} (h1 : -1000000 ≤ lo ∧ lo ≤ 1000000) (h2 : -1000000 ≤ hi ∧ hi ≤ 1000000)
    (hK : ∀ y H', lo ≤ y → (y ≤ hi ∨ y = lo) → SameX [h.length] H H' → H'.length = H.length → HX h H' ns (k + 1) → K (vint y) H') : Good prog J 20 [ptr h.length 0, vint lo, vint hi] H K := by
  obtain ⟨nv, k1, s, rest, rfl, b1, b2, b3⟩ := a
  have := amo (k := k1) (g := []) (rest := rest) (K := K) hJ b3 b2 (by omega) h1 h2 fun y k' s' a1 a2 a3 a4 => hK y _ a1 a2 hf_same (by simp [hf_len]) ⟨nv, k', s', rest, by simp, by omega, a4, b3⟩
  simpa using this
end
section
variable {h H : List AObj} {KV : Value → Prop}
theorem talAt_same {X : List Nat} {H' : List AObj} {v cv nv : Value} {t : Tal} (ht : TalAt H v t cv nv) (S : SameX X H H') (hX : ∀ x ∈ X, H.length ≤ x) : TalAt H' v t cv nv := ⟨ht.val, S.sli ht.ch hX, S.sli ht.co hX⟩
theorem talAt_kc {v cv nv : Value} {t : Tal} (ht : TalAt H v t cv nv) : kn (talCells t cv nv) = true := tal_kn (sli_one ht.ch).2.2 (sli_one ht.co).2.2

theorem rng_ld {lv b : Nat} {l : List Rng} {c : Nat} {wr : Bool} {sz : Nat} {i : Nat} (hb : H[b]? = some (.cells (l.flatMap Rng.cells) wr sz)) (hi : i < l.length) (hl : lv = l.length)
    {K2 : Value → Value → Value → Prop} (hk : ∀ p q, K2 p q (vint l[i].lo)) : aIdx 2 (.slice (some ⟨b, 0, none⟩) lv c) (vint i) fun v => aOff v 0 fun u => aLoad false 1 u H (K2 v u) := by
  have hft := flat_take rng_len l i hi
  refine idxI ⟨by omega, by omega⟩ (offI ?_)
  rw [Int.toNat_natCast, Nat.zero_add]
  refine ldI hb (part_get (j := 0) hft rfl) rfl (hk _ _)
theorem rng_ld1 {lv b : Nat} {l : List Rng} {c : Nat} {wr : Bool} {sz : Nat} {i : Nat} (hb : H[b]? = some (.cells (l.flatMap Rng.cells) wr sz)) (hi : i < l.length) (hl : lv = l.length)
    {K2 : Value → Value → Value → Prop} (hk : ∀ p q, K2 p q (vint l[i].hi)) : aIdx 2 (.slice (some ⟨b, 0, none⟩) lv c) (vint i) fun v => aOff v 1 fun u => aLoad false 1 u H (K2 v u) := by
  have hft := flat_take rng_len l i hi
  refine idxI ⟨by omega, by omega⟩ (offI ?_)
  rw [Int.toNat_natCast, Nat.zero_add]
  refine ldI hb (part_get (j := 1) hft rfl) rfl (hk _ _)
theorem TalOk.fine {G C : Int} {t : Tal} (h : TalOk G C t) (hG : G ≤ 5) (hC : C ≤ 7) : TalFine t := talErr_fine (h.err hG hC)
end
end Go.Proofs.Ytdgpacdknpahnaa

namespace Go.Proofs.Ytdgpacdknpahnaa
open Go.Conc Go.Proofs.Try
set_option maxRecDepth 100000
instance : DecidableEq Rng := fun a b =>
  if h : a.lo = b.lo ∧ a.hi = b.hi then isTrue (by cases a; cases b; simp_all) else isFalse (fun e => h (by rw [e]; exact ⟨rfl, rfl⟩))
instance : DecidableEq Cnt := fun a b =>
  if h : a.gate = b.gate ∧ a.man = b.man ∧ a.num = b.num ∧ a.err = b.err then isTrue (by cases a; cases b; simp_all) else isFalse (fun e => h (by rw [e]; exact ⟨rfl, rfl, rfl, rfl⟩))

theorem teqR (a b c d : Int) : teq prog 10000 38 (.agg ⟨[vint a, vint b]⟩) (.agg ⟨[vint c, vint d]⟩) =
    (match some (a == c) with
    | some true => (match some (b == d) with
      | some true => some true
      | some false => some false
      | none => none)
    | some false => some false
    | none => none) := by kernel_rfl
theorem teqC (a b c d a' b' c' d' : Int) : teq prog 10000 61 (.agg ⟨[vint a, vint b, vint c, vint d]⟩) (.agg ⟨[vint a', vint b', vint c', vint d']⟩) =
    (match some (a == a') with
    | some true => (match some (b == b') with
      | some true => (match some (c == c') with
        | some true => (match some (d == d') with
          | some true => some true
          | some false => some false
          | none => none)
        | some false => some false
        | none => none)
      | some false => some false
      | none => none)
    | some false => some false
    | none => none) := by kernel_rfl
theorem teqR2 (r q : Rng) : teq prog 10000 38 r.val q.val = some (decide (r = q)) := by
  obtain ⟨a, b⟩ := r
  obtain ⟨c, d⟩ := q
  unfold Rng.val Rng.cells
  rw [teqR]
  by_cases e1 : a = c
  · by_cases e2 : b = d
    · simp [e1, e2]
    · rw [beq_eq_false_iff_ne.2 e2, beq_iff_eq.2 e1]
      simp [e2]
  · rw [beq_eq_false_iff_ne.2 e1]
    simp [e1]
theorem teqC2 (r q : Cnt) : teq prog 10000 61 r.val q.val = some (decide (r = q)) := by
  obtain ⟨a, b, c, d⟩ := r
  obtain ⟨a', b', c', d'⟩ := q
  unfold Cnt.val Cnt.cells
  rw [teqC]
  by_cases e1 : a = a'
  · by_cases e2 : b = b'
    · by_cases e3 : c = c'
      · by_cases e4 : d = d'
        · simp [e1, e2, e3, e4]
        · rw [beq_eq_false_iff_ne.2 e4, beq_iff_eq.2 e1, beq_iff_eq.2 e2, beq_iff_eq.2 e3]
          simp [e4]
      · rw [beq_eq_false_iff_ne.2 e3, beq_iff_eq.2 e1, beq_iff_eq.2 e2]
        simp [e3]
    · rw [beq_eq_false_iff_ne.2 e2, beq_iff_eq.2 e1]
      simp [e2]
  · rw [beq_eq_false_iff_ne.2 e1]
    simp [e1]

section
variable {main : Bool} {J : JT} {h H : List AObj} {K : Value → List AObj → Prop} {KV : Value → Prop} {n0 : Nat}
theorem neqR {r q : Rng} (hk : KV (.bool (decide (r ≠ q)))) : aBin prog .neq 38 r.val q.val KV := by
  have e2 : prog.eqGuardType prog.depth 38 = false := by kernel_rfl
  show aEq prog true 38 r.val q.val KV
  unfold aEq
  rw [teqR2]
  exact ⟨e2, by simpa using hk⟩
theorem neqC {r q : Cnt} (hk : KV (.bool (decide (r ≠ q)))) : aBin prog .neq 61 r.val q.val KV := by
  have e2 : prog.eqGuardType prog.depth 61 = false := by kernel_rfl
  show aEq prog true 61 r.val q.val KV
  unfold aEq
  rw [teqC2]
  exact ⟨e2, by simpa using hk⟩

theorem appX {s m p : Nat} {y : Value} {ys : List Value} (hp : H[p]? = some (.cells [] true 0)) (hs : 0 < s) (hm : m < 1000000) (hy : Sli H y s m ys)
    (hk : ∀ v' H' p', OwnX H' s ys m v' (some p') → SameX [] H H' → (p' = p ∨ p' = H.length) → K v' H') : aApp s (.slice (some ⟨p, 0, none⟩) 0 0) y H K := by
  have hr : room = 1073741824 := rfl
  have hy' := hy
  have hkn : kn ys = true := by
    obtain ⟨_, _, _, ⟨_, h⟩, _⟩ := hy
    exact h
  have hvl := sli_vlen hy
  by_cases h0 : m = 0
  · subst h0
    have hys : ys = [] := List.length_eq_zero_iff.1 (by omega)
    subst hys
    obtain ⟨yb, yc, rfl, _⟩ := hy
    refine ⟨by omega, src_sli hy' hs ?_⟩
    simp only [hp]
    have hf : fz = 1180591620717411303424 := rfl
    refine ⟨⟨by simp, by simp [kn]⟩, fun _ => ⟨fun _ => ⟨trivial, by simp, ?_⟩, fun x => absurd x (by simp)⟩, fun x => absurd x (by omega)⟩
    have e : H.set p (.cells (wrAt [] (0 + 0 * s) []) true 0) = H := by
      apply List.ext_getElem?
      intro i
      rw [List.getElem?_set]
      split
      · rename_i e
        subst e
        have := lt_of_get hp
        rw [if_pos this]
        simpa [wrAt] using hp.symm
      · rfl
    have := hk (.slice (some ⟨p, 0, none⟩) 0 0) H p ⟨by simp, rfl, .inr ⟨p, 0, 0, rfl, rfl, hp, .inr rfl⟩⟩ SameX.refl (.inl rfl)
    first
    | simpa [wrAt, e] using this
    | (rw [show (wrAt ([] : List Value) (0 + 0 * s) []) = [] from by simp [wrAt]] at e; simpa [wrAt, e] using this)
  · refine app_copy (n := 0) (m := m) (cs := []) (wr := true) (sz := 0) hp (by simp) (by simp [kn]) (by omega) hs hy' (by omega) ?_
    simp only [Nat.zero_mul, List.drop_nil, List.take_nil, List.nil_append, Nat.zero_add]
    exact hk _ _ H.length ⟨hvl, hkn, .inr ⟨H.length, fz, s, rfl, rfl, by simp, .inl ⟨rfl, rfl⟩⟩⟩ SameX.refl.app (.inr rfl)

theorem good38 (hJ : Closed prog main J) {v cv nv : Value} {t : Tal} (ht : TalAt h v t cv nv) (hl : t.changes.length < 1000 ∧ t.counts.length < 1000)
    (hK : ∀ H cv' nv' o1 o2, SameX [] h H → OwnX H 2 (t.changes.flatMap Rng.cells) t.changes.length cv' (some o1) → OwnX H 4 (t.counts.flatMap Cnt.cells) t.counts.length nv' (some o2) → o1 ≠ o2 → h.length ≤ o1 → h.length ≤ o2 → K (.agg ⟨talCells t cv' nv'⟩) H) : Good prog J 38 [v] h K := by
  refine g38 hJ fun ok => ?_
  rw [e38, ht.val]
  refine qBox (tal_one ht) fun H1 p1 e1 S1 c1 l1 => qAl fun H2 p2 e2 S2 c2 l2 => ?_
  have t1 : TalAt H2 v t cv nv := talAt_same ht (S1.trans S2) (by simp)
  have c1' := S2.get c1 (by simp)
  have kc : kn1 cv = true ∧ kn1 nv = true := ⟨(sli_one ht.ch).2.2, (sli_one ht.co).2.2⟩
  -- what all orders come to
  have post : ∀ (H : List AObj) (a b : Value) (o1 o2 : Nat) (f : RG), SameX [] H2 H → OwnX H 2 (t.changes.flatMap Rng.cells) t.changes.length a (some o1) → OwnX H 4 (t.counts.flatMap Cnt.cells) t.counts.length b (some o2) → o1 ≠ o2 → h.length ≤ o1 → h.length ≤ o2 → o1 ≠ p1 → o2 ≠ p1 → o1 ≠ p2 → o2 ≠ p2 → f.ds = [] → f.r 2 = ptr p2 0 →
      ∀ F : Value → RG, (∀ x, (F x).ds = [] ∧ (F x).r 2 = ptr p2 0) → aStore 1 (ptr p1 (0 + 3)) a H fun h20 => aOff (ptr p1 0) 5 fun v21 => aStore 1 v21 b h20 fun h22 => aLoad true 6 (ptr p1 0) h22 fun v23 => aStore 6 (ptr p2 0) v23 h22 fun h24 => RetQ prog [.cell 2 42] h.length K .ret (F v23) h24 := by
    intro H a b o1 o2 f S A B hne g1 g2 n1 n2 n3 n4 _ _ F hF
    refine qSt (c := talCells t cv nv) (S.get c1' (by simp)) (by simp [talCells]) (ownX_val A).1 (ownX_val A).2.1 fun H3 S3 c3 l3 => offI (qSt c3 (by simp [talCells]) (ownX_val B).1 (ownX_val B).2.1 fun H4 S4 c4 l4 => ?_)
    refine load_part (c := talCells t a b) c4 (by simp [talCells]) rfl (tal_kn (ownX_val A).2.2 (ownX_val B).2.2) ?_
    refine qStA (c := talCells t a b) (S4.get (S3.get (S.get c2 (by simp)) (by simp; omega)) (by simp; omega)) rfl rfl (tal_ones (ownX_val A).2.1 (ownX_val B).2.1) fun H5 S5 c5 l5 => ?_
    refine retQ_same (hF _).1 (resW_cell (gg := true) (s := 6) (by kernel_rfl) ?_)
    rw [(hF _).2]
    refine load_part (c := talCells t a b) c5 (by simp [talCells]) rfl (tal_kn (ownX_val A).2.2 (ownX_val B).2.2) (resW_nil ?_)
    have SS : SameX [p1, p2] H H5 := ((S3.weak (Y := [p1, p2]) (by simp)).trans (S4.weak (by simp))).trans (S5.weak (by simp))
    refine hK H5 a b o1 o2 ?_ (ownX_keep A SS ?_) (ownX_keep B SS ?_) hne g1 g2
    · exact ((S1.trans S2).trans S).thru SS (by simp; omega)
    · intro i hi
      cases hi
      simp
      exact ⟨n1, n3⟩
    · intro i hi
      cases hi
      simp
      exact ⟨n2, n4⟩
  have hcs : ∀ i, i ≠ p1 → i ≠ p2 → H2.length ≤ i ∨ i < p1 := by
    intro i _ _
    omega
  refine ⟨[p1], offI (ldI (v := cv) c1' rfl kc.1 ⟨by simp [RdOk, ptrBlk, ptr], offI (ldI (v := nv) c1' rfl kc.2 ⟨by simp [RdOk, ptrBlk, ptr], ?_⟩)⟩)⟩
  have sb : ∀ {H : List AObj}, SameX [] H2 H → SameB (some [p1]) H2 H := fun S b hb => by
    simp at hb
    subst hb
    exact S.2 _ (by omega) (by simp)
  refine ⟨⟨by decide, fillI (qNew fun H3 p3 e3 S3 c3 l3 => ⟨sb S3, ?_⟩)⟩, ⟨by decide, fillI (qNew fun H3 p3 e3 S3 c3 l3 => ⟨sb S3, ?_⟩)⟩⟩
  · refine ⟨⟨by decide, appX c3 (by omega) (by omega) (S3.sli t1.ch (by simp)) fun a H4 q4 A S4 hq4 => ⟨sb (S3.trans S4), offI ⟨by decide, fillI (qNew fun H5 p5 e5 S5 c5 l5 => ⟨sb ((S3.trans S4).trans S5), ?_⟩)⟩⟩⟩, ⟨by decide, fillI (qNew fun H4 p4 e4 S4 c4 l4 => ⟨sb (S3.trans S4), ?_⟩)⟩⟩
    · have S25 := (S3.trans S4).trans S5
      have hA := ownX_lt A q4 rfl
      refine ⟨by decide, appX c5 (by omega) (by omega) (S25.sli t1.co (by simp)) fun b H6 q6 B S6 hq6 => ⟨sb (S25.trans S6), ?_⟩⟩
      have hB := ownX_lt B q6 rfl
      refine post H6 a b q4 q6 ⟨fun _ => ptr p2 0, []⟩ (S25.trans S6) (ownX_keep A (S5.trans S6) (by simp)) B (by omega) (by omega) (by omega) (by omega) (by omega) (by omega) (by omega) rfl rfl (fun x => _) fun x => ⟨rfl, rfl⟩
    · have S24 := S3.trans S4
      refine ⟨by decide, appX (S4.get c3 (by simp)) (by omega) (by omega) (S24.sli t1.ch (by simp)) fun a H5 q5 A S5 hq5 => ⟨sb (S24.trans S5), offI ⟨by decide, appX (S5.get c4 (by simp)) (by omega) (by omega) ((S24.trans S5).sli t1.co (by simp)) fun b H6 q6 B S6 hq6 => ⟨sb ((S24.trans S5).trans S6), ?_⟩⟩⟩⟩
      have hA := ownX_lt A q5 rfl
      refine post H6 a b q5 q6 ⟨fun _ => ptr p2 0, []⟩ ((S24.trans S5).trans S6) (ownX_keep A S6 (by simp)) B (by omega) (by omega) (by omega) (by omega) (by omega) (by omega) (by omega) rfl rfl (fun x => _) fun x => ⟨rfl, rfl⟩
  · refine ⟨by decide, fillI (qNew fun H4 p4 e4 S4 c4 l4 => ⟨sb (S3.trans S4), ?_⟩)⟩
    have S24 := S3.trans S4
    refine ⟨by decide, appX c4 (by omega) (by omega) (S24.sli t1.ch (by simp)) fun a H5 q5 A S5 hq5 => ⟨sb (S24.trans S5), offI ⟨by decide, appX (S5.get (S4.get c3 (by simp)) (by simp)) (by omega) (by omega) ((S24.trans S5).sli t1.co (by simp)) fun b H6 q6 B S6 hq6 => ⟨sb ((S24.trans S5).trans S6), ?_⟩⟩⟩⟩
    have hA := ownX_lt A q5 rfl
    refine post H6 a b q5 q6 ⟨fun _ => ptr p2 0, []⟩ ((S24.trans S5).trans S6) (ownX_keep A S6 (by simp)) B (by omega) (by omega) (by omega) (by omega) (by omega) (by omega) (by omega) rfl rfl (fun x => _) fun x => ⟨rfl, rfl⟩

theorem good47 (hJ : Closed prog main J) {a b : Value} {l : List Rng} (ha : SliE h a 2 Rng.cells l) (hb : SliE h b 2 Rng.cells l) (hl : l.length < 1000000) (hK : K (.bool true) h) : Good prog J 47 [a, b] h K := by
  refine g47 hJ fun ok => ?_
  rw [e47]
  refine lenI ha (lenI hb (neqI (cndI (fun hx => absurd rfl hx) fun _ => ?_)))
  refine l47_1 hJ (fun i : Nat => l.length - i) (fun i f H => H = h ∧ i ≤ l.length ∧ f.ds = [] ∧ f.r 0 = a ∧ f.r 1 = b ∧ f.r 5 = vint (i : Nat)) ?_ (s := 0) (.inl ⟨rfl, by omega, rfl, rfl, rfl, rfl⟩)
  rintro i f H ⟨rfl, hi, hds, r0, r1, r5⟩ ok' hn'
  rw [s47_1]
  simp only [r0, r1, r5, hds]
  refine lenI ha (lssI (cndI (fun hlt => ?_) fun hge => retL_same (by simp [unk]) hK))
  have hi' : i < l.length := by omega
  obtain ⟨b1, o1, cs1, w1, z1, hx1, hb1, hle1, hp1, hk1⟩ := sliE_elem rng_len (by omega) ha hi'
  obtain ⟨b2, o2, cs2, w2, z2, hx2, hb2, hle2, hp2, hk2⟩ := sliE_elem rng_len (by omega) hb hi'
  refine hx1 _ (load_part hb1 hle1 hp1 hk1 (hx2 _ (load_part hb2 hle2 hp2 hk2 (neqR (cndI (fun hx => absurd rfl hx) fun _ => addI (by omega) ?_)))))
  exact ⟨i + 1, by dsimp only; omega, .inl ⟨rfl, by omega, hds, r0, r1, rfl⟩⟩

theorem good48 (hJ : Closed prog main J) {a b cv1 nv1 cv2 nv2 : Value} {t : Tal} (ha : TalAt h a t cv1 nv1) (hb : TalAt h b t cv2 nv2) (hl : t.changes.length < 1000000 ∧ t.counts.length < 1000000) (hK : K (.bool true) h) : Good prog J 48 [a, b] h K := by
  refine g48 hJ fun ok => ?_
  rw [e48, ha.val, hb.val]
  refine qBox (tal_one ha) fun H1 p1 e1 S1 c1 l1 => qBox (tal_one hb) fun H2 p2 e2 S2 c2 l2 => ?_
  have c1' := S2.get c1 (by simp)
  have S := S1.trans S2
  have a2 := talAt_same ha S (by simp)
  have b2 := talAt_same hb S (by simp)
  have ka : kn1 cv1 = true ∧ kn1 nv1 = true := ⟨(sli_one ha.ch).2.2, (sli_one ha.co).2.2⟩
  have kb : kn1 cv2 = true ∧ kn1 nv2 = true := ⟨(sli_one hb.ch).2.2, (sli_one hb.co).2.2⟩
  refine offI (ldI (v := vint t.gates) c1' rfl rfl (offI (ldI (v := vint t.gates) c2 rfl rfl (neqI (cndI (fun hx => absurd rfl hx) fun _ => ?_)))))
  refine offI (load_part (c := t.first.cells) c1' (by simp [talCells]) rfl rfl (offI (load_part (c := t.first.cells) c2 (by simp [talCells]) rfl rfl (neqR (r := t.first) (q := t.first) (cndI (fun hx => absurd rfl hx) fun _ => ?_)))))
  refine offI (ldI (v := vint t.most) c1' rfl rfl (offI (ldI (v := vint t.most) c2 rfl rfl (neqI (cndI (fun hx => absurd rfl hx) fun _ => ?_)))))
  refine offI (ldI (v := cv1) c1' rfl ka.1 (offI (ldI (v := cv2) c2 rfl kb.1 (good47 hJ a2.ch b2.ch hl.1 (notI (cnd_false.2 ?_))))))
  refine offI (ldI (v := nv1) c1' rfl ka.2 (lenI a2.co (offI (ldI (v := nv2) c2 rfl kb.2 (lenI b2.co (neqI (cndI (fun hx => absurd rfl hx) fun _ => ?_)))))))
  refine l48_1 hJ (fun i : Nat => t.counts.length - i) (fun i f H => H = H2 ∧ i ≤ t.counts.length ∧ f.ds = [] ∧ f.r 2 = ptr p1 0 ∧ f.r 3 = ptr p2 0 ∧ f.r 5 = vint (i : Nat)) ?_ (s := 0) (.inl ⟨rfl, by omega, rfl, rfl, rfl, rfl⟩)
  rintro i f H ⟨rfl, hi, hds, r2, r3, r5⟩ ok' hn'
  rw [s48_1]
  simp only [r2, r3, r5, hds]
  refine offI (ldI (v := nv1) c1' rfl ka.2 (lenI a2.co (lssI (cndI (fun hlt => ?_) fun hge => ?_))))
  · have hi' : i < t.counts.length := by omega
    obtain ⟨b1, o1, cs1, w1, z1, hx1, hb1, hle1, hp1, hk1⟩ := sliE_elem cnt_len (by omega) a2.co hi'
    obtain ⟨b2, o2, cs2, w2, z2, hx2, hb2, hle2, hp2, hk2⟩ := sliE_elem cnt_len (by omega) b2.co hi'
    refine offI (ldI (v := nv1) c1' rfl ka.2 (hx1 _ (load_part hb1 hle1 hp1 hk1 (offI (ldI (v := nv2) c2 rfl kb.2 (hx2 _ (load_part hb2 hle2 hp2 hk2 (neqC (r := t.counts[i]) (q := t.counts[i]) (cndI (fun hx => absurd rfl hx) fun _ => addI (by omega) ?_)))))))))
    exact ⟨i + 1, by dsimp only; omega, .inl ⟨rfl, by omega, hds, r2, r3, rfl⟩⟩
  · exact retX ok (Nat.le_refl _) S (by simp) (by simp [unk]) (by simp [pack, VOk]) hK
end
end Go.Proofs.Ytdgpacdknpahnaa

namespace Go.Proofs.Ytdgpacdknpahnaa
open Go.Conc Go.Proofs.Try
set_option maxRecDepth 100000
def Rng.sub (a b : Rng) : Prop := b.lo ≤ a.lo ∧ a.hi ≤ b.hi
theorem Rng.sub_refl (a : Rng) : a.sub a := ⟨Int.le_refl _, Int.le_refl _⟩
theorem Rng.sub_meet {a b c d : Rng} (h1 : a.sub c) (h2 : b.sub d) : (a.meet b).sub (c.meet d) := by
  obtain ⟨_, _⟩ := h1
  obtain ⟨_, _⟩ := h2
  unfold Rng.meet Rng.sub
  dsimp only
  omega
theorem Rng.meet_left {a b c : Rng} (h1 : a.sub c) : (a.meet b).sub c := by
  obtain ⟨_, _⟩ := h1
  unfold Rng.meet Rng.sub
  dsimp only
  omega
theorem Rng.sub_plus {a b c d : Rng} (h1 : a.sub c) (h2 : b.sub d) : (a.plus b).sub (c.plus d) := by
  obtain ⟨_, _⟩ := h1
  obtain ⟨_, _⟩ := h2
  unfold Rng.plus Rng.sub
  dsimp only
  omega
theorem Rng.sub_turn {a b : Rng} (h1 : a.sub b) : a.turn.sub b.turn := by
  obtain ⟨_, _⟩ := h1
  unfold Rng.turn Rng.sub
  dsimp only
  omega

structure Tighter (t x : Tal) (L L' : Nat → Rng) : Prop where
  gates : t.gates = x.gates
  chl : t.changes.length = x.changes.length
  first : t.first.sub x.first
  ch : ∀ i (h1 : i < t.changes.length) (h2 : i < x.changes.length), t.changes[i].sub x.changes[i]
  most : t.most ≤ x.most
  lim : ∀ g, (L g).sub (L' g)

section
variable {t x : Tal} {L L' : Nat → Rng}
theorem Tighter.stretch (h : Tighter t x L L') (g : Nat) : (stretchR t g).sub (stretchR x g) := by
  have hm := h.most
  unfold stretchR
  refine Rng.sub_plus ?_ ⟨by dsimp only; omega, Int.le_refl _⟩
  rcases Nat.lt_or_ge g t.changes.length with h1 | h1
  · have h2 : g < x.changes.length := by rw [← h.chl]; exact h1
    rw [List.getElem?_eq_getElem h1, List.getElem?_eq_getElem h2]
    exact h.ch g h1 h2
  · rw [List.getElem?_eq_none h1, List.getElem?_eq_none (by rw [← h.chl]; exact h1)]
    exact Rng.sub_refl _
theorem Tighter.fwd (h : Tighter t x L L') : ∀ g, (fwd t L g).sub (fwd x L' g)
  | 0 => Rng.sub_meet h.first (h.lim 0)
  | g + 1 => Rng.sub_meet (Rng.sub_plus (h.fwd g) (h.stretch g)) (h.lim (g + 1))
theorem Tighter.bk (h : Tighter t x L L') (g : Nat) : (bkR t L g).sub (bkR x L' g) := by
  have key : ∀ n, (bkN t L n).sub (bkN x L' n) := by
    intro n
    induction n with
    | zero =>
      show (Go.Proofs.Ytdgpacdknpahnaa.fwd t L _).sub (Go.Proofs.Ytdgpacdknpahnaa.fwd x L' _)
      rw [h.gates]
      exact h.fwd _
    | succ n ih =>
      show ((Go.Proofs.Ytdgpacdknpahnaa.fwd t L _).meet _).sub ((Go.Proofs.Ytdgpacdknpahnaa.fwd x L' _).meet _)
      rw [h.gates]
      exact Rng.sub_meet (h.fwd _) (Rng.sub_plus ih (Rng.sub_turn (h.stretch _)))
  unfold bkR
  rw [h.gates]
  exact key _

end
structure TalO (h H : List AObj) (t : Tal) (cv co : Value) (o1 o2 : Option Nat) : Prop where
  ch : OwnX H 2 (t.changes.flatMap Rng.cells) t.changes.length cv o1
  co : OwnX H 4 (t.counts.flatMap Cnt.cells) t.counts.length co o2
  b1 : ∀ i, o1 = some i → h.length < i
  b2 : ∀ i, o2 = some i → h.length < i
theorem TalO.at {h H : List AObj} {t : Tal} {cv co : Value} {o1 o2 : Option Nat} (a : TalO h H t cv co o1 o2) : TalAt H (.agg ⟨talCells t cv co⟩) t cv co := ⟨rfl, ownX_sli a.ch, ownX_sli a.co⟩
theorem TalO.same {h H H' : List AObj} {t : Tal} {cv co : Value} {o1 o2 : Option Nat} {X : List Nat} (a : TalO h H t cv co o1 o2) (S : SameX X H H') (h1 : ∀ i, o1 = some i → i ∉ X) (h2 : ∀ i, o2 = some i → i ∉ X) : TalO h H' t cv co o1 o2 :=
  ⟨ownX_keep a.ch S h1, ownX_keep a.co S h2, a.b1, a.b2⟩
theorem ownE_X {A g : List AObj} {s len : Nat} {cs : List Value} {v : Value} {o : Option Nat} (ho : OwnE A.length g s cs len v o) : OwnX (A ++ g) s cs len v (o.map (A.length + ·)) := by
  obtain ⟨h1, h2, ⟨rfl, rfl, rfl⟩ | ⟨i, c, sz, rfl, rfl, h5, h6⟩⟩ := ho
  · exact ⟨h1, h2, .inl ⟨rfl, rfl, rfl⟩⟩
  · exact ⟨h1, h2, .inr ⟨A.length + i, c, sz, rfl, rfl, by rw [back_get]; exact h5, h6⟩⟩
section
variable {main : Bool} {J : JT} {h H : List AObj} {K : Value → List AObj → Prop} {ns : List Int} {k : Nat}
theorem talY (hJ : Closed prog main J) (a : HX h H ns k) (hk : k < 50000) {G C : Int} (hG : 1 ≤ G ∧ G ≤ 5) (hC : 0 ≤ C ∧ C ≤ 7)
    (hK : ∀ t cv co o1 o2 H', TalOk G C t → SameX [h.length] H H' → HX h H' ns (k + 120) → TalO h H' t cv co o1 o2 → K (.agg ⟨talCells t cv co⟩) H') : Good prog J 28 [ptr h.length 0, vint G, vint C] H K := by
  obtain ⟨nv, k1, s, rest, rfl, b1, b2, b3⟩ := a
  refine good28 hJ b3 b2 (by omega) hG hC fun t cv co o1 o2 g k' s' T O hk' hs' => hK t cv co (o1.map ((HF h nv k' s' rest).length + ·)) (o2.map ((HF h nv k' s' rest).length + ·)) _ T hf_same ⟨nv, k', s', rest ++ g, by rw [hf_app], by omega, hs', b3⟩ ⟨ownE_X (by rw [hf_len]; exact O.ch), ownE_X (by rw [hf_len]; exact O.co), ?_, ?_⟩
  all_goals
    intro i hi
    obtain ⟨j, _, rfl⟩ := Option.map_eq_some_iff.1 hi
    rw [hf_len]
    omega
end
end Go.Proofs.Ytdgpacdknpahnaa

namespace Go.Proofs.Ytdgpacdknpahnaa
open Go.Conc Go.Proofs.Try
set_option maxRecDepth 100000
def ownL (t : Tal) (g : Nat) (n m : Int) : Rng := ⟨max 0 (n + ((t.changes[g]?).getD ⟨0, 0⟩).lo - m), min t.most (n + ((t.changes[g]?).getD ⟨0, 0⟩).hi - m)⟩
def mixL (acc s o : Rng) : Rng := if s.lo ≤ s.hi ∧ o.lo ≤ o.hi then ⟨min acc.lo (s.plus o).lo, max acc.hi (s.plus o).hi⟩ else acc
def accL (t : Tal) (g : Nat) (lo : Int) (prev : Nat → Rng) (m : Int) : Nat → Rng
  | 0 => ⟨1048576, -1⟩
  | i + 1 => mixL (accL t g lo prev m i) (prev i) (ownL t g (lo + i) m)
def wid (r : Rng) : Nat := (r.hi - r.lo + 1).toNat
def lossL (t : Tal) (R : Nat → Rng) (a : Nat) : Nat → Nat → Rng
  | 0, _ => ⟨0, 0⟩
  | d + 1, k => accL t (a + d) (R (a + d)).lo (lossL t R a d) ((R (a + d + 1)).lo + k) (wid (R (a + d)))
def hullL (f : Nat → Rng) : Nat → Rng
  | 0 => f 0
  | n + 1 => ⟨min (hullL f n).lo (f n).lo, max (hullL f n).hi (f n).hi⟩
def lostR (t : Tal) (R : Nat → Rng) (a b : Nat) : Rng := hullL (lossL t R a (b - a)) (wid (R b))

def RSm (R : Nat → Rng) (G : Nat) : Prop := ∀ g, g < G → 0 ≤ (R g).lo ∧ (R g).lo ≤ (R g).hi ∧ (R g).hi ≤ 600

def Rng.lm (r : Rng) (B : Int) : Prop := 0 ≤ r.lo ∧ r.lo ≤ 1048576 ∧ -1 ≤ r.hi ∧ r.hi ≤ B
theorem mixL_lm {acc s o : Rng} {B : Int} (h1 : acc.lm (B + 60)) (h2 : s.lm B) (h3 : 0 ≤ o.lo ∧ o.hi ≤ 60) (hB : 0 ≤ B ∧ B ≤ 10000) : (mixL acc s o).lm (B + 60) := by
  obtain ⟨_, _, _, _⟩ := h1
  obtain ⟨_, _, _, _⟩ := h2
  unfold mixL
  split
  · unfold Rng.plus Rng.lm
    dsimp only
    omega
  · unfold Rng.lm
    omega
theorem ownL_sm {t : Tal} (h : TalFine t) (g : Nat) {n m : Int} (hn : 0 ≤ n ∧ n ≤ 600) (hm : 0 ≤ m ∧ m ≤ 600) : (ownL t g n m).sm 2000 := by
  have h1 := h.most
  unfold ownL
  cases e : t.changes[g]? with
  | none =>
    unfold Rng.sm
    dsimp only [Option.getD]
    omega
  | some r =>
    have := h.ch r (List.mem_of_getElem? e)
    unfold Rng.sm
    dsimp only [Option.getD]
    omega
theorem accL_lm {t : Tal} (h : TalFine t) (g : Nat) {lo m B : Int} {prev : Nat → Rng} {w : Nat} (hB : 0 ≤ B ∧ B ≤ 10000) (hp : ∀ i, i < w → (prev i).lm B) : ∀ i, i ≤ w → (accL t g lo prev m i).lm (B + 60)
  | 0, _ => by
    show Rng.lm ⟨1048576, -1⟩ _
    unfold Rng.lm
    dsimp only
    omega
  | i + 1, hi => by
    have ih := accL_lm h g (lo := lo) (m := m) hB hp i (by omega)
    have hm := h.most
    refine mixL_lm ih (hp i (by omega)) ?_ hB
    unfold ownL
    dsimp only
    omega
theorem lossL_lm {t : Tal} (h : TalFine t) {R : Nat → Rng} {a : Nat} : ∀ d, d ≤ 10 → ∀ k, (lossL t R a d k).lm (60 * d)
  | 0, _, k => by
    show Rng.lm ⟨0, 0⟩ _
    unfold Rng.lm
    dsimp only
    omega
  | d + 1, hd, k => by
    have ih := lossL_lm (a := a) (R := R) h d (by omega)
    have h1 := accL_lm h (a + d) (lo := (R (a + d)).lo) (m := (R (a + d + 1)).lo + k) (B := 60 * d) (prev := lossL t R a d) (w := wid (R (a + d))) (by omega) (fun i _ => ih i) _ (Nat.le_refl _)
    have e : (60 : Int) * ((d + 1 : Nat) : Int) = 60 * d + 60 := by omega
    rw [e]
    exact h1

structure St73 (h0 H : List AObj) (bw p5 po : Nat) (t : Tal) (cv nv : Value) (u : Int) (m : Value) (R : Nat → Rng) : Prop where
  w : WorkIn h0 H bw t cv nv u m
  l5 : H[p5]? = some (.cells [.slice (some ⟨po, 0, none⟩) t.gates.toNat t.gates.toNat] true 0)
  lo : H[po]? = some (.cells (rngsC R t.gates.toNat) true 0)
  b0 : h0.length ≤ p5
  b1 : bw < p5
  b2 : po < p5
theorem St73.same {h0 H H' : List AObj} {bw p5 po : Nat} {t : Tal} {cv nv : Value} {u : Int} {m : Value} {R : Nat → Rng} {X : List Nat} (s : St73 h0 H bw p5 po t cv nv u m R) (S : SameX X H H') (hX : ∀ x ∈ X, p5 < x) : St73 h0 H' bw p5 po t cv nv u m R := by
  have b0 := s.b0
  have b1 := s.b1
  have b2 := s.b2
  exact ⟨s.w.same S (fun x hx => by have := hX x hx; omega) (fun hx => by have := hX _ hx; omega), S.get s.l5 (fun hx => by have := hX _ hx; omega), S.get s.lo (fun hx => by have := hX _ hx; omega), b0, b1, b2⟩

def keep73 : List Nat := [0, 3, 5, 8, 9, 10, 11, 12, 13, 14, 39, 40, 55, 56]

section
variable {main : Bool} {J : JT} {h h0 H : List AObj} {K : Value → List AObj → Prop} {KV : Value → Prop} {n0 : Nat}
theorem good102 (hJ : Closed prog main J) {p5 po G i : Nat} {R : Nat → Rng} (l5 : h[p5]? = some (.cells [.slice (some ⟨po, 0, none⟩) G G] true 0)) (lo : h[po]? = some (.cells (rngsC R G) true 0)) (hi : i < G) (hR : RSm R G) (hK : K (vint (wid (R i) : Nat)) h) : Good prog J 102 [vint i, ptr p5 0] h K := by
  refine g102 hJ fun ok => ?_
  rw [e102]
  have hr := hR i hi
  have hg := rngsC_get R hi
  refine ldI l5 rfl rfl (idxI ⟨by omega, by omega⟩ (offI ?_))
  rw [Int.toNat_natCast, Nat.zero_add]
  refine ldI lo (part_get (j := 1) hg rfl) rfl (ldI l5 rfl rfl (idxI ⟨by omega, by omega⟩ (offI ?_)))
  rw [Int.toNat_natCast, Nat.zero_add]
  refine ldI lo (part_get (j := 0) hg rfl) rfl (subI (by omega) (addI (by omega) (retL_same (by simp [unk]) ?_)))
  have e : (R i).hi - (R i).lo + 1 = (wid (R i) : Nat) := by unfold wid; omega
  rw [e]
  exact hK

theorem good103 (hJ : Closed prog main J) {a b : Int} {p c : Nat} (hp : h[p]? = some (.cells [vint b] true 0)) (hK : K (vint (min a b)) h) : Good prog J 103 [vint a, .slice (some ⟨p, 0, none⟩) 1 c] h K := by
  refine g103 hJ fun ok => ?_
  rw [e103, lenS]
  refine l103_1 hJ (fun i : Nat => 1 - i) (fun i f H => H = h ∧ i ≤ 1 ∧ f.ds = [] ∧ f.r 0 = vint (if i = 0 then a else min a b) ∧ f.r 7 = .slice (some ⟨p, 0, none⟩) 1 c ∧ f.r 8 = vint (1 : Nat) ∧ f.r 9 = vint (i : Nat)) ?_ (s := 0) (.inl ⟨rfl, by omega, rfl, rfl, rfl, rfl, rfl⟩)
  rintro i f H ⟨rfl, hi, hds, r0, r7, r8, r9⟩ ok' hn'
  rw [s103_1]
  simp only [r0, r7, r8, r9, hds]
  refine lssI (cndI (fun hlt => ?_) fun hge => ?_)
  · have : i = 0 := by omega
    subst this
    refine idxI ⟨by omega, by omega⟩ (ldI (v := vint b) hp rfl rfl (minI (addI (by omega) ?_)))
    exact ⟨1, by dsimp only; omega, .inl ⟨rfl, by omega, hds, rfl, r7, r8, rfl⟩⟩
  · have : i = 1 := by omega
    subst this
    exact retL_same (by simp [unk]) hK

theorem in73 (hJ : Closed prog main J) {bw p5 po pn pk g k i w w' : Nat} {t : Tal} {cv nv : Value} {u mm : Int} {m : Value} {R P Nx' : Nat → Rng} {f : RG} {nx0 nx1 nx2 : RG → List AObj → Prop} (s : St73 h0 H bw p5 po t cv nv u m R) (fine : TalFine t) (hR : RSm R t.gates.toNat)
    (hg : g + 1 < t.gates.toNat) (hi : i < w) (hw : w = wid (R g)) (hk : k < w') (hm : 0 ≤ mm ∧ mm ≤ 600) (hPs : (P i).lm 1000)
    (zn : H[pn]? = some (.cells (rngsC P w) true 0)) (zk : H[pk]? = some (.cells (rngsC Nx' w') true 0)) (hnk : pn ≠ pk) (bn : p5 < pn) (bk : p5 < pk)
    (r0 : f.r 0 = ptr bw 0) (r5 : f.r 5 = ptr p5 0) (r11 : f.r 11 = vint g) (r12 : f.r 12 = .slice (some ⟨pk, 0, none⟩) w' w') (r13 : f.r 13 = vint k) (r14 : f.r 14 = vint mm) (r55 : f.r 55 = .slice (some ⟨pn, 0, none⟩) w w) (r56 : f.r 56 = vint w) (r57 : f.r 57 = vint i)
    (hx : ∀ H' f', SameX [pk] H H' → H'[pk]? = some (.cells (rngsC (fun j => if j = k then mixL (Nx' k) (P i) (ownL t g ((R g).lo + i) mm) else Nx' j) w') true 0) → (∀ j ∈ keep73, f'.r j = f.r j) → f'.ds = f.ds → f'.r 57 = vint ((i : Int) + 1) → nx2 f' H') :
    W prog J 162 n0 73 (subC [1, 1, 1, 0, 1, 0, 0, 1, 0, 0, 1, 0, 1, 0, 0, 1, 1, 0, 0, 1, 1, 1, 1, 0, 0] (codeOf f73)) f H (thenK nx2 (contQ prog J 162 n0 73 [1, 1, 1, 0, 1, 0, 0, 1, 0, 0, 1, 0, 1, 0, 0, 1, 1, 0, 0, 1, 1, 1, 1, 0] (codeOf f73) [nx0, nx1] (RetQ prog [.cell 8 98] n0 K))) := by
  have hgt := fine.gates
  have hch := fine.chl
  have hmo := fine.most
  have hb1 := s.b1
  have hb2 := s.b2
  have hrg := hR g (by omega)
  have hww : (wid (R g) : Int) = (R g).hi - (R g).lo + 1 := by unfold wid; omega
  rw [s73_4]
  simp only [r0, r5, r11, r12, r13, r14, r55, r56, r57]
  refine lssI (cndI (fun hlt => ?_) fun hge => absurd (by omega) hge)
  refine idxI ⟨by omega, by omega⟩ ?_
  rw [Int.toNat_natCast, Nat.zero_add]
  refine load_part (c := (P i).cells) zn (by rw [rngsC_len]; omega) (rngsC_get _ hi) rfl ?_
  refine qAl fun H1 p16 e1 S1 c1 l1 => qStA (c := (P i).cells) c1 rfl rfl rfl fun H2 S2 c2 l2 => ?_
  have S12 : SameX [p16] H H2 := S1.weak0.trans S2
  have hlen := lt_of_get zk
  have hlen5 := lt_of_get s.l5
  have s2 := s.same S12 (by simp; omega)
  refine ldI s2.l5 rfl rfl (idxI ⟨by omega, by omega⟩ (offI ?_))
  rw [Int.toNat_natCast, Nat.zero_add]
  refine ldI s2.lo (part_get (j := 0) (rngsC_get R (by omega)) rfl) rfl (addI (by omega) ?_)
  have hj : g < t.changes.length := by omega
  have hcb := fine.ch _ (List.getElem_mem hj)
  have hcg : (t.changes[g]?).getD ⟨0, 0⟩ = t.changes[g] := by rw [List.getElem?_eq_getElem hj]; rfl
  have kc := s2.w.work.kc
  obtain ⟨b2, o2, cs2, wr2, sz2, hidx, hb, hle, hpart, hkn⟩ := sliE_elem rng_len (by omega) s2.w.work.ch hj
  have hb2l := lt_of_get hb
  -- the common rest: what may be lost here is reckoned
  have post : ∀ (H5 : List AObj) (p18 : Nat) (F : RG), SameX [p16] H H5 → H5[p16]? = some (.cells (P i).cells true 0) → H5[p18]? = some (.cells (ownL t g ((R g).lo + i) mm).cells true 0) → H.length ≤ p18 → p18 ≠ p16 → F.r 16 = ptr p16 0 → F.r 18 = ptr p18 0 → (∀ j ∈ keep73, F.r j = f.r j) → F.ds = f.ds → F.r 57 = vint i →
      W prog J 162 n0 73 (subC [1, 1, 1, 0, 1, 0, 0, 1, 0, 0, 1, 0, 1, 0, 0, 1, 1, 0, 0, 1, 1, 1, 1, 0, 0, 1, 1, 0, 0, 1, 1, 1] (codeOf f73)) F H5 (contQ prog J 162 n0 73 [1, 1, 1, 0, 1, 0, 0, 1, 0, 0, 1, 0, 1, 0, 0, 1, 1, 0, 0, 1, 1, 1, 1, 0, 0, 1, 1, 0, 0, 1, 1, 1] (codeOf f73) [nx0, nx1, nx2] (RetQ prog [.cell 8 98] n0 K)) := by
    intro H5 p18 F S5 z16 z18 b18 n18 q16 q18 hkeep hds q57
    have hown := ownL_sm fine g (n := (R g).lo + i) (m := mm) (by omega) hm
    have q12 := (hkeep 12 (by simp [keep73])).trans r12
    have q13 := (hkeep 13 (by simp [keep73])).trans r13
    generalize ownL t g ((R g).lo + i) mm = o at *
    have zk5 := S5.get zk (by simp; omega)
    -- nothing to be mixed
    have skip : ∀ F' : RG, mixL (Nx' k) (P i) o = Nx' k → F'.r 111 = .bool false → (∀ j ∈ keep73, F'.r j = f.r j) → F'.ds = f.ds → F'.r 57 = vint i →
        W prog J 162 n0 73 (subC [1, 1, 1, 0, 1, 0, 0, 1, 0, 0, 1, 0, 1, 0, 0, 1, 1, 0, 0, 1, 1, 1, 1, 0, 0, 1, 1, 0, 0, 1, 1, 1, 1] (codeOf f73)) F' H5 (contQ prog J 162 n0 73 [1, 1, 1, 0, 1, 0, 0, 1, 0, 0, 1, 0, 1, 0, 0, 1, 1, 0, 0, 1, 1, 1, 1, 0, 0, 1, 1, 0, 0, 1, 1, 1, 1] (codeOf f73) [nx0, nx1, nx2] (RetQ prog [.cell 8 98] n0 K)) := by
      intro F' hmx t111 tk tds t57
      rw [s73_6, t111, t57]
      refine cnd_false.2 (addI (by omega) (hx H5 _ (SameX.refl.thru S5 (by simp; omega) |>.weak0) ?_ ?_ tds rfl))
      · rw [zk5]
        congr 2
        refine rngsC_congr fun j _ => ?_
        split
        · rename_i e
          rw [e, hmx]
        · rfl
      · exact (fun j hj => by have hh := tk j hj; simp only [keep73, List.mem_cons, List.not_mem_nil, or_false] at hj; rcases hj with rfl | rfl | rfl | rfl | rfl | rfl | rfl | rfl | rfl | rfl | rfl | rfl | rfl | rfl <;> exact hh)
    -- mixed
    have mixd : ∀ F' : RG, mixL (Nx' k) (P i) o = ⟨min (Nx' k).lo ((P i).plus o).lo, max (Nx' k).hi ((P i).plus o).hi⟩ → (P i).lo ≤ (P i).hi → o.lo ≤ o.hi → F'.r 111 = .bool true → F'.r 16 = ptr p16 0 → F'.r 18 = ptr p18 0 → (∀ j ∈ keep73, F'.r j = f.r j) → F'.ds = f.ds → F'.r 57 = vint i →
        W prog J 162 n0 73 (subC [1, 1, 1, 0, 1, 0, 0, 1, 0, 0, 1, 0, 1, 0, 0, 1, 1, 0, 0, 1, 1, 1, 1, 0, 0, 1, 1, 0, 0, 1, 1, 1, 1] (codeOf f73)) F' H5 (contQ prog J 162 n0 73 [1, 1, 1, 0, 1, 0, 0, 1, 0, 0, 1, 0, 1, 0, 0, 1, 1, 0, 0, 1, 1, 1, 1, 0, 0, 1, 1, 0, 0, 1, 1, 1, 1] (codeOf f73) [nx0, nx1, nx2] (RetQ prog [.cell 8 98] n0 K)) := by
      intro F' hm1 hle1 hle2 t111 t16 t18 tk tds t57
      have t12 := (tk 12 (by simp [keep73])).trans r12
      have t13 := (tk 13 (by simp [keep73])).trans r13
      rw [s73_6]
      simp only [t111, t16, t18, t12, t13, t57]
      refine cnd_true.2 ?_
      refine load_part (c := (P i).cells) z16 (by simp [Rng.cells]) rfl rfl ?_
      refine load_part (c := o.cells) z18 (by simp [Rng.cells]) rfl rfl ?_
      refine good100 hJ (r := P i) (q := o) (by obtain ⟨_, _, _, _⟩ := hPs; unfold Rng.sm; omega) (Rng.sm_le hown (by omega)) ?_
      refine qStA (c := ((P i).plus o).cells) z16 rfl rfl rfl fun H6 S6 z6 l6 => ?_
      have zk6 := S6.get zk5 (by simp; omega)
      have hgk := rngsC_get Nx' hk
      refine ⟨[pk, p16], idxI ⟨by omega, by omega⟩ (offI ?_)⟩
      rw [Int.toNat_natCast, Nat.zero_add]
      refine ldI zk6 (part_get (j := 0) hgk rfl) rfl ⟨by simp [RdOk, ptrBlk, ptr], offI (ldI (v := vint ((P i).plus o).lo) z6 rfl rfl ⟨by simp [RdOk, ptrBlk, ptr], idxI ⟨by omega, by omega⟩ (offI ?_)⟩)⟩
      rw [Int.toNat_natCast, Nat.zero_add]
      refine ldI zk6 (part_get (j := 1) hgk rfl) rfl ⟨by simp [RdOk, ptrBlk, ptr], offI (ldI (v := vint ((P i).plus o).hi) z6 rfl rfl ⟨by simp [RdOk, ptrBlk, ptr], maxI ?_⟩)⟩
      have h6l := S6.1
      have h5l := S5.1
      have hzl := lt_of_get z16
      have sb6 : ∀ {Hx : List AObj}, SameX [] H6 Hx → SameB (some [pk, p16]) H6 Hx := fun S b hb => by
        simp at hb
        rcases hb with rfl | rfl
        · exact S.2 _ (by omega) (by simp)
        · exact S.2 _ (by omega) (by simp)
      refine ⟨by decide, fill1 rfl rfl (by decide) (fillI (qNew fun H7 p7 e7 S7 c7 l7 => ⟨sb6 S7, good103 hJ c7 ⟨sb6 S7, fill1 rfl rfl (by decide) (fill1 rfl rfl (by simp) (fillI (idxI ⟨by omega, by omega⟩ ?_)))⟩⟩))⟩
      rw [Int.toNat_natCast, Nat.zero_add]
      refine qSt2 (S7.get zk6 (by simp)) (by rw [rngsC_len]; omega) rfl rfl fun H8 S8 c8 l8 => ?_
      have e8 := rngsC_set Nx' ⟨min (Nx' k).lo ((P i).plus o).lo, max (Nx' k).hi ((P i).plus o).hi⟩ hk
      rw [e8] at c8
      refine addI (by omega) (hx H8 _ ?_ ?_ (fun j hj => by have hh := tk j hj; simp only [keep73, List.mem_cons, List.not_mem_nil, or_false] at hj; rcases hj with rfl | rfl | rfl | rfl | rfl | rfl | rfl | rfl | rfl | rfl | rfl | rfl | rfl | rfl <;> exact hh) tds rfl)
      · have S58 : SameX [pk, p16] H5 H8 := ((S6.weak (Y := [pk, p16]) (by simp)).thru S7 (by simp)).trans (S8.weak (by simp))
        exact (SameX.thru (X := [pk]) SameX.refl ((S5.weak (Y := [pk, p16]) (by simp)).trans S58) (by simp; omega))
      · rw [c8, hm1]
    rw [s73_5, q16, q18]
    refine load_part (c := (P i).cells) z16 (by simp [Rng.cells]) rfl rfl (good104 hJ ?_)
    rw [u_not, cnd_ndec]
    refine ⟨fun hle1 => ?_, fun hgt1 => ?_⟩
    · refine load_part (c := o.cells) z18 (by simp [Rng.cells]) rfl rfl (good104 hJ ?_)
      rw [u_not]
      by_cases hle2 : o.lo ≤ o.hi
      · -- mixed
        have hm1 : mixL (Nx' k) (P i) o = ⟨min (Nx' k).lo ((P i).plus o).lo, max (Nx' k).hi ((P i).plus o).hi⟩ := by
          unfold mixL
          rw [if_pos ⟨by omega, hle2⟩]
        have hd : (decide (o.lo > o.hi)) = false := decide_eq_false (by omega)
        refine mixd _ hm1 (by omega) hle2 ?_ q16 q18 (fun j hj => by have hh := hkeep j hj; simp only [keep73, List.mem_cons, List.not_mem_nil, or_false] at hj; rcases hj with rfl | rfl | rfl | rfl | rfl | rfl | rfl | rfl | rfl | rfl | rfl | rfl | rfl | rfl <;> exact hh) hds q57
        show Value.bool (!decide (o.lo > o.hi)) = .bool true
        rw [hd]
        rfl
      · have hm1 : mixL (Nx' k) (P i) o = Nx' k := by
          unfold mixL
          rw [if_neg (by omega)]
        have hd : (decide (o.lo > o.hi)) = true := decide_eq_true (by omega)
        refine skip _ hm1 ?_ (fun j hj => by have hh := hkeep j hj; simp only [keep73, List.mem_cons, List.not_mem_nil, or_false] at hj; rcases hj with rfl | rfl | rfl | rfl | rfl | rfl | rfl | rfl | rfl | rfl | rfl | rfl | rfl | rfl <;> exact hh) hds q57
        show Value.bool (!decide (o.lo > o.hi)) = .bool false
        rw [hd]
        rfl
    · have hm1 : mixL (Nx' k) (P i) o = Nx' k := by
        unfold mixL
        rw [if_neg (by omega)]
      exact skip _ hm1 rfl (fun j hj => by have hh := hkeep j hj; simp only [keep73, List.mem_cons, List.not_mem_nil, or_false] at hj; rcases hj with rfl | rfl | rfl | rfl | rfl | rfl | rfl | rfl | rfl | rfl | rfl | rfl | rfl | rfl <;> exact hh) hds q57
  have eo : ownL t g ((R g).lo + i) mm = ⟨max 0 ((R g).lo + i + t.changes[g].lo - mm), min t.most ((R g).lo + i + t.changes[g].hi - mm)⟩ := by
    unfold ownL
    rw [hcg]
  rw [eo] at post
  have sb : ∀ {H' : List AObj}, SameX [] H2 H' → SameB (some [bw, b2]) H2 H' := fun S b hb => by
    simp at hb
    have hbw := lt_of_get s2.w.at_
    rcases hb with rfl | rfl
    · exact S.2 _ hbw (by simp)
    · exact S.2 _ hb2l (by simp)
  refine ⟨[bw, b2], nilI (offI (offI (ldI (v := cv) s2.w.at_ rfl kc.1 ⟨by simp [RdOk, ptrBlk, ptr], ?_⟩)))⟩
  refine hidx _ (offI (ldI hb (part_get (j := 0) hpart rfl) rfl ⟨by simp [RdOk, ptrBlk, ptr], addI (by omega) (subI (by omega) (maxI ?_))⟩))
  refine nilI (offI (offI (ldI (v := vint t.most) s2.w.at_ rfl rfl ⟨by simp [RdOk, ptrBlk, ptr], nilI (offI (offI (ldI (v := cv) s2.w.at_ rfl kc.1 ⟨by simp [RdOk, ptrBlk, ptr], ?_⟩)))⟩)))
  refine hidx _ (offI (ldI hb (part_get (j := 1) hpart rfl) rfl ⟨by simp [RdOk, ptrBlk, ptr], addI (by omega) (subI (by omega) ?_)⟩))
  have lH : H.length + 1 = H2.length := by omega
  refine ⟨⟨by decide, fill1 rfl rfl (by decide) (fillI (qNew fun H3 p3 e3 S3 c3 l3 => ⟨sb S3, ⟨good103 hJ c3 ⟨sb S3, fill1 rfl rfl (by decide) (fill1 rfl rfl (by simp) (fillI (qAl fun H4 p4 e4 S4 c4 l4 => ⟨sb (S3.trans S4), ?_⟩)))⟩, qAl fun H4 p4 e4 S4 c4 l4 => ⟨sb (S3.trans S4), ?_⟩⟩⟩))⟩, qAl fun H3 p3 e3 S3 c3 l3 => ⟨sb S3, ⟨by decide, fill1 rfl rfl (by decide) (fillI (qNew fun H4 p4 e4 S4 c4 l4 => ⟨sb (S3.trans S4), ?_⟩))⟩⟩⟩
  · refine qStA c4 rfl rfl rfl fun H5 S5 c5 l5 => ?_
    have S25 : SameX [p4] H2 H5 := ((S3.weak0 (Y := [p4])).trans S4.weak0).trans S5
    refine post H5 p4 _ ?_ (S25.get c2 (by simp; omega)) c5 (by omega) (by omega) rfl rfl (fun j hj => by simp only [keep73, List.mem_cons, List.not_mem_nil, or_false] at hj; rcases hj with rfl | rfl | rfl | rfl | rfl | rfl | rfl | rfl | rfl | rfl | rfl | rfl | rfl | rfl <;> rfl) rfl r57
    exact S12.thru S25 (by simp; omega)
  · refine good103 hJ (S4.get c3 (by simp)) ⟨sb (S3.trans S4), fill1 rfl rfl (by decide) (fill1 rfl rfl (by simp) (fillI ?_))⟩
    refine qStA c4 rfl rfl rfl fun H5 S5 c5 l5 => ?_
    have S25 : SameX [p4] H2 H5 := ((S3.weak0 (Y := [p4])).trans S4.weak0).trans S5
    refine post H5 p4 _ ?_ (S25.get c2 (by simp; omega)) c5 (by omega) (by omega) rfl rfl (fun j hj => by simp only [keep73, List.mem_cons, List.not_mem_nil, or_false] at hj; rcases hj with rfl | rfl | rfl | rfl | rfl | rfl | rfl | rfl | rfl | rfl | rfl | rfl | rfl | rfl <;> rfl) rfl r57
    exact S12.thru S25 (by simp; omega)
  · refine good103 hJ c4 ⟨sb (S3.trans S4), fill1 rfl rfl (by decide) (fill1 rfl rfl (by simp) (fillI ?_))⟩
    refine qStA (S4.get c3 (by simp)) rfl rfl rfl fun H5 S5 c5 l5 => ?_
    have S25 : SameX [p3] H2 H5 := ((S3.weak0 (Y := [p3])).trans S4.weak0).trans S5
    refine post H5 p3 _ ?_ (S25.get c2 (by simp; omega)) c5 (by omega) (by omega) rfl rfl (fun j hj => by simp only [keep73, List.mem_cons, List.not_mem_nil, or_false] at hj; rcases hj with rfl | rfl | rfl | rfl | rfl | rfl | rfl | rfl | rfl | rfl | rfl | rfl | rfl | rfl <;> rfl) rfl r57
    exact S12.thru S25 (by simp; omega)

theorem loop73 (hJ : Closed prog main J) {bw p5 po pn pk g k w w' : Nat} {t : Tal} {cv nv : Value} {u mm : Int} {m : Value} {R P N : Nat → Rng} {F : RG} {nx0 nx1 : RG → List AObj → Prop} (s : St73 h0 H bw p5 po t cv nv u m R) (fine : TalFine t) (hR : RSm R t.gates.toNat)
    (hg : g + 1 < t.gates.toNat) (hw : w = wid (R g)) (hk : k < w') (hw' : w' < 1000) (hm : 0 ≤ mm ∧ mm ≤ 600) (hP : ∀ i, i < w → (P i).lm 1000)
    (zn : H[pn]? = some (.cells (rngsC P w) true 0)) (zk : H[pk]? = some (.cells (rngsC (fun j => if j = k then ⟨1048576, -1⟩ else N j) w') true 0)) (hnk : pn ≠ pk) (bn : p5 < pn) (bk : p5 < pk)
    (r0 : F.r 0 = ptr bw 0) (r5 : F.r 5 = ptr p5 0) (r11 : F.r 11 = vint g) (r12 : F.r 12 = .slice (some ⟨pk, 0, none⟩) w' w') (r13 : F.r 13 = vint k) (r14 : F.r 14 = vint mm) (r40 : F.r 40 = vint k) (r55 : F.r 55 = .slice (some ⟨pn, 0, none⟩) w w) (r56 : F.r 56 = vint w) (r57 : F.r 57 = vint (0 : Nat))
    (hx : ∀ H' f', SameX [pk] H H' → H'[pk]? = some (.cells (rngsC (fun j => if j = k then accL t g (R g).lo P mm w else N j) w') true 0) → (∀ j ∈ [0, 3, 5, 8, 9, 10, 11, 12, 39], f'.r j = F.r j) → f'.ds = F.ds → f'.r 40 = vint ((k : Int) + 1) → nx1 f' H') :
    Sem J 162 n0 73 (subC [1, 1, 1, 0, 1, 0, 0, 1, 0, 0, 1, 0, 1, 0, 0, 1, 1, 0, 0, 1, 1, 1, 1, 0] (codeOf f73)) F H (contQ prog J 162 n0 73 [1, 1, 1, 0, 1, 0, 0, 1, 0, 0, 1, 0, 1, 0, 0, 1, 1, 0, 0, 1, 1, 1, 1, 0] (codeOf f73) [nx0, nx1] (RetQ prog [.cell 8 98] n0 K)) := by
  subst hw
  refine l73_4 hJ (fun i : Nat => wid (R g) - i) (fun i f' H' => SameX [pk] H H' ∧ i ≤ wid (R g) ∧ H'[pk]? = some (.cells (rngsC (fun j => if j = k then accL t g (R g).lo P mm i else N j) w') true 0) ∧ (∀ j ∈ keep73, f'.r j = F.r j) ∧ f'.ds = F.ds ∧ f'.r 57 = vint (i : Nat)) ?_ (s := 0)
    (.inl ⟨SameX.refl, by omega, zk, fun _ _ => rfl, rfl, r57⟩)
  rintro i f' H' ⟨S, hi, zk', hkeep, hds, q57⟩ ok' hn'
  have kk : ∀ j, j ∈ keep73 → f'.r j = F.r j := hkeep
  have q0 := (kk 0 (by simp [keep73])).trans r0
  have q5 := (kk 5 (by simp [keep73])).trans r5
  have q11 := (kk 11 (by simp [keep73])).trans r11
  have q12 := (kk 12 (by simp [keep73])).trans r12
  have q13 := (kk 13 (by simp [keep73])).trans r13
  have q14 := (kk 14 (by simp [keep73])).trans r14
  have q40 := (kk 40 (by simp [keep73])).trans r40
  have q55 := (kk 55 (by simp [keep73])).trans r55
  have q56 := (kk 56 (by simp [keep73])).trans r56
  by_cases hlt : i < wid (R g)
  · refine in73 hJ (s.same S (by simp; omega)) fine hR hg hlt rfl hk hm (hP i hlt) (S.get zn (by simp; omega)) zk' hnk bn bk q0 q5 q11 q12 q13 q14 q55 q56 q57 fun H2 f2 S2 z2 hkeep2 hds2 t57 => ?_
    · refine ⟨i + 1, by dsimp only; omega, .inl ⟨S.trans S2, by omega, ?_, fun j hj => (hkeep2 j hj).trans (hkeep j hj), hds2.trans hds, t57⟩⟩
      rw [z2]
      congr 2
      refine rngsC_congr fun j _ => ?_
      by_cases e : j = k
      · subst e
        simp only [if_true]
        rfl
      · simp only [if_neg e]
  · have hiw : i = wid (R g) := by omega
    subst hiw
    rw [s73_4, q57, q56, q40]
    refine lssI (cndI (fun hlt => absurd hlt (by omega)) fun _ => addI (by omega) (hx H' _ S zk' (fun j hj => ?_) hds rfl))
    have hh : f'.r j = F.r j := hkeep j (by simp [keep73] at hj ⊢; omega)
    simp only [List.mem_cons, List.not_mem_nil, or_false] at hj
    rcases hj with rfl | rfl | rfl | rfl | rfl | rfl | rfl | rfl | rfl <;> exact hh

theorem row73 (hJ : Closed prog main J) {bw p5 po pn pk g w w' a d : Nat} {t : Tal} {cv nv : Value} {u : Int} {m : Value} {R : Nat → Rng} {F : RG} {nx0 : RG → List AObj → Prop} (s : St73 h0 H bw p5 po t cv nv u m R) (fine : TalFine t) (hR : RSm R t.gates.toNat)
    (hgd : g = a + d) (hg : g + 1 < t.gates.toNat) (hw : w = wid (R g)) (hw' : w' = wid (R (g + 1))) (hP : ∀ i, i < w → (lossL t R a d i).lm 1000)
    (zn : H[pn]? = some (.cells (rngsC (lossL t R a d) w) true 0)) (zk : H[pk]? = some (.cells (rngsC (fun _ => ⟨0, 0⟩) w') true 0)) (hnk : pn ≠ pk) (bn : p5 < pn) (bk : p5 < pk)
    (r0 : F.r 0 = ptr bw 0) (r5 : F.r 5 = ptr p5 0) (r10 : F.r 10 = .slice (some ⟨pn, 0, none⟩) w w) (r11 : F.r 11 = vint g) (r12 : F.r 12 = .slice (some ⟨pk, 0, none⟩) w' w') (r39 : F.r 39 = vint w') (r40 : F.r 40 = vint (0 : Nat))
    (hx : ∀ H' f', SameX [pk] H H' → H'[pk]? = some (.cells (rngsC (lossL t R a (d + 1)) w') true 0) → (∀ j ∈ [0, 3, 5, 8, 9], f'.r j = F.r j) → f'.ds = F.ds → f'.r 10 = .slice (some ⟨pk, 0, none⟩) w' w' → f'.r 11 = vint ((g : Int) + 1) → nx0 f' H') :
    Sem J 162 n0 73 (subC [1, 1, 1, 0, 1, 0, 0, 1, 0, 0, 1, 0, 1, 0] (codeOf f73)) F H (contQ prog J 162 n0 73 [1, 1, 1, 0, 1, 0, 0, 1, 0, 0, 1, 0, 1, 0] (codeOf f73) [nx0] (RetQ prog [.cell 8 98] n0 K)) := by
  have hgt := fine.gates
  have h2 := hR (g + 1) hg
  have hww : (wid (R (g + 1)) : Int) = (R (g + 1)).hi - (R (g + 1)).lo + 1 := by unfold wid; omega
  refine l73_2 hJ (fun k : Nat => w' - k) (fun k f' H' => SameX [pk] H H' ∧ k ≤ w' ∧ H'[pk]? = some (.cells (rngsC (fun j => if j < k then lossL t R a (d + 1) j else ⟨0, 0⟩) w') true 0) ∧ (∀ j ∈ [0, 3, 5, 8, 9, 10, 11, 12, 39], f'.r j = F.r j) ∧ f'.ds = F.ds ∧ f'.r 40 = vint (k : Nat)) ?_ (s := 0)
    (.inl ⟨SameX.refl, by omega, zk, fun _ _ => rfl, rfl, r40⟩)
  rintro k f' H' ⟨S, hk, zk', hkeep, hds, q40⟩ ok' hn'
  have q0 := (hkeep 0 (by simp)).trans r0
  have q5 := (hkeep 5 (by simp)).trans r5
  have q10 := (hkeep 10 (by simp)).trans r10
  have q11 := (hkeep 11 (by simp)).trans r11
  have q12 := (hkeep 12 (by simp)).trans r12
  have q39 := (hkeep 39 (by simp)).trans r39
  have s' := s.same S (by simp; omega)
  rw [s73_2]
  simp only [q5, q10, q11, q12, q39, q40]
  refine lssI (cndI (fun hlt => ?_) fun hge => ?_)
  · have hkw : k < w' := by omega
    refine fill1 rfl rfl (by decide) (fill1 rfl rfl (by simp) (fillI (idxI ⟨by omega, by omega⟩ ?_)))
    rw [Int.toNat_natCast, Nat.zero_add]
    refine qSt2 zk' (by rw [rngsC_len]; omega) rfl rfl fun H1 S1 c1 l1 => ?_
    have e1 := rngsC_set (fun j => if j < k then lossL t R a (d + 1) j else ⟨0, 0⟩) ⟨1048576, -1⟩ hkw
    rw [e1] at c1
    have s1 := s'.same S1 (by simp; omega)
    refine ldI s1.l5 rfl rfl (addI (by omega) ?_)
    rw [show (g : Int) + 1 = ((g + 1 : Nat) : Int) from by omega]
    refine idxI ⟨by omega, by omega⟩ (offI ?_)
    rw [Int.toNat_natCast, Nat.zero_add]
    refine ldI s1.lo (part_get (j := 0) (rngsC_get R hg) rfl) rfl (addI (by omega) ?_)
    rw [lenS]
    refine loop73 hJ (pn := pn) (pk := pk) (g := g) (k := k) (w := w) (w' := w') (mm := (R (g + 1)).lo + k) (P := lossL t R a d) (N := fun j => if j < k then lossL t R a (d + 1) j else ⟨0, 0⟩) s1 fine hR hg hw hkw (by omega) (by omega) hP ((S.trans S1).get zn (by simp; omega)) c1 hnk bn bk q0 q5 q11 q12 rfl rfl q40 rfl rfl rfl fun H2 f2 S2 z2 hkeep2 hds2 t40 => ?_
    refine ⟨k + 1, by dsimp only; omega, .inl ⟨(S.trans S1).trans S2, by omega, ?_, fun j hj => (hkeep2 j hj).trans ?_, hds2.trans hds, t40⟩⟩
    · rw [z2]
      congr 2
      refine rngsC_congr fun j _ => ?_
      by_cases e : j = k
      · subst e
        rw [if_pos rfl, if_pos (by omega)]
        subst hgd
        rw [hw]
        rfl
      · rw [if_neg e]
        by_cases e2 : j < k
        · rw [if_pos e2, if_pos (by omega)]
        · rw [if_neg e2, if_neg (by omega)]
    · have hh := hkeep j hj
      simp only [List.mem_cons, List.not_mem_nil, or_false] at hj
      rcases hj with rfl | rfl | rfl | rfl | rfl | rfl | rfl | rfl | rfl <;> exact hh
  · have hkw : k = w' := by omega
    subst hkw
    refine addI (by omega) (hx H' _ S ?_ (fun j hj => ?_) hds rfl rfl)
    · rw [zk']
      congr 2
      refine rngsC_congr fun j hj => ?_
      rw [if_pos hj]
    · have hh := hkeep j (by simp at hj ⊢; omega)
      simp only [List.mem_cons, List.not_mem_nil, or_false] at hj
      rcases hj with rfl | rfl | rfl | rfl | rfl <;> exact hh

theorem good73 (hJ : Closed prog main J) {bw po a b : Nat} {t : Tal} {cv nv : Value} {u : Int} {m : Value} {R : Nat → Rng} (w : WorkIn h0 h bw t cv nv u m) (lo : h[po]? = some (.cells (rngsC R t.gates.toNat) true 0)) (fine : TalFine t) (hR : RSm R t.gates.toNat) (hab : a ≤ b) (hb : b < t.gates.toNat)
    (hK : K (lostR t R a b).val h) : Good prog J 73 [ptr bw 0, .slice (some ⟨po, 0, none⟩) t.gates.toNat t.gates.toNat, vint a, vint b] h K := by
  refine g73 hJ fun ok => ?_
  rw [e73]
  have hgt := fine.gates
  have hbw := lt_of_get w.at_
  have hpo := lt_of_get lo
  have hpre : h0.length ≤ h.length := by
    obtain ⟨g, rfl⟩ := w.pre
    simp
  refine qBox1 rfl rfl fun H1 p5 e1 S1 c1 l1 => qAl fun H2 p8 e2 S2 c2 l2 => ⟨rfl, ?_⟩
  have S12 := S1.trans S2
  have s2 : St73 h0 H2 bw p5 po t cv nv u m R := ⟨w.same S12 (by simp) (by simp), S2.get c1 (by simp), S12.get lo (by simp), by omega, by omega, by omega⟩
  show Good prog J 102 [vint a, ptr p5 0] H2 _
  refine good102 hJ s2.l5 s2.lo (by omega) hR ⟨by decide, ?_⟩
  have hwa := hR a (by omega)
  have hwab : (wid (R a) : Int) = (R a).hi - (R a).lo + 1 := by unfold wid; omega
  refine qMk (by omega) fun H3 pn e3 S3 c3 l3 => ?_
  rw [rngsC_zero] at c3
  have z8 := S3.get c2 (by simp)
  have s3 := s2.same S3 (by simp)
  have SH3 : SameX [] h H3 := S12.trans S3
  refine l73_1 hJ (fun d : Nat => b - a - d) (fun d f' H' => ∃ pn, SameX [] h H' ∧ St73 h0 H' bw p5 po t cv nv u m R ∧ H'[p8]? = some (.cells [vint 0, vint 0] true 0) ∧ a + d ≤ b ∧ H'[pn]? = some (.cells (rngsC (lossL t R a d) (wid (R (a + d)))) true 0) ∧ p8 < pn ∧
      f'.ds = [] ∧ f'.r 0 = ptr bw 0 ∧ f'.r 3 = vint b ∧ f'.r 5 = ptr p5 0 ∧ f'.r 8 = ptr p8 0 ∧ f'.r 9 = .func (.func 102) ⟨[]⟩ ⟨[ptr p5 0]⟩ ∧ f'.r 10 = .slice (some ⟨pn, 0, none⟩) (wid (R (a + d))) (wid (R (a + d))) ∧ f'.r 11 = vint ((a + d : Nat) : Int)) ?_ (s := 0)
    (.inl ⟨pn, SH3, s3, z8, by omega, c3, by omega, rfl, rfl, rfl, rfl, rfl, rfl, rfl, rfl⟩)
  clear s3 c3 e3 l3 S3 z8 SH3 H3 pn
  rintro d f' H' ⟨pn, SH, s, z8, hd, zn, hpn, hds, r0, r3, r5, r8, r9, r10, r11⟩ ok' hn'
  rw [s73_1]
  simp only [r3, r8, r9, r10, r11]
  refine lssI (cndI (fun hlt => ?_) fun hge => ?_)
  · refine addI (by omega) ?_
    rw [show ((a + d : Nat) : Int) + 1 = ((a + d + 1 : Nat) : Int) from by omega]
    show Good prog J 102 [vint ((a + d + 1 : Nat) : Int), ptr p5 0] H' _
    refine good102 hJ s.l5 s.lo (by omega) hR ⟨by decide, ?_⟩
    have hw1 := hR (a + d + 1) (by omega)
    have hww1 : (wid (R (a + d + 1)) : Int) = (R (a + d + 1)).hi - (R (a + d + 1)).lo + 1 := by unfold wid; omega
    refine qMk (by omega) fun H4 pk e4 S4 c4 l4 => ?_
    rw [rngsC_zero] at c4
    rw [lenS]
    have hpnl := lt_of_get zn
    have hp8l := lt_of_get z8
    refine row73 hJ (pn := pn) (pk := pk) (a := a) (d := d) (s.same S4 (by simp)) fine hR rfl (by omega) rfl rfl (fun i _ => by have := lossL_lm (a := a) (R := R) fine d (by omega) i; unfold Rng.lm at *; omega) (S4.get zn (by simp)) c4 (by omega) (by omega) (by omega) r0 r5 r10 r11 rfl rfl rfl fun H5 f5 S5 z5 hkeep5 hds5 t10 t11 => ?_
    have hSH := SH.1
    refine ⟨d + 1, by dsimp only; omega, .inl ⟨pk, (SH.trans S4).thru S5 (by simp; omega), (s.same S4 (by simp)).same S5 (by simp; omega), S5.get (S4.get z8 (by simp)) (by simp; omega), by omega, z5, by omega, hds5.trans hds, (hkeep5 0 (by simp)).trans r0, (hkeep5 3 (by simp)).trans r3, (hkeep5 5 (by simp)).trans r5, (hkeep5 8 (by simp)).trans r8, (hkeep5 9 (by simp)).trans r9, t10, ?_⟩⟩
    rw [t11]
    congr 1
  · have hdb : a + d = b := by omega
    have e0 : b - a = d := by omega
    have hL : lostR t R a b = hullL (lossL t R a d) (wid (R (a + d))) := by
      unfold lostR
      rw [e0, hdb]
    rw [hL] at hK
    have hwd := hR (a + d) (by omega)
    have hwdd : (wid (R (a + d)) : Int) = (R (a + d)).hi - (R (a + d)).lo + 1 := by unfold wid; omega
    generalize hW : wid (R (a + d)) = w at *
    generalize hLL : lossL t R a d = L at *
    refine idxI ⟨by omega, by omega⟩ (load_part (c := (L 0).cells) zn (by rw [rngsC_len]; omega) (rngsC_get L (i := 0) (by omega)) rfl ?_)
    refine qAl fun H4 p19 e4 S4 c4 l4 => qStA (c := (L 0).cells) c4 rfl rfl rfl fun H5 S5 c5 l5 => ?_
    rw [lenS]
    have hpnl := lt_of_get zn
    have hp8l := lt_of_get z8
    have S45 : SameX [p19] H' H5 := S4.weak0.trans S5
    have hSH := SH.1
    refine l73_3 hJ (fun i : Nat => w - i) (fun i f'' H'' => SameX [p19] H' H'' ∧ i ≤ w ∧ H''[p19]? = some (.cells (hullL L i).cells true 0) ∧ f''.ds = [] ∧ f''.r 8 = ptr p8 0 ∧ f''.r 19 = ptr p19 0 ∧ f''.r 142 = .slice (some ⟨pn, 0, none⟩) w w ∧ f''.r 143 = vint w ∧ f''.r 144 = vint (i : Nat)) ?_ (s := 0)
      (.inl ⟨S45, by omega, c5, hds, r8, rfl, rfl, rfl, rfl⟩)
    rintro i f'' H'' ⟨S, hi, z19, hds2, q8, q19, q142, q143, q144⟩ ok'' hn''
    rw [s73_3]
    simp only [q8, q19, q142, q143, q144]
    refine lssI (cndI (fun hlt => ?_) fun hge => ?_)
    · have hiw : i < w := by omega
      refine idxI ⟨by omega, by omega⟩ ?_
      rw [Int.toNat_natCast, Nat.zero_add]
      refine load_part (c := (L i).cells) (S.get zn (by simp; omega)) (by rw [rngsC_len]; omega) (rngsC_get L hiw) rfl ?_
      have h19 := lt_of_get z19
      refine qAl fun H6 p21 e6 S6 c6 l6 => qStA (c := (L i).cells) c6 rfl rfl rfl fun H7 S7 c7 l7 => ?_
      have z19' := S7.get (S6.get z19 (by simp)) (by simp; omega)
      refine ⟨[p19, p21], offI (ldI (v := vint (hullL L i).lo) z19' rfl rfl ⟨by simp [RdOk, ptrBlk, ptr], offI (ldI (v := vint (L i).lo) c7 rfl rfl ⟨by simp [RdOk, ptrBlk, ptr], ?_⟩)⟩)⟩
      refine offI (ldI (v := vint (hullL L i).hi) z19' rfl rfl ⟨by simp [RdOk, ptrBlk, ptr], offI (ldI (v := vint (L i).hi) c7 rfl rfl ⟨by simp [RdOk, ptrBlk, ptr], maxI ?_⟩)⟩)
      have sb : ∀ {Hx : List AObj}, SameX [] H7 Hx → SameB (some [p19, p21]) H7 Hx := fun Sx b hb => by
        simp at hb
        have := lt_of_get c7
        rcases hb with e | e
        · rw [e]
          exact Sx.2 _ (by omega) (by simp)
        · rw [e]
          exact Sx.2 _ this (by simp)
      refine ⟨by decide, fill1 rfl rfl (by decide) (fillI (qNew fun H8 p8' e8 S8 c8 l8 => ⟨sb S8, good103 hJ c8 ⟨sb S8, fill1 rfl rfl (by decide) (fill1 rfl rfl (by simp) (fillI ?_))⟩⟩))⟩
      refine qStA (c := (hullL L (i + 1)).cells) (S8.get z19' (by simp)) rfl rfl rfl fun H9 S9 c9 l9 => addI (by omega) ?_
      have S69 : SameX [p19, p21] H'' H9 := ((S6.weak0 (Y := [p19, p21])).trans (S7.weak (by simp))).trans ((S8.weak0 (Y := [p19, p21])).trans (S9.weak (by simp)))
      exact ⟨i + 1, by dsimp only; omega, .inl ⟨S.thru S69 (by simp; have := S.1; omega), by omega, c9, hds2, q8, q19, q142, q143, rfl⟩⟩
    · have hiw : i = w := by omega
      subst hiw
      refine load_part (c := (hullL L i).cells) z19 (by simp [Rng.cells]) rfl rfl ?_
      refine qStA (c := (hullL L i).cells) (S.get z8 (by simp; omega)) rfl rfl rfl fun H6 S6 c6 l6 => ?_
      have SF : SameX [] h H6 := (SH.thru S (by simp; omega)).thru S6 (by simp; omega)
      obtain ⟨g, rfl⟩ := SF.app0 (by simp)
      obtain ⟨j, hj⟩ : ∃ j, p8 = h.length + j := ⟨p8 - h.length, by omega⟩
      subst hj
      refine ret_agg (i := j) hds2 ok (Nat.le_refl _) rfl (by kernel_rfl) q8 (by rw [back_get] at c6; exact c6) rfl rfl (by simp [VOk, AOk, LOk, Rng.cells]) hK
end
end Go.Proofs.Ytdgpacdknpahnaa

namespace Go.Proofs.Ytdgpacdknpahnaa
open Go.Conc Go.Proofs.Try
set_option maxRecDepth 100000
def Rng.has (r : Rng) (n : Int) : Prop := r.lo ≤ n ∧ n ≤ r.hi

structure Tru (t : Tal) (L : Nat → Rng) (ns : Nat → Int) : Prop where
  first : t.first.has (ns 0)
  lim : ∀ g, g < t.gates.toNat → (L g).has (ns g)
  step : ∀ g, g + 1 < t.gates.toNat → (stretchR t g).has (ns (g + 1) - ns g)

section
variable {t : Tal} {L : Nat → Rng} {ns : Nat → Int}
theorem Tru.fwd (h : Tru t L ns) : ∀ g, g < t.gates.toNat → (Go.Proofs.Ytdgpacdknpahnaa.fwd t L g).has (ns g)
  | 0, hg => by
    have h1 := h.first
    have h2 := h.lim 0 hg
    unfold Go.Proofs.Ytdgpacdknpahnaa.fwd Rng.meet Rng.has at *
    dsimp only
    omega
  | g + 1, hg => by
    have h1 := h.fwd g (by omega)
    have h2 := h.lim (g + 1) hg
    have h3 := h.step g hg
    show (((Go.Proofs.Ytdgpacdknpahnaa.fwd t L g).plus (stretchR t g)).meet (L (g + 1))).has _
    unfold Rng.meet Rng.plus Rng.has at *
    dsimp only
    omega
theorem Tru.bk (h : Tru t L ns) : ∀ d g, g + d + 1 = t.gates.toNat → (bkR t L g).has (ns g)
  | 0, g, hg => by
    rw [bkR_last (by omega)]
    exact h.fwd g (by omega)
  | d + 1, g, hg => by
    rw [bkR_step (by omega)]
    have h1 := h.bk d (g + 1) (by omega)
    have h2 := h.fwd g (by omega)
    have h3 := h.step g (by omega)
    unfold Rng.meet Rng.plus Rng.turn Rng.has at *
    dsimp only
    omega

theorem stretch_ok (f : TalFine t) (g : Nat) : (stretchR t g).lo ≤ (stretchR t g).hi := by
  have h1 := f.most
  unfold stretchR
  cases e : t.changes[g]? with
  | none =>
    unfold Rng.plus
    dsimp only [Option.getD]
    omega
  | some r =>
    have := f.ch r (List.mem_of_getElem? e)
    unfold Rng.plus
    dsimp only [Option.getD]
    omega

theorem fwd_prev (f : TalFine t) (hT : TruthIs t L) {g : Nat} (hg : g + 1 < t.gates.toNat) {n : Int} (hn : (fwd t L (g + 1)).has n) : ∃ n', (fwd t L g).has n' ∧ (stretchR t g).has (n - n') := by
  have h1 := hT g (by omega)
  have h2 := stretch_ok f g
  refine ⟨max (fwd t L g).lo (n - (stretchR t g).hi), ?_⟩
  change (((fwd t L g).plus (stretchR t g)).meet (L (g + 1))).has n at hn
  unfold Rng.meet Rng.plus Rng.has at *
  dsimp only at *
  omega
theorem fwd_lim {g : Nat} {n : Int} (hn : (fwd t L g).has n) : (L g).has n := by
  cases g with
  | zero =>
    unfold fwd Rng.meet Rng.has at *
    dsimp only at *
    omega
  | succ g =>
    change (((fwd t L g).plus (stretchR t g)).meet (L (g + 1))).has n at hn
    unfold Rng.meet Rng.plus Rng.has at *
    dsimp only at *
    omega
theorem bk_fwd {g : Nat} (hg : g < t.gates.toNat) {n : Int} (hn : (bkR t L g).has n) : (fwd t L g).has n := by
  by_cases h : t.gates.toNat = g + 1
  · rw [bkR_last h] at hn
    exact hn
  · rw [bkR_step (by omega)] at hn
    unfold Rng.meet Rng.has at *
    dsimp only at *
    omega
theorem bk_prev (f : TalFine t) (hT : TruthIs t L) {g : Nat} (hg : g + 1 < t.gates.toNat) {n : Int} (hn : (bkR t L (g + 1)).has n) : ∃ n', (bkR t L g).has n' ∧ (stretchR t g).has (n - n') := by
  obtain ⟨n', h1, h2⟩ := fwd_prev f hT hg (bk_fwd hg hn)
  refine ⟨n', ?_, h2⟩
  rw [bkR_step hg]
  unfold Rng.meet Rng.plus Rng.turn Rng.has at *
  dsimp only
  omega
theorem bk_ok (f : TalFine t) (hT : TruthIs t L) : ∀ d g, g + d + 1 = t.gates.toNat → (bkR t L g).lo ≤ (bkR t L g).hi
  | 0, g, hg => by
    rw [bkR_last (by omega)]
    exact hT g (by omega)
  | d + 1, g, hg => by
    have h1 := bk_ok f hT d (g + 1) (by omega)
    obtain ⟨n', h2, _⟩ := bk_prev f hT (g := g) (n := (bkR t L (g + 1)).lo) (by omega) ⟨Int.le_refl _, h1⟩
    unfold Rng.has at h2
    omega
theorem bk_next (f : TalFine t) (hT : TruthIs t L) {g : Nat} (hg : g + 1 < t.gates.toNat) {n : Int} (hn : (bkR t L g).has n) : ∃ n', (bkR t L (g + 1)).has n' ∧ (stretchR t g).has (n' - n) := by
  have h1 := bk_ok f hT (t.gates.toNat - 2 - g) (g + 1) (by omega)
  have h2 := stretch_ok f g
  rw [bkR_step hg] at hn
  refine ⟨max (bkR t L (g + 1)).lo (n + (stretchR t g).lo), ?_⟩
  unfold Rng.meet Rng.plus Rng.turn Rng.has at *
  dsimp only at *
  omega

theorem limN_base {u : Int} {cs : List Cnt} : ∀ i g, (limN u cs i g).sub ⟨0, 600⟩
  | 0, g => Rng.sub_refl _
  | i + 1, g => by
    have ih := limN_base (u := u) (cs := cs) i
    show Rng.sub ((match cs[i]? with
      | some c => bif keepB u i then updL (limN u cs i) c.gate.toNat ((limN u cs i c.gate.toNat).meet (rd c)) else limN u cs i
      | none => limN u cs i) g) _
    cases e : cs[i]? with
    | none => exact ih g
    | some c =>
      cases keepB u i with
      | false => exact ih g
      | true =>
        show Rng.sub (updL _ _ _ g) _
        unfold updL
        split
        · exact Rng.meet_left (ih _)
        · exact ih g

theorem bk_rsm (f : TalFine t) {u : Int} (hT : TruthIs t (limA t u)) : RSm (bkR t (limA t u)) t.gates.toNat := fun g hg => by
  have h1 := bk_ok f hT (t.gates.toNat - 1 - g) g (by omega)
  have h2 := fwd_lim (bk_fwd hg (n := (bkR t (limA t u) g).lo) ⟨Int.le_refl _, h1⟩)
  have h3 := fwd_lim (bk_fwd hg (n := (bkR t (limA t u) g).hi) ⟨h1, Int.le_refl _⟩)
  obtain ⟨h4, h5⟩ := limN_base (u := u) (cs := t.counts) t.counts.length g
  unfold limA Rng.has at *
  dsimp only at *
  omega
end
inductive Sum (t : Tal) (R : Nat → Rng) (a : Nat) : Nat → Int → Int → Prop
  | base {m : Int} : (R a).has m → Sum t R a 0 m 0
  | step {d : Nat} {n m s l : Int} : Sum t R a d n s → (R (a + d + 1)).has m → (ownL t (a + d) n m).has l → Sum t R a (d + 1) m (s + l)

section
variable {t : Tal} {R : Nat → Rng} {a : Nat}
theorem Sum.at {d : Nat} {m s : Int} (h : Sum t R a d m s) : (R (a + d)).has m := by
  cases h with
  | base h => exact h
  | step _ h _ => exact h
theorem own_bd {g : Nat} {n m l : Int} (h : (ownL t g n m).has l) : 0 ≤ l ∧ l ≤ t.most := by
  unfold ownL Rng.has at h
  dsimp only at h
  omega
theorem Sum.bd {d : Nat} {m s : Int} (h : Sum t R a d m s) : 0 ≤ s ∧ s ≤ t.most * d := by
  induction h with
  | base _ => simp
  | @step d n m s l _ _ h3 ih =>
    have := own_bd h3
    have e : t.most * ((d + 1 : Nat) : Int) = t.most * d + t.most := by
      rw [Int.natCast_add, Int.mul_add]
      simp
    omega
theorem Sum.zero {m s : Int} (h : Sum t R a 0 m s) : s = 0 := by
  cases h
  rfl

theorem acc_sem {d : Nat} (f : TalFine t) (hd : d ≤ 5) {m : Int} (hm : (R (a + d + 1)).has m) {prev : Nat → Rng} {w : Nat} (hw : w = wid (R (a + d)))
    (hp : ∀ i, i < w → (∀ s, Sum t R a d ((R (a + d)).lo + i) s → (prev i).has s) ∧ ((prev i).lo ≤ (prev i).hi → Sum t R a d ((R (a + d)).lo + i) (prev i).lo ∧ Sum t R a d ((R (a + d)).lo + i) (prev i).hi)) :
    ∀ i, i ≤ w → (∀ j s l, j < i → Sum t R a d ((R (a + d)).lo + j) s → (ownL t (a + d) ((R (a + d)).lo + j) m).has l → (accL t (a + d) (R (a + d)).lo prev m i).has (s + l)) ∧
      (accL t (a + d) (R (a + d)).lo prev m i = ⟨1048576, -1⟩ ∨ ((accL t (a + d) (R (a + d)).lo prev m i).lo ≤ (accL t (a + d) (R (a + d)).lo prev m i).hi ∧ Sum t R a (d + 1) m (accL t (a + d) (R (a + d)).lo prev m i).lo ∧ Sum t R a (d + 1) m (accL t (a + d) (R (a + d)).lo prev m i).hi))
  | 0, _ => ⟨fun j _ _ hj => absurd hj (by omega), .inl rfl⟩
  | i + 1, hi => by
    obtain ⟨h1, h2⟩ := acc_sem f hd hm hw hp i (by omega)
    obtain ⟨p1, p2⟩ := hp i (by omega)
    have hmo := f.most
    show (∀ j s l, j < i + 1 → _ → _ → (mixL (accL t (a + d) (R (a + d)).lo prev m i) (prev i) (ownL t (a + d) ((R (a + d)).lo + i) m)).has (s + l)) ∧ (mixL (accL t (a + d) (R (a + d)).lo prev m i) (prev i) (ownL t (a + d) ((R (a + d)).lo + i) m) = _ ∨ ((mixL (accL t (a + d) (R (a + d)).lo prev m i) (prev i) (ownL t (a + d) ((R (a + d)).lo + i) m)).lo ≤ (mixL (accL t (a + d) (R (a + d)).lo prev m i) (prev i) (ownL t (a + d) ((R (a + d)).lo + i) m)).hi ∧
      Sum t R a (d + 1) m (mixL (accL t (a + d) (R (a + d)).lo prev m i) (prev i) (ownL t (a + d) ((R (a + d)).lo + i) m)).lo ∧ Sum t R a (d + 1) m (mixL (accL t (a + d) (R (a + d)).lo prev m i) (prev i) (ownL t (a + d) ((R (a + d)).lo + i) m)).hi))
    generalize accL t (a + d) (R (a + d)).lo prev m i = A at *
    by_cases hne : (prev i).lo ≤ (prev i).hi ∧ (ownL t (a + d) ((R (a + d)).lo + i) m).lo ≤ (ownL t (a + d) ((R (a + d)).lo + i) m).hi
    · have hmx : mixL A (prev i) (ownL t (a + d) ((R (a + d)).lo + i) m) = ⟨min A.lo ((prev i).plus (ownL t (a + d) ((R (a + d)).lo + i) m)).lo, max A.hi ((prev i).plus (ownL t (a + d) ((R (a + d)).lo + i) m)).hi⟩ := by
        unfold mixL
        rw [if_pos hne]
      obtain ⟨q1, q2⟩ := p2 hne.1
      have s1 : Sum t R a (d + 1) m ((prev i).lo + (ownL t (a + d) ((R (a + d)).lo + i) m).lo) := .step q1 hm ⟨Int.le_refl _, hne.2⟩
      have s2 : Sum t R a (d + 1) m ((prev i).hi + (ownL t (a + d) ((R (a + d)).lo + i) m).hi) := .step q2 hm ⟨hne.2, Int.le_refl _⟩
      have b1 := s1.bd
      have b2 := s2.bd
      have b3 : t.most * ((d + 1 : Nat) : Int) ≤ 60 * 6 := Int.mul_le_mul hmo.2 (by omega) (by omega) (by omega)
      rw [hmx]
      have e1 : ((prev i).plus (ownL t (a + d) ((R (a + d)).lo + i) m)).lo = (prev i).lo + (ownL t (a + d) ((R (a + d)).lo + i) m).lo := rfl
      have e2 : ((prev i).plus (ownL t (a + d) ((R (a + d)).lo + i) m)).hi = (prev i).hi + (ownL t (a + d) ((R (a + d)).lo + i) m).hi := rfl
      rw [e1, e2]
      refine ⟨fun j s l hj hs hl => ?_, .inr ⟨?_, ?_, ?_⟩⟩
      · by_cases e : j = i
        · subst e
          have := p1 s hs
          unfold Rng.has at *
          dsimp only
          omega
        · have := h1 j s l (by omega) hs hl
          unfold Rng.has at *
          dsimp only
          omega
      · dsimp only
        omega
      · dsimp only
        rcases h2 with rfl | ⟨_, h3, _⟩
        · rw [Int.min_eq_right (by dsimp only; omega)]
          exact s1
        · rcases Int.le_total A.lo ((prev i).lo + (ownL t (a + d) ((R (a + d)).lo + i) m).lo) with x | x
          · rw [Int.min_eq_left x]; exact h3
          · rw [Int.min_eq_right x]; exact s1
      · dsimp only
        rcases h2 with rfl | ⟨_, _, h3⟩
        · rw [Int.max_eq_right (by dsimp only; omega)]
          exact s2
        · rcases Int.le_total A.hi ((prev i).hi + (ownL t (a + d) ((R (a + d)).lo + i) m).hi) with x | x
          · rw [Int.max_eq_right x]; exact s2
          · rw [Int.max_eq_left x]; exact h3
    · have hmx : mixL A (prev i) (ownL t (a + d) ((R (a + d)).lo + i) m) = A := by
        unfold mixL
        rw [if_neg hne]
      rw [hmx]
      refine ⟨fun j s l hj hs hl => ?_, h2⟩
      by_cases e : j = i
      · subst e
        have := p1 s hs
        exact absurd ⟨by unfold Rng.has at this; omega, by unfold Rng.has at hl; omega⟩ hne
      · exact h1 j s l (by omega) hs hl

theorem loss_sem (f : TalFine t) {G : Nat} (hG : G ≤ 5) (hR : RSm R G) : ∀ d, a + d < G → ∀ k, k < wid (R (a + d)) →
    (∀ s, Sum t R a d ((R (a + d)).lo + k) s → (lossL t R a d k).has s) ∧ ((lossL t R a d k).lo ≤ (lossL t R a d k).hi → Sum t R a d ((R (a + d)).lo + k) (lossL t R a d k).lo ∧ Sum t R a d ((R (a + d)).lo + k) (lossL t R a d k).hi)
  | 0, hd, k, hk => by
    have h1 := hR a (by omega)
    refine ⟨fun s hs => ?_, fun _ => ?_⟩
    · rw [hs.zero]
      exact ⟨Int.le_refl _, Int.le_refl _⟩
    · have : (R a).has ((R a).lo + k) := by
        have hk' : k < wid (R a) := hk
        unfold wid at hk'
        unfold Rng.has
        omega
      exact ⟨.base this, .base this⟩
  | d + 1, hd, k, hk => by
    have ih := loss_sem f hG hR d (by omega)
    have h1 := hR (a + d + 1) (by omega)
    have h0 := hR (a + d) (by omega)
    have hm : (R (a + d + 1)).has ((R (a + d + 1)).lo + k) := by
      have hk' : k < wid (R (a + d + 1)) := hk
      unfold wid at hk'
      unfold Rng.has
      omega
    obtain ⟨c1, c2⟩ := acc_sem (m := (R (a + d + 1)).lo + k) f (by omega) hm rfl ih _ (Nat.le_refl _)
    refine ⟨fun s hs => ?_, fun hne => ?_⟩
    · cases hs with
      | @step _ n _ s l hs1 _ hl =>
        have hn := hs1.at
        have e : (R (a + d)).lo + ((n - (R (a + d)).lo).toNat : Nat) = n := by
          unfold Rng.has at hn
          omega
        refine c1 (n - (R (a + d)).lo).toNat s l ?_ ?_ ?_
        · unfold wid
          unfold Rng.has at hn
          omega
        · rw [e]
          exact hs1
        · rw [e]
          exact hl
    · rcases c2 with c2 | ⟨_, c3, c4⟩
      · exfalso
        have e : lossL t R a (d + 1) k = ⟨1048576, -1⟩ := c2
        rw [e] at hne
        simp at hne
      · exact ⟨c3, c4⟩

theorem hull_has {f : Nat → Rng} : ∀ n i, i < n → (hullL f n).lo ≤ (f i).lo ∧ (f i).hi ≤ (hullL f n).hi
  | n + 1, i, hi => by
    show min (hullL f n).lo (f n).lo ≤ _ ∧ _ ≤ max (hullL f n).hi (f n).hi
    by_cases e : i = n
    · subst e
      omega
    · have := hull_has (f := f) n i (by omega)
      omega
theorem hull_ex {f : Nat → Rng} : ∀ n, 0 < n → (∃ i, i < n ∧ (hullL f n).lo = (f i).lo) ∧ (∃ i, i < n ∧ (hullL f n).hi = (f i).hi)
  | 1, _ => by
    show (∃ i, i < 1 ∧ min (f 0).lo (f 0).lo = (f i).lo) ∧ (∃ i, i < 1 ∧ max (f 0).hi (f 0).hi = (f i).hi)
    exact ⟨⟨0, by omega, by omega⟩, ⟨0, by omega, by omega⟩⟩
  | n + 2, _ => by
    obtain ⟨⟨i, hi, e1⟩, ⟨j, hj, e2⟩⟩ := hull_ex (f := f) (n + 1) (by omega)
    show (∃ i, i < n + 2 ∧ min (hullL f (n + 1)).lo (f (n + 1)).lo = (f i).lo) ∧ (∃ i, i < n + 2 ∧ max (hullL f (n + 1)).hi (f (n + 1)).hi = (f i).hi)
    refine ⟨?_, ?_⟩
    · rcases Int.le_total (hullL f (n + 1)).lo (f (n + 1)).lo with x | x
      · exact ⟨i, by omega, by rw [Int.min_eq_left x, e1]⟩
      · exact ⟨n + 1, by omega, by rw [Int.min_eq_right x]⟩
    · rcases Int.le_total (hullL f (n + 1)).hi (f (n + 1)).hi with x | x
      · exact ⟨n + 1, by omega, by rw [Int.max_eq_right x]⟩
      · exact ⟨j, by omega, by rw [Int.max_eq_left x, e2]⟩

theorem lost_sem (f : TalFine t) {G b : Nat} (hG : G ≤ 5) (hR : RSm R G) (hab : a ≤ b) (hb : b < G) (hall : ∀ m, (R b).has m → ∃ s, Sum t R a (b - a) m s) :
    (∀ m s, Sum t R a (b - a) m s → (lostR t R a b).has s) ∧ (∃ m, Sum t R a (b - a) m (lostR t R a b).lo) ∧ (∃ m, Sum t R a (b - a) m (lostR t R a b).hi) := by
  have hd : a + (b - a) = b := by omega
  have ls := loss_sem f hG hR (b - a) (a := a) (by omega)
  rw [hd] at ls
  have hwb := hR b hb
  have hw : 0 < wid (R b) := by unfold wid; omega
  have ne : ∀ k, k < wid (R b) → (lossL t R a (b - a) k).lo ≤ (lossL t R a (b - a) k).hi := fun k hk => by
    obtain ⟨s, hs⟩ := hall ((R b).lo + k) (by unfold Rng.has; unfold wid at hk; omega)
    have := (ls k hk).1 s hs
    unfold Rng.has at this
    omega
  refine ⟨fun m s hs => ?_, ?_, ?_⟩
  · have hm := hs.at
    rw [hd] at hm
    have e : (R b).lo + ((m - (R b).lo).toNat : Nat) = m := by
      unfold Rng.has at hm
      omega
    have hk : (m - (R b).lo).toNat < wid (R b) := by
      unfold wid
      unfold Rng.has at hm
      omega
    have h1 := (ls _ hk).1 s (by rw [e]; exact hs)
    have h2 := hull_has (f := lossL t R a (b - a)) _ _ hk
    unfold lostR
    unfold Rng.has at *
    omega
  · obtain ⟨⟨i, hi, e⟩, _⟩ := hull_ex (f := lossL t R a (b - a)) _ hw
    refine ⟨(R b).lo + i, ?_⟩
    unfold lostR
    rw [e]
    exact ((ls i hi).2 (ne i hi)).1
  · obtain ⟨_, ⟨i, hi, e⟩⟩ := hull_ex (f := lossL t R a (b - a)) _ hw
    refine ⟨(R b).lo + i, ?_⟩
    unfold lostR
    rw [e]
    exact ((ls i hi).2 (ne i hi)).2
end
end Go.Proofs.Ytdgpacdknpahnaa

namespace Go.Proofs.Ytdgpacdknpahnaa
open Go.Conc Go.Proofs.Try
set_option maxRecDepth 100000
section
variable {main : Bool} {J : JT} {h h0 H : List AObj} {K : Value → List AObj → Prop} {KV : Value → Prop} {n0 : Nat}
theorem ret_agg2 {rs : List ResultVar} {f : RG} {n t p x y : Nat} {c : List Value} {wr : Bool} {sz : Nat} {v : Value} (ds : f.ds = []) (ok : heapOk h) (hn : n0 ≤ h.length) (hrs : rs = [.cell x t, .tmp y]) (ht : tk prog t = some (true, n)) (S : SameX [] h H) (hr : f.r x = ptr p 0) (hb : H[p]? = some (.cells c wr sz)) (hl : c.length = n) (hkn : kn c = true)
    (hy : f.r y = v) (hu : v ≠ unk) (h1 : VOk h.length (.agg ⟨c⟩)) (h2 : VOk h.length v) (hk : K (.tuple ⟨[.agg ⟨c⟩, v]⟩) h) : RetQ prog rs n0 K .ret f H := by
  subst hrs
  obtain ⟨g, rfl⟩ := S.app0 (by simp)
  refine retQ_drop ds ok hn (resW_cell (gg := true) (s := n) ht ?_)
  rw [hr]
  refine load_part (c := c) hb (by omega) (by rw [List.drop_zero, List.take_of_length_le (by omega)]) hkn (resW_tmp (by rw [hy]; exact hu) (resW_nil ?_))
  rw [hy]
  refine ⟨?_, hk⟩
  simp only [pack, VOk, AOk, LOk] at h1 ⊢
  exact ⟨h1, h2, trivial⟩

theorem good31 (hJ : Closed prog main J) {v cv nv : Value} {t : Tal} {a b : Int} (ht : TalAt h v t cv nv)
    (k1 : talErr t ≠ 0 → K (.tuple ⟨[.agg ⟨[vint 0, vint 0]⟩, vint (talErr t)]⟩) h) (k2 : talErr t = 0 → ¬ ((0 ≤ a ∧ a ≤ t.gates - 1) ∧ (0 ≤ b ∧ b ≤ t.gates - 1)) → K (.tuple ⟨[.agg ⟨[vint 0, vint 0]⟩, vint 3]⟩) h)
    (k3 : talErr t = 0 → (0 ≤ a ∧ a ≤ t.gates - 1) → (0 ≤ b ∧ b ≤ t.gates - 1) → a ≥ b → K (.tuple ⟨[.agg ⟨[vint 0, vint 0]⟩, vint 5]⟩) h)
    (k4 : talErr t = 0 → (0 ≤ a ∧ a ≤ t.gates - 1) → (0 ≤ b ∧ b ≤ t.gates - 1) → a < b → ¬ TruthIs t (limA t 0) → K (.tuple ⟨[.agg ⟨[vint 0, vint 0]⟩, vint 11]⟩) h)
    (k5 : talErr t = 0 → (0 ≤ a ∧ a ≤ t.gates - 1) → (0 ≤ b ∧ b ≤ t.gates - 1) → a < b → TruthIs t (limA t 0) → K (.tuple ⟨[(lostR t (bkR t (limA t 0)) a.toNat b.toNat).val, vint 0]⟩) h) : Good prog J 31 [v, vint a, vint b] h K := by
  refine g31 hJ fun ok => ?_
  rw [e31, ht.val]
  have kc : kn1 cv = true ∧ kn1 nv = true := ⟨(sli_one ht.ch).2.2, (sli_one ht.co).2.2⟩
  refine qBox (tal_one ht) fun H1 p1 e1 S1 b1 l1 => qAl fun H2 p2 e2 S2 b2 l2 => ?_
  have b1' := S2.get b1 (by simp)
  have S12 := S1.trans S2
  refine load_part (c := talCells t cv nv) b1' (by rw [cs_val]; omega) rfl (tal_kn kc.1 kc.2) ?_
  have t2 : TalAt H2 (.agg ⟨talCells t cv nv⟩) t cv nv := ⟨rfl, S12.sli ht.ch (by simp), S12.sli ht.co (by simp)⟩
  refine good71 hJ t2 fun H3 bw bm S3 a1 a2 a3 w hm => ext0 (ext1 ?_)
  have S13 : SameX [] h H3 := S12.trans S3
  have b3 := S3.get b2 (by simp)
  have b13 := S3.get b1' (by simp)
  -- an error
  have err : ∀ (e : Int) (H : List AObj) (F : RG), SameX [] H3 H → F.ds = [] → F.r 6 = ptr p2 0 → F.r 7 = vint e → K (.tuple ⟨[.agg ⟨[vint 0, vint 0]⟩, vint e]⟩) h →
      ∀ F' : Value → RG, (∀ c, (F' c).ds = [] ∧ (F' c).r 6 = ptr p2 0 ∧ (F' c).r 7 = vint e) → aFill [vint 0, vint 0] [] fun c11 => aStore 2 (ptr p2 0) (.agg ⟨c11⟩) H fun h12 => RetQ prog [.cell 6 38, .tmp 7] h.length K .ret (F' (.agg ⟨c11⟩)) h12 := by
    intro e H F S _ _ _ hk F' hF
    refine fillI (qStA (S.get b3 (by simp)) rfl rfl rfl fun H4 S4 c4 l4 => ?_)
    exact ret_agg2 (hF _).1 ok (Nat.le_refl _) rfl (by kernel_rfl) ((S13.trans S).thru S4 (by simp; have := S12.1; omega)) (hF _).2.1 c4 rfl rfl (hF _).2.2 (by simp [unk]) (by simp [VOk, AOk, LOk]) (by simp [VOk]) hk
  have z : RG := ⟨fun _ => unk, []⟩
  refine neqI (cndI (fun hne => ?_) fun heq => ?_)
  · exact err (talErr t) H3 ⟨fun i => if i = 6 then ptr p2 0 else vint (talErr t), []⟩ SameX.refl rfl rfl rfl (k1 hne) (fun x => _) fun x => ⟨rfl, rfl, rfl⟩
  have h0 : talErr t = 0 := by omega
  have fine := talErr_fine h0
  have hg := fine.gates
  -- the rest
  have rest : (0 ≤ a ∧ a ≤ t.gates - 1) → (0 ≤ b ∧ b ≤ t.gates - 1) → a < b → ∀ F1 F2 : Value → Value → Value → Value → Value → RG, (∀ x1 x2 x3 x4 x5, (F1 x1 x2 x3 x4 x5).ds = [] ∧ (F1 x1 x2 x3 x4 x5).r 6 = ptr p2 0 ∧ (F1 x1 x2 x3 x4 x5).r 7 = vint 11) → (∀ x1 x2 x3 x4 x5, (F2 x1 x2 x3 x4 x5).ds = [] ∧ (F2 x1 x2 x3 x4 x5).r 6 = ptr p2 0 ∧ (F2 x1 x2 x3 x4 x5).r 7 = vint 0) →
      Good prog J 72 [ptr bw 0] H3 fun v24 h25 => aExt v24 0 fun v26 => aExt v24 1 fun v27 => aUn .not v27 fun v28 => cnd v28 (aFill [vint 0, vint 0] [] fun c29 => aStore 2 (ptr p2 0) (.agg ⟨c29⟩) h25 fun h30 => RetQ prog [.cell 6 38, .tmp 7] h.length K .ret (F1 v24 v26 v27 v28 (.agg ⟨c29⟩)) h30)
        (Good prog J 73 [ptr bw 0, v26, vint a, vint b] h25 fun v31 h32 => aStore 2 (ptr p2 0) v31 h32 fun h33 => RetQ prog [.cell 6 38, .tmp 7] h.length K .ret (F2 v24 v26 v27 v28 v31) h33) := by
    intro ha hb hab F1 F2 hF1 hF2
    refine good72 hJ w a1 a2 a3 fine hm metOk_nil (fun hf H4 S4 => ext0 (ext1 (notI (cnd_true.2 ?_)))) (fun hT H4 po es' S4 h1 w4 hm4 met4 c4 => ext0 (ext1 (notI (cnd_false.2 ?_))))
    · have S24 : SameX [] h H4 := S13.thru S4 (by simp; have := S12.1; omega)
      refine fillI (qStA (S4.get b3 (by simp; omega)) rfl rfl rfl fun H5 S5 c5 l5 => ?_)
      exact ret_agg2 (hF1 _ _ _ _ _).1 ok (Nat.le_refl _) rfl (by kernel_rfl) (S24.thru S5 (by simp; have := S12.1; omega)) (hF1 _ _ _ _ _).2.1 c5 rfl rfl (hF1 _ _ _ _ _).2.2 (by simp [unk]) (by simp [VOk, AOk, LOk]) (by simp [VOk]) (k4 h0 ha hb hab hf)
    · have S24 : SameX [] h H4 := S13.thru S4 (by simp; have := S12.1; omega)
      obtain ⟨a', rfl⟩ : ∃ a' : Nat, a = a' := ⟨a.toNat, by omega⟩
      obtain ⟨b', rfl⟩ : ∃ b' : Nat, b = b' := ⟨b.toNat, by omega⟩
      refine good73 hJ w4 c4 fine (bk_rsm fine hT) (by omega) (by omega) ?_
      refine qStA (c := (lostR t (bkR t (limA t 0)) a' b').cells) (S4.get b3 (by simp; omega)) rfl rfl rfl fun H5 S5 c5 l5 => ?_
      have := k5 h0 ha hb hab hT
      rw [Int.toNat_natCast, Int.toNat_natCast] at this
      exact ret_agg2 (hF2 _ _ _ _ _).1 ok (Nat.le_refl _) rfl (by kernel_rfl) (S24.thru S5 (by simp; have := S12.1; omega)) (hF2 _ _ _ _ _).2.1 c5 rfl rfl (hF2 _ _ _ _ _).2.2 (by simp [unk]) (by simp [VOk, AOk, LOk, Rng.cells]) (by simp [VOk]) this
  refine offI (ldI (v := vint t.gates) b13 rfl rfl (subI (by omega) (good67 hJ (notI (cndN (fun hn => ?_) fun hin => ?_)))))
  · refine cnd_true.2 ?_
    exact err 3 H3 ⟨fun i => if i = 6 then ptr p2 0 else vint 3, []⟩ SameX.refl rfl rfl rfl (k2 h0 (fun x => hn x.1)) (fun x => _) fun x => ⟨rfl, rfl, rfl⟩
  · refine offI (ldI (v := vint t.gates) b13 rfl rfl (subI (by omega) (good67 hJ (notI (cndN (fun hn => ?_) fun hin2 => ?_)))))
    · exact err 3 H3 ⟨fun i => if i = 6 then ptr p2 0 else vint 3, []⟩ SameX.refl rfl rfl rfl (k2 h0 (fun x => hn x.2)) (fun x => _) fun x => ⟨rfl, rfl, rfl⟩
    · refine geqI (cndI (fun hge => ?_) fun hlt => ?_)
      · exact err 5 H3 ⟨fun i => if i = 6 then ptr p2 0 else vint 5, []⟩ SameX.refl rfl rfl rfl (k3 h0 hin hin2 hge) (fun x => _) fun x => ⟨rfl, rfl, rfl⟩
      · exact rest hin hin2 (by omega) (fun v24 v26 v27 v28 c => _) (fun v24 v26 v27 v28 v31 => _) (fun _ _ _ _ _ => ⟨rfl, rfl, rfl⟩) fun _ _ _ _ _ => ⟨rfl, rfl, rfl⟩

theorem fldI {c : List Value} {o s : Nat} {x : Value} (hx : c[o]? = some x) (hk : KV x) : aField false s o (.agg ⟨c⟩) KV := by
  unfold aField
  simp only [cond_false]
  rw [hx]
  exact hk

theorem good41 (hJ : Closed prog main J) {v cv nv : Value} {t : Tal} {many : Int} (ht : TalAt h v t cv nv)
    (k1 : talErr t ≠ 0 → K (.tuple ⟨[vint 0, vint (talErr t)]⟩) h) (k2 : talErr t = 0 → many < 0 → K (.tuple ⟨[vint 0, vint 1]⟩) h) (k3 : talErr t = 0 → 0 ≤ many → ¬ TruthIs t (limA t 0) → K (.tuple ⟨[vint 0, vint 11]⟩) h)
    (k4 : talErr t = 0 → 0 ≤ many → TruthIs t (limA t 0) → ∀ g, g < t.gates.toNat → (∀ j, j < g → (lostR t (bkR t (limA t 0)) 0 j).lo < many) → many ≤ (lostR t (bkR t (limA t 0)) 0 g).lo → K (.tuple ⟨[vint (g : Nat), vint 0]⟩) h)
    (k5 : talErr t = 0 → 0 ≤ many → TruthIs t (limA t 0) → (∀ j, j < t.gates.toNat → (lostR t (bkR t (limA t 0)) 0 j).lo < many) → K (.tuple ⟨[vint 0, vint 11]⟩) h) : Good prog J 41 [v, vint many] h K := by
  refine g41 hJ fun ok => ?_
  rw [e41, ht.val]
  have kc : kn1 cv = true ∧ kn1 nv = true := ⟨(sli_one ht.ch).2.2, (sli_one ht.co).2.2⟩
  refine qBox (tal_one ht) fun H1 p1 e1 S1 b1 l1 => ?_
  refine load_part (c := talCells t cv nv) b1 (by rw [cs_val]; omega) rfl (tal_kn kc.1 kc.2) ?_
  have t1 : TalAt H1 (.agg ⟨talCells t cv nv⟩) t cv nv := ⟨rfl, S1.sli ht.ch (by simp), S1.sli ht.co (by simp)⟩
  refine good71 hJ t1 fun H2 bw bm S2 a1 a2 a3 w hm => ext0 (ext1 ?_)
  have S12 := S1.trans S2
  have fin : ∀ (x y : Int) (H : List AObj), SameX [] h H → K (.tuple ⟨[vint x, vint y]⟩) h → retL h.length K [] [vint x, vint y] H := fun x y H S hk =>
    retX ok (Nat.le_refl _) S (by simp) (by simp [unk]) (by simp [pack, VOk, AOk, LOk]) hk
  refine neqI (cndI (fun hne => fin _ _ _ S12 (k1 hne)) fun heq => ?_)
  have h0 : talErr t = 0 := by omega
  have fine := talErr_fine h0
  have hg := fine.gates
  refine lssI (cndI (fun hn => fin _ _ _ S12 (k2 h0 hn)) fun hn => ?_)
  refine good72 hJ w a1 a2 a3 fine hm metOk_nil (fun hf H3 S3 => ext0 (ext1 (cnd_false.2 ?_))) (fun hT H3 po es' S3 h1 w3 hm3 met3 c3 => ext0 (ext1 (cnd_true.2 ?_)))
  · exact fin _ _ _ (S12.thru S3 (by simp; omega)) (k3 h0 (by omega) hf)
  have SA : SameX [] h H3 := S12.thru S3 (by simp; omega)
  have b13 := S3.get (S2.get b1 (by simp)) (by simp; omega)
  have hR := bk_rsm fine hT
  refine offI (ldI (v := vint t.gates) b13 rfl rfl ?_)
  refine l41_1 hJ (fun i : Nat => t.gates.toNat - i) (fun i f H => H = H3 ∧ i ≤ t.gates.toNat ∧ (∀ j, j < i → (lostR t (bkR t (limA t 0)) 0 j).lo < many) ∧ f.ds = [] ∧ f.r 1 = vint many ∧ f.r 6 = ptr bw 0 ∧ f.r 8 = .slice (some ⟨po, 0, none⟩) t.gates.toNat t.gates.toNat ∧ f.r 28 = vint t.gates ∧ f.r 29 = vint (i : Nat)) ?_ (s := 0)
    (.inl ⟨rfl, by omega, by simp, rfl, rfl, rfl, rfl, rfl, rfl⟩)
  rintro i f H ⟨rfl, hi, hlo, hds, r1, r6, r8, r28, r29⟩ ok' hn'
  rw [s41_1]
  simp only [r1, r6, r8, r28, r29, hds]
  refine lssI (cndI (fun hlt => ?_) fun hge => fin _ _ _ SA (k5 h0 (by omega) hT fun j hj => hlo j (by omega)))
  refine good73 hJ (a := 0) (b := i) w3 c3 fine hR (by omega) (by omega) ?_
  refine fldI (x := vint (lostR t (bkR t (limA t 0)) 0 i).lo) rfl (geqI (cndI (fun hge => ?_) fun hlt2 => addI (by omega) ?_))
  · have : ((i : Nat) : Int) = i := rfl
    exact fin i 0 _ SA (k4 h0 (by omega) hT i (by omega) hlo hge)
  · refine ⟨i + 1, by dsimp only; omega, .inl ⟨rfl, by omega, fun j hj => ?_, hds, r1, r6, r8, r28, rfl⟩⟩
    by_cases e : j = i
    · subst e
      omega
    · exact hlo j (by omega)

def dbt (R : Nat → Rng) : Nat → Nat × Int
  | 0 => (0, -1)
  | g + 1 => if (R g).hi - (R g).lo > (dbt R g).2 then (g, (R g).hi - (R g).lo) else dbt R g

theorem good55 (hJ : Closed prog main J) {v cv nv : Value} {t : Tal} (ht : TalAt h v t cv nv)
    (k1 : talErr t ≠ 0 → K (.tuple ⟨[vint 0, vint 0, vint (talErr t)]⟩) h) (k2 : talErr t = 0 → ¬ TruthIs t (limA t 0) → K (.tuple ⟨[vint 0, vint 0, vint 11]⟩) h)
    (k3 : talErr t = 0 → TruthIs t (limA t 0) → K (.tuple ⟨[vint ((dbt (bkR t (limA t 0)) t.gates.toNat).1 : Nat), vint (dbt (bkR t (limA t 0)) t.gates.toNat).2, vint 0]⟩) h) : Good prog J 55 [v] h K := by
  refine g55 hJ fun ok => ?_
  rw [e55, ht.val]
  have kc : kn1 cv = true ∧ kn1 nv = true := ⟨(sli_one ht.ch).2.2, (sli_one ht.co).2.2⟩
  refine qBox (tal_one ht) fun H1 p1 e1 S1 b1 l1 => ?_
  refine load_part (c := talCells t cv nv) b1 (by rw [cs_val]; omega) rfl (tal_kn kc.1 kc.2) ?_
  have t1 : TalAt H1 (.agg ⟨talCells t cv nv⟩) t cv nv := ⟨rfl, S1.sli ht.ch (by simp), S1.sli ht.co (by simp)⟩
  refine good71 hJ t1 fun H2 bw bm S2 a1 a2 a3 w hm => ext0 (ext1 ?_)
  have S12 := S1.trans S2
  have fin : ∀ (x y z : Int) (H : List AObj), SameX [] h H → K (.tuple ⟨[vint x, vint y, vint z]⟩) h → retL h.length K [] [vint x, vint y, vint z] H := fun x y z H S hk =>
    retX ok (Nat.le_refl _) S (by simp) (by simp [unk]) (by simp [pack, VOk, AOk, LOk]) hk
  refine neqI (cndI (fun hne => fin _ _ _ _ S12 (k1 hne)) fun heq => ?_)
  have h0 : talErr t = 0 := by omega
  have fine := talErr_fine h0
  have hg := fine.gates
  refine good72 hJ w a1 a2 a3 fine hm metOk_nil (fun hf H3 S3 => ext0 (ext1 (notI (cnd_true.2 ?_)))) (fun hT H3 po es' S3 h1 w3 hm3 met3 c3 => ext0 (ext1 (notI (cnd_false.2 ?_))))
  · exact fin _ _ _ _ (S12.thru S3 (by simp; omega)) (k2 h0 hf)
  have SA : SameX [] h H3 := S12.thru S3 (by simp; omega)
  have hR := bk_rsm fine hT
  rw [lenS]
  have hSA := SA.1
  refine l55_1 hJ (fun i : Nat => t.gates.toNat - i) (fun i f H => SameX [] H3 H ∧ i ≤ t.gates.toNat ∧ f.ds = [] ∧ f.r 9 = vint ((dbt (bkR t (limA t 0)) i).1 : Nat) ∧ f.r 10 = vint (dbt (bkR t (limA t 0)) i).2 ∧ f.r 29 = .slice (some ⟨po, 0, none⟩) t.gates.toNat t.gates.toNat ∧ f.r 30 = vint t.gates.toNat ∧ f.r 31 = vint (i : Nat)) ?_ (s := 0)
    (.inl ⟨SameX.refl, by omega, rfl, rfl, rfl, rfl, rfl, rfl⟩)
  rintro i f H ⟨S, hi, hds, r9, r10, r29, r30, r31⟩ ok' hn'
  rw [s55_1]
  simp only [r9, r10, r29, r30, r31, hds]
  refine lssI (cndI (fun hlt => ?_) fun hge => ?_)
  · have hri := hR i (by omega)
    refine idxI ⟨by omega, by omega⟩ ?_
    rw [Int.toNat_natCast, Nat.zero_add]
    refine load_part (c := (bkR t (limA t 0) i).cells) (S.get c3 (by simp)) (by rw [rngsC_len]; omega) (rngsC_get _ (by omega)) rfl ?_
    refine qAl fun H4 p4 e4 S4 c4 l4 => qStA (c := (bkR t (limA t 0) i).cells) c4 rfl rfl rfl fun H5 S5 c5 l5 => ?_
    have S35 : SameX [] H3 H5 := (S.trans S4).thru S5 (by simp; have := S.1; omega)
    refine offI (ldI (v := vint (bkR t (limA t 0) i).hi) c5 rfl rfl (offI (ldI (v := vint (bkR t (limA t 0) i).lo) c5 rfl rfl (subI (by omega) (gtrI (cndI (fun hgt => addI (by omega) ?_) fun hle => addI (by omega) ?_))))))
    · refine ⟨i + 1, by dsimp only; omega, .inl ⟨S35, by omega, hds, ?_, ?_, r29, r30, rfl⟩⟩
      · show vint (i : Nat) = _
        rw [dbt, if_pos hgt]
      · show vint _ = _
        rw [dbt, if_pos hgt]
    · refine ⟨i + 1, by dsimp only; omega, .inl ⟨S35, by omega, hds, ?_, ?_, r29, r30, rfl⟩⟩
      · show f.r 9 = _
        rw [r9, dbt, if_neg hle]
      · show f.r 10 = _
        rw [r10, dbt, if_neg hle]
  · have : i = t.gates.toNat := by omega
    subst this
    exact fin _ _ _ _ (SA.trans S) (k3 h0 hT)

end
end Go.Proofs.Ytdgpacdknpahnaa

namespace Go.Proofs.Ytdgpacdknpahnaa
open Go.Conc Go.Proofs.Try
set_option maxRecDepth 100000
section
variable {t : Tal} {L : Nat → Rng}
theorem own_ok (f : TalFine t) {g : Nat} (hg : g < t.changes.length) {n m : Int} : (stretchR t g).has (m - n) ↔ (ownL t g n m).lo ≤ (ownL t g n m).hi := by
  have h1 := f.most
  have h2 := f.ch _ (List.getElem_mem hg)
  unfold stretchR ownL Rng.has Rng.plus
  rw [List.getElem?_eq_getElem hg]
  dsimp only [Option.getD]
  omega

theorem conn (f : TalFine t) (hT : TruthIs t L) {a : Nat} : ∀ d, a + d < t.gates.toNat → ∀ m, (bkR t L (a + d)).has m → ∃ s, Sum t (bkR t L) a d m s
  | 0, _, m, hm => ⟨0, .base hm⟩
  | d + 1, hd, m, hm => by
    have hch := f.chl
    obtain ⟨n, h1, h2⟩ := bk_prev f hT (g := a + d) (by omega) hm
    obtain ⟨s, hs⟩ := conn f hT d (by omega) n h1
    have h3 := (own_ok f (by omega)).1 h2
    exact ⟨s + (ownL t (a + d) n m).lo, .step hs hm ⟨Int.le_refl _, h3⟩⟩

theorem Sum.up (f : TalFine t) (hT : TruthIs t L) {a d : Nat} {m s : Int} (h : Sum t (bkR t L) a d m s) : ∀ e, a + d + e < t.gates.toNat → ∃ m' s', Sum t (bkR t L) a (d + e) m' s' ∧ s ≤ s'
  | 0, _ => ⟨m, s, h, Int.le_refl _⟩
  | e + 1, he => by
    have hch := f.chl
    obtain ⟨m', s', h1, h2⟩ := h.up f hT e (by omega)
    obtain ⟨n, h3, h4⟩ := bk_next f hT (g := a + (d + e)) (by omega) h1.at
    have h5 := (own_ok f (by omega)).1 h4
    have h6 : (ownL t (a + (d + e)) m' n).has (ownL t (a + (d + e)) m' n).lo := ⟨Int.le_refl _, h5⟩
    have := own_bd h6
    exact ⟨n, s' + (ownL t (a + (d + e)) m' n).lo, .step h1 h3 h6, by omega⟩

theorem Sum.split {R : Nat → Rng} {a d1 : Nat} : ∀ {d2 : Nat} {m s : Int}, Sum t R a (d1 + d2) m s → ∃ n s1 s2, Sum t R a d1 n s1 ∧ Sum t R (a + d1) d2 m s2 ∧ s = s1 + s2
  | 0, m, s, h => ⟨m, s, 0, h, .base h.at, by omega⟩
  | d2 + 1, m, s, h => by
    cases h with
    | @step _ n _ s l h1 h2 h3 =>
      obtain ⟨n', s1, s2, a1, a2, a3⟩ := Sum.split h1
      refine ⟨n', s1, s2 + l, a1, .step a2 ?_ ?_, by omega⟩
      · rw [show a + d1 + d2 + 1 = a + (d1 + d2) + 1 from by omega]
        exact h2
      · rw [show a + d1 + d2 = a + (d1 + d2) from by omega]
        exact h3

theorem lost_all (f : TalFine t) (hT : TruthIs t (limA t 0)) {a b : Nat} (hab : a ≤ b) (hb : b < t.gates.toNat) :
    (∀ m s, Sum t (bkR t (limA t 0)) a (b - a) m s → (lostR t (bkR t (limA t 0)) a b).has s) ∧ (∃ m, Sum t (bkR t (limA t 0)) a (b - a) m (lostR t (bkR t (limA t 0)) a b).lo) ∧ (∃ m, Sum t (bkR t (limA t 0)) a (b - a) m (lostR t (bkR t (limA t 0)) a b).hi) := by
  have hg := f.gates
  refine lost_sem f (G := t.gates.toNat) (by omega) (bk_rsm f hT) hab hb fun m hm => conn f hT (b - a) (by omega) m ?_
  rw [show a + (b - a) = b from by omega]
  exact hm

end
end Go.Proofs.Ytdgpacdknpahnaa

namespace Go.Proofs.Ytdgpacdknpahnaa
open Go.Conc Go.Proofs.Try
set_option maxRecDepth 100000
set_option maxHeartbeats 4000000
set_option linter.unusedVariables false
section
variable {main : Bool} {J : JT} {n0 : Nat} {h : List AObj} {K : Value → List AObj → Prop}
theorem at85 : prog.funcs[85]? = some f85 := by kernel_rfl
theorem body85 : f85.body = some (codeOf f85) := by kernel_rfl
theorem e85 {a0 a1 : Value} : W prog J 25 h.length 85 (codeOf f85) (RG.mk (regs [a0, a1]) []) h (RetQ prog [.tmp 4] h.length K) =
(aBox a0 h fun v1 h2 =>
aOff v1 2 fun v3 =>
aLoad false 1 v3 h2 fun v4 =>
aBin prog .sub 3 v4 a1 fun v5 =>
aBin prog .lss 3 v5 (vint 0) fun v6 =>
cnd v6
(aUn .neg v5 fun v7 =>
aBin prog .geq 3 a1 (vint 0) fun v8 =>
cnd v8
(aBin prog .mul 3 (vint 100) v7 fun v9 =>
aOff v1 3 fun v10 =>
aLoad false 1 v10 h2 fun v11 =>
aBin prog .mul 3 v11 a1 fun v12 =>
aBin prog .leq 3 v9 v12 fun v13 =>
retL h.length K [] [v13] h2)
(retL h.length K [] [(Value.bool false)] h2))
(aBin prog .geq 3 a1 (vint 0) fun v14 =>
cnd v14
(aBin prog .mul 3 (vint 100) v5 fun v15 =>
aOff v1 3 fun v16 =>
aLoad false 1 v16 h2 fun v17 =>
aBin prog .mul 3 v17 a1 fun v18 =>
aBin prog .leq 3 v15 v18 fun v19 =>
retL h.length K [] [v19] h2)
(retL h.length K [] [(Value.bool false)] h2))) := by kernel_rfl
theorem g85 (hJ : Closed prog main J) {a0 a1 : Value} (hs : heapOk h → W prog J 25 h.length 85 (codeOf f85) (RG.mk (regs [a0, a1]) []) h (RetQ prog [.tmp 4] h.length K)) : Good prog J 85 [a0, a1] h K :=
  good_of_W hJ mixed at85 body85 (by kernel_rfl) (Nat.le_of_ble_eq_true rfl) hs
theorem at94 : prog.funcs[94]? = some f94 := by kernel_rfl
theorem body94 : f94.body = some (codeOf f94) := by kernel_rfl
theorem e94 {a0 a1 a2 : Value} : W prog J 33 h.length 94 (codeOf f94) (RG.mk (regs [a0, a1, a2]) []) h (RetQ prog [.tmp 6] h.length K) =
(aBox a0 h fun v1 h2 =>
Sem J 33 h.length 94 (subC [1, 0, 1, 0] (codeOf f94)) (RG.put (RG.put (RG.put (RG.mk (regs [a0, a1, a2]) []) 3 v1) 6 (Value.bool false)) 7 (vint 0)) h2 (contQ prog J 33 h.length 94 [1, 0, 1, 0] (codeOf f94) [] (RetQ prog [.tmp 6] h.length K))) := by kernel_rfl
theorem g94 (hJ : Closed prog main J) {a0 a1 a2 : Value} (hs : heapOk h → W prog J 33 h.length 94 (codeOf f94) (RG.mk (regs [a0, a1, a2]) []) h (RetQ prog [.tmp 6] h.length K)) : Good prog J 94 [a0, a1, a2] h K :=
  good_of_W hJ mixed at94 body94 (by kernel_rfl) (Nat.le_of_ble_eq_true rfl) hs
theorem s94_1 {f : RG} {nx0 : RG → List AObj → Prop} : W prog J 33 n0 94 (subC [1, 0, 1, 0, 0] (codeOf f94)) f h (thenK nx0 (contQ prog J 33 n0 94 [1, 0, 1, 0] (codeOf f94) [] (RetQ prog [.tmp 6] n0 K))) =
(aOff (f.r 3) 5 fun v1 =>
aLoad false 1 v1 h fun v2 =>
aLenS v2 fun v3 =>
aBin prog .lss 3 (f.r 7) v3 fun v4 =>
cnd v4
(aOff (f.r 3) 5 fun v5 =>
aLoad false 1 v5 h fun v6 =>
aIdx 4 v6 (f.r 7) fun v7 =>
aOff v7 0 fun v8 =>
aLoad false 1 v8 h fun v9 =>
aBin prog .eql 3 v9 (f.r 1) fun v10 =>
cnd v10
(aOff (f.r 3) 5 fun v11 =>
aLoad false 1 v11 h fun v12 =>
aIdx 4 v12 (f.r 7) fun v13 =>
aLoad true 4 v13 h fun v14 =>
Good prog J 85 [v14, (f.r 2)] h fun v15 h16 =>
aUn .not v15 fun v17 =>
W prog J 33 n0 94 (subC [1, 0, 1, 0, 0, 1, 0, 0, 1] (codeOf f94)) (RG.put (RG.put (RG.put (RG.put (RG.put (RG.put (RG.put (RG.put (RG.put (RG.put (RG.put (RG.put (RG.put (RG.put (RG.put (RG.put (RG.put (RG.put (RG.put (RG.put (RG.put (RG.put (RG.put (RG.put f 8 (f.r 7)) 9 v1) 10 v2) 11 v3) 12 v4) 15 v5) 16 v6) 17 (f.r 7)) 18 v7) 19 v8) 20 v9) 21 (f.r 1)) 22 v10) 23 v10) 23 (Value.bool true)) 24 v11) 25 v12) 26 (f.r 7)) 27 v13) 28 v14) 29 (f.r 2)) 30 v15) 31 v17) 32 v17) h16 (contQ prog J 33 n0 94 [1, 0, 1, 0, 0, 1, 0, 0, 1] (codeOf f94) [nx0] (RetQ prog [.tmp 6] n0 K)))
(W prog J 33 n0 94 (subC [1, 0, 1, 0, 0, 1, 0, 0, 1] (codeOf f94)) (RG.put (RG.put (RG.put (RG.put (RG.put (RG.put (RG.put (RG.put (RG.put (RG.put (RG.put (RG.put (RG.put (RG.put (RG.put (RG.put (RG.put (RG.put (RG.put (RG.put (RG.put (RG.put (RG.put (RG.put f 8 (f.r 7)) 9 v1) 10 v2) 11 v3) 12 v4) 15 v5) 16 v6) 17 (f.r 7)) 18 v7) 19 v8) 20 v9) 21 (f.r 1)) 22 v10) 23 v10) 23 (Value.bool false)) 24 undef) 25 undef) 26 undef) 27 undef) 28 undef) 29 undef) 30 undef) 31 undef) 32 (Value.bool false)) h (contQ prog J 33 n0 94 [1, 0, 1, 0, 0, 1, 0, 0, 1] (codeOf f94) [nx0] (RetQ prog [.tmp 6] n0 K))))
(retL n0 K f.ds [(Value.bool true)] h)) := by kernel_rfl
theorem l94_1 (hJ : Closed prog main J) {S : Type} (μ : S → Nat) (I : S → RG → List AObj → Prop) (hI : ∀ s f h, I s f h → heapOk h → n0 ≤ h.length → W prog J 33 n0 94 (subC [1, 0, 1, 0, 0] (codeOf f94)) f h (thenK (Nx n0 μ I s) (contQ prog J 33 n0 94 [1, 0, 1, 0] (codeOf f94) [] (RetQ prog [.tmp 6] n0 K))))
  {s : S} {f : RG} (hi : Gets n0 I s f h) : Sem J 33 n0 94 (subC [1, 0, 1, 0] (codeOf f94)) f h (contQ prog J 33 n0 94 [1, 0, 1, 0] (codeOf f94) [] (RetQ prog [.tmp 6] n0 K)) :=
  loop_rule hJ mixed (b := subC [1, 0, 1, 0, 0] (codeOf f94)) (by kernel_rfl) μ I hI hi
theorem s94_2 {f : RG} {nx0 : RG → List AObj → Prop} : W prog J 33 n0 94 (subC [1, 0, 1, 0, 0, 1, 0, 0, 1] (codeOf f94)) f h (contQ prog J 33 n0 94 [1, 0, 1, 0, 0, 1, 0, 0, 1] (codeOf f94) [nx0] (RetQ prog [.tmp 6] n0 K)) =
(cnd (f.r 32)
(retL n0 K f.ds [(Value.bool false)] h)
(aBin prog .add 3 (f.r 7) (vint 1) fun v1 =>
nx0 (RG.put (RG.put (RG.put f 13 (f.r 7)) 14 v1) 7 v1) h)) := by kernel_rfl
theorem at112 : prog.funcs[112]? = some f112 := by kernel_rfl
theorem body112 : f112.body = some (codeOf f112) := by kernel_rfl
theorem e112 {a0 a1 a2 : Value} : W prog J 29 h.length 112 (codeOf f112) (RG.mk (regs [a0, a1, a2]) []) h (RetQ prog [.tmp 6, .tmp 7] h.length K) =
(aBox a0 h fun v1 h2 =>
aOff v1 3 fun v3 =>
aLoad false 1 v3 h2 fun v4 =>
aIdx 2 v4 a1 fun v5 =>
aOff v5 1 fun v6 =>
aLoad false 1 v6 h2 fun v7 =>
aBin prog .sub 3 a2 v7 fun v8 =>
aMax (vint 0) [v8] fun v9 =>
aOff v1 3 fun v10 =>
aLoad false 1 v10 h2 fun v11 =>
aIdx 2 v11 a1 fun v12 =>
aOff v12 0 fun v13 =>
aLoad false 1 v13 h2 fun v14 =>
aBin prog .sub 3 a2 v14 fun v15 =>
aOff v1 4 fun v16 =>
aLoad false 1 v16 h2 fun v17 =>
aBin prog .add 3 v15 v17 fun v18 =>
aMin (vint 540) [v18] fun v19 =>
retL h.length K [] [v9, v19] h2) := by kernel_rfl
theorem g112 (hJ : Closed prog main J) {a0 a1 a2 : Value} (hs : heapOk h → W prog J 29 h.length 112 (codeOf f112) (RG.mk (regs [a0, a1, a2]) []) h (RetQ prog [.tmp 6, .tmp 7] h.length K)) : Good prog J 112 [a0, a1, a2] h K :=
  good_of_W hJ mixed at112 body112 (by kernel_rfl) (Nat.le_of_ble_eq_true rfl) hs
theorem at108 : prog.funcs[108]? = some f108 := by kernel_rfl
theorem body108 : f108.body = some (codeOf f108) := by kernel_rfl
theorem e108 {a0 a1 a2 : Value} : W prog J 29 h.length 108 (codeOf f108) (RG.mk (regs [a0, a1, a2]) []) h (RetQ prog [.tmp 6, .tmp 7] h.length K) =
(aBox a0 h fun v1 h2 =>
aOff v1 3 fun v3 =>
aLoad false 1 v3 h2 fun v4 =>
aIdx 2 v4 a1 fun v5 =>
aOff v5 0 fun v6 =>
aLoad false 1 v6 h2 fun v7 =>
aBin prog .add 3 a2 v7 fun v8 =>
aOff v1 4 fun v9 =>
aLoad false 1 v9 h2 fun v10 =>
aBin prog .sub 3 v8 v10 fun v11 =>
aMax (vint 0) [v11] fun v12 =>
aOff v1 3 fun v13 =>
aLoad false 1 v13 h2 fun v14 =>
aIdx 2 v14 a1 fun v15 =>
aOff v15 1 fun v16 =>
aLoad false 1 v16 h2 fun v17 =>
aBin prog .add 3 a2 v17 fun v18 =>
aMin (vint 540) [v18] fun v19 =>
retL h.length K [] [v12, v19] h2) := by kernel_rfl
theorem g108 (hJ : Closed prog main J) {a0 a1 a2 : Value} (hs : heapOk h → W prog J 29 h.length 108 (codeOf f108) (RG.mk (regs [a0, a1, a2]) []) h (RetQ prog [.tmp 6, .tmp 7] h.length K)) : Good prog J 108 [a0, a1, a2] h K :=
  good_of_W hJ mixed at108 body108 (by kernel_rfl) (Nat.le_of_ble_eq_true rfl) hs
theorem at107 : prog.funcs[107]? = some f107 := by kernel_rfl
theorem body107 : f107.body = some (codeOf f107) := by kernel_rfl
theorem e107 {a0 : Value} : W prog J 77 h.length 107 (codeOf f107) (RG.mk (regs [a0]) []) h (RetQ prog [.tmp 2] h.length K) =
(aBox a0 h fun v1 h2 =>
Sem J 77 h.length 107 (subC [1, 1, 0, 1, 0] (codeOf f107)) (RG.put (RG.put (RG.put (RG.put (RG.mk (regs [a0]) []) 1 v1) 2 (Value.slice none 0 0)) 3 (Value.slice none 0 0)) 4 (vint 0)) h2 (contQ prog J 77 h.length 107 [1, 1, 0, 1, 0] (codeOf f107) [] (RetQ prog [.tmp 2] h.length K))) := by kernel_rfl
theorem g107 (hJ : Closed prog main J) {a0 : Value} (hs : heapOk h → W prog J 77 h.length 107 (codeOf f107) (RG.mk (regs [a0]) []) h (RetQ prog [.tmp 2] h.length K)) : Good prog J 107 [a0] h K :=
  good_of_W hJ mixed at107 body107 (by kernel_rfl) (Nat.le_of_ble_eq_true rfl) hs
theorem s107_1 {f : RG} {nx0 : RG → List AObj → Prop} : W prog J 77 n0 107 (subC [1, 1, 0, 1, 0, 0] (codeOf f107)) f h (thenK nx0 (contQ prog J 77 n0 107 [1, 1, 0, 1, 0] (codeOf f107) [] (RetQ prog [.tmp 2] n0 K))) =
(aOff (f.r 1) 0 fun v1 =>
aLoad false 1 v1 h fun v2 =>
aBin prog .lss 3 (f.r 4) v2 fun v3 =>
cnd v3
(((List.length [(Value.bool false)] = 1 ∧ (1 : Nat) ≤ 1024) ∧ aMkS [(Value.bool false)] (vint 541) (vint 541) h fun v4 h5 =>
Sem J 77 n0 107 (subC [1, 1, 0, 1, 0, 0, 1, 0, 0, 1, 0, 1, 0] (codeOf f107)) (RG.put (RG.put (RG.put (RG.put (RG.put (RG.put (RG.put f 11 (f.r 4)) 12 v1) 13 v2) 14 v3) 17 v4) 5 v4) 6 (vint 0)) h5 (contQ prog J 77 n0 107 [1, 1, 0, 1, 0, 0, 1, 0, 0, 1, 0, 1, 0] (codeOf f107) [nx0] (RetQ prog [.tmp 2] n0 K))))
(retL n0 K f.ds [(f.r 3)] h)) := by kernel_rfl
theorem l107_1 (hJ : Closed prog main J) {S : Type} (μ : S → Nat) (I : S → RG → List AObj → Prop) (hI : ∀ s f h, I s f h → heapOk h → n0 ≤ h.length → W prog J 77 n0 107 (subC [1, 1, 0, 1, 0, 0] (codeOf f107)) f h (thenK (Nx n0 μ I s) (contQ prog J 77 n0 107 [1, 1, 0, 1, 0] (codeOf f107) [] (RetQ prog [.tmp 2] n0 K))))
  {s : S} {f : RG} (hi : Gets n0 I s f h) : Sem J 77 n0 107 (subC [1, 1, 0, 1, 0] (codeOf f107)) f h (contQ prog J 77 n0 107 [1, 1, 0, 1, 0] (codeOf f107) [] (RetQ prog [.tmp 2] n0 K)) :=
  loop_rule hJ mixed (b := subC [1, 1, 0, 1, 0, 0] (codeOf f107)) (by kernel_rfl) μ I hI hi
theorem s107_2 {f : RG} {nx0 nx1 : RG → List AObj → Prop} : W prog J 77 n0 107 (subC [1, 1, 0, 1, 0, 0, 1, 0, 0, 1, 0, 1, 0, 0] (codeOf f107)) f h (thenK nx1 (contQ prog J 77 n0 107 [1, 1, 0, 1, 0, 0, 1, 0, 0, 1, 0, 1, 0] (codeOf f107) [nx0] (RetQ prog [.tmp 2] n0 K))) =
(aBin prog .lss 3 (f.r 6) (vint 541) fun v1 =>
cnd v1
(aBin prog .eql 3 (f.r 4) (vint 0) fun v2 =>
cnd v2
(aOff (f.r 1) 1 fun v3 =>
aOff v3 0 fun v4 =>
aLoad false 1 v4 h fun v5 =>
aOff (f.r 1) 1 fun v6 =>
aOff v6 1 fun v7 =>
aLoad false 1 v7 h fun v8 =>
Good prog J 68 [(f.r 6), v5, v8] h fun v9 h10 =>
aBin prog .gtr 3 (f.r 4) (vint 0) fun v11 =>
cnd v11
(aLoad true 6 (f.r 1) h10 fun v12 =>
aBin prog .sub 3 (f.r 4) (vint 1) fun v13 =>
Good prog J 112 [v12, v13, (f.r 6)] h10 fun v14 h15 =>
aExt v14 0 fun v16 =>
aExt v14 1 fun v17 =>
Sem J 77 n0 107 (subC [1, 1, 0, 1, 0, 0, 1, 0, 0, 1, 0, 1, 0, 0, 1, 0, 0, 1, 0, 1, 0, 1, 1, 0] (codeOf f107)) (RG.put (RG.put (RG.put (RG.put (RG.put (RG.put (RG.put (RG.put (RG.put (RG.put (RG.put (RG.put (RG.put (RG.put (RG.put (RG.put (RG.put (RG.put (RG.put (RG.put (RG.put (RG.put (RG.put (RG.put (RG.put (RG.put (RG.put (RG.put (RG.put (RG.put f 18 (f.r 6)) 19 v1) 22 (f.r 4)) 23 v2) 24 v2) 24 (Value.bool true)) 25 (f.r 6)) 26 v3) 27 v4) 28 v5) 29 v6) 30 v7) 31 v8) 32 v9) 33 v9) 7 v9) 34 (f.r 4)) 35 v11) 37 v12) 38 (f.r 4)) 39 v13) 40 (f.r 6)) 41 v14) 36 v14) 42 v16) 43 v17) 8 v16) 9 v17) 44 v16) 10 v16) h15 (contQ prog J 77 n0 107 [1, 1, 0, 1, 0, 0, 1, 0, 0, 1, 0, 1, 0, 0, 1, 0, 0, 1, 0, 1, 0, 1, 1, 0] (codeOf f107) [nx0, nx1] (RetQ prog [.tmp 2] n0 K)))
(cnd v9
(aLoad true 6 (f.r 1) h10 fun v18 =>
Good prog J 94 [v18, (f.r 4), (f.r 6)] h10 fun v19 h20 =>
aIdx 1 (f.r 5) (f.r 6) fun v21 =>
aStore 1 v21 v19 h20 fun h22 =>
aBin prog .add 3 (f.r 6) (vint 1) fun v23 =>
nx1 (RG.put (RG.put (RG.put (RG.put (RG.put (RG.put (RG.put (RG.put (RG.put (RG.put (RG.put (RG.put (RG.put (RG.put (RG.put (RG.put (RG.put (RG.put (RG.put (RG.put (RG.put (RG.put (RG.put (RG.put (RG.put (RG.put (RG.put (RG.put (RG.put (RG.put (RG.put (RG.put f 18 (f.r 6)) 19 v1) 22 (f.r 4)) 23 v2) 24 v2) 24 (Value.bool true)) 25 (f.r 6)) 26 v3) 27 v4) 28 v5) 29 v6) 30 v7) 31 v8) 32 v9) 33 v9) 7 v9) 34 (f.r 4)) 35 v11) 62 (f.r 5)) 63 (f.r 6)) 64 v9) 65 v9) 65 (Value.bool true)) 66 v18) 67 (f.r 4)) 68 (f.r 6)) 69 v19) 70 v19) 71 v21) 20 (f.r 6)) 21 v23) 6 v23) h22)
(aIdx 1 (f.r 5) (f.r 6) fun v24 =>
aStore 1 v24 (Value.bool false) h10 fun h25 =>
aBin prog .add 3 (f.r 6) (vint 1) fun v26 =>
nx1 (RG.put (RG.put (RG.put (RG.put (RG.put (RG.put (RG.put (RG.put (RG.put (RG.put (RG.put (RG.put (RG.put (RG.put (RG.put (RG.put (RG.put (RG.put (RG.put (RG.put (RG.put (RG.put (RG.put (RG.put (RG.put (RG.put (RG.put (RG.put (RG.put (RG.put (RG.put (RG.put f 18 (f.r 6)) 19 v1) 22 (f.r 4)) 23 v2) 24 v2) 24 (Value.bool true)) 25 (f.r 6)) 26 v3) 27 v4) 28 v5) 29 v6) 30 v7) 31 v8) 32 v9) 33 v9) 7 v9) 34 (f.r 4)) 35 v11) 62 (f.r 5)) 63 (f.r 6)) 64 v9) 65 v9) 65 (Value.bool false)) 66 undef) 67 undef) 68 undef) 69 undef) 70 (Value.bool false)) 71 v24) 20 (f.r 6)) 21 v26) 6 v26) h25)))
(aBin prog .gtr 3 (f.r 4) (vint 0) fun v27 =>
cnd v27
(aLoad true 6 (f.r 1) h fun v28 =>
aBin prog .sub 3 (f.r 4) (vint 1) fun v29 =>
Good prog J 112 [v28, v29, (f.r 6)] h fun v30 h31 =>
aExt v30 0 fun v32 =>
aExt v30 1 fun v33 =>
Sem J 77 n0 107 (subC [1, 1, 0, 1, 0, 0, 1, 0, 0, 1, 0, 1, 0, 0, 1, 0, 0, 1, 0, 1, 0, 1, 1, 0] (codeOf f107)) (RG.put (RG.put (RG.put (RG.put (RG.put (RG.put (RG.put (RG.put (RG.put (RG.put (RG.put (RG.put (RG.put (RG.put (RG.put (RG.put (RG.put (RG.put (RG.put (RG.put (RG.put (RG.put (RG.put (RG.put (RG.put (RG.put (RG.put (RG.put (RG.put (RG.put f 18 (f.r 6)) 19 v1) 22 (f.r 4)) 23 v2) 24 v2) 24 (Value.bool false)) 25 undef) 26 undef) 27 undef) 28 undef) 29 undef) 30 undef) 31 undef) 32 undef) 33 (Value.bool false)) 7 (Value.bool false)) 34 (f.r 4)) 35 v27) 37 v28) 38 (f.r 4)) 39 v29) 40 (f.r 6)) 41 v30) 36 v30) 42 v32) 43 v33) 8 v32) 9 v33) 44 v32) 10 v32) h31 (contQ prog J 77 n0 107 [1, 1, 0, 1, 0, 0, 1, 0, 0, 1, 0, 1, 0, 0, 1, 0, 0, 1, 0, 1, 0, 1, 1, 0] (codeOf f107) [nx0, nx1] (RetQ prog [.tmp 2] n0 K)))
(cnd (Value.bool false)
(aLoad true 6 (f.r 1) h fun v34 =>
Good prog J 94 [v34, (f.r 4), (f.r 6)] h fun v35 h36 =>
aIdx 1 (f.r 5) (f.r 6) fun v37 =>
aStore 1 v37 v35 h36 fun h38 =>
aBin prog .add 3 (f.r 6) (vint 1) fun v39 =>
nx1 (RG.put (RG.put (RG.put (RG.put (RG.put (RG.put (RG.put (RG.put (RG.put (RG.put (RG.put (RG.put (RG.put (RG.put (RG.put (RG.put (RG.put (RG.put (RG.put (RG.put (RG.put (RG.put (RG.put (RG.put (RG.put (RG.put (RG.put (RG.put (RG.put (RG.put (RG.put (RG.put f 18 (f.r 6)) 19 v1) 22 (f.r 4)) 23 v2) 24 v2) 24 (Value.bool false)) 25 undef) 26 undef) 27 undef) 28 undef) 29 undef) 30 undef) 31 undef) 32 undef) 33 (Value.bool false)) 7 (Value.bool false)) 34 (f.r 4)) 35 v27) 62 (f.r 5)) 63 (f.r 6)) 64 (Value.bool false)) 65 (Value.bool false)) 65 (Value.bool true)) 66 v34) 67 (f.r 4)) 68 (f.r 6)) 69 v35) 70 v35) 71 v37) 20 (f.r 6)) 21 v39) 6 v39) h38)
(aIdx 1 (f.r 5) (f.r 6) fun v40 =>
aStore 1 v40 (Value.bool false) h fun h41 =>
aBin prog .add 3 (f.r 6) (vint 1) fun v42 =>
nx1 (RG.put (RG.put (RG.put (RG.put (RG.put (RG.put (RG.put (RG.put (RG.put (RG.put (RG.put (RG.put (RG.put (RG.put (RG.put (RG.put (RG.put (RG.put (RG.put (RG.put (RG.put (RG.put (RG.put (RG.put (RG.put (RG.put (RG.put (RG.put (RG.put (RG.put (RG.put (RG.put f 18 (f.r 6)) 19 v1) 22 (f.r 4)) 23 v2) 24 v2) 24 (Value.bool false)) 25 undef) 26 undef) 27 undef) 28 undef) 29 undef) 30 undef) 31 undef) 32 undef) 33 (Value.bool false)) 7 (Value.bool false)) 34 (f.r 4)) 35 v27) 62 (f.r 5)) 63 (f.r 6)) 64 (Value.bool false)) 65 (Value.bool false)) 65 (Value.bool false)) 66 undef) 67 undef) 68 undef) 69 undef) 70 (Value.bool false)) 71 v40) 20 (f.r 6)) 21 v42) 6 v42) h41))))
((((1 * 1 : Nat) ≤ 16777216 ∧ (1 : Nat) ≤ 16777216 ∧ List.length [(Value.slice none 0 0)] = 1) ∧ aFill (zrep [(Value.slice none 0 0)] 1) [(0, 1, (f.r 5))] fun c43 =>
aNewS 1 c43 h fun v44 h45 =>
((List.length [(Value.slice none 0 0)] = 1 ∧ 0 < (1 : Nat) ∧ 0 < (24 : Nat) ∧ (24 : Nat) ≤ 1024) ∧ aApp 1 (f.r 3) v44 h45 fun v46 h47 =>
aBin prog .add 3 (f.r 4) (vint 1) fun v48 =>
nx0 (RG.put (RG.put (RG.put (RG.put (RG.put (RG.put (RG.put (RG.put (RG.put (RG.put f 18 (f.r 6)) 19 v1) 72 (f.r 3)) 73 (f.r 5)) 74 v44) 75 v46) 3 v46) 15 (f.r 4)) 16 v48) 4 v48) h47)))) := by kernel_rfl
theorem l107_2 (hJ : Closed prog main J) {nx0 : RG → List AObj → Prop} {S : Type} (μ : S → Nat) (I : S → RG → List AObj → Prop) (hI : ∀ s f h, I s f h → heapOk h → n0 ≤ h.length → W prog J 77 n0 107 (subC [1, 1, 0, 1, 0, 0, 1, 0, 0, 1, 0, 1, 0, 0] (codeOf f107)) f h (thenK (Nx n0 μ I s) (contQ prog J 77 n0 107 [1, 1, 0, 1, 0, 0, 1, 0, 0, 1, 0, 1, 0] (codeOf f107) [nx0] (RetQ prog [.tmp 2] n0 K))))
  {s : S} {f : RG} (hi : Gets n0 I s f h) : Sem J 77 n0 107 (subC [1, 1, 0, 1, 0, 0, 1, 0, 0, 1, 0, 1, 0] (codeOf f107)) f h (contQ prog J 77 n0 107 [1, 1, 0, 1, 0, 0, 1, 0, 0, 1, 0, 1, 0] (codeOf f107) [nx0] (RetQ prog [.tmp 2] n0 K)) :=
  loop_rule hJ mixed (b := subC [1, 1, 0, 1, 0, 0, 1, 0, 0, 1, 0, 1, 0, 0] (codeOf f107)) (by kernel_rfl) μ I hI hi
theorem s107_3 {f : RG} {nx0 nx1 nx2 : RG → List AObj → Prop} : W prog J 77 n0 107 (subC [1, 1, 0, 1, 0, 0, 1, 0, 0, 1, 0, 1, 0, 0, 1, 0, 0, 1, 0, 1, 0, 1, 1, 0, 0] (codeOf f107)) f h (thenK nx2 (contQ prog J 77 n0 107 [1, 1, 0, 1, 0, 0, 1, 0, 0, 1, 0, 1, 0, 0, 1, 0, 0, 1, 0, 1, 0, 1, 1, 0] (codeOf f107) [nx0, nx1] (RetQ prog [.tmp 2] n0 K))) =
(aBin prog .leq 3 (f.r 10) (f.r 9) fun v1 =>
cnd v1
(aUn .not (f.r 7) fun v2 =>
cnd v2
(aBin prog .sub 3 (f.r 4) (vint 1) fun v3 =>
aIdx 1 (f.r 3) v3 fun v4 =>
aLoad false 1 v4 h fun v5 =>
aIdx 1 v5 (f.r 10) fun v6 =>
aLoad false 1 v6 h fun v7 =>
aBin prog .add 3 (f.r 10) (vint 1) fun v8 =>
nx2 (RG.put (RG.put (RG.put (RG.put (RG.put (RG.put (RG.put (RG.put (RG.put (RG.put (RG.put (RG.put (RG.put (RG.put (RG.put (RG.put (RG.put (RG.put (RG.put (RG.put f 45 (f.r 10)) 46 (f.r 9)) 47 v1) 48 v1) 48 (Value.bool true)) 49 (f.r 7)) 50 v2) 51 v2) 54 (f.r 3)) 55 (f.r 4)) 56 v3) 57 v4) 58 v5) 59 (f.r 10)) 60 v6) 61 v7) 7 v7) 52 (f.r 10)) 53 v8) 10 v8) h)
(cnd (f.r 7)
(aLoad true 6 (f.r 1) h fun v9 =>
Good prog J 94 [v9, (f.r 4), (f.r 6)] h fun v10 h11 =>
aIdx 1 (f.r 5) (f.r 6) fun v12 =>
aStore 1 v12 v10 h11 fun h13 =>
aBin prog .add 3 (f.r 6) (vint 1) fun v14 =>
nx1 (RG.put (RG.put (RG.put (RG.put (RG.put (RG.put (RG.put (RG.put (RG.put (RG.put (RG.put (RG.put (RG.put (RG.put (RG.put (RG.put (RG.put (RG.put (RG.put (RG.put (RG.put (RG.put f 45 (f.r 10)) 46 (f.r 9)) 47 v1) 48 v1) 48 (Value.bool true)) 49 (f.r 7)) 50 v2) 51 v2) 62 (f.r 5)) 63 (f.r 6)) 64 (f.r 7)) 65 (f.r 7)) 65 (Value.bool true)) 66 v9) 67 (f.r 4)) 68 (f.r 6)) 69 v10) 70 v10) 71 v12) 20 (f.r 6)) 21 v14) 6 v14) h13)
(aIdx 1 (f.r 5) (f.r 6) fun v15 =>
aStore 1 v15 (Value.bool false) h fun h16 =>
aBin prog .add 3 (f.r 6) (vint 1) fun v17 =>
nx1 (RG.put (RG.put (RG.put (RG.put (RG.put (RG.put (RG.put (RG.put (RG.put (RG.put (RG.put (RG.put (RG.put (RG.put (RG.put (RG.put (RG.put (RG.put (RG.put (RG.put (RG.put (RG.put f 45 (f.r 10)) 46 (f.r 9)) 47 v1) 48 v1) 48 (Value.bool true)) 49 (f.r 7)) 50 v2) 51 v2) 62 (f.r 5)) 63 (f.r 6)) 64 (f.r 7)) 65 (f.r 7)) 65 (Value.bool false)) 66 undef) 67 undef) 68 undef) 69 undef) 70 (Value.bool false)) 71 v15) 20 (f.r 6)) 21 v17) 6 v17) h16)))
(cnd (Value.bool false)
(aBin prog .sub 3 (f.r 4) (vint 1) fun v18 =>
aIdx 1 (f.r 3) v18 fun v19 =>
aLoad false 1 v19 h fun v20 =>
aIdx 1 v20 (f.r 10) fun v21 =>
aLoad false 1 v21 h fun v22 =>
aBin prog .add 3 (f.r 10) (vint 1) fun v23 =>
nx2 (RG.put (RG.put (RG.put (RG.put (RG.put (RG.put (RG.put (RG.put (RG.put (RG.put (RG.put (RG.put (RG.put (RG.put (RG.put (RG.put (RG.put (RG.put (RG.put (RG.put f 45 (f.r 10)) 46 (f.r 9)) 47 v1) 48 v1) 48 (Value.bool false)) 49 undef) 50 undef) 51 (Value.bool false)) 54 (f.r 3)) 55 (f.r 4)) 56 v18) 57 v19) 58 v20) 59 (f.r 10)) 60 v21) 61 v22) 7 v22) 52 (f.r 10)) 53 v23) 10 v23) h)
(cnd (f.r 7)
(aLoad true 6 (f.r 1) h fun v24 =>
Good prog J 94 [v24, (f.r 4), (f.r 6)] h fun v25 h26 =>
aIdx 1 (f.r 5) (f.r 6) fun v27 =>
aStore 1 v27 v25 h26 fun h28 =>
aBin prog .add 3 (f.r 6) (vint 1) fun v29 =>
nx1 (RG.put (RG.put (RG.put (RG.put (RG.put (RG.put (RG.put (RG.put (RG.put (RG.put (RG.put (RG.put (RG.put (RG.put (RG.put (RG.put (RG.put (RG.put (RG.put (RG.put (RG.put (RG.put f 45 (f.r 10)) 46 (f.r 9)) 47 v1) 48 v1) 48 (Value.bool false)) 49 undef) 50 undef) 51 (Value.bool false)) 62 (f.r 5)) 63 (f.r 6)) 64 (f.r 7)) 65 (f.r 7)) 65 (Value.bool true)) 66 v24) 67 (f.r 4)) 68 (f.r 6)) 69 v25) 70 v25) 71 v27) 20 (f.r 6)) 21 v29) 6 v29) h28)
(aIdx 1 (f.r 5) (f.r 6) fun v30 =>
aStore 1 v30 (Value.bool false) h fun h31 =>
aBin prog .add 3 (f.r 6) (vint 1) fun v32 =>
nx1 (RG.put (RG.put (RG.put (RG.put (RG.put (RG.put (RG.put (RG.put (RG.put (RG.put (RG.put (RG.put (RG.put (RG.put (RG.put (RG.put (RG.put (RG.put (RG.put (RG.put (RG.put (RG.put f 45 (f.r 10)) 46 (f.r 9)) 47 v1) 48 v1) 48 (Value.bool false)) 49 undef) 50 undef) 51 (Value.bool false)) 62 (f.r 5)) 63 (f.r 6)) 64 (f.r 7)) 65 (f.r 7)) 65 (Value.bool false)) 66 undef) 67 undef) 68 undef) 69 undef) 70 (Value.bool false)) 71 v30) 20 (f.r 6)) 21 v32) 6 v32) h31)))) := by kernel_rfl
theorem l107_3 (hJ : Closed prog main J) {nx0 nx1 : RG → List AObj → Prop} {S : Type} (μ : S → Nat) (I : S → RG → List AObj → Prop) (hI : ∀ s f h, I s f h → heapOk h → n0 ≤ h.length → W prog J 77 n0 107 (subC [1, 1, 0, 1, 0, 0, 1, 0, 0, 1, 0, 1, 0, 0, 1, 0, 0, 1, 0, 1, 0, 1, 1, 0, 0] (codeOf f107)) f h (thenK (Nx n0 μ I s) (contQ prog J 77 n0 107 [1, 1, 0, 1, 0, 0, 1, 0, 0, 1, 0, 1, 0, 0, 1, 0, 0, 1, 0, 1, 0, 1, 1, 0] (codeOf f107) [nx0, nx1] (RetQ prog [.tmp 2] n0 K))))
  {s : S} {f : RG} (hi : Gets n0 I s f h) : Sem J 77 n0 107 (subC [1, 1, 0, 1, 0, 0, 1, 0, 0, 1, 0, 1, 0, 0, 1, 0, 0, 1, 0, 1, 0, 1, 1, 0] (codeOf f107)) f h (contQ prog J 77 n0 107 [1, 1, 0, 1, 0, 0, 1, 0, 0, 1, 0, 1, 0, 0, 1, 0, 0, 1, 0, 1, 0, 1, 1, 0] (codeOf f107) [nx0, nx1] (RetQ prog [.tmp 2] n0 K)) :=
  loop_rule hJ mixed (b := subC [1, 1, 0, 1, 0, 0, 1, 0, 0, 1, 0, 1, 0, 0, 1, 0, 0, 1, 0, 1, 0, 1, 1, 0, 0] (codeOf f107)) (by kernel_rfl) μ I hI hi
theorem at83 : prog.funcs[83]? = some f83 := by kernel_rfl
theorem body83 : f83.body = some (codeOf f83) := by kernel_rfl
theorem e83 {a0 : Value} : W prog J 65 h.length 83 (codeOf f83) (RG.mk (regs [a0]) []) h (RetQ prog [.tmp 2] h.length K) =
(aBox a0 h fun v1 h2 =>
aLoad true 6 v1 h2 fun v3 =>
Good prog J 107 [v3] h2 fun v4 h5 =>
aOff v1 0 fun v6 =>
aLoad false 1 v6 h5 fun v7 =>
aBin prog .sub 3 v7 (vint 2) fun v8 =>
Sem J 65 h.length 83 (subC [1, 1, 0, 1, 0] (codeOf f83)) (RG.put (RG.put (RG.put (RG.put (RG.put (RG.put (RG.put (RG.put (RG.put (RG.mk (regs [a0]) []) 1 v1) 2 (Value.slice none 0 0)) 10 v3) 11 v4) 3 v4) 12 v6) 13 v7) 14 v8) 4 v8) h5 (contQ prog J 65 h.length 83 [1, 1, 0, 1, 0] (codeOf f83) [] (RetQ prog [.tmp 2] h.length K))) := by kernel_rfl
theorem g83 (hJ : Closed prog main J) {a0 : Value} (hs : heapOk h → W prog J 65 h.length 83 (codeOf f83) (RG.mk (regs [a0]) []) h (RetQ prog [.tmp 2] h.length K)) : Good prog J 83 [a0] h K :=
  good_of_W hJ mixed at83 body83 (by kernel_rfl) (Nat.le_of_ble_eq_true rfl) hs
theorem s83_1 {f : RG} {nx0 : RG → List AObj → Prop} : W prog J 65 n0 83 (subC [1, 1, 0, 1, 0, 0] (codeOf f83)) f h (thenK nx0 (contQ prog J 65 n0 83 [1, 1, 0, 1, 0] (codeOf f83) [] (RetQ prog [.tmp 2] n0 K))) =
(aBin prog .geq 3 (f.r 4) (vint 0) fun v1 =>
cnd v1
(Sem J 65 n0 83 (subC [1, 1, 0, 1, 0, 0, 1, 0, 0, 1, 0] (codeOf f83)) (RG.put (RG.put (RG.put f 15 (f.r 4)) 16 v1) 5 (vint 0)) h (contQ prog J 65 n0 83 [1, 1, 0, 1, 0, 0, 1, 0, 0, 1, 0] (codeOf f83) [nx0] (RetQ prog [.tmp 2] n0 K)))
(retL n0 K f.ds [(f.r 3)] h)) := by kernel_rfl
theorem l83_1 (hJ : Closed prog main J) {S : Type} (μ : S → Nat) (I : S → RG → List AObj → Prop) (hI : ∀ s f h, I s f h → heapOk h → n0 ≤ h.length → W prog J 65 n0 83 (subC [1, 1, 0, 1, 0, 0] (codeOf f83)) f h (thenK (Nx n0 μ I s) (contQ prog J 65 n0 83 [1, 1, 0, 1, 0] (codeOf f83) [] (RetQ prog [.tmp 2] n0 K))))
  {s : S} {f : RG} (hi : Gets n0 I s f h) : Sem J 65 n0 83 (subC [1, 1, 0, 1, 0] (codeOf f83)) f h (contQ prog J 65 n0 83 [1, 1, 0, 1, 0] (codeOf f83) [] (RetQ prog [.tmp 2] n0 K)) :=
  loop_rule hJ mixed (b := subC [1, 1, 0, 1, 0, 0] (codeOf f83)) (by kernel_rfl) μ I hI hi
theorem s83_2 {f : RG} {nx0 nx1 : RG → List AObj → Prop} : W prog J 65 n0 83 (subC [1, 1, 0, 1, 0, 0, 1, 0, 0, 1, 0, 0] (codeOf f83)) f h (thenK nx1 (contQ prog J 65 n0 83 [1, 1, 0, 1, 0, 0, 1, 0, 0, 1, 0] (codeOf f83) [nx0] (RetQ prog [.tmp 2] n0 K))) =
(aBin prog .lss 3 (f.r 5) (vint 541) fun v1 =>
cnd v1
(aLoad true 6 (f.r 1) h fun v2 =>
Good prog J 108 [v2, (f.r 4), (f.r 5)] h fun v3 h4 =>
aExt v3 0 fun v5 =>
aExt v3 1 fun v6 =>
Sem J 65 n0 83 (subC [1, 1, 0, 1, 0, 0, 1, 0, 0, 1, 0, 0, 1, 0, 0, 1, 1, 0, 1, 0] (codeOf f83)) (RG.put (RG.put (RG.put (RG.put (RG.put (RG.put (RG.put (RG.put (RG.put (RG.put (RG.put (RG.put (RG.put (RG.put f 19 (f.r 5)) 20 v1) 6 (Value.bool false)) 24 v2) 25 (f.r 4)) 26 (f.r 5)) 27 v3) 23 v3) 28 v5) 29 v6) 7 v5) 8 v6) 30 v5) 9 v5) h4 (contQ prog J 65 n0 83 [1, 1, 0, 1, 0, 0, 1, 0, 0, 1, 0, 0, 1, 0, 0, 1, 1, 0, 1, 0] (codeOf f83) [nx0, nx1] (RetQ prog [.tmp 2] n0 K)))
(aBin prog .sub 3 (f.r 4) (vint 1) fun v7 =>
nx0 (RG.put (RG.put (RG.put (RG.put (RG.put f 19 (f.r 5)) 20 v1) 17 (f.r 4)) 18 v7) 4 v7) h)) := by kernel_rfl
theorem l83_2 (hJ : Closed prog main J) {nx0 : RG → List AObj → Prop} {S : Type} (μ : S → Nat) (I : S → RG → List AObj → Prop) (hI : ∀ s f h, I s f h → heapOk h → n0 ≤ h.length → W prog J 65 n0 83 (subC [1, 1, 0, 1, 0, 0, 1, 0, 0, 1, 0, 0] (codeOf f83)) f h (thenK (Nx n0 μ I s) (contQ prog J 65 n0 83 [1, 1, 0, 1, 0, 0, 1, 0, 0, 1, 0] (codeOf f83) [nx0] (RetQ prog [.tmp 2] n0 K))))
  {s : S} {f : RG} (hi : Gets n0 I s f h) : Sem J 65 n0 83 (subC [1, 1, 0, 1, 0, 0, 1, 0, 0, 1, 0] (codeOf f83)) f h (contQ prog J 65 n0 83 [1, 1, 0, 1, 0, 0, 1, 0, 0, 1, 0] (codeOf f83) [nx0] (RetQ prog [.tmp 2] n0 K)) :=
  loop_rule hJ mixed (b := subC [1, 1, 0, 1, 0, 0, 1, 0, 0, 1, 0, 0] (codeOf f83)) (by kernel_rfl) μ I hI hi
theorem s83_3 {f : RG} {nx0 nx1 nx2 : RG → List AObj → Prop} : W prog J 65 n0 83 (subC [1, 1, 0, 1, 0, 0, 1, 0, 0, 1, 0, 0, 1, 0, 0, 1, 1, 0, 1, 0, 0] (codeOf f83)) f h (thenK nx2 (contQ prog J 65 n0 83 [1, 1, 0, 1, 0, 0, 1, 0, 0, 1, 0, 0, 1, 0, 0, 1, 1, 0, 1, 0] (codeOf f83) [nx0, nx1] (RetQ prog [.tmp 2] n0 K))) =
(aBin prog .leq 3 (f.r 9) (f.r 8) fun v1 =>
cnd v1
(aIdx 1 (f.r 3) (f.r 4) fun v2 =>
aLoad false 1 v2 h fun v3 =>
aIdx 1 v3 (f.r 5) fun v4 =>
aLoad false 1 v4 h fun v5 =>
cnd v5
(aUn .not (f.r 6) fun v6 =>
cnd v6
(aBin prog .add 3 (f.r 4) (vint 1) fun v7 =>
aIdx 1 (f.r 3) v7 fun v8 =>
aLoad false 1 v8 h fun v9 =>
aIdx 1 v9 (f.r 9) fun v10 =>
aLoad false 1 v10 h fun v11 =>
aBin prog .add 3 (f.r 9) (vint 1) fun v12 =>
nx2 (RG.put (RG.put (RG.put (RG.put (RG.put (RG.put (RG.put (RG.put (RG.put (RG.put (RG.put (RG.put (RG.put (RG.put (RG.put (RG.put (RG.put (RG.put (RG.put (RG.put (RG.put (RG.put (RG.put (RG.put (RG.put (RG.put (RG.put (RG.put (RG.put (RG.put f 31 (f.r 9)) 32 (f.r 8)) 33 v1) 34 v1) 34 (Value.bool true)) 35 (f.r 3)) 36 (f.r 4)) 37 v2) 38 v3) 39 (f.r 5)) 40 v4) 41 v5) 42 v5) 43 v5) 43 (Value.bool true)) 44 (f.r 6)) 45 v6) 46 v6) 49 (f.r 3)) 50 (f.r 4)) 51 v7) 52 v8) 53 v9) 54 (f.r 9)) 55 v10) 56 v11) 6 v11) 47 (f.r 9)) 48 v12) 9 v12) h)
(aIdx 1 (f.r 3) (f.r 4) fun v13 =>
aLoad false 1 v13 h fun v14 =>
aIdx 1 v14 (f.r 5) fun v15 =>
aStore 1 v15 (f.r 6) h fun h16 =>
aBin prog .add 3 (f.r 5) (vint 1) fun v17 =>
nx1 (RG.put (RG.put (RG.put (RG.put (RG.put (RG.put (RG.put (RG.put (RG.put (RG.put (RG.put (RG.put (RG.put (RG.put (RG.put (RG.put (RG.put (RG.put (RG.put (RG.put (RG.put (RG.put (RG.put (RG.put (RG.put (RG.put (RG.put (RG.put f 31 (f.r 9)) 32 (f.r 8)) 33 v1) 34 v1) 34 (Value.bool true)) 35 (f.r 3)) 36 (f.r 4)) 37 v2) 38 v3) 39 (f.r 5)) 40 v4) 41 v5) 42 v5) 43 v5) 43 (Value.bool true)) 44 (f.r 6)) 45 v6) 46 v6) 57 (f.r 3)) 58 (f.r 4)) 59 v13) 60 v14) 61 (f.r 5)) 62 (f.r 6)) 63 v15) 21 (f.r 5)) 22 v17) 5 v17) h16))
(cnd (Value.bool false)
(aBin prog .add 3 (f.r 4) (vint 1) fun v18 =>
aIdx 1 (f.r 3) v18 fun v19 =>
aLoad false 1 v19 h fun v20 =>
aIdx 1 v20 (f.r 9) fun v21 =>
aLoad false 1 v21 h fun v22 =>
aBin prog .add 3 (f.r 9) (vint 1) fun v23 =>
nx2 (RG.put (RG.put (RG.put (RG.put (RG.put (RG.put (RG.put (RG.put (RG.put (RG.put (RG.put (RG.put (RG.put (RG.put (RG.put (RG.put (RG.put (RG.put (RG.put (RG.put (RG.put (RG.put (RG.put (RG.put (RG.put (RG.put (RG.put (RG.put (RG.put (RG.put f 31 (f.r 9)) 32 (f.r 8)) 33 v1) 34 v1) 34 (Value.bool true)) 35 (f.r 3)) 36 (f.r 4)) 37 v2) 38 v3) 39 (f.r 5)) 40 v4) 41 v5) 42 v5) 43 v5) 43 (Value.bool false)) 44 undef) 45 undef) 46 (Value.bool false)) 49 (f.r 3)) 50 (f.r 4)) 51 v18) 52 v19) 53 v20) 54 (f.r 9)) 55 v21) 56 v22) 6 v22) 47 (f.r 9)) 48 v23) 9 v23) h)
(aIdx 1 (f.r 3) (f.r 4) fun v24 =>
aLoad false 1 v24 h fun v25 =>
aIdx 1 v25 (f.r 5) fun v26 =>
aStore 1 v26 (f.r 6) h fun h27 =>
aBin prog .add 3 (f.r 5) (vint 1) fun v28 =>
nx1 (RG.put (RG.put (RG.put (RG.put (RG.put (RG.put (RG.put (RG.put (RG.put (RG.put (RG.put (RG.put (RG.put (RG.put (RG.put (RG.put (RG.put (RG.put (RG.put (RG.put (RG.put (RG.put (RG.put (RG.put (RG.put (RG.put (RG.put (RG.put f 31 (f.r 9)) 32 (f.r 8)) 33 v1) 34 v1) 34 (Value.bool true)) 35 (f.r 3)) 36 (f.r 4)) 37 v2) 38 v3) 39 (f.r 5)) 40 v4) 41 v5) 42 v5) 43 v5) 43 (Value.bool false)) 44 undef) 45 undef) 46 (Value.bool false)) 57 (f.r 3)) 58 (f.r 4)) 59 v24) 60 v25) 61 (f.r 5)) 62 (f.r 6)) 63 v26) 21 (f.r 5)) 22 v28) 5 v28) h27)))
(cnd (Value.bool false)
(aUn .not (f.r 6) fun v29 =>
cnd v29
(aBin prog .add 3 (f.r 4) (vint 1) fun v30 =>
aIdx 1 (f.r 3) v30 fun v31 =>
aLoad false 1 v31 h fun v32 =>
aIdx 1 v32 (f.r 9) fun v33 =>
aLoad false 1 v33 h fun v34 =>
aBin prog .add 3 (f.r 9) (vint 1) fun v35 =>
nx2 (RG.put (RG.put (RG.put (RG.put (RG.put (RG.put (RG.put (RG.put (RG.put (RG.put (RG.put (RG.put (RG.put (RG.put (RG.put (RG.put (RG.put (RG.put (RG.put (RG.put (RG.put (RG.put (RG.put (RG.put (RG.put (RG.put (RG.put (RG.put (RG.put (RG.put f 31 (f.r 9)) 32 (f.r 8)) 33 v1) 34 v1) 34 (Value.bool false)) 35 undef) 36 undef) 37 undef) 38 undef) 39 undef) 40 undef) 41 undef) 42 (Value.bool false)) 43 (Value.bool false)) 43 (Value.bool true)) 44 (f.r 6)) 45 v29) 46 v29) 49 (f.r 3)) 50 (f.r 4)) 51 v30) 52 v31) 53 v32) 54 (f.r 9)) 55 v33) 56 v34) 6 v34) 47 (f.r 9)) 48 v35) 9 v35) h)
(aIdx 1 (f.r 3) (f.r 4) fun v36 =>
aLoad false 1 v36 h fun v37 =>
aIdx 1 v37 (f.r 5) fun v38 =>
aStore 1 v38 (f.r 6) h fun h39 =>
aBin prog .add 3 (f.r 5) (vint 1) fun v40 =>
nx1 (RG.put (RG.put (RG.put (RG.put (RG.put (RG.put (RG.put (RG.put (RG.put (RG.put (RG.put (RG.put (RG.put (RG.put (RG.put (RG.put (RG.put (RG.put (RG.put (RG.put (RG.put (RG.put (RG.put (RG.put (RG.put (RG.put (RG.put (RG.put f 31 (f.r 9)) 32 (f.r 8)) 33 v1) 34 v1) 34 (Value.bool false)) 35 undef) 36 undef) 37 undef) 38 undef) 39 undef) 40 undef) 41 undef) 42 (Value.bool false)) 43 (Value.bool false)) 43 (Value.bool true)) 44 (f.r 6)) 45 v29) 46 v29) 57 (f.r 3)) 58 (f.r 4)) 59 v36) 60 v37) 61 (f.r 5)) 62 (f.r 6)) 63 v38) 21 (f.r 5)) 22 v40) 5 v40) h39))
(cnd (Value.bool false)
(aBin prog .add 3 (f.r 4) (vint 1) fun v41 =>
aIdx 1 (f.r 3) v41 fun v42 =>
aLoad false 1 v42 h fun v43 =>
aIdx 1 v43 (f.r 9) fun v44 =>
aLoad false 1 v44 h fun v45 =>
aBin prog .add 3 (f.r 9) (vint 1) fun v46 =>
nx2 (RG.put (RG.put (RG.put (RG.put (RG.put (RG.put (RG.put (RG.put (RG.put (RG.put (RG.put (RG.put (RG.put (RG.put (RG.put (RG.put (RG.put (RG.put (RG.put (RG.put (RG.put (RG.put (RG.put (RG.put (RG.put (RG.put (RG.put (RG.put (RG.put (RG.put f 31 (f.r 9)) 32 (f.r 8)) 33 v1) 34 v1) 34 (Value.bool false)) 35 undef) 36 undef) 37 undef) 38 undef) 39 undef) 40 undef) 41 undef) 42 (Value.bool false)) 43 (Value.bool false)) 43 (Value.bool false)) 44 undef) 45 undef) 46 (Value.bool false)) 49 (f.r 3)) 50 (f.r 4)) 51 v41) 52 v42) 53 v43) 54 (f.r 9)) 55 v44) 56 v45) 6 v45) 47 (f.r 9)) 48 v46) 9 v46) h)
(aIdx 1 (f.r 3) (f.r 4) fun v47 =>
aLoad false 1 v47 h fun v48 =>
aIdx 1 v48 (f.r 5) fun v49 =>
aStore 1 v49 (f.r 6) h fun h50 =>
aBin prog .add 3 (f.r 5) (vint 1) fun v51 =>
nx1 (RG.put (RG.put (RG.put (RG.put (RG.put (RG.put (RG.put (RG.put (RG.put (RG.put (RG.put (RG.put (RG.put (RG.put (RG.put (RG.put (RG.put (RG.put (RG.put (RG.put (RG.put (RG.put (RG.put (RG.put (RG.put (RG.put (RG.put (RG.put f 31 (f.r 9)) 32 (f.r 8)) 33 v1) 34 v1) 34 (Value.bool false)) 35 undef) 36 undef) 37 undef) 38 undef) 39 undef) 40 undef) 41 undef) 42 (Value.bool false)) 43 (Value.bool false)) 43 (Value.bool false)) 44 undef) 45 undef) 46 (Value.bool false)) 57 (f.r 3)) 58 (f.r 4)) 59 v47) 60 v48) 61 (f.r 5)) 62 (f.r 6)) 63 v49) 21 (f.r 5)) 22 v51) 5 v51) h50)))) := by kernel_rfl
theorem l83_3 (hJ : Closed prog main J) {nx0 nx1 : RG → List AObj → Prop} {S : Type} (μ : S → Nat) (I : S → RG → List AObj → Prop) (hI : ∀ s f h, I s f h → heapOk h → n0 ≤ h.length → W prog J 65 n0 83 (subC [1, 1, 0, 1, 0, 0, 1, 0, 0, 1, 0, 0, 1, 0, 0, 1, 1, 0, 1, 0, 0] (codeOf f83)) f h (thenK (Nx n0 μ I s) (contQ prog J 65 n0 83 [1, 1, 0, 1, 0, 0, 1, 0, 0, 1, 0, 0, 1, 0, 0, 1, 1, 0, 1, 0] (codeOf f83) [nx0, nx1] (RetQ prog [.tmp 2] n0 K))))
  {s : S} {f : RG} (hi : Gets n0 I s f h) : Sem J 65 n0 83 (subC [1, 1, 0, 1, 0, 0, 1, 0, 0, 1, 0, 0, 1, 0, 0, 1, 1, 0, 1, 0] (codeOf f83)) f h (contQ prog J 65 n0 83 [1, 1, 0, 1, 0, 0, 1, 0, 0, 1, 0, 0, 1, 0, 0, 1, 1, 0, 1, 0] (codeOf f83) [nx0, nx1] (RetQ prog [.tmp 2] n0 K)) :=
  loop_rule hJ mixed (b := subC [1, 1, 0, 1, 0, 0, 1, 0, 0, 1, 0, 0, 1, 0, 0, 1, 1, 0, 1, 0, 0] (codeOf f83)) (by kernel_rfl) μ I hI hi
theorem at81 : prog.funcs[81]? = some f81 := by kernel_rfl
theorem body81 : f81.body = some (codeOf f81) := by kernel_rfl
theorem e81 {a0 : Value} : W prog J 20 h.length 81 (codeOf f81) (RG.mk (regs [a0]) []) h (RetQ prog [.tmp 2] h.length K) =
(aBox a0 h fun v1 h2 =>
aLoad true 6 v1 h2 fun v3 =>
Good prog J 107 [v3] h2 fun v4 h5 =>
Sem J 20 h.length 81 (subC [1, 1, 0, 1, 0] (codeOf f81)) (RG.put (RG.put (RG.put (RG.put (RG.put (RG.put (RG.mk (regs [a0]) []) 1 v1) 2 (Value.bool false)) 5 v3) 6 v4) 3 v4) 4 (vint 0)) h5 (contQ prog J 20 h.length 81 [1, 1, 0, 1, 0] (codeOf f81) [] (RetQ prog [.tmp 2] h.length K))) := by kernel_rfl
theorem g81 (hJ : Closed prog main J) {a0 : Value} (hs : heapOk h → W prog J 20 h.length 81 (codeOf f81) (RG.mk (regs [a0]) []) h (RetQ prog [.tmp 2] h.length K)) : Good prog J 81 [a0] h K :=
  good_of_W hJ mixed at81 body81 (by kernel_rfl) (Nat.le_of_ble_eq_true rfl) hs
theorem s81_1 {f : RG} {nx0 : RG → List AObj → Prop} : W prog J 20 n0 81 (subC [1, 1, 0, 1, 0, 0] (codeOf f81)) f h (thenK nx0 (contQ prog J 20 n0 81 [1, 1, 0, 1, 0] (codeOf f81) [] (RetQ prog [.tmp 2] n0 K))) =
(aBin prog .lss 3 (f.r 4) (vint 541) fun v1 =>
cnd v1
(aOff (f.r 1) 0 fun v2 =>
aLoad false 1 v2 h fun v3 =>
aBin prog .sub 3 v3 (vint 1) fun v4 =>
aIdx 1 (f.r 3) v4 fun v5 =>
aLoad false 1 v5 h fun v6 =>
aIdx 1 v6 (f.r 4) fun v7 =>
aLoad false 1 v7 h fun v8 =>
cnd v8
(retL n0 K f.ds [(Value.bool true)] h)
(aBin prog .add 3 (f.r 4) (vint 1) fun v9 =>
nx0 (RG.put (RG.put (RG.put (RG.put (RG.put (RG.put (RG.put (RG.put (RG.put (RG.put (RG.put (RG.put (RG.put (RG.put f 7 (f.r 4)) 8 v1) 11 (f.r 3)) 12 v2) 13 v3) 14 v4) 15 v5) 16 v6) 17 (f.r 4)) 18 v7) 19 v8) 9 (f.r 4)) 10 v9) 4 v9) h))
(retL n0 K f.ds [(Value.bool false)] h)) := by kernel_rfl
theorem l81_1 (hJ : Closed prog main J) {S : Type} (μ : S → Nat) (I : S → RG → List AObj → Prop) (hI : ∀ s f h, I s f h → heapOk h → n0 ≤ h.length → W prog J 20 n0 81 (subC [1, 1, 0, 1, 0, 0] (codeOf f81)) f h (thenK (Nx n0 μ I s) (contQ prog J 20 n0 81 [1, 1, 0, 1, 0] (codeOf f81) [] (RetQ prog [.tmp 2] n0 K))))
  {s : S} {f : RG} (hi : Gets n0 I s f h) : Sem J 20 n0 81 (subC [1, 1, 0, 1, 0] (codeOf f81)) f h (contQ prog J 20 n0 81 [1, 1, 0, 1, 0] (codeOf f81) [] (RetQ prog [.tmp 2] n0 K)) :=
  loop_rule hJ mixed (b := subC [1, 1, 0, 1, 0, 0] (codeOf f81)) (by kernel_rfl) μ I hI hi
theorem at82 : prog.funcs[82]? = some f82 := by kernel_rfl
theorem body82 : f82.body = some (codeOf f82) := by kernel_rfl
theorem e82 {a0 : Value} : W prog J 40 h.length 82 (codeOf f82) (RG.mk (regs [a0]) []) h (RetQ prog [.tmp 2] h.length K) =
(aBox a0 h fun v1 h2 =>
aLoad true 6 v1 h2 fun v3 =>
Good prog J 83 [v3] h2 fun v4 h5 =>
Sem J 40 h.length 82 (subC [1, 1, 1, 0, 1, 0] (codeOf f82)) (RG.put (RG.put (RG.put (RG.put (RG.put (RG.put (RG.put (RG.mk (regs [a0]) []) 1 v1) 2 (Value.slice none 0 0)) 3 (Value.slice none 0 0)) 8 v3) 9 v4) 4 v4) 5 (vint 0)) h5 (contQ prog J 40 h.length 82 [1, 1, 1, 0, 1, 0] (codeOf f82) [] (RetQ prog [.tmp 2] h.length K))) := by kernel_rfl
theorem g82 (hJ : Closed prog main J) {a0 : Value} (hs : heapOk h → W prog J 40 h.length 82 (codeOf f82) (RG.mk (regs [a0]) []) h (RetQ prog [.tmp 2] h.length K)) : Good prog J 82 [a0] h K :=
  good_of_W hJ mixed at82 body82 (by kernel_rfl) (Nat.le_of_ble_eq_true rfl) hs
theorem s82_1 {f : RG} {nx0 : RG → List AObj → Prop} : W prog J 40 n0 82 (subC [1, 1, 1, 0, 1, 0, 0] (codeOf f82)) f h (thenK nx0 (contQ prog J 40 n0 82 [1, 1, 1, 0, 1, 0] (codeOf f82) [] (RetQ prog [.tmp 2] n0 K))) =
(aOff (f.r 1) 0 fun v1 =>
aLoad false 1 v1 h fun v2 =>
aBin prog .lss 3 (f.r 5) v2 fun v3 =>
cnd v3
(aFill [(vint 0), (vint 0)] [(0, 1, (vint (-1)))] fun c4 =>
aAlloc [(vint 0), (vint 0)] h fun v5 h6 =>
aStore 2 v5 (Value.agg ⟨c4⟩) h6 fun h7 =>
Sem J 40 n0 82 (subC [1, 1, 1, 0, 1, 0, 0, 1, 0, 0, 1, 0, 1, 0] (codeOf f82)) (RG.put (RG.put (RG.put (RG.put (RG.put (RG.put (RG.put f 10 (f.r 5)) 11 v1) 12 v2) 13 v3) 16 (Value.agg ⟨c4⟩)) 6 v5) 7 (vint 0)) h7 (contQ prog J 40 n0 82 [1, 1, 1, 0, 1, 0, 0, 1, 0, 0, 1, 0, 1, 0] (codeOf f82) [nx0] (RetQ prog [.tmp 2] n0 K)))
(retL n0 K f.ds [(f.r 3)] h)) := by kernel_rfl
theorem l82_1 (hJ : Closed prog main J) {S : Type} (μ : S → Nat) (I : S → RG → List AObj → Prop) (hI : ∀ s f h, I s f h → heapOk h → n0 ≤ h.length → W prog J 40 n0 82 (subC [1, 1, 1, 0, 1, 0, 0] (codeOf f82)) f h (thenK (Nx n0 μ I s) (contQ prog J 40 n0 82 [1, 1, 1, 0, 1, 0] (codeOf f82) [] (RetQ prog [.tmp 2] n0 K))))
  {s : S} {f : RG} (hi : Gets n0 I s f h) : Sem J 40 n0 82 (subC [1, 1, 1, 0, 1, 0] (codeOf f82)) f h (contQ prog J 40 n0 82 [1, 1, 1, 0, 1, 0] (codeOf f82) [] (RetQ prog [.tmp 2] n0 K)) :=
  loop_rule hJ mixed (b := subC [1, 1, 1, 0, 1, 0, 0] (codeOf f82)) (by kernel_rfl) μ I hI hi
theorem s82_2 {f : RG} {nx0 nx1 : RG → List AObj → Prop} : W prog J 40 n0 82 (subC [1, 1, 1, 0, 1, 0, 0, 1, 0, 0, 1, 0, 1, 0, 0] (codeOf f82)) f h (thenK nx1 (contQ prog J 40 n0 82 [1, 1, 1, 0, 1, 0, 0, 1, 0, 0, 1, 0, 1, 0] (codeOf f82) [nx0] (RetQ prog [.tmp 2] n0 K))) =
(aBin prog .lss 3 (f.r 7) (vint 541) fun v1 =>
cnd v1
(aIdx 1 (f.r 4) (f.r 5) fun v2 =>
aLoad false 1 v2 h fun v3 =>
aIdx 1 v3 (f.r 7) fun v4 =>
aLoad false 1 v4 h fun v5 =>
cnd v5
(aOff (f.r 6) 0 fun v6 =>
aLoad false 1 v6 h fun v7 =>
aBin prog .lss 3 v7 (vint 0) fun v8 =>
cnd v8
(aOff (f.r 6) 0 fun v9 =>
aStore 1 v9 (f.r 7) h fun h10 =>
aOff (f.r 6) 1 fun v11 =>
aStore 1 v11 (f.r 7) h10 fun h12 =>
aBin prog .add 3 (f.r 7) (vint 1) fun v13 =>
nx1 (RG.put (RG.put (RG.put (RG.put (RG.put (RG.put (RG.put (RG.put (RG.put (RG.put (RG.put (RG.put (RG.put (RG.put (RG.put (RG.put (RG.put (RG.put (RG.put f 17 (f.r 7)) 18 v1) 21 (f.r 4)) 22 (f.r 5)) 23 v2) 24 v3) 25 (f.r 7)) 26 v4) 27 v5) 28 v6) 29 v7) 30 v8) 31 (f.r 7)) 32 v9) 33 (f.r 7)) 34 v11) 19 (f.r 7)) 20 v13) 7 v13) h12)
(aOff (f.r 6) 1 fun v14 =>
aStore 1 v14 (f.r 7) h fun h15 =>
aBin prog .add 3 (f.r 7) (vint 1) fun v16 =>
nx1 (RG.put (RG.put (RG.put (RG.put (RG.put (RG.put (RG.put (RG.put (RG.put (RG.put (RG.put (RG.put (RG.put (RG.put (RG.put (RG.put (RG.put f 17 (f.r 7)) 18 v1) 21 (f.r 4)) 22 (f.r 5)) 23 v2) 24 v3) 25 (f.r 7)) 26 v4) 27 v5) 28 v6) 29 v7) 30 v8) 33 (f.r 7)) 34 v14) 19 (f.r 7)) 20 v16) 7 v16) h15))
(aBin prog .add 3 (f.r 7) (vint 1) fun v17 =>
nx1 (RG.put (RG.put (RG.put (RG.put (RG.put (RG.put (RG.put (RG.put (RG.put (RG.put (RG.put (RG.put f 17 (f.r 7)) 18 v1) 21 (f.r 4)) 22 (f.r 5)) 23 v2) 24 v3) 25 (f.r 7)) 26 v4) 27 v5) 19 (f.r 7)) 20 v17) 7 v17) h))
(aLoad true 2 (f.r 6) h fun v18 =>
(((1 * 2 : Nat) ≤ 16777216 ∧ (1 : Nat) ≤ 16777216 ∧ List.length [(vint 0), (vint 0)] = 2) ∧ aFill (zrep [(vint 0), (vint 0)] 1) [(0, 2, v18)] fun c19 =>
aNewS 1 c19 h fun v20 h21 =>
((List.length [(vint 0), (vint 0)] = 2 ∧ 0 < (2 : Nat) ∧ 0 < (16 : Nat) ∧ (16 : Nat) ≤ 1024) ∧ aApp 2 (f.r 3) v20 h21 fun v22 h23 =>
aBin prog .add 3 (f.r 5) (vint 1) fun v24 =>
nx0 (RG.put (RG.put (RG.put (RG.put (RG.put (RG.put (RG.put (RG.put (RG.put (RG.put f 17 (f.r 7)) 18 v1) 35 (f.r 3)) 36 v18) 37 v20) 38 v22) 3 v22) 14 (f.r 5)) 15 v24) 5 v24) h23)))) := by kernel_rfl
theorem l82_2 (hJ : Closed prog main J) {nx0 : RG → List AObj → Prop} {S : Type} (μ : S → Nat) (I : S → RG → List AObj → Prop) (hI : ∀ s f h, I s f h → heapOk h → n0 ≤ h.length → W prog J 40 n0 82 (subC [1, 1, 1, 0, 1, 0, 0, 1, 0, 0, 1, 0, 1, 0, 0] (codeOf f82)) f h (thenK (Nx n0 μ I s) (contQ prog J 40 n0 82 [1, 1, 1, 0, 1, 0, 0, 1, 0, 0, 1, 0, 1, 0] (codeOf f82) [nx0] (RetQ prog [.tmp 2] n0 K))))
  {s : S} {f : RG} (hi : Gets n0 I s f h) : Sem J 40 n0 82 (subC [1, 1, 1, 0, 1, 0, 0, 1, 0, 0, 1, 0, 1, 0] (codeOf f82)) f h (contQ prog J 40 n0 82 [1, 1, 1, 0, 1, 0, 0, 1, 0, 0, 1, 0, 1, 0] (codeOf f82) [nx0] (RetQ prog [.tmp 2] n0 K)) :=
  loop_rule hJ mixed (b := subC [1, 1, 1, 0, 1, 0, 0, 1, 0, 0, 1, 0, 1, 0, 0] (codeOf f82)) (by kernel_rfl) μ I hI hi
theorem at44 : prog.funcs[44]? = some f44 := by kernel_rfl
theorem body44 : f44.body = some (codeOf f44) := by kernel_rfl
theorem e44 {a0 : Value} : W prog J 15 h.length 44 (codeOf f44) (RG.mk (regs [a0]) []) h (RetQ prog [.tmp 2, .tmp 3] h.length K) =
(aBox a0 h fun v1 h2 =>
aLoad true 6 v1 h2 fun v3 =>
Good prog J 52 [v3] h2 fun v4 h5 =>
aBin prog .neq 32 v4 (vint 0) fun v6 =>
cnd v6
(retL h.length K [] [(Value.slice none 0 0), v4] h5)
(aLoad true 6 v1 h5 fun v7 =>
Good prog J 81 [v7] h5 fun v8 h9 =>
aUn .not v8 fun v10 =>
cnd v10
(retL h.length K [] [(Value.slice none 0 0), (vint 11)] h9)
(aLoad true 6 v1 h9 fun v11 =>
Good prog J 82 [v11] h9 fun v12 h13 =>
retL h.length K [] [v12, (vint 0)] h13))) := by kernel_rfl
theorem g44 (hJ : Closed prog main J) {a0 : Value} (hs : heapOk h → W prog J 15 h.length 44 (codeOf f44) (RG.mk (regs [a0]) []) h (RetQ prog [.tmp 2, .tmp 3] h.length K)) : Good prog J 44 [a0] h K :=
  good_of_W hJ mixed at44 body44 (by kernel_rfl) (Nat.le_of_ble_eq_true rfl) hs
end
end Go.Proofs.Ytdgpacdknpahnaa

namespace Go.Proofs.Ytdgpacdknpahnaa
open Go.Conc Go.Proofs.Try
set_option maxRecDepth 100000
instance (r : Rng) (n : Int) : Decidable (r.has n) := inferInstanceAs (Decidable (_ ∧ _))

def AllP (t : Tal) (g : Int) (n : Int) : Prop := ∀ c ∈ t.counts, c.gate = g → (rd c).has n

theorem poss_iff {c : Cnt} (h1 : 0 ≤ c.num ∧ c.num ≤ 300) (h2 : 0 ≤ c.err ∧ c.err ≤ 20) {n : Int} : (rd c).has n ↔ 0 ≤ n ∧ 100 * (c.num - n) ≤ c.err * n ∧ 100 * -(c.num - n) ≤ c.err * n := by
  obtain ⟨a, b, d, e⟩ := rd_facts h1 h2
  show rdLo c ≤ n ∧ n ≤ rdHi c ↔ _
  rw [lo_le h2, le_hi h2]
  refine ⟨fun ⟨x, y⟩ => ⟨?_, by omega, by omega⟩, fun ⟨x, y, z⟩ => ⟨by omega, by omega⟩⟩
  have := (lo_le h2 (n := n)).2 x
  omega

theorem lim_iff {t : Tal} (f : TalFine t) {g : Nat} {n : Int} : (limA t 0 g).has n ↔ (0 ≤ n ∧ n ≤ 600) ∧ AllP t g n := by
  have key : ∀ i, i ≤ t.counts.length → ((limN 0 t.counts i g).has n ↔ (0 ≤ n ∧ n ≤ 600) ∧ ∀ j (hj : j < t.counts.length), j < i → t.counts[j].gate = g → (rd t.counts[j]).has n) := by
    intro i
    induction i with
    | zero =>
      intro _
      show (⟨0, 600⟩ : Rng).has n ↔ _
      unfold Rng.has
      simp
    | succ i ih =>
      intro hi
      have ih := ih (by omega)
      rw [limN_step (by omega), keep_zero]
      show (updL _ _ _ g).has n ↔ _
      have hc := f.co _ (List.getElem_mem (show i < t.counts.length by omega))
      unfold updL
      by_cases e : g = t.counts[i].gate.toNat
      · have e' : t.counts[i].gate = g := by omega
        rw [if_pos e, ← e]
        have hm : ((limN 0 t.counts i g).meet (rd t.counts[i])).has n ↔ (limN 0 t.counts i g).has n ∧ (rd t.counts[i]).has n := by
          unfold Rng.meet Rng.has
          dsimp only
          omega
        rw [hm, ih]
        refine ⟨fun ⟨⟨x, y⟩, z⟩ => ⟨x, fun j hj hji hg => ?_⟩, fun ⟨x, y⟩ => ⟨⟨x, fun j hj hji hg => y j hj (by omega) hg⟩, y i (by omega) (by omega) e'⟩⟩
        by_cases ej : j = i
        · subst ej
          exact z
        · exact y j hj (by omega) hg
      · rw [if_neg e, ih]
        refine ⟨fun ⟨x, y⟩ => ⟨x, fun j hj hji hg => ?_⟩, fun ⟨x, y⟩ => ⟨x, fun j hj hji hg => y j hj (by omega) hg⟩⟩
        by_cases ej : j = i
        · subst ej
          exact absurd (by omega) e
        · exact y j hj (by omega) hg
  unfold limA
  rw [key _ (Nat.le_refl _)]
  refine and_congr_right fun _ => ⟨fun h c hc => ?_, fun h j hj _ hg => h _ (List.getElem_mem hj) hg⟩
  obtain ⟨j, hj, rfl⟩ := List.mem_iff_getElem.1 hc
  exact h j hj hj

def befLo (t : Tal) (g : Nat) (n : Int) : Int := max 0 (n - ((t.changes[g]?).getD ⟨0, 0⟩).hi)
def befHi (t : Tal) (g : Nat) (n : Int) : Int := min 540 (n - ((t.changes[g]?).getD ⟨0, 0⟩).lo + t.most)
def behLo (t : Tal) (g : Nat) (n : Int) : Int := max 0 (n + ((t.changes[g]?).getD ⟨0, 0⟩).lo - t.most)
def behHi (t : Tal) (g : Nat) (n : Int) : Int := min 540 (n + ((t.changes[g]?).getD ⟨0, 0⟩).hi)

def Ch (t : Tal) : Nat → Int → Prop
  | 0, n => t.first.has n ∧ AllP t (0 : Nat) n
  | g + 1, n => (0 ≤ n ∧ n ≤ 540) ∧ (∃ m, befLo t g n ≤ m ∧ m ≤ befHi t g n ∧ Ch t g m) ∧ AllP t (g + 1 : Nat) n

section
variable {t : Tal}
theorem fwd_top (f : TalFine t) {L : Nat → Rng} : ∀ g : Nat, (fwd t L g).hi ≤ 300 + 60 * g
  | 0 => by
    have := f.first
    unfold fwd Rng.meet
    dsimp only
    omega
  | g + 1 => by
    have ih := fwd_top f (L := L) g
    have hm := f.most
    show min ((fwd t L g).hi + (stretchR t g).hi) _ ≤ _
    have : (stretchR t g).hi ≤ 60 := by
      unfold stretchR
      cases e : t.changes[g]? with
      | none =>
        unfold Rng.plus
        dsimp only [Option.getD]
        omega
      | some r =>
        have := f.ch r (List.mem_of_getElem? e)
        unfold Rng.plus
        dsimp only [Option.getD]
        omega
    omega
theorem ch_iff (f : TalFine t) : ∀ g, g < t.gates.toNat → ∀ n, Ch t g n ↔ (∀ j, j < g → (fwd t (limA t 0) j).lo ≤ (fwd t (limA t 0) j).hi) ∧ (fwd t (limA t 0) g).has n
  | 0, hg, n => by
    have h1 := f.first
    have hl := lim_iff f (g := 0) (n := n)
    show t.first.has n ∧ AllP t (0 : Nat) n ↔ _ ∧ (t.first.meet (limA t 0 0)).has n
    have hm : (t.first.meet (limA t 0 0)).has n ↔ t.first.has n ∧ (limA t 0 0).has n := by
      unfold Rng.meet Rng.has
      dsimp only
      omega
    rw [hm, hl]
    unfold Rng.has
    refine ⟨fun ⟨x, y⟩ => ⟨fun j hj => absurd hj (by omega), x, by omega, y⟩, fun ⟨_, x, _, y⟩ => ⟨x, y⟩⟩
  | g + 1, hg, n => by
    have ih := ch_iff f g (by omega)
    have hgt := f.gates
    have hch := f.chl
    have hc := f.ch _ (List.getElem_mem (show g < t.changes.length by omega))
    have hmo := f.most
    have hl := lim_iff f (g := g + 1) (n := n)
    have eg : (t.changes[g]?).getD ⟨0, 0⟩ = t.changes[g] := by rw [List.getElem?_eq_getElem (show g < t.changes.length by omega)]; rfl
    have es : stretchR t g = ⟨t.changes[g].lo + -t.most, t.changes[g].hi + 0⟩ := by
      unfold stretchR
      rw [eg]
      rfl
    have hm : (fwd t (limA t 0) (g + 1)).has n ↔ ((fwd t (limA t 0) g).plus (stretchR t g)).has n ∧ (limA t 0 (g + 1)).has n := by
      show (((fwd t (limA t 0) g).plus (stretchR t g)).meet (limA t 0 (g + 1))).has n ↔ _
      unfold Rng.meet Rng.has
      dsimp only
      omega
    have ht := fwd_top f (L := limA t 0) g
    rw [hm, hl]
    show (0 ≤ n ∧ n ≤ 540) ∧ (∃ m, befLo t g n ≤ m ∧ m ≤ befHi t g n ∧ Ch t g m) ∧ AllP t (g + 1 : Nat) n ↔ _
    unfold befLo befHi
    rw [eg, es]
    constructor
    · rintro ⟨x, ⟨m, m1, m2, m3⟩, y⟩
      obtain ⟨a1, a2⟩ := (ih m).1 m3
      unfold Rng.has at a2
      refine ⟨fun j hj => ?_, ?_, by omega, y⟩
      · by_cases e : j = g
        · subst e
          omega
        · exact a1 j (by omega)
      · unfold Rng.plus Rng.has
        dsimp only
        omega
    · rintro ⟨x, y, z, w⟩
      unfold Rng.plus Rng.has at y
      dsimp only at y
      have hne := x g (by omega)
      have hlo : 0 ≤ (fwd t (limA t 0) g).lo := by
        have := fwd_lim (t := t) (L := limA t 0) (g := g) (n := (fwd t (limA t 0) g).lo) ⟨Int.le_refl _, hne⟩
        have := ((lim_iff f).1 this).1
        omega
      refine ⟨by omega, ⟨max (fwd t (limA t 0) g).lo (n - t.changes[g].hi), by omega, by omega, (ih _).2 ⟨fun j hj => x j (by omega), ?_⟩⟩, w⟩
      unfold Rng.has
      omega
theorem truth_iff (f : TalFine t) : TruthIs t (limA t 0) ↔ ∃ n, (0 ≤ n ∧ n < 541) ∧ Ch t (t.gates.toNat - 1) n := by
  have hg := f.gates
  constructor
  · intro hT
    have h1 := hT (t.gates.toNat - 1) (by omega)
    have h2 := fwd_lim (t := t) (L := limA t 0) (g := t.gates.toNat - 1) (n := (fwd t (limA t 0) (t.gates.toNat - 1)).lo) ⟨Int.le_refl _, h1⟩
    have h3 := ((lim_iff f).1 h2).1
    have h4 := fwd_top f (L := limA t 0) (t.gates.toNat - 1)
    exact ⟨_, by omega, (ch_iff f _ (by omega) _).2 ⟨fun j hj => hT j (by omega), Int.le_refl _, h1⟩⟩
  · rintro ⟨n, _, h⟩ g hgl
    obtain ⟨a, b⟩ := (ch_iff f _ (by omega) _).1 h
    unfold Rng.has at b
    by_cases e : g = t.gates.toNat - 1
    · subst e
      omega
    · exact a g (by omega)
theorem ch_fwd (f : TalFine t) (hT : TruthIs t (limA t 0)) {g : Nat} (hg : g < t.gates.toNat) {n : Int} : Ch t g n ↔ (fwd t (limA t 0) g).has n := by
  rw [ch_iff f g hg]
  exact ⟨fun h => h.2, fun h => ⟨fun j hj => hT j (by omega), h⟩⟩
theorem bk_iff (f : TalFine t) (hT : TruthIs t (limA t 0)) {g : Nat} (hg : g + 1 < t.gates.toNat) {n : Int} : (bkR t (limA t 0) g).has n ↔ (fwd t (limA t 0) g).has n ∧ ∃ m, behLo t g n ≤ m ∧ m ≤ behHi t g n ∧ (bkR t (limA t 0) (g + 1)).has m := by
  have hch := f.chl
  have hgt := f.gates
  have eg : (t.changes[g]?).getD ⟨0, 0⟩ = t.changes[g] := by rw [List.getElem?_eq_getElem (show g < t.changes.length by omega)]; rfl
  have es : stretchR t g = ⟨t.changes[g].lo + -t.most, t.changes[g].hi + 0⟩ := by
    unfold stretchR
    rw [eg]
    rfl
  unfold behLo behHi
  rw [eg]
  constructor
  · intro h
    obtain ⟨m, h1, h2⟩ := bk_next f hT hg h
    have h3 := bk_rsm f hT (g + 1) (by omega)
    have h4 := bk_fwd (by omega) h1
    have h5 := fwd_top f (L := limA t 0) (g + 1)
    rw [es] at h2
    unfold Rng.has at h1 h2 h4
    dsimp only at h2
    exact ⟨bk_fwd (by omega) h, m, by omega, by omega, by unfold Rng.has; omega⟩
  · rintro ⟨h1, m, h2, h3, h4⟩
    rw [bkR_step hg, es]
    unfold Rng.meet Rng.plus Rng.turn Rng.has at *
    dsimp only
    omega
end
def rowD (f : Nat → Bool) : List Value := (List.range 541).map fun j => .bool (f j)
theorem rowD_len (f : Nat → Bool) : (rowD f).length = 541 := by simp [rowD]
theorem rowD_get (f : Nat → Bool) {n : Nat} (hn : n < 541) : (rowD f)[n]? = some (.bool (f n)) := by simp [rowD, hn]
theorem rowD_set (f : Nat → Bool) {n : Nat} (x : Bool) : (rowD f).set n (.bool x) = rowD (fun j => if j = n then x else f j) := by
  apply List.ext_getElem?
  intro i
  rw [List.getElem?_set]
  by_cases hi : i < 541
  · rw [rowD_get _ hi, rowD_get _ hi]
    by_cases e : n = i
    · subst e
      simp [rowD_len, hi]
    · rw [if_neg e, if_neg (fun x => e x.symm)]
  · have h1 : (rowD f)[i]? = none := List.getElem?_eq_none (by rw [rowD_len]; omega)
    have h2 : (rowD fun j => if j = n then x else f j)[i]? = none := List.getElem?_eq_none (by rw [rowD_len]; omega)
    rw [h1, h2]
    split
    · rw [if_neg (by rw [rowD_len]; omega)]
    · rfl
theorem rowD_zero : zrep [Value.bool false] 541 = rowD fun _ => false := by
  rw [zrep_one]
  apply List.ext_getElem?
  intro i
  by_cases hi : i < 541
  · rw [rowD_get _ hi, List.getElem?_replicate, if_pos hi]
  · rw [List.getElem?_eq_none (by rw [List.length_replicate]; omega), List.getElem?_eq_none (by rw [rowD_len]; omega)]
theorem rowD_congr {f f' : Nat → Bool} (h : ∀ j, j < 541 → f j = f' j) : rowD f = rowD f' := List.map_congr_left fun j hj => by rw [h j (by simpa using hj)]
section
variable {main : Bool} {J : JT} {h h0 H : List AObj} {K : Value → List AObj → Prop} {KV : Value → Prop} {n0 : Nat}
theorem good85 (hJ : Closed prog main J) {c : Cnt} {n : Int} (h1 : 0 ≤ c.num ∧ c.num ≤ 300) (h2 : 0 ≤ c.err ∧ c.err ≤ 20) (hn : -1000000 ≤ n ∧ n ≤ 1000000) (hK : K (.bool (decide ((rd c).has n))) h) : Good prog J 85 [c.val, vint n] h K := by
  refine g85 hJ fun ok => ?_
  rw [e85]
  unfold Cnt.val
  refine qBox (l := c.cells) rfl fun H1 p1 e1 S1 c1 l1 => ?_
  have hp := poss_iff h1 h2 (n := n)
  have c1' : H1[p1]? = some (.cells [vint c.gate, vint c.man, vint c.num, vint c.err] true 0) := c1
  have hm : -20000000 ≤ c.err * n ∧ c.err * n ≤ 20000000 := by
    rcases Int.le_total 0 n with x | x
    · have := mul_bd h2.1 h2.2 x hn.2
      omega
    · have := mul_bd h2.1 h2.2 (show 0 ≤ -n by omega) (show -n ≤ 1000000 by omega)
      rw [Int.mul_neg] at this
      omega
  have fin : ∀ b : Bool, b = decide ((rd c).has n) → retL h.length K [] [.bool b] H1 := fun b hb => by
    subst hb
    exact retX ok (Nat.le_refl _) S1 (by simp) (by simp [unk]) (by simp [pack, VOk]) hK
  refine offI (ldI (v := vint c.num) c1' rfl rfl (subI (by omega) (lssI (cndI (fun hlt => negI (by omega) ?_) fun hge => ?_))))
  · refine geqI (cndI (fun h0 => mulI (by omega) (offI (ldI (v := vint c.err) c1' rfl rfl (mulI (by omega) (leqI (fin _ ?_)))))) fun h0 => fin _ ?_)
    · rw [decide_eq_decide, hp]
      omega
    · rw [eq_comm, decide_eq_false_iff_not, hp]
      omega
  · refine geqI (cndI (fun h0 => mulI (by omega) (offI (ldI (v := vint c.err) c1' rfl rfl (mulI (by omega) (leqI (fin _ ?_)))))) fun h0 => fin _ ?_)
    · rw [decide_eq_decide, hp]
      omega
    · rw [eq_comm, decide_eq_false_iff_not, hp]
      omega

noncomputable instance (t : Tal) (g n : Int) : Decidable (AllP t g n) := Classical.propDecidable _
noncomputable instance (t : Tal) (g : Nat) (n : Int) : Decidable (Ch t g n) := Classical.propDecidable _

theorem good94 (hJ : Closed prog main J) {v cv nv : Value} {t : Tal} {g n : Int} (ht : TalAt h v t cv nv) (hc : CoSm t.counts) (hn : -1000000 ≤ n ∧ n ≤ 1000000) (hK : K (.bool (decide (AllP t g n))) h) : Good prog J 94 [v, vint g, vint n] h K := by
  refine g94 hJ fun ok => ?_
  rw [e94, ht.val]
  have kc : kn1 cv = true ∧ kn1 nv = true := ⟨(sli_one ht.ch).2.2, (sli_one ht.co).2.2⟩
  refine qBox (tal_one ht) fun H1 p1 e1 S1 c1 l1 => ?_
  have co := S1.sli ht.co (by simp)
  have fin : ∀ b : Bool, b = decide (AllP t g n) → retL h.length K [] [.bool b] H1 := fun b hb => by
    subst hb
    exact retX ok (Nat.le_refl _) S1 (by simp) (by simp [unk]) (by simp [pack, VOk]) hK
  have hl := hc.1
  refine l94_1 hJ (fun i : Nat => 100 - i) (fun i f H => H = H1 ∧ i ≤ t.counts.length ∧ (∀ j (hj : j < t.counts.length), j < i → t.counts[j].gate = g → (rd t.counts[j]).has n) ∧ f.ds = [] ∧ f.r 1 = vint g ∧ f.r 2 = vint n ∧ f.r 3 = ptr p1 0 ∧ f.r 7 = vint (i : Nat)) ?_ (s := 0)
    (.inl ⟨rfl, by omega, by simp, rfl, rfl, rfl, rfl, rfl⟩)
  rintro i f H ⟨rfl, hi, hall, hds, r1, r2, r3, r7⟩ ok' hn'
  rw [s94_1]
  simp only [r1, r2, r3, r7, hds]
  refine offI (ldI (v := nv) c1 rfl kc.2 (lenI co (lssI (cndI (fun hlt => ?_) fun hge => fin _ ?_))))
  rotate_left
  · rw [eq_comm, decide_eq_true_eq]
    intro c hcm
    obtain ⟨j, hj, rfl⟩ := List.mem_iff_getElem.1 hcm
    exact hall j hj (by omega)
  have hi' : i < t.counts.length := by omega
  obtain ⟨b2, o2, cs2, w2, z2, hx2, hb2, hle2, hp2, hk2⟩ := sliE_elem cnt_len (by omega) co hi'
  obtain ⟨q1, q2, q3⟩ := hc.2 _ (List.getElem_mem hi')
  have next : ∀ F : RG, F.r 32 = .bool false → F.ds = [] → F.r 1 = vint g → F.r 2 = vint n → F.r 3 = ptr p1 0 → F.r 7 = vint (i : Nat) → (t.counts[i].gate = g → (rd t.counts[i]).has n) →
      W prog J 33 h.length 94 (subC [1, 0, 1, 0, 0, 1, 0, 0, 1] (codeOf f94)) F H (contQ prog J 33 h.length 94 [1, 0, 1, 0, 0, 1, 0, 0, 1] (codeOf f94) [Nx h.length (fun i : Nat => 100 - i) (fun i f H' => H' = H ∧ i ≤ t.counts.length ∧ (∀ j (hj : j < t.counts.length), j < i → t.counts[j].gate = g → (rd t.counts[j]).has n) ∧ f.ds = [] ∧ f.r 1 = vint g ∧ f.r 2 = vint n ∧ f.r 3 = ptr p1 0 ∧ f.r 7 = vint (i : Nat)) i] (RetQ prog [.tmp 6] h.length K)) := by
    intro F t32 tds t1 t2 t3 t7 hin
    rw [s94_2, t32, t7]
    refine cnd_false.2 (addI (by omega) ⟨i + 1, by dsimp only; omega, .inl ⟨rfl, by omega, fun j hj hji hg => ?_, tds, t1, t2, t3, rfl⟩⟩)
    by_cases e : j = i
    · subst e
      exact hin hg
    · exact hall j hj (by omega) hg
  refine offI (ldI (v := nv) c1 rfl kc.2 (hx2 _ (offI (ldI hb2 (part_get (j := 0) hp2 rfl) rfl (eqlI (cndI (fun hg => ?_) fun hg => ?_))))))
  · refine offI (ldI (v := nv) c1 rfl kc.2 (hx2 _ (load_part (c := t.counts[i].cells) hb2 hle2 hp2 hk2 ?_)))
    refine good85 hJ (c := t.counts[i]) q2 q3 hn (notI ?_)
    by_cases hh : (rd t.counts[i]).has n
    · refine next _ ?_ hds r1 r2 r3 r7 fun _ => hh
      show Value.bool (!decide _) = _
      rw [decide_eq_true hh]
      rfl
    · rw [s94_2]
      have e : (!decide ((rd t.counts[i]).has n)) = true := by rw [decide_eq_false hh]; rfl
      rw [e]
      refine cnd_true.2 ?_
      show retL h.length K f.ds _ _
      rw [hds]
      refine fin _ ?_
      rw [eq_comm, decide_eq_false_iff_not]
      exact fun x => hh (x _ (List.getElem_mem hi') hg)
  · exact next _ rfl hds r1 r2 r3 r7 fun x => absurd x hg

theorem good112 (hJ : Closed prog main J) {v cv nv : Value} {t : Tal} {g : Nat} {n : Int} (ht : TalAt h v t cv nv) (fine : TalFine t) (hg : g < t.changes.length) (hn : -1000000 ≤ n ∧ n ≤ 1000000) (hK : K (.tuple ⟨[vint (befLo t g n), vint (befHi t g n)]⟩) h) : Good prog J 112 [v, vint g, vint n] h K := by
  refine g112 hJ fun ok => ?_
  rw [e112, ht.val]
  have kc : kn1 cv = true ∧ kn1 nv = true := ⟨(sli_one ht.ch).2.2, (sli_one ht.co).2.2⟩
  have hc := fine.ch _ (List.getElem_mem hg)
  have hm := fine.most
  have eg : (t.changes[g]?).getD ⟨0, 0⟩ = t.changes[g] := by rw [List.getElem?_eq_getElem hg]; rfl
  unfold befLo befHi at hK
  rw [eg] at hK
  refine qBox (tal_one ht) fun H1 p1 e1 S1 c1 l1 => ?_
  have ch := S1.sli ht.ch (by simp)
  obtain ⟨b2, o2, cs2, w2, z2, hx2, hb2, hle2, hp2, hk2⟩ := sliE_elem rng_len (by omega) ch hg
  refine offI (ldI (v := cv) c1 rfl kc.1 (hx2 _ (offI (ldI hb2 (part_get (j := 1) hp2 rfl) rfl (subI (by omega) (maxI ?_))))))
  refine offI (ldI (v := cv) c1 rfl kc.1 (hx2 _ (offI (ldI hb2 (part_get (j := 0) hp2 rfl) rfl (subI (by omega) (offI (ldI (v := vint t.most) c1 rfl rfl (addI (by omega) (minI ?_)))))))))
  exact retX ok (Nat.le_refl _) S1 (by simp) (by simp [unk]) (by simp [pack, VOk, AOk, LOk]) hK
theorem good108 (hJ : Closed prog main J) {v cv nv : Value} {t : Tal} {g : Nat} {n : Int} (ht : TalAt h v t cv nv) (fine : TalFine t) (hg : g < t.changes.length) (hn : -1000000 ≤ n ∧ n ≤ 1000000) (hK : K (.tuple ⟨[vint (behLo t g n), vint (behHi t g n)]⟩) h) : Good prog J 108 [v, vint g, vint n] h K := by
  refine g108 hJ fun ok => ?_
  rw [e108, ht.val]
  have kc : kn1 cv = true ∧ kn1 nv = true := ⟨(sli_one ht.ch).2.2, (sli_one ht.co).2.2⟩
  have hc := fine.ch _ (List.getElem_mem hg)
  have hm := fine.most
  have eg : (t.changes[g]?).getD ⟨0, 0⟩ = t.changes[g] := by rw [List.getElem?_eq_getElem hg]; rfl
  unfold behLo behHi at hK
  rw [eg] at hK
  refine qBox (tal_one ht) fun H1 p1 e1 S1 c1 l1 => ?_
  have ch := S1.sli ht.ch (by simp)
  obtain ⟨b2, o2, cs2, w2, z2, hx2, hb2, hle2, hp2, hk2⟩ := sliE_elem rng_len (by omega) ch hg
  refine offI (ldI (v := cv) c1 rfl kc.1 (hx2 _ (offI (ldI hb2 (part_get (j := 0) hp2 rfl) rfl (addI (by omega) (offI (ldI (v := vint t.most) c1 rfl rfl (subI (by omega) (maxI ?_)))))))))
  refine offI (ldI (v := cv) c1 rfl kc.1 (hx2 _ (offI (ldI hb2 (part_get (j := 1) hp2 rfl) rfl (addI (by omega) (minI ?_))))))
  exact retX ok (Nat.le_refl _) S1 (by simp) (by simp [unk]) (by simp [pack, VOk, AOk, LOk]) hK

def rowV (b : Nat) : Value := .slice (some ⟨b, 0, none⟩) 541 541

structure Grid (h H : List AObj) (v : Value) (bs : List Nat) (o : Option Nat) (P : Nat → Nat → Bool) : Prop where
  own : OwnX H 1 (bs.map rowV) bs.length v o
  rows : ∀ j (hj : j < bs.length), H[bs[j]]? = some (.cells (rowD (P j)) true 0)
  inc : ∀ i j (hi : i < bs.length) (hj : j < bs.length), i < j → bs[i] < bs[j]
  new : ∀ b ∈ bs, h.length ≤ b
  onew : ∀ i, o = some i → h.length ≤ i ∧ i ∉ bs

theorem Grid.same {v : Value} {bs : List Nat} {o : Option Nat} {P : Nat → Nat → Bool} {X : List Nat} {H' : List AObj} (G : Grid h H v bs o P) (S : SameX X H H') (h1 : ∀ b ∈ bs, b ∉ X) (h2 : ∀ i, o = some i → i ∉ X) : Grid h H' v bs o P :=
  ⟨ownX_keep G.own S h2, fun j hj => S.get (G.rows j hj) (h1 _ (List.getElem_mem hj)), G.inc, G.new, G.onew⟩
theorem Grid.lt {v : Value} {bs : List Nat} {o : Option Nat} {P : Nat → Nat → Bool} (G : Grid h H v bs o P) : ∀ b ∈ bs, b < H.length := fun b hb => by
  obtain ⟨j, hj, rfl⟩ := List.mem_iff_getElem.1 hb
  exact lt_of_get (G.rows j hj)
theorem Grid.read {v : Value} {bs : List Nat} {o : Option Nat} {P : Nat → Nat → Bool} (G : Grid h H v bs o P) {j n : Nat} (hj : j < bs.length) (hn : n < 541) {K2 : Value → Value → Value → Value → Prop} (hk : ∀ p q, K2 p (rowV bs[j]) q (.bool (P j n))) :
    aIdx 1 v (vint j) fun v4 => aLoad false 1 v4 H fun v5 => aIdx 1 v5 (vint n) fun v6 => aLoad false 1 v6 H (K2 v4 v5 v6) := by
  obtain ⟨h1, h2, ⟨h3, _, _⟩ | ⟨i, c, sz, _, rfl, h5, _⟩⟩ := G.own
  · omega
  · refine idxI ⟨by omega, by omega⟩ ?_
    rw [Int.toNat_natCast, Nat.zero_add]
    refine ldI (v := rowV bs[j]) h5 (by simp [hj]) rfl (idxI ⟨by omega, by omega⟩ ?_)
    rw [Int.toNat_natCast, Nat.zero_add]
    exact ldI (G.rows j hj) (by rw [Nat.mul_one]; exact rowD_get _ hn) rfl (hk _ _)
end
end Go.Proofs.Ytdgpacdknpahnaa

namespace Go.Proofs.Ytdgpacdknpahnaa
open Go.Conc Go.Proofs.Try
def Ext (P : Int → Prop) (x y : Int) : Prop := ((∃ s, P s) → P x ∧ P y ∧ ∀ s, P s → x ≤ s ∧ s ≤ y) ∧ ((¬ ∃ s, P s) → x = -1 ∧ y = -1)

section
variable {P Q N : Int → Prop} {x y u v a b : Int}
theorem Ext.iff (e : Ext P x y) (h : ∀ s, P s ↔ Q s) : Ext Q x y := by
  have : P = Q := funext fun s => propext (h s)
  rw [← this]
  exact e
theorem ext_none (h : ∀ s, ¬ P s) : Ext P (-1) (-1) := ⟨fun ⟨s, hs⟩ => absurd hs (h s), fun _ => ⟨rfl, rfl⟩⟩
theorem Ext.neg (e : Ext P x y) (hP : ∀ s, P s → 0 ≤ s) : x < 0 ↔ ¬ ∃ s, P s := by
  by_cases h : ∃ s, P s
  · have := hP _ (e.1 h).1
    exact ⟨fun hx => absurd hx (by omega), fun hx => absurd h hx⟩
  · have := (e.2 h).1
    exact ⟨fun _ => h, fun _ => by omega⟩
theorem Ext.step (e : Ext P x y) (q : Ext Q u v) (hP : ∀ s, P s → 0 ≤ s) (hQ : ∀ s, Q s → 0 ≤ s) (hex : ∃ s, Q s) (hab : a ≤ b) (ha : 0 ≤ a)
    (hN : ∀ s, N s ↔ P s ∨ ∃ s' l, Q s' ∧ (a ≤ l ∧ l ≤ b) ∧ s = s' + l) : Ext N (if x < 0 ∨ u + a < x then u + a else x) (max y (v + b)) := by
  obtain ⟨q1, q2, q3⟩ := q.1 hex
  have hu := hQ _ q1
  have hv := hQ _ q2
  have n1 : N (u + a) := (hN _).2 (.inr ⟨u, a, q1, ⟨Int.le_refl _, hab⟩, rfl⟩)
  have n2 : N (v + b) := (hN _).2 (.inr ⟨v, b, q2, ⟨hab, Int.le_refl _⟩, rfl⟩)
  refine ⟨fun _ => ?_, fun hn => absurd ⟨_, n1⟩ hn⟩
  by_cases hp : ∃ s, P s
  · obtain ⟨p1, p2, p3⟩ := e.1 hp
    have hx := hP _ p1
    have m1 := (hN _).2 (.inl p1)
    have m2 := (hN _).2 (.inl p2)
    refine ⟨?_, ?_, fun s hs => ?_⟩
    · split
      · exact n1
      · exact m1
    · rcases Int.le_total y (v + b) with z | z
      · rw [Int.max_eq_right z]
        exact n2
      · rw [Int.max_eq_left z]
        exact m2
    · rcases (hN s).1 hs with hs | ⟨s', l, h1, h2, rfl⟩
      · have := p3 s hs
        split <;> omega
      · have := q3 s' h1
        split <;> omega
  · obtain ⟨rfl, rfl⟩ := e.2 hp
    rw [if_pos (.inl (by omega)), Int.max_eq_right (by omega)]
    refine ⟨n1, n2, fun s hs => ?_⟩
    rcases (hN s).1 hs with hs | ⟨s', l, h1, h2, rfl⟩
    · exact absurd ⟨s, hs⟩ hp
    · have := q3 s' h1
      omega
end
def Sn (t : Tal) (R : Nat → Rng) (a d : Nat) (m lo k : Int) (s : Int) : Prop :=
  (R (a + d + 1)).has m ∧ ∃ n s' l, (lo ≤ n ∧ n < k) ∧ Sum t R a d n s' ∧ (ownL t (a + d) n m).has l ∧ s = s' + l

section
variable {t : Tal} {R : Nat → Rng} {a d : Nat} {m lo k : Int}
theorem sn_pos {s : Int} (h : Sn t R a d m lo k s) : 0 ≤ s := by
  obtain ⟨_, n, s', l, _, h1, h2, rfl⟩ := h
  have := h1.bd
  have := own_bd h2
  omega
theorem sn_zero {s : Int} (h : k ≤ lo) : ¬ Sn t R a d m lo k s := fun ⟨_, n, _, _, h1, _⟩ => by omega
theorem sn_next (hk : lo ≤ k) (hm : (R (a + d + 1)).has m) (s : Int) : Sn t R a d m lo (k + 1) s ↔ Sn t R a d m lo k s ∨ ∃ s' l, Sum t R a d k s' ∧ ((ownL t (a + d) k m).lo ≤ l ∧ l ≤ (ownL t (a + d) k m).hi) ∧ s = s' + l := by
  constructor
  · rintro ⟨h0, n, s', l, h1, h2, h3, rfl⟩
    by_cases e : n = k
    · subst e
      exact .inr ⟨s', l, h2, h3, rfl⟩
    · exact .inl ⟨h0, n, s', l, by omega, h2, h3, rfl⟩
  · rintro (⟨h0, n, s', l, h1, h2, h3, rfl⟩ | ⟨s', l, h2, h3, rfl⟩)
    · exact ⟨h0, n, s', l, by omega, h2, h3, rfl⟩
    · exact ⟨hm, k, s', l, by omega, h2, h3, rfl⟩
theorem sn_skip (hno : ¬ ∃ s, Sum t R a d k s) (s : Int) : Sn t R a d m lo (k + 1) s ↔ Sn t R a d m lo k s := by
  constructor
  · rintro ⟨h0, n, s', l, h1, h2, h3, rfl⟩
    by_cases e : n = k
    · subst e
      exact absurd ⟨s', h2⟩ hno
    · exact ⟨h0, n, s', l, by omega, h2, h3, rfl⟩
  · rintro ⟨h0, n, s', l, h1, h2, h3, rfl⟩
    exact ⟨h0, n, s', l, by omega, h2, h3, rfl⟩
theorem sn_all (hR : ∀ n, (R (a + d)).has n → 0 ≤ n ∧ n ≤ 540) (hk : k = max (befLo t (a + d) m) (befHi t (a + d) m + 1)) (s : Int) : Sn t R a d m (befLo t (a + d) m) k s ↔ Sum t R a (d + 1) m s := by
  constructor
  · rintro ⟨h0, n, s', l, h1, h2, h3, rfl⟩
    exact .step h2 h0 h3
  · intro h
    cases h with
    | @step _ n _ s' l h2 h0 h3 =>
      refine ⟨h0, n, s', l, ?_, h2, h3, rfl⟩
      have hn := hR n h2.at
      have h4 := h3
      unfold ownL Rng.has at h4
      dsimp only at h4
      unfold befLo befHi at *
      omega
theorem sn_own {n : Int} (h1 : befLo t (a + d) m ≤ n) (h2 : n ≤ befHi t (a + d) m) (h : ((t.changes[a + d]?).getD ⟨0, 0⟩).lo ≤ ((t.changes[a + d]?).getD ⟨0, 0⟩).hi) (hm : 0 ≤ t.most) : (ownL t (a + d) n m).lo ≤ (ownL t (a + d) n m).hi := by
  unfold befLo at h1
  unfold befHi at h2
  unfold ownL
  dsimp only
  omega
end
def rowI (f : Nat → Int) : List Value := (List.range 541).map fun j => vint (f j)
theorem rowI_len (f : Nat → Int) : (rowI f).length = 541 := by simp [rowI]
theorem rowI_get (f : Nat → Int) {n : Nat} (hn : n < 541) : (rowI f)[n]? = some (vint (f n)) := by simp [rowI, hn]
theorem rowI_congr {f f' : Nat → Int} (h : ∀ j, j < 541 → f j = f' j) : rowI f = rowI f' := List.map_congr_left fun j hj => by rw [h j (by simpa using hj)]
theorem rowI_set (f : Nat → Int) {n : Nat} (x : Int) : (rowI f).set n (vint x) = rowI (fun j => if j = n then x else f j) := by
  apply List.ext_getElem?
  intro i
  rw [List.getElem?_set]
  by_cases hi : i < 541
  · rw [rowI_get _ hi, rowI_get _ hi]
    by_cases e : n = i
    · subst e
      simp [rowI_len, hi]
    · rw [if_neg e, if_neg (fun x => e x.symm)]
  · have h1 : (rowI f)[i]? = none := List.getElem?_eq_none (by rw [rowI_len]; omega)
    have h2 : (rowI fun j => if j = n then x else f j)[i]? = none := List.getElem?_eq_none (by rw [rowI_len]; omega)
    rw [h1, h2]
    split
    · rw [if_neg (by rw [rowI_len]; omega)]
    · rfl
theorem rowI_zero : zrep [vint 0] 541 = rowI fun _ => 0 := by kernel_rfl
end Go.Proofs.Ytdgpacdknpahnaa
