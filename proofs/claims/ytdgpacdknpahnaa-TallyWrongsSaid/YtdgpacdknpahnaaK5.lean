/- Parts of the proof, 5. No conditions. -/
import Derived.Test.YtdgpacdknpahnaaK4
import Derived.Test.YtdgpacdknpahnaaK3
import Derived.Test.YtdgpacdknpahnaaK2
namespace Go.Proofs.Ytdgpacdknpahnaa
open Go.Conc Go.Proofs.Try
set_option maxRecDepth 100000
def TruthIs (t : Tal) (L : Nat → Rng) : Prop := ∀ g : Nat, (g : Int) < t.gates → (fwd t L g).lo ≤ (fwd t L g).hi
noncomputable instance (t : Tal) (L : Nat → Rng) : Decidable (TruthIs t L) := Classical.propDecidable _
section
variable {main : Bool} {J : JT} {h h0 : List AObj} {K : Value → List AObj → Prop} {KV : Value → Prop} {HL : List AObj → Prop}
theorem lim_key (L : Nat → Rng) : kOk prog 10000 127 (.agg ⟨limCells L⟩) = true := by kernel_rfl
theorem look_none {b : Nat} {es : List (Value × Value)} {wr : Bool} {L : Nat → Rng} (hb : h[b]? = some (.map es wr)) (hf : mfind prog 127 (.agg ⟨limCells L⟩) es = some none) (hk : KV (.tuple ⟨[.bool false, .bool false]⟩)) : aLook prog 120 true (.map (some b)) (.agg ⟨limCells L⟩) h KV := by
  have e1 : prog.underlying 120 = some (.map 127 4) := by kernel_rfl
  have e2 : zv1 prog 4 = some (.bool false) := by kernel_rfl
  unfold aLook
  rw [e1]
  simp only
  rw [hb, e2]
  simp only
  rw [hf]
  exact ⟨lim_key L, hk⟩
theorem look_some {b : Nat} {es : List (Value × Value)} {wr : Bool} {L : Nat → Rng} {v : Value} (hb : h[b]? = some (.map es wr)) (hf : mfind prog 127 (.agg ⟨limCells L⟩) es = some (some v)) (hk : KV (.tuple ⟨[v, .bool true]⟩)) : aLook prog 120 true (.map (some b)) (.agg ⟨limCells L⟩) h KV := by
  have e1 : prog.underlying 120 = some (.map 127 4) := by kernel_rfl
  have e2 : zv1 prog 4 = some (.bool false) := by kernel_rfl
  unfold aLook
  rw [e1]
  simp only
  rw [hb, e2]
  simp only
  rw [hf]
  exact ⟨lim_key L, hk⟩
theorem upd_none {b : Nat} {es : List (Value × Value)} {L : Nat → Rng} {v : Value} (hb : h[b]? = some (.map es true)) (hf : mfind prog 127 (.agg ⟨limCells L⟩) es = some none) (hk : HL (h.set b (.map (es ++ [(.agg ⟨limCells L⟩, v)]) true))) : aUpd prog 120 (.map (some b)) (.agg ⟨limCells L⟩) v h HL := by
  have e1 : prog.underlying 120 = some (.map 127 4) := by kernel_rfl
  unfold aUpd
  rw [e1]
  simp only
  rw [hb]
  exact ⟨lim_key L, lim_ok L 0, hf, hk⟩
theorem retL_def {n0 n : Nat} {vs : List Value} (hd : h[n]? = some .deferred) (hv : ∀ v ∈ vs, v ≠ unk) (hk : K (pack vs) (h.set n .dead)) : retL n0 K [n] vs h := by
  have := retL_same (n0 := n0) (H := K) hv hk
  unfold retL at *
  exact ⟨hd, this⟩
theorem good96 (hJ : Closed prog main J) {b : Nat} {L : Nat → Rng} (hK : K (.func (.func 111) ⟨[]⟩ ⟨[ptr h.length 0, ptr (h.length + 1) 0]⟩) (h ++ [.cells [ptr b 0] true 0, .cells (limCells L) true 0])) : Good prog J 96 [ptr b 0, .agg ⟨limCells L⟩] h K := by
  refine g96 hJ fun ok => ?_
  rw [e96]
  refine box_one rfl rfl (box_agg rfl ?_)
  refine ⟨rfl, retL_same (by simp [unk]) ?_⟩
  simpa [pack] using hK
theorem WorkIn.setU {b : Nat} {t : Tal} {cv nv : Value} {u u' : Int} {m : Value} (w : WorkIn h0 h b t cv nv u m) (hb : h0.length ≤ b) : WorkIn h0 (h.set b (.cells (talCells t cv nv ++ [.int .u64 u', m]) true 0)) b t cv nv u' m := by
  obtain ⟨a, ⟨g, rfl⟩, c, d⟩ := w
  refine ⟨List.getElem?_set_self (List.getElem?_eq_some_iff.1 a).1, ?_, c, d⟩
  rw [List.set_append_right _ _ hb]
  exact ⟨_, rfl⟩
noncomputable abbrev lp74 (st : LoopState) (pend : Option Code) (r : Nat → Value) (d : Nat) : AObj := .loop st pend 74 r 43 #[31, 32] (subC [1, 0, 1, 1, 1, 1, 1, 0, 1, 0, 0] (codeOf f74)) (subC [1, 0, 1, 1, 1, 1, 1, 0, 1, 0, 1] (codeOf f74)) d
theorem endQ_normal {n : Nat} {f : RG} {Q : QT} {v : Value} {st : LoopState} {fn : FuncId} {r : Nat → Value} {size : Nat} {params : Array Tmp} {assign body : Code} {dfr : Nat} (hl : h[n + 1]? = some (.loop st none fn r size params assign body dfr)) (hs : st ≠ .busy) (hq : Q .normal ⟨f.r, n :: f.ds⟩ (h.set (n + 1) .dead)) : endQ n f Q v h :=
  ⟨st, none, _, _, _, _, _, _, _, hl, hs, hq⟩
theorem endQ_exit {n id : Nat} {f : RG} {Q : QT} {v : Value} {st : LoopState} {fn : FuncId} {r : Nat → Value} {size : Nat} {params : Array Tmp} {assign body : Code} {dfr : Nat} (hl : h[n + 1]? = some (.loop st (some (.exit id)) fn r size params assign body dfr)) (hs : st ≠ .busy) (hq : Q (.exit id) ⟨f.r, n :: f.ds⟩ (h.set (n + 1) .dead)) : endQ n f Q v h :=
  ⟨st, some (.exit id), _, _, _, _, _, _, _, hl, hs, hq⟩
theorem app2_get1 {a b : AObj} : (h ++ [a, b])[h.length + 1]? = some b := by simp
theorem round74 (hJ : Closed prog main J) {H : List AObj} {l p2 d g : Nat} {r : Nat → Value} {s : Rng} {Q : Value → List AObj → Prop} (hl : H[l]? = some (lp74 .ready none r d))
    (r8 : r 8 = ptr p2 0) (hp : H[p2]? = some (.cells [.bool true] true 0)) (hne : p2 ≠ l)
    (h1 : ∀ H', SameX [l, p2] H H' → s.lo ≤ s.hi → H'[l]? = some (lp74 .ready none r d) → H'[p2]? = some (.cells [.bool true] true 0) → Q (.bool true) H')
    (h2 : ∀ H', SameX [l, p2] H H' → ¬ s.lo ≤ s.hi → H'[l]? = some (lp74 .done (some (.exit 0)) r d) → H'[p2]? = some (.cells [.bool false] true 0) → Q (.bool false) H') :
    callV prog (Good prog J) (.func (.yield l) ⟨[]⟩ ⟨[]⟩) [vint g, s.val] H Q := by
  show Good prog J (yid prog l) [vint g, s.val] H Q
  have hll : l < H.length := (List.getElem?_eq_some_iff.1 hl).1
  have hpl : p2 < H.length := (List.getElem?_eq_some_iff.1 hp).1
  refine good_round hJ hl rfl (by decide) fun ok => W_sound hJ mixed _ ?_
  rw [a74_1]
  unfold aAlloc
  refine store_agg (c := s.cells) (cs := [vint 0, vint 0]) (sz := 0) (by simp) rfl rfl rfl ?_
  rw [show ∀ (l : List AObj) (x y : AObj), (l ++ [x]).set l.length y = l ++ [y] from fun l x y => by simp]
  refine ⟨rfl, none, _, _, _, _, _, _, _, get_app hl, W_sound hJ mixed _ ?_⟩
  have hll' : l < (H ++ [AObj.cells s.cells true 0]).length := by simp; omega
  rw [b74_1]
  refine load_part (c := s.cells) (cs := s.cells) (wr := true) (sz := 0) (b := H.length) (get_set (by simp) (by omega)) (by simp [Rng.cells]) rfl rfl ?_
  refine good104 hJ (cndI (fun hgt => ?_) fun hle => ?_)
  · have hp' : ((H ++ [AObj.cells s.cells true 0]).set l (lp74 .busy none r d))[p2]? = some (.cells [.bool true] true 0) := get_set (get_app hp) hne
    show aStore 1 (r 8) _ _ _
    rw [r8]
    refine store_cell hp' (by simp) rfl rfl ?_
    refine ⟨.busy, none, _, _, _, _, _, _, _, get_set (List.getElem?_set_self hll') (Ne.symm hne), .inl (h2 _ ?_ (by omega) (List.getElem?_set_self (by simpa using hll')) ?_)⟩
    · exact ((SameX.refl.app.set (.inl (by simp))).set (.inl (by simp))).set (.inl (by simp))
    · exact get_set (List.getElem?_set_self (by simp; omega)) hne
  · refine ⟨.busy, none, _, _, _, _, _, _, _, List.getElem?_set_self hll', .inl (h1 _ ?_ (by omega) (List.getElem?_set_self (by simpa using hll')) ?_)⟩
    · exact (SameX.refl.app.set (.inl (by simp))).set (.inl (by simp))
    · exact get_set (get_set (get_app hp) hne) hne
theorem range74 (hJ : Closed prog main J) {n0 p1 p2 b1 b2 bw bm : Nat} {t : Tal} {L : Nat → Rng} {cv nv : Value} {u : Int} {es : List (Value × Value)} {f : RG} (w : WorkIn h0 h bw t cv nv u (.map (some bm))) (fine : TalFine t) (hL : ∀ g, (L g).sm 1000)
    (hm : h[bm]? = some (.map es true)) (hf : mfind prog 127 (.agg ⟨limCells L⟩) es = some none) (q1 : h[p1]? = some (.cells (limCells L) true 0)) (q2 : h[p2]? = some (.cells [.bool true] true 0)) (q3 : h[b1]? = some (.cells [ptr bw 0] true 0)) (q4 : h[b2]? = some (.cells (limCells L) true 0))
    (d1 : p1 ≠ p2) (d2 : p2 ≠ b1) (d3 : p2 ≠ b2) (d4 : p2 ≠ bw) (d5 : p2 ≠ bm) (hp2 : h0.length ≤ p2) (hbm : h0.length ≤ bm)
    (ds : f.ds = []) (r0 : f.r 0 = ptr bw 0) (r5 : f.r 5 = ptr p1 0) (r8 : f.r 8 = ptr p2 0) (r30 : f.r 30 = .func (.func 111) ⟨[]⟩ ⟨[ptr b1 0, ptr b2 0]⟩)
    (hK : ∀ H, SameX [p2, bm] h H → H[bm]? = some (.map (es ++ [(.agg ⟨limCells L⟩, .bool (decide (TruthIs t L)))]) true) → K (.bool (decide (TruthIs t L))) H) :
    Sem J 43 n0 74 (subC [1, 0, 1, 1, 1, 1, 1, 0, 1, 0] (codeOf f74)) f h (contQ prog J 43 n0 74 [1, 0, 1, 1, 1, 1, 1, 0, 1, 0] (codeOf f74) [] (RetQ prog [.tmp 4] n0 K)) := by
  have hlen : ∀ {i o}, h[i]? = some o → i < h.length := fun hx => (List.getElem?_eq_some_iff.1 hx).1
  have l1 := hlen q1
  have l2 := hlen q2
  have l3 := hlen q3
  have l4 := hlen q4
  have lw := hlen w.at_
  have lm := hlen hm
  refine l74_1 hJ (first := []) (cap := [ptr b1 0, ptr b2 0]) r30 (by decide) ?_
  have hpre : h0.length ≤ h.length := by
    obtain ⟨g, rfl⟩ := w.pre
    simp
  have S0 : SameX [h.length + 1, p2] h (h ++ [AObj.deferred] ++ [lp74 .ready none f.r h.length]) := SameX.refl.app.app
  -- what is asked behind the loop
  have post : ∀ (H : List AObj) (b : Bool), b = decide (TruthIs t L) → SameX [h.length + 1, p2] (h ++ [AObj.deferred] ++ [lp74 .ready none f.r h.length]) H → H[p2]? = some (.cells [.bool b] true 0) →
      (aNil (f.r 0) fun v1 => aOff v1 7 fun v2 => aLoad false 1 v2 (H.set (h.length + 1) .dead) fun v3 => aLoad true 10 (f.r 5) (H.set (h.length + 1) .dead) fun v4 => aLoad false 1 (f.r 8) (H.set (h.length + 1) .dead) fun v5 =>
        ((VOk (H.set (h.length + 1) .dead).length v5 ∧ one v5 = true) ∧ aUpd prog 120 v3 v4 v5 (H.set (h.length + 1) .dead) fun h6 => aLoad false 1 (f.r 8) h6 fun v7 => retL n0 K [h.length] [v7] h6)) := by
    intro H b hb S hH
    have S1 := S0.trans S
    have hd : H[h.length]? = some .deferred := S.get (by simp) (by simp; omega)
    have S2 : SameX [h.length + 1, p2] h (H.set (h.length + 1) .dead) := S1.set (.inl (by simp))
    rw [r0, r5, r8]
    refine nilI (offI (ldI (v := .map (some bm)) (S2.get w.at_ (by simp; omega)) rfl rfl ?_))
    refine load_part (c := limCells L) (S2.get q1 (by simp; omega)) (by rw [lim_len]; omega) rfl rfl ?_
    have hH2 : (H.set (h.length + 1) AObj.dead)[p2]? = some (.cells [.bool b] true 0) := get_set hH (by omega)
    refine ldI hH2 rfl rfl ⟨⟨by simp [VOk], rfl⟩, upd_none (S2.get hm (by simp; omega)) hf ?_⟩
    refine ldI (v := .bool b) (get_set hH2 d5) rfl rfl (retL_def ?_ (by simp [unk]) ?_)
    · exact get_set (get_set hd (by omega)) (by omega)
    have hml : bm < (H.set (h.length + 1) AObj.dead).length := by have := S2.1; omega
    rw [hb]
    refine hK _ ?_ ?_
    · have : SameX [p2, bm] h (H.set (h.length + 1) .dead) := ⟨S2.1, fun i hi hx => S2.2 i hi (by simp at hx ⊢; omega)⟩
      exact (this.set (.inl (by simp))).set (.inr (Nat.le_refl _))
    · exact get_set (List.getElem?_set_self hml) (by omega)
  have hIl : (h ++ [AObj.deferred] ++ [lp74 .ready none f.r h.length])[h.length + 1]? = some (lp74 .ready none f.r h.length) := by
    rw [List.append_assoc]
    exact app2_get1
  have hsl : (h ++ [AObj.deferred] ++ [lp74 .ready none f.r h.length]).length = h.length + 2 := by simp
  have fin : ∀ (H : List AObj) (b : Bool), b = decide (TruthIs t L) → SameX [h.length + 1, p2] (h ++ [AObj.deferred] ++ [lp74 .ready none f.r h.length]) H → H[p2]? = some (.cells [.bool b] true 0) → (H[h.length + 1]? = some (lp74 .ready none f.r h.length) ∨ H[h.length + 1]? = some (lp74 .done (some (.exit 0)) f.r h.length)) →
      endQ h.length f (contQ prog J 43 n0 74 [1, 0, 1, 1, 1, 1, 1, 0, 1, 0] (codeOf f74) [] (RetQ prog [.tmp 4] n0 K)) (pack []) H := by
    intro H b hb S hH hl
    have := post H b hb S hH
    rcases hl with hl | hl
    · refine endQ_normal hl (by simp) ?_
      rw [c74_1, ds]
      exact this
    · refine endQ_exit hl (by simp) ?_
      rw [c74_1x0, ds]
      exact this
  have hX : ∀ x ∈ [h.length + 1, p2], h0.length ≤ x ∧ x < (h ++ [AObj.deferred] ++ [lp74 .ready none f.r h.length]).length := by
    rw [hsl]
    simp
    omega
  refine good111 hJ (h0 := h0) (X := [h.length + 1, p2]) (L := L) (t := t) (I := fun g H => H[h.length + 1]? = some (lp74 .ready none f.r h.length) ∧ H[p2]? = some (.cells [.bool true] true 0) ∧ ∀ j, j < g → (fwd t L j).lo ≤ (fwd t L j).hi)
    (Stop := fun g H => H[h.length + 1]? = some (lp74 .done (some (.exit 0)) f.r h.length) ∧ H[p2]? = some (.cells [.bool false] true 0) ∧ ¬ (fwd t L g).lo ≤ (fwd t L g).hi)
    (w.same S0 (fun x hx => (hX x hx).1) (by simp; omega)) fine hL hX (S0.get q3 (by simp; omega)) (S0.get q4 (by simp; omega)) (by simp; omega) (by simp; omega) (by simp; omega) (fun g H H' hx hI => ?_) ⟨hIl, get_app (get_app q2), by simp⟩ (fun g H Q hg S hI k1 k2 => ?_) (fun H S hI => ?_) (fun g H hg S hI => ?_)
  · rw [hx _ (by simp), hx _ (by simp)]
    exact hI
  · refine round74 hJ hI.1 r8 hI.2.1 (by omega) (fun H' S' hs a b => k1 H' S' ⟨a, b, fun j hj => ?_⟩) (fun H' S' hs a b => k2 H' S' ⟨a, b, hs⟩)
    rcases Nat.lt_or_ge j g with x | x
    · exact hI.2.2 j x
    · have : j = g := by omega
      subst this
      exact hs
  · refine fin H true ?_ S hI.2.1 (.inl hI.1)
    rw [eq_comm, decide_eq_true_eq]
    intro g hg
    exact hI.2.2 g (by omega)
  · refine fin H false ?_ S hI.2.1 (.inr hI.1)
    rw [eq_comm, decide_eq_false_iff_not]
    intro hT
    exact hI.2.2 (hT g hg)
theorem teq_span (a b c d : Int) : teq prog 9999 98 (.agg ⟨[vint a, vint b]⟩) (.agg ⟨[vint c, vint d]⟩) =
    (match some (a == c) with
    | some true => (match some (b == d) with
      | some true => some true
      | some false => some false
      | none => none)
    | some false => some false
    | none => none) := by kernel_rfl
theorem teq_lim (L L' : Nat → Rng) : teq prog 10000 127 (.agg ⟨limCells L⟩) (.agg ⟨limCells L'⟩) =
    (match teq prog 9999 98 (.agg ⟨(L 0).cells⟩) (.agg ⟨(L' 0).cells⟩) with
    | some true => (match teq prog 9999 98 (.agg ⟨(L 1).cells⟩) (.agg ⟨(L' 1).cells⟩) with
      | some true => (match teq prog 9999 98 (.agg ⟨(L 2).cells⟩) (.agg ⟨(L' 2).cells⟩) with
        | some true => (match teq prog 9999 98 (.agg ⟨(L 3).cells⟩) (.agg ⟨(L' 3).cells⟩) with
          | some true => (match teq prog 9999 98 (.agg ⟨(L 4).cells⟩) (.agg ⟨(L' 4).cells⟩) with
            | some true => some true
            | some false => some false
            | none => none)
          | some false => some false
          | none => none)
        | some false => some false
        | none => none)
      | some false => some false
      | none => none)
    | some false => some false
    | none => none) := by kernel_rfl
theorem teq_span2 (x y : Rng) : (teq prog 9999 98 (.agg ⟨x.cells⟩) (.agg ⟨y.cells⟩) = some true ∧ x = y) ∨ teq prog 9999 98 (.agg ⟨x.cells⟩) (.agg ⟨y.cells⟩) = some false := by
  obtain ⟨a, b⟩ := x
  obtain ⟨c, d⟩ := y
  unfold Rng.cells
  rw [teq_span]
  by_cases e1 : a = c
  · by_cases e2 : b = d
    · left
      simp [e1, e2]
    · right
      rw [beq_eq_false_iff_ne.2 e2, beq_iff_eq.2 e1]
  · right
    rw [beq_eq_false_iff_ne.2 e1]
theorem teq_lim2 (L L' : Nat → Rng) : (teq prog 10000 127 (.agg ⟨limCells L⟩) (.agg ⟨limCells L'⟩) = some true ∧ ∀ g, g < 5 → L g = L' g) ∨ teq prog 10000 127 (.agg ⟨limCells L⟩) (.agg ⟨limCells L'⟩) = some false := by
  rw [teq_lim]
  rcases teq_span2 (L 0) (L' 0) with ⟨h0, e0⟩ | h0
  · rw [h0]
    rcases teq_span2 (L 1) (L' 1) with ⟨h1, e1⟩ | h1
    · rw [h1]
      rcases teq_span2 (L 2) (L' 2) with ⟨h2, e2⟩ | h2
      · rw [h2]
        rcases teq_span2 (L 3) (L' 3) with ⟨h3, e3⟩ | h3
        · rw [h3]
          rcases teq_span2 (L 4) (L' 4) with ⟨h4, e4⟩ | h4
          · rw [h4]
            left
            refine ⟨rfl, fun g hg => ?_⟩
            match g, hg with
            | 0, _ => exact e0
            | 1, _ => exact e1
            | 2, _ => exact e2
            | 3, _ => exact e3
            | 4, _ => exact e4
          · rw [h4]; exact .inr rfl
        · rw [h3]; exact .inr rfl
      · rw [h2]; exact .inr rfl
    · rw [h1]; exact .inr rfl
  · rw [h0]; exact .inr rfl
theorem fwd_congr {t : Tal} {L L' : Nat → Rng} (h : ∀ g, g < 5 → L g = L' g) : ∀ g : Nat, g < 5 → fwd t L g = fwd t L' g
  | 0, _ => by
    unfold fwd
    rw [h 0 (by omega)]
  | g + 1, hg => by
    unfold fwd
    rw [fwd_congr h g (by omega), h (g + 1) hg]
theorem truthIs_congr {t : Tal} {L L' : Nat → Rng} (hg : t.gates ≤ 5) (h : ∀ g, g < 5 → L g = L' g) : TruthIs t L ↔ TruthIs t L' :=
  ⟨fun x g hl => by rw [← fwd_congr h g (by omega)]; exact x g hl, fun x g hl => by rw [fwd_congr h g (by omega)]; exact x g hl⟩
def MetOk (t : Tal) (es : List (Value × Value)) : Prop := ∀ L : Nat → Rng, mfind prog 127 (.agg ⟨limCells L⟩) es = some none ∨ mfind prog 127 (.agg ⟨limCells L⟩) es = some (some (.bool (decide (TruthIs t L))))
theorem metOk_nil {t : Tal} : MetOk t [] := fun _ => .inl rfl
theorem metOk_more {t : Tal} {es : List (Value × Value)} {L' : Nat → Rng} (hg : t.gates ≤ 5) (h : MetOk t es) : MetOk t (es ++ [(.agg ⟨limCells L'⟩, .bool (decide (TruthIs t L')))]) := by
  intro L
  have key : ∀ es : List (Value × Value), (mfind prog 127 (.agg ⟨limCells L⟩) es = some none ∨ mfind prog 127 (.agg ⟨limCells L⟩) es = some (some (.bool (decide (TruthIs t L))))) →
      mfind prog 127 (.agg ⟨limCells L⟩) (es ++ [(.agg ⟨limCells L'⟩, .bool (decide (TruthIs t L')))]) = some none ∨ mfind prog 127 (.agg ⟨limCells L⟩) (es ++ [(.agg ⟨limCells L'⟩, .bool (decide (TruthIs t L')))]) = some (some (.bool (decide (TruthIs t L)))) := by
    intro es
    induction es with
    | nil =>
      intro _
      simp only [List.nil_append, mfind]
      rcases teq_lim2 L L' with ⟨e, hl⟩ | e
      · rw [e]
        right
        have := truthIs_congr (t := t) hg hl
        simp [this]
      · rw [e]
        exact .inl rfl
    | cons x es ih =>
      obtain ⟨a, v⟩ := x
      simp only [List.cons_append, mfind]
      cases teq prog 10000 127 (.agg ⟨limCells L⟩) a with
      | none => intro h; rcases h with h | h <;> cases h
      | some b => cases b with
        | true => exact fun h => h
        | false => exact ih
  exact key es (h L)
theorem good74 (hJ : Closed prog main J) {bw bm : Nat} {t : Tal} {cv nv : Value} {u u' : Int} (w : WorkIn h0 h bw t cv nv u (.map (some bm))) (hbw : h0.length ≤ bw) (hbm : h0.length ≤ bm) (hne : bw ≠ bm) (fine : TalFine t) {es : List (Value × Value)} (hm : h[bm]? = some (.map es true)) (met : MetOk t es)
    (hK : ∀ H es', SameX [bw, bm] h H → WorkIn h0 H bw t cv nv u' (.map (some bm)) → H[bm]? = some (.map es' true) → MetOk t es' → K (.bool (decide (TruthIs t (limN u' t.counts t.counts.length)))) H) :
    Good prog J 74 [ptr bw 0, .int .u64 u'] h K := by
  refine g74 hJ fun ok => ?_
  rw [e74]
  have hlw : bw < h.length := (List.getElem?_eq_some_iff.1 w.at_).1
  have hlm : bm < h.length := (List.getElem?_eq_some_iff.1 hm).1
  refine nilI (offI (store_cell (c := talCells t cv nv ++ [.int .u64 u, .map (some bm)]) w.at_ (by simp [talCells]) rfl rfl ?_))
  have w1 := w.setU (u' := u') hbw
  have hm1 : (h.set bw (.cells (talCells t cv nv ++ [.int .u64 u', .map (some bm)]) true 0))[bm]? = some (.map es true) := get_set hm (Ne.symm hne)
  have S1 : SameX [bw, bm] h (h.set bw (.cells (talCells t cv nv ++ [.int .u64 u', .map (some bm)]) true 0)) := SameX.refl.set (.inl (by simp))
  change Good prog J 97 [ptr bw 0] (h.set bw (.cells (talCells t cv nv ++ [.int .u64 u', .map (some bm)]) true 0)) _
  have hlen1 : (h.set bw (.cells (talCells t cv nv ++ [.int .u64 u', .map (some bm)]) true 0)).length = h.length := by simp
  generalize h.set bw (.cells (talCells t cv nv ++ [.int .u64 u', .map (some bm)]) true 0) = h1 at *
  refine good97 hJ w1.work fine.cosm ?_
  have hL : ∀ g, (limN u' t.counts t.counts.length g).sm 1000 := limN_sm (fun c hc => (fine.cosm.2 c hc).2) _
  generalize limN u' t.counts t.counts.length = L at *
  unfold aAlloc
  refine store_agg (cs := [vint 0, vint 0, vint 0, vint 0, vint 0, vint 0, vint 0, vint 0, vint 0, vint 0]) (sz := 0) (by simp) rfl rfl rfl ?_
  rw [show ∀ (l : List AObj) (x y : AObj), (l ++ [x]).set l.length y = l ++ [y] from fun l x y => by simp]
  refine nilI (offI (ldI (v := .map (some bm)) (get_app w1.at_) rfl rfl ?_))
  refine load_part (c := limCells L) (cs := limCells L) (wr := true) (sz := 0) (by simp) (by rw [lim_len]; omega) rfl rfl ?_
  rcases met L with hf | hf
  rotate_left
  · refine look_some (get_app hm1) hf (ext0 (ext1 (cnd_true.2 (retL_same (by simp [unk]) ?_))))
    refine hK _ es S1.app (w1.same (X := []) SameX.refl.app (by simp) (by simp)) (get_app hm1) met
  refine look_none (get_app hm1) hf (ext0 (ext1 (cnd_false.2 ?_)))
  refine store_cell (c := [.bool false]) (sz := 0) (by simp) (by simp) rfl rfl ?_
  rw [show [Value.bool false].set 0 (Value.bool true) = [Value.bool true] from rfl]
  rw [show ∀ (l : List AObj) (x y : AObj), (l ++ [x]).set l.length y = l ++ [y] from fun l x y => by simp]
  refine load_part (c := limCells L) (cs := limCells L) (wr := true) (sz := 0) (by simp) (by rw [lim_len]; omega) rfl rfl ?_
  refine good96 hJ ?_
  have hl0 : h0.length ≤ h1.length := by
    obtain ⟨g, rfl⟩ := w1.pre
    simp
  have E : h1 ++ [AObj.cells (limCells L) true 0] ++ [AObj.cells [Value.bool true] true 0] ++ [AObj.cells [ptr bw 0] true 0, AObj.cells (limCells L) true 0] = h1 ++ [.cells (limCells L) true 0, .cells [.bool true] true 0, .cells [ptr bw 0] true 0, .cells (limCells L) true 0] := by simp
  have w2 := w1.same (X := []) (SameX.refl.app (g := [.cells (limCells L) true 0, .cells [.bool true] true 0, .cells [ptr bw 0] true 0, .cells (limCells L) true 0])) (by simp) (by simp)
  have S2 : SameX [bw, bm] h (h1 ++ [.cells (limCells L) true 0, .cells [.bool true] true 0, .cells [ptr bw 0] true 0, .cells (limCells L) true 0]) := S1.app
  rw [E]
  have e1 : (h1 ++ [AObj.cells (limCells L) true 0]).length = h1.length + 1 := by simp
  have e2 : (h1 ++ [AObj.cells (limCells L) true 0] ++ [AObj.cells [Value.bool true] true 0]).length = h1.length + 2 := by simp
  rw [e1, e2]
  refine range74 hJ (p1 := h1.length + 0) (p2 := h1.length + 1) (b1 := h1.length + 2) (b2 := h1.length + 3) w2 fine hL (get_app hm1) hf (by rw [back_get]; rfl) (by rw [back_get]; rfl) (by rw [back_get]; rfl) (by rw [back_get]; rfl) (by omega) (by omega) (by omega) (by omega) (by omega) (by omega) hbm rfl rfl rfl rfl rfl ?_
  intro H S hH
  have S3 : SameX [bw, bm] h H := by
    refine ⟨by have := S2.1; have := S.1; omega, fun i hi hx => ?_⟩
    simp at hx
    rw [S.2 i (by simp; omega) (by simp; omega), S2.2 i hi (by simp; omega)]
  exact hK H _ S3 (w2.same S (by simp; omega) (by simp; omega)) hH (metOk_more fine.gates.2 met)
end
def OwnX (H : List AObj) (s : Nat) (cs : List Value) (len : Nat) (v : Value) (o : Option Nat) : Prop :=
  cs.length = len * s ∧ kn cs = true ∧ ((len = 0 ∧ v = .slice none 0 0 ∧ o = none) ∨ ∃ i c sz, o = some i ∧ v = .slice (some ⟨i, 0, none⟩) len c ∧ H[i]? = some (.cells cs true sz) ∧ ((c = fz ∧ sz = s) ∨ c = len))
section
variable {h H : List AObj} {K : Value → List AObj → Prop} {KV : Value → Prop} {HL : List AObj → Prop} {n0 : Nat}
theorem SameX.weak {X Y : List Nat} {h H : List AObj} (a : SameX X h H) (hxy : ∀ x ∈ X, x ∈ Y) : SameX Y h H := ⟨a.1, fun i hi hx => a.2 i hi fun hm => hx (hxy i hm)⟩
theorem SameX.weak0 {Y : List Nat} {h H : List AObj} (a : SameX [] h H) : SameX Y h H := a.weak (by simp)
theorem SameX.thru {X Y : List Nat} {h H H' : List AObj} (a : SameX X h H) (b : SameX Y H H') (hy : ∀ y ∈ Y, y ∈ X ∨ h.length ≤ y) : SameX X h H' :=
  ⟨Nat.le_trans a.1 b.1, fun i hi hx => by
    rw [b.2 i (Nat.lt_of_lt_of_le hi a.1) fun hm => ?_, a.2 i hi hx]
    rcases hy i hm with h1 | h1
    · exact hx h1
    · omega⟩
theorem SameX.app0 {X : List Nat} {h H : List AObj} (a : SameX X h H) (hX : ∀ x ∈ X, h.length ≤ x) : ∃ g, H = h ++ g := by
  have := SameX.pre (h0 := h) (g := []) (X := X) (H := H) (by simpa using a) hX
  exact this
theorem lt_of_get {i : Nat} {o : AObj} (hx : H[i]? = some o) : i < H.length := (List.getElem?_eq_some_iff.1 hx).1
theorem SameX.sli {X : List Nat} {v : Value} {s n : Nat} {cs : List Value} (a : SameX X h H) (hs : Sli h v s n cs) (hX : ∀ x ∈ X, h.length ≤ x) : Sli H v s n cs := by
  obtain ⟨g, rfl⟩ := a.app0 hX
  exact sli_app hs
theorem qAl {l : List Value} (hk : ∀ H' p, p = H.length → SameX [] H H' → H'[p]? = some (.cells l true 0) → H'.length = p + 1 → K (ptr p 0) H') : aAlloc l H K :=
  hk _ _ rfl SameX.refl.app (by simp) (by simp)
theorem qBox {l : List Value} (h1 : l.all one = true) (hk : ∀ H' p, p = H.length → SameX [] H H' → H'[p]? = some (.cells l true 0) → H'.length = p + 1 → K (ptr p 0) H') : aBox (.agg ⟨l⟩) H K :=
  box_agg h1 (hk _ _ rfl SameX.refl.app (by simp) (by simp))
theorem qBox1 {v : Value} (hc : v.cells = #[v]) (h1 : one v = true) (hk : ∀ H' p, p = H.length → SameX [] H H' → H'[p]? = some (.cells [v] true 0) → H'.length = p + 1 → K (ptr p 0) H') : aBox v H K :=
  box_one hc h1 (hk _ _ rfl SameX.refl.app (by simp) (by simp))
theorem qNew {n : Nat} {l : List Value} (hk : ∀ H' p, p = H.length → SameX [] H H' → H'[p]? = some (.cells l true 0) → H'.length = p + 1 → K (.slice (some ⟨p, 0, none⟩) n n) H') : aNewS n l H K :=
  hk _ _ rfl SameX.refl.app (by simp) (by simp)
theorem qNewM (hk : ∀ H' p, p = H.length → SameX [] H H' → H'[p]? = some (.map [] true) → H'.length = p + 1 → K (.map (some p)) H') : aNewM H K :=
  hk _ _ rfl SameX.refl.app (by simp) (by simp)
theorem qMk {z : List Value} {n : Nat} (hn : n ≤ 100000) (hk : ∀ H' p, p = H.length → SameX [] H H' → H'[p]? = some (.cells (zrep z n) true 0) → H'.length = p + 1 → K (.slice (some ⟨p, 0, none⟩) n n) H') : aMkS z (vint n) (vint n) H K := by
  have hr : room = 1073741824 := rfl
  simp only [aMkS, Int.toNat_natCast]
  exact ⟨by omega, by omega, by omega, hk _ _ rfl SameX.refl.app (by simp) (by simp)⟩
theorem qSt {b o : Nat} {c : List Value} {sz : Nat} {v : Value} (hb : H[b]? = some (.cells c true sz)) (ho : o < c.length) (h1 : v.cells = #[v]) (h2 : one v = true) (hk : ∀ H', SameX [b] H H' → H'[b]? = some (.cells (c.set o v) true sz) → H'.length = H.length → HL H') : aStore 1 (ptr b o) v H HL :=
  store_cell hb ho h1 h2 (hk _ (SameX.refl.set (.inl (by simp))) (List.getElem?_set_self (lt_of_get hb)) (by simp))
theorem qStA {b n : Nat} {cs c : List Value} {sz : Nat} (hb : H[b]? = some (.cells cs true sz)) (hl : c.length = n) (hs : cs.length = n) (h1 : c.all one = true) (hk : ∀ H', SameX [b] H H' → H'[b]? = some (.cells c true sz) → H'.length = H.length → HL H') : aStore n (ptr b 0) (.agg ⟨c⟩) H HL :=
  store_agg hb hl hs h1 (hk _ (SameX.refl.set (.inl (by simp))) (List.getElem?_set_self (lt_of_get hb)) (by simp))
theorem ownX_iff {s len : Nat} {cs : List Value} {v : Value} {o : Option Nat} : OwnX H s cs len v o ↔ OwnE 0 H s cs len v o := by
  simp [OwnX, OwnE]
theorem ownX_nil {s : Nat} : OwnX H s [] 0 (.slice none 0 0) none := ⟨by simp, rfl, .inl ⟨rfl, rfl, rfl⟩⟩
theorem ownX_keep {s len : Nat} {cs : List Value} {v : Value} {o : Option Nat} {H' : List AObj} {X : List Nat} (ho : OwnX H s cs len v o) (a : SameX X H H') (hX : ∀ i, o = some i → i ∉ X) : OwnX H' s cs len v o := by
  obtain ⟨h1, h2, h3 | ⟨i, c, sz, rfl, h4, h5, h6⟩⟩ := ho
  · exact ⟨h1, h2, .inl h3⟩
  · exact ⟨h1, h2, .inr ⟨i, c, sz, rfl, h4, a.get h5 (hX i rfl), h6⟩⟩
theorem ownX_sli {s len : Nat} {cs : List Value} {v : Value} {o : Option Nat} (ho : OwnX H s cs len v o) : Sli H v s len cs := by
  have := ownE_sli (A := []) (ownX_iff.1 ho)
  exact this
theorem ownX_val {s len : Nat} {cs : List Value} {v : Value} {o : Option Nat} (ho : OwnX H s cs len v o) : v.cells = #[v] ∧ one v = true ∧ kn1 v = true := ownE_val (ownX_iff.1 ho)
theorem ownX_lt {s len : Nat} {cs : List Value} {v : Value} {o : Option Nat} (ho : OwnX H s cs len v o) : ∀ i, o = some i → i < H.length := fun _ hi => ownE_lt (ownX_iff.1 ho) hi
theorem ownX_new {s n p : Nat} {l : List Value} (hp : H[p]? = some (.cells l true 0)) (hl : l.length = n * s) (hk : kn l = true) : OwnX H s l n (.slice (some ⟨p, 0, none⟩) n n) (some p) :=
  ⟨hl, hk, .inr ⟨p, n, 0, rfl, rfl, hp, .inr rfl⟩⟩
theorem ownX_more {s len : Nat} {cs e : List Value} {v y : Value} {o : Option Nat} (ho : OwnX H s cs len v o) (hs : 0 < s) (hl : len < 1000) (hy : Sli H y s 1 e)
    (hk : ∀ v' H' p, p = H.length → OwnX H' s (cs ++ e) (len + 1) v' (some p) → SameX o.toList H H' → K v' H') : aApp s v y H K := by
  have hlo := ownX_lt ho
  refine ownE_more (A := []) (g := H) (ownX_iff.1 ho) hs hl hy fun v' g' ho' hkeep => hk v' ([] ++ g') _ rfl (ownX_iff.2 ho') ⟨?_, fun i hi hx => ?_⟩
  · have := ownE_lt ho' rfl
    simp only [List.nil_append]
    omega
  · have hx' : o ≠ some i := fun e => hx (by rw [e]; simp)
    obtain ⟨x, hxx⟩ : ∃ x, H[i]? = some x := ⟨H[i], List.getElem?_eq_getElem hi⟩
    rw [hxx]
    exact hkeep i x hx' hxx
theorem retX {X : List Nat} {vs : List Value} (ok : heapOk h) (hn : n0 ≤ h.length) (S : SameX X h H) (hX : ∀ x ∈ X, h.length ≤ x) (hv : ∀ v ∈ vs, v ≠ unk) (hw : VOk h.length (pack vs)) (hk : K (pack vs) h) : retL n0 K [] vs H := by
  obtain ⟨g, rfl⟩ := S.app0 hX
  exact retL_drop ok hn hv hw hk
end
def rngsC (f : Nat → Rng) (n : Nat) : List Value := (List.range n).flatMap fun j => (f j).cells
def limA (t : Tal) (u : Int) : Nat → Rng := limN u t.counts t.counts.length
def bkN (t : Tal) (L : Nat → Rng) : Nat → Rng
  | 0 => fwd t L (t.gates.toNat - 1)
  | n + 1 => (fwd t L (t.gates.toNat - 2 - n)).meet ((bkN t L n).plus (stretchR t (t.gates.toNat - 2 - n)).turn)
def bkR (t : Tal) (L : Nat → Rng) (g : Nat) : Rng := bkN t L (t.gates.toNat - 1 - g)
theorem bkR_last {t : Tal} {L : Nat → Rng} {g : Nat} (hg : t.gates.toNat = g + 1) : bkR t L g = fwd t L g := by
  unfold bkR
  rw [hg, show g + 1 - 1 - g = 0 from by omega]
  show fwd t L _ = _
  rw [hg]
  rfl
theorem bkR_step {t : Tal} {L : Nat → Rng} {g : Nat} (hg : g + 1 < t.gates.toNat) : bkR t L g = (fwd t L g).meet ((bkR t L (g + 1)).plus (stretchR t g).turn) := by
  unfold bkR
  obtain ⟨n, hn⟩ : ∃ n, t.gates.toNat - 1 - g = n + 1 := ⟨t.gates.toNat - 2 - g, by omega⟩
  rw [hn, show t.gates.toNat - 1 - (g + 1) = n from by omega]
  show (fwd t L (t.gates.toNat - 2 - n)).meet ((bkN t L n).plus (stretchR t (t.gates.toNat - 2 - n)).turn) = _
  rw [show t.gates.toNat - 2 - n = g from by omega]
section
variable {main : Bool} {J : JT} {h h0 : List AObj} {K : Value → List AObj → Prop} {KV : Value → Prop} {HL : List AObj → Prop} {n0 : Nat}
theorem good95 (hJ : Closed prog main J) {v cv nv : Value} {t : Tal} (ht : TalAt h v t cv nv) (hs : SliE h0 cv 2 Rng.cells t.changes) (hs2 : SliE h0 nv 4 Cnt.cells t.counts) (hp : ∃ g, h = h0 ++ g)
    (hK : ∀ H bw bm, SameX [] h H → h.length ≤ bw → h.length ≤ bm → bw ≠ bm → WorkIn h0 H bw t cv nv 0 (.map (some bm)) → H[bm]? = some (.map [] true) → K (ptr bw 0) H) : Good prog J 95 [v] h K := by
  refine g95 hJ fun ok => ?_
  rw [e95, ht.val]
  have k1 : kn1 cv = true ∧ kn1 nv = true := ⟨(sli_one ht.ch).2.2, (sli_one ht.co).2.2⟩
  refine qBox (tal_one ht) fun H1 p1 e1 S1 b1 l1 => load_part (c := talCells t cv nv) b1 (by rw [cs_val]; omega) rfl (tal_kn k1.1 k1.2) ?_
  refine qNewM fun H2 p2 e2 S2 b2 l2 => ?_
  refine fill_agg (l := talCells t cv nv) rfl (tal_one ht) (by simp) (fill1 rfl rfl (by simp [wrAt, talCells]) (fillI ?_))
  have hone : (talCells t cv nv ++ [Value.int .u64 0, .map (some p2)]).all one = true := by
    rw [List.all_append, tal_one ht]
    rfl
  refine qBox (l := talCells t cv nv ++ [Value.int .u64 0, .map (some p2)]) hone fun H3 p3 e3 S3 b3 l3 => ?_
  have S13 : SameX [] h H3 := (S1.trans S2).trans S3
  refine retL_same (by simp [ptr, unk]) (hK H3 p3 p2 S13 (by omega) (by omega) (by omega) ⟨b3, ?_, hs, hs2⟩ (S3.get b2 (by simp)))
  obtain ⟨g, rfl⟩ := hp
  obtain ⟨g', e⟩ := S13.app0 (by simp)
  exact ⟨g ++ g', by rw [e, List.append_assoc]⟩
theorem good71 (hJ : Closed prog main J) {v cv nv : Value} {t : Tal} (ht : TalAt h v t cv nv)
    (hK : ∀ H bw bm, SameX [] h H → h.length ≤ bw → h.length ≤ bm → bw ≠ bm → WorkIn h H bw t cv nv 0 (.map (some bm)) → H[bm]? = some (.map [] true) → K (.tuple ⟨[ptr bw 0, vint (talErr t)]⟩) H) : Good prog J 71 [v] h K := by
  refine g71 hJ fun ok => ?_
  rw [e71, ht.val]
  have k1 : kn1 cv = true ∧ kn1 nv = true := ⟨(sli_one ht.ch).2.2, (sli_one ht.co).2.2⟩
  refine qBox (tal_one ht) fun H1 p1 e1 S1 b1 l1 => ⟨[p1], ?_⟩
  refine load_part (c := talCells t cv nv) b1 (by rw [cs_val]; omega) rfl (tal_kn k1.1 k1.2) ⟨by simp [RdOk, ptrBlk, ptr], ?_⟩
  refine load_part (c := talCells t cv nv) b1 (by rw [cs_val]; omega) rfl (tal_kn k1.1 k1.2) ⟨by simp [RdOk, ptrBlk, ptr], ?_⟩
  have t1 : TalAt H1 (.agg ⟨talCells t cv nv⟩) t cv nv := ⟨rfl, S1.sli ht.ch (by simp), S1.sli ht.co (by simp)⟩
  obtain ⟨g, hg⟩ := S1.app0 (by simp)
  refine good95 hJ t1 ht.ch ht.co ⟨g, hg⟩ fun H2 bw bm S2 a1 a2 a3 w hm => ⟨fun b hb => ?_, ?_⟩
  · simp at hb
    subst hb
    exact S2.2 _ (lt_of_get b1) (by simp)
  have t2 : TalAt H2 (.agg ⟨talCells t cv nv⟩) t cv nv := ⟨rfl, S2.sli t1.ch (by simp), S2.sli t1.co (by simp)⟩
  refine good51 hJ t2 ⟨fun b hb => ?_, ?_⟩
  · simp at hb
    subst hb
    exact S2.2 _ (lt_of_get b1) (by simp)
  exact retL_same (by simp [ptr, unk]) (hK H2 bw bm (S1.trans S2) (by omega) (by omega) a3 w hm)
end
def HX (h H : List AObj) (ns : List Int) (k : Nat) : Prop := ∃ nv k' s rest, H = HF h nv k' s rest ∧ k' ≤ k ∧ (0 ≤ s ∧ s < 18446744073709551616) ∧ Hnd h nv ns
section
variable {main : Bool} {J : JT} {h H : List AObj} {K : Value → List AObj → Prop} {ns : List Int} {k : Nat}
theorem HX.mono {k' : Nat} (a : HX h H ns k) (hk : k ≤ k') : HX h H ns k' := by
  obtain ⟨nv, k1, s, rest, e, h1, h2, h3⟩ := a
  exact ⟨nv, k1, s, rest, e, by omega, h2, h3⟩
theorem HX.pre (a : HX h H ns k) : SameX [] h H := by
  obtain ⟨nv, k1, s, rest, rfl, _⟩ := a
  exact SameX.refl.app
theorem HX.lt (a : HX h H ns k) : h.length < H.length := by
  obtain ⟨nv, k1, s, rest, rfl, _⟩ := a
  rw [hf_len]
  omega
theorem HX.same {X : List Nat} {H' : List AObj} (a : HX h H ns k) (S : SameX X H H') (hX : ∀ x ∈ X, h.length < x) : HX h H' ns k := by
  obtain ⟨nv, k1, s, rest, rfl, h1, h2, h3⟩ := a
  have e : HF h nv k1 s rest = (h ++ [.cells [nv, vint k1, .int .u64 s] true 0]) ++ rest := by simp [HF]
  rw [e] at S
  obtain ⟨g, hg⟩ := S.pre (fun x hx => by have := hX x hx; simp; omega)
  exact ⟨nv, k1, s, g, by rw [hg]; simp [HF], h1, h2, h3⟩
theorem hf_same {nv : Value} {k1 k2 : Nat} {s1 s2 : Int} {rest g : List AObj} : SameX [h.length] (HF h nv k1 s1 rest) (HF h nv k2 s2 rest ++ g) := by
  refine ⟨by rw [hf_app, hf_len, hf_len]; simp, fun i hi hx => ?_⟩
  simp at hx
  rw [List.getElem?_append_left (by rw [hf_len] at hi ⊢; omega)]
  unfold HF
  rcases Nat.lt_or_ge i h.length with x | x
  · rw [List.getElem?_append_left x, List.getElem?_append_left x]
  · rw [List.getElem?_append_right x, List.getElem?_append_right x]
    obtain ⟨j, hj⟩ : ∃ j, i - h.length = j + 1 := ⟨i - h.length - 1, by omega⟩
    rw [hj]
    rfl
theorem newX (hJ : Closed prog main J) {nv : Value} (sn : Sli h nv 1 ns.length (ns.map vint)) (hln : ns.length < 4611686018427387904)
    (hK : ∀ H, HX h H ns 0 → K (ptr h.length 0) H) : Good prog J 19 [nv] h K := by
  obtain ⟨nb, nc, hnv, _⟩ := id sn
  subst hnv
  exact good19 hJ (hK _ ⟨_, 0, 88172645463325252, [], rfl, Nat.le_refl _, by omega, ⟨sn, hln⟩⟩)
theorem upX (hJ : Closed prog main J) (a : HX h H ns k) (hk : k < 1000000) {m : Int} (hm : m < 1000000)
    (hK : ∀ y H', 0 ≤ y → (y ≤ m ∨ y = 0) → SameX [h.length] H H' → H'.length = H.length → HX h H' ns (k + 1) → K (vint y) H') : Good prog J 22 [ptr h.length 0, vint m] H K := by
  obtain ⟨nv, k1, s, rest, rfl, h1, h2, h3⟩ := a
  have := up (k := k1) (g := []) (rest := rest) (K := K) hJ h3 h2 (by omega) hm fun y k' s' a1 a2 a3 a4 => hK y _ a1 a2 hf_same (by simp [hf_len]) ⟨nv, k', s', rest, by simp, by omega, a4, h3⟩
  simpa using this
theorem talX (hJ : Closed prog main J) (a : HX h H ns k) (hk : k < 50000) {G C : Int} (hG : 1 ≤ G ∧ G ≤ 5) (hC : 0 ≤ C ∧ C ≤ 7)
    (hK : ∀ t cv co H', TalOk G C t → SameX [h.length] H H' → HX h H' ns (k + 120) → TalAt H' (.agg ⟨talCells t cv co⟩) t cv co → K (.agg ⟨talCells t cv co⟩) H') : Good prog J 28 [ptr h.length 0, vint G, vint C] H K := by
  obtain ⟨nv, k1, s, rest, rfl, b1, b2, b3⟩ := a
  refine good28 hJ b3 b2 (by omega) hG hC fun t cv co o1 o2 g k' s' T O hk' hs' => hK t cv co _ T hf_same ⟨nv, k', s', rest ++ g, by rw [hf_app], by omega, hs', b3⟩ O.at
end
section
variable {h H : List AObj} {KV : Value → Prop}
theorem talAt_same {X : List Nat} {H' : List AObj} {v cv nv : Value} {t : Tal} (ht : TalAt H v t cv nv) (S : SameX X H H') (hX : ∀ x ∈ X, H.length ≤ x) : TalAt H' v t cv nv := ⟨ht.val, S.sli ht.ch hX, S.sli ht.co hX⟩
theorem talAt_kc {v cv nv : Value} {t : Tal} (ht : TalAt H v t cv nv) : kn (talCells t cv nv) = true := tal_kn (sli_one ht.ch).2.2 (sli_one ht.co).2.2
theorem TalOk.fine {G C : Int} {t : Tal} (h : TalOk G C t) (hG : G ≤ 5) (hC : C ≤ 7) : TalFine t := talErr_fine (h.err hG hC)
end
instance : DecidableEq Rng := fun a b =>
  if h : a.lo = b.lo ∧ a.hi = b.hi then isTrue (by cases a; cases b; simp_all) else isFalse (fun e => h (by rw [e]; exact ⟨rfl, rfl⟩))
instance : DecidableEq Cnt := fun a b =>
  if h : a.gate = b.gate ∧ a.man = b.man ∧ a.num = b.num ∧ a.err = b.err then isTrue (by cases a; cases b; simp_all) else isFalse (fun e => h (by rw [e]; exact ⟨rfl, rfl, rfl, rfl⟩))
theorem teqR (a b c d : Int) : teq prog 10000 38 (.agg ⟨[vint a, vint b]⟩) (.agg ⟨[vint c, vint d]⟩) =
    (match some (a == c) with
    | some true => (match some (b == d) with
      | some true => some true
      | some false => some false
      | none => none)
    | some false => some false
    | none => none) := by kernel_rfl
theorem teqC (a b c d a' b' c' d' : Int) : teq prog 10000 61 (.agg ⟨[vint a, vint b, vint c, vint d]⟩) (.agg ⟨[vint a', vint b', vint c', vint d']⟩) =
    (match some (a == a') with
    | some true => (match some (b == b') with
      | some true => (match some (c == c') with
        | some true => (match some (d == d') with
          | some true => some true
          | some false => some false
          | none => none)
        | some false => some false
        | none => none)
      | some false => some false
      | none => none)
    | some false => some false
    | none => none) := by kernel_rfl
theorem teqR2 (r q : Rng) : teq prog 10000 38 r.val q.val = some (decide (r = q)) := by
  obtain ⟨a, b⟩ := r
  obtain ⟨c, d⟩ := q
  unfold Rng.val Rng.cells
  rw [teqR]
  by_cases e1 : a = c
  · by_cases e2 : b = d
    · simp [e1, e2]
    · rw [beq_eq_false_iff_ne.2 e2, beq_iff_eq.2 e1]
      simp [e2]
  · rw [beq_eq_false_iff_ne.2 e1]
    simp [e1]
theorem teqC2 (r q : Cnt) : teq prog 10000 61 r.val q.val = some (decide (r = q)) := by
  obtain ⟨a, b, c, d⟩ := r
  obtain ⟨a', b', c', d'⟩ := q
  unfold Cnt.val Cnt.cells
  rw [teqC]
  by_cases e1 : a = a'
  · by_cases e2 : b = b'
    · by_cases e3 : c = c'
      · by_cases e4 : d = d'
        · simp [e1, e2, e3, e4]
        · rw [beq_eq_false_iff_ne.2 e4, beq_iff_eq.2 e1, beq_iff_eq.2 e2, beq_iff_eq.2 e3]
          simp [e4]
      · rw [beq_eq_false_iff_ne.2 e3, beq_iff_eq.2 e1, beq_iff_eq.2 e2]
        simp [e3]
    · rw [beq_eq_false_iff_ne.2 e2, beq_iff_eq.2 e1]
      simp [e2]
  · rw [beq_eq_false_iff_ne.2 e1]
    simp [e1]
section
variable {main : Bool} {J : JT} {h H : List AObj} {K : Value → List AObj → Prop} {KV : Value → Prop} {n0 : Nat}
theorem neqR {r q : Rng} (hk : KV (.bool (decide (r ≠ q)))) : aBin prog .neq 38 r.val q.val KV := by
  have e2 : prog.eqGuardType prog.depth 38 = false := by kernel_rfl
  show aEq prog true 38 r.val q.val KV
  unfold aEq
  rw [teqR2]
  exact ⟨e2, by simpa using hk⟩
theorem neqC {r q : Cnt} (hk : KV (.bool (decide (r ≠ q)))) : aBin prog .neq 61 r.val q.val KV := by
  have e2 : prog.eqGuardType prog.depth 61 = false := by kernel_rfl
  show aEq prog true 61 r.val q.val KV
  unfold aEq
  rw [teqC2]
  exact ⟨e2, by simpa using hk⟩
theorem appX {s m p : Nat} {y : Value} {ys : List Value} (hp : H[p]? = some (.cells [] true 0)) (hs : 0 < s) (hm : m < 1000000) (hy : Sli H y s m ys)
    (hk : ∀ v' H' p', OwnX H' s ys m v' (some p') → SameX [] H H' → (p' = p ∨ p' = H.length) → K v' H') : aApp s (.slice (some ⟨p, 0, none⟩) 0 0) y H K := by
  have hr : room = 1073741824 := rfl
  have hy' := hy
  have hkn : kn ys = true := by
    obtain ⟨_, _, _, ⟨_, h⟩, _⟩ := hy
    exact h
  have hvl := sli_vlen hy
  by_cases h0 : m = 0
  · subst h0
    have hys : ys = [] := List.length_eq_zero_iff.1 (by omega)
    subst hys
    obtain ⟨yb, yc, rfl, _⟩ := hy
    refine ⟨by omega, src_sli hy' hs ?_⟩
    simp only [hp]
    have hf : fz = 1180591620717411303424 := rfl
    refine ⟨⟨by simp, by simp [kn]⟩, fun _ => ⟨fun _ => ⟨trivial, by simp, ?_⟩, fun x => absurd x (by simp)⟩, fun x => absurd x (by omega)⟩
    have e : H.set p (.cells (wrAt [] (0 + 0 * s) []) true 0) = H := by
      apply List.ext_getElem?
      intro i
      rw [List.getElem?_set]
      split
      · rename_i e
        subst e
        have := lt_of_get hp
        rw [if_pos this]
        simpa [wrAt] using hp.symm
      · rfl
    have := hk (.slice (some ⟨p, 0, none⟩) 0 0) H p ⟨by simp, rfl, .inr ⟨p, 0, 0, rfl, rfl, hp, .inr rfl⟩⟩ SameX.refl (.inl rfl)
    first
    | simpa [wrAt, e] using this
    | (rw [show (wrAt ([] : List Value) (0 + 0 * s) []) = [] from by simp [wrAt]] at e; simpa [wrAt, e] using this)
  · refine app_copy (n := 0) (m := m) (cs := []) (wr := true) (sz := 0) hp (by simp) (by simp [kn]) (by omega) hs hy' (by omega) ?_
    simp only [Nat.zero_mul, List.drop_nil, List.take_nil, List.nil_append, Nat.zero_add]
    exact hk _ _ H.length ⟨hvl, hkn, .inr ⟨H.length, fz, s, rfl, rfl, by simp, .inl ⟨rfl, rfl⟩⟩⟩ SameX.refl.app (.inr rfl)
theorem good38 (hJ : Closed prog main J) {v cv nv : Value} {t : Tal} (ht : TalAt h v t cv nv) (hl : t.changes.length < 1000 ∧ t.counts.length < 1000)
    (hK : ∀ H cv' nv' o1 o2, SameX [] h H → OwnX H 2 (t.changes.flatMap Rng.cells) t.changes.length cv' (some o1) → OwnX H 4 (t.counts.flatMap Cnt.cells) t.counts.length nv' (some o2) → o1 ≠ o2 → h.length ≤ o1 → h.length ≤ o2 → K (.agg ⟨talCells t cv' nv'⟩) H) : Good prog J 38 [v] h K := by
  refine g38 hJ fun ok => ?_
  rw [e38, ht.val]
  refine qBox (tal_one ht) fun H1 p1 e1 S1 c1 l1 => qAl fun H2 p2 e2 S2 c2 l2 => ?_
  have t1 : TalAt H2 v t cv nv := talAt_same ht (S1.trans S2) (by simp)
  have c1' := S2.get c1 (by simp)
  have kc : kn1 cv = true ∧ kn1 nv = true := ⟨(sli_one ht.ch).2.2, (sli_one ht.co).2.2⟩
  -- what all orders come to
  have post : ∀ (H : List AObj) (a b : Value) (o1 o2 : Nat) (f : RG), SameX [] H2 H → OwnX H 2 (t.changes.flatMap Rng.cells) t.changes.length a (some o1) → OwnX H 4 (t.counts.flatMap Cnt.cells) t.counts.length b (some o2) → o1 ≠ o2 → h.length ≤ o1 → h.length ≤ o2 → o1 ≠ p1 → o2 ≠ p1 → o1 ≠ p2 → o2 ≠ p2 → f.ds = [] → f.r 2 = ptr p2 0 →
      ∀ F : Value → RG, (∀ x, (F x).ds = [] ∧ (F x).r 2 = ptr p2 0) → aStore 1 (ptr p1 (0 + 3)) a H fun h20 => aOff (ptr p1 0) 5 fun v21 => aStore 1 v21 b h20 fun h22 => aLoad true 6 (ptr p1 0) h22 fun v23 => aStore 6 (ptr p2 0) v23 h22 fun h24 => RetQ prog [.cell 2 42] h.length K .ret (F v23) h24 := by
    intro H a b o1 o2 f S A B hne g1 g2 n1 n2 n3 n4 _ _ F hF
    refine qSt (c := talCells t cv nv) (S.get c1' (by simp)) (by simp [talCells]) (ownX_val A).1 (ownX_val A).2.1 fun H3 S3 c3 l3 => offI (qSt c3 (by simp [talCells]) (ownX_val B).1 (ownX_val B).2.1 fun H4 S4 c4 l4 => ?_)
    refine load_part (c := talCells t a b) c4 (by simp [talCells]) rfl (tal_kn (ownX_val A).2.2 (ownX_val B).2.2) ?_
    refine qStA (c := talCells t a b) (S4.get (S3.get (S.get c2 (by simp)) (by simp; omega)) (by simp; omega)) rfl rfl (tal_ones (ownX_val A).2.1 (ownX_val B).2.1) fun H5 S5 c5 l5 => ?_
    refine retQ_same (hF _).1 (resW_cell (gg := true) (s := 6) (by kernel_rfl) ?_)
    rw [(hF _).2]
    refine load_part (c := talCells t a b) c5 (by simp [talCells]) rfl (tal_kn (ownX_val A).2.2 (ownX_val B).2.2) (resW_nil ?_)
    have SS : SameX [p1, p2] H H5 := ((S3.weak (Y := [p1, p2]) (by simp)).trans (S4.weak (by simp))).trans (S5.weak (by simp))
    refine hK H5 a b o1 o2 ?_ (ownX_keep A SS ?_) (ownX_keep B SS ?_) hne g1 g2
    · exact ((S1.trans S2).trans S).thru SS (by simp; omega)
    · intro i hi
      cases hi
      simp
      exact ⟨n1, n3⟩
    · intro i hi
      cases hi
      simp
      exact ⟨n2, n4⟩
  have hcs : ∀ i, i ≠ p1 → i ≠ p2 → H2.length ≤ i ∨ i < p1 := by
    intro i _ _
    omega
  refine ⟨[p1], offI (ldI (v := cv) c1' rfl kc.1 ⟨by simp [RdOk, ptrBlk, ptr], offI (ldI (v := nv) c1' rfl kc.2 ⟨by simp [RdOk, ptrBlk, ptr], ?_⟩)⟩)⟩
  have sb : ∀ {H : List AObj}, SameX [] H2 H → SameB (some [p1]) H2 H := fun S b hb => by
    simp at hb
    subst hb
    exact S.2 _ (by omega) (by simp)
  refine ⟨⟨by decide, fillI (qNew fun H3 p3 e3 S3 c3 l3 => ⟨sb S3, ?_⟩)⟩, ⟨by decide, fillI (qNew fun H3 p3 e3 S3 c3 l3 => ⟨sb S3, ?_⟩)⟩⟩
  · refine ⟨⟨by decide, appX c3 (by omega) (by omega) (S3.sli t1.ch (by simp)) fun a H4 q4 A S4 hq4 => ⟨sb (S3.trans S4), offI ⟨by decide, fillI (qNew fun H5 p5 e5 S5 c5 l5 => ⟨sb ((S3.trans S4).trans S5), ?_⟩)⟩⟩⟩, ⟨by decide, fillI (qNew fun H4 p4 e4 S4 c4 l4 => ⟨sb (S3.trans S4), ?_⟩)⟩⟩
    · have S25 := (S3.trans S4).trans S5
      have hA := ownX_lt A q4 rfl
      refine ⟨by decide, appX c5 (by omega) (by omega) (S25.sli t1.co (by simp)) fun b H6 q6 B S6 hq6 => ⟨sb (S25.trans S6), ?_⟩⟩
      have hB := ownX_lt B q6 rfl
      refine post H6 a b q4 q6 ⟨fun _ => ptr p2 0, []⟩ (S25.trans S6) (ownX_keep A (S5.trans S6) (by simp)) B (by omega) (by omega) (by omega) (by omega) (by omega) (by omega) (by omega) rfl rfl (fun x => _) fun x => ⟨rfl, rfl⟩
    · have S24 := S3.trans S4
      refine ⟨by decide, appX (S4.get c3 (by simp)) (by omega) (by omega) (S24.sli t1.ch (by simp)) fun a H5 q5 A S5 hq5 => ⟨sb (S24.trans S5), offI ⟨by decide, appX (S5.get c4 (by simp)) (by omega) (by omega) ((S24.trans S5).sli t1.co (by simp)) fun b H6 q6 B S6 hq6 => ⟨sb ((S24.trans S5).trans S6), ?_⟩⟩⟩⟩
      have hA := ownX_lt A q5 rfl
      refine post H6 a b q5 q6 ⟨fun _ => ptr p2 0, []⟩ ((S24.trans S5).trans S6) (ownX_keep A S6 (by simp)) B (by omega) (by omega) (by omega) (by omega) (by omega) (by omega) (by omega) rfl rfl (fun x => _) fun x => ⟨rfl, rfl⟩
  · refine ⟨by decide, fillI (qNew fun H4 p4 e4 S4 c4 l4 => ⟨sb (S3.trans S4), ?_⟩)⟩
    have S24 := S3.trans S4
    refine ⟨by decide, appX c4 (by omega) (by omega) (S24.sli t1.ch (by simp)) fun a H5 q5 A S5 hq5 => ⟨sb (S24.trans S5), offI ⟨by decide, appX (S5.get (S4.get c3 (by simp)) (by simp)) (by omega) (by omega) ((S24.trans S5).sli t1.co (by simp)) fun b H6 q6 B S6 hq6 => ⟨sb ((S24.trans S5).trans S6), ?_⟩⟩⟩⟩
    have hA := ownX_lt A q5 rfl
    refine post H6 a b q5 q6 ⟨fun _ => ptr p2 0, []⟩ ((S24.trans S5).trans S6) (ownX_keep A S6 (by simp)) B (by omega) (by omega) (by omega) (by omega) (by omega) (by omega) (by omega) rfl rfl (fun x => _) fun x => ⟨rfl, rfl⟩
theorem good47 (hJ : Closed prog main J) {a b : Value} {l : List Rng} (ha : SliE h a 2 Rng.cells l) (hb : SliE h b 2 Rng.cells l) (hl : l.length < 1000000) (hK : K (.bool true) h) : Good prog J 47 [a, b] h K := by
  refine g47 hJ fun ok => ?_
  rw [e47]
  refine lenI ha (lenI hb (neqI (cndI (fun hx => absurd rfl hx) fun _ => ?_)))
  refine l47_1 hJ (fun i : Nat => l.length - i) (fun i f H => H = h ∧ i ≤ l.length ∧ f.ds = [] ∧ f.r 0 = a ∧ f.r 1 = b ∧ f.r 5 = vint (i : Nat)) ?_ (s := 0) (.inl ⟨rfl, by omega, rfl, rfl, rfl, rfl⟩)
  rintro i f H ⟨rfl, hi, hds, r0, r1, r5⟩ ok' hn'
  rw [s47_1]
  simp only [r0, r1, r5, hds]
  refine lenI ha (lssI (cndI (fun hlt => ?_) fun hge => retL_same (by simp [unk]) hK))
  have hi' : i < l.length := by omega
  obtain ⟨b1, o1, cs1, w1, z1, hx1, hb1, hle1, hp1, hk1⟩ := sliE_elem rng_len (by omega) ha hi'
  obtain ⟨b2, o2, cs2, w2, z2, hx2, hb2, hle2, hp2, hk2⟩ := sliE_elem rng_len (by omega) hb hi'
  refine hx1 _ (load_part hb1 hle1 hp1 hk1 (hx2 _ (load_part hb2 hle2 hp2 hk2 (neqR (cndI (fun hx => absurd rfl hx) fun _ => addI (by omega) ?_)))))
  exact ⟨i + 1, by dsimp only; omega, .inl ⟨rfl, by omega, hds, r0, r1, rfl⟩⟩
theorem good48 (hJ : Closed prog main J) {a b cv1 nv1 cv2 nv2 : Value} {t : Tal} (ha : TalAt h a t cv1 nv1) (hb : TalAt h b t cv2 nv2) (hl : t.changes.length < 1000000 ∧ t.counts.length < 1000000) (hK : K (.bool true) h) : Good prog J 48 [a, b] h K := by
  refine g48 hJ fun ok => ?_
  rw [e48, ha.val, hb.val]
  refine qBox (tal_one ha) fun H1 p1 e1 S1 c1 l1 => qBox (tal_one hb) fun H2 p2 e2 S2 c2 l2 => ?_
  have c1' := S2.get c1 (by simp)
  have S := S1.trans S2
  have a2 := talAt_same ha S (by simp)
  have b2 := talAt_same hb S (by simp)
  have ka : kn1 cv1 = true ∧ kn1 nv1 = true := ⟨(sli_one ha.ch).2.2, (sli_one ha.co).2.2⟩
  have kb : kn1 cv2 = true ∧ kn1 nv2 = true := ⟨(sli_one hb.ch).2.2, (sli_one hb.co).2.2⟩
  refine offI (ldI (v := vint t.gates) c1' rfl rfl (offI (ldI (v := vint t.gates) c2 rfl rfl (neqI (cndI (fun hx => absurd rfl hx) fun _ => ?_)))))
  refine offI (load_part (c := t.first.cells) c1' (by simp [talCells]) rfl rfl (offI (load_part (c := t.first.cells) c2 (by simp [talCells]) rfl rfl (neqR (r := t.first) (q := t.first) (cndI (fun hx => absurd rfl hx) fun _ => ?_)))))
  refine offI (ldI (v := vint t.most) c1' rfl rfl (offI (ldI (v := vint t.most) c2 rfl rfl (neqI (cndI (fun hx => absurd rfl hx) fun _ => ?_)))))
  refine offI (ldI (v := cv1) c1' rfl ka.1 (offI (ldI (v := cv2) c2 rfl kb.1 (good47 hJ a2.ch b2.ch hl.1 (notI (cnd_false.2 ?_))))))
  refine offI (ldI (v := nv1) c1' rfl ka.2 (lenI a2.co (offI (ldI (v := nv2) c2 rfl kb.2 (lenI b2.co (neqI (cndI (fun hx => absurd rfl hx) fun _ => ?_)))))))
  refine l48_1 hJ (fun i : Nat => t.counts.length - i) (fun i f H => H = H2 ∧ i ≤ t.counts.length ∧ f.ds = [] ∧ f.r 2 = ptr p1 0 ∧ f.r 3 = ptr p2 0 ∧ f.r 5 = vint (i : Nat)) ?_ (s := 0) (.inl ⟨rfl, by omega, rfl, rfl, rfl, rfl⟩)
  rintro i f H ⟨rfl, hi, hds, r2, r3, r5⟩ ok' hn'
  rw [s48_1]
  simp only [r2, r3, r5, hds]
  refine offI (ldI (v := nv1) c1' rfl ka.2 (lenI a2.co (lssI (cndI (fun hlt => ?_) fun hge => ?_))))
  · have hi' : i < t.counts.length := by omega
    obtain ⟨b1, o1, cs1, w1, z1, hx1, hb1, hle1, hp1, hk1⟩ := sliE_elem cnt_len (by omega) a2.co hi'
    obtain ⟨b2, o2, cs2, w2, z2, hx2, hb2, hle2, hp2, hk2⟩ := sliE_elem cnt_len (by omega) b2.co hi'
    refine offI (ldI (v := nv1) c1' rfl ka.2 (hx1 _ (load_part hb1 hle1 hp1 hk1 (offI (ldI (v := nv2) c2 rfl kb.2 (hx2 _ (load_part hb2 hle2 hp2 hk2 (neqC (r := t.counts[i]) (q := t.counts[i]) (cndI (fun hx => absurd rfl hx) fun _ => addI (by omega) ?_)))))))))
    exact ⟨i + 1, by dsimp only; omega, .inl ⟨rfl, by omega, hds, r2, r3, rfl⟩⟩
  · exact retX ok (Nat.le_refl _) S (by simp) (by simp [unk]) (by simp [pack, VOk]) hK
end
def Rng.sub (a b : Rng) : Prop := b.lo ≤ a.lo ∧ a.hi ≤ b.hi
theorem Rng.sub_refl (a : Rng) : a.sub a := ⟨Int.le_refl _, Int.le_refl _⟩
theorem Rng.sub_meet {a b c d : Rng} (h1 : a.sub c) (h2 : b.sub d) : (a.meet b).sub (c.meet d) := by
  obtain ⟨_, _⟩ := h1
  obtain ⟨_, _⟩ := h2
  unfold Rng.meet Rng.sub
  dsimp only
  omega
theorem Rng.sub_plus {a b c d : Rng} (h1 : a.sub c) (h2 : b.sub d) : (a.plus b).sub (c.plus d) := by
  obtain ⟨_, _⟩ := h1
  obtain ⟨_, _⟩ := h2
  unfold Rng.plus Rng.sub
  dsimp only
  omega
theorem Rng.sub_turn {a b : Rng} (h1 : a.sub b) : a.turn.sub b.turn := by
  obtain ⟨_, _⟩ := h1
  unfold Rng.turn Rng.sub
  dsimp only
  omega
structure Tighter (t x : Tal) (L L' : Nat → Rng) : Prop where
  gates : t.gates = x.gates
  chl : t.changes.length = x.changes.length
  first : t.first.sub x.first
  ch : ∀ i (h1 : i < t.changes.length) (h2 : i < x.changes.length), t.changes[i].sub x.changes[i]
  most : t.most ≤ x.most
  lim : ∀ g, (L g).sub (L' g)
section
variable {t x : Tal} {L L' : Nat → Rng}
theorem Tighter.stretch (h : Tighter t x L L') (g : Nat) : (stretchR t g).sub (stretchR x g) := by
  have hm := h.most
  unfold stretchR
  refine Rng.sub_plus ?_ ⟨by dsimp only; omega, Int.le_refl _⟩
  rcases Nat.lt_or_ge g t.changes.length with h1 | h1
  · have h2 : g < x.changes.length := by rw [← h.chl]; exact h1
    rw [List.getElem?_eq_getElem h1, List.getElem?_eq_getElem h2]
    exact h.ch g h1 h2
  · rw [List.getElem?_eq_none h1, List.getElem?_eq_none (by rw [← h.chl]; exact h1)]
    exact Rng.sub_refl _
theorem Tighter.fwd (h : Tighter t x L L') : ∀ g, (fwd t L g).sub (fwd x L' g)
  | 0 => Rng.sub_meet h.first (h.lim 0)
  | g + 1 => Rng.sub_meet (Rng.sub_plus (h.fwd g) (h.stretch g)) (h.lim (g + 1))
theorem Tighter.truth (h : Tighter t x L L') (hT : TruthIs t L) : TruthIs x L' := fun g hg => by
  have h1 := hT g (by rw [h.gates]; exact hg)
  obtain ⟨a, b⟩ := h.fwd g
  omega
theorem Tighter.bk (h : Tighter t x L L') (g : Nat) : (bkR t L g).sub (bkR x L' g) := by
  have key : ∀ n, (bkN t L n).sub (bkN x L' n) := by
    intro n
    induction n with
    | zero =>
      show (Go.Proofs.Ytdgpacdknpahnaa.fwd t L _).sub (Go.Proofs.Ytdgpacdknpahnaa.fwd x L' _)
      rw [h.gates]
      exact h.fwd _
    | succ n ih =>
      show ((Go.Proofs.Ytdgpacdknpahnaa.fwd t L _).meet _).sub ((Go.Proofs.Ytdgpacdknpahnaa.fwd x L' _).meet _)
      rw [h.gates]
      exact Rng.sub_meet (h.fwd _) (Rng.sub_plus ih (Rng.sub_turn (h.stretch _)))
  unfold bkR
  rw [h.gates]
  exact key _
end
structure TalO (h H : List AObj) (t : Tal) (cv co : Value) (o1 o2 : Option Nat) : Prop where
  ch : OwnX H 2 (t.changes.flatMap Rng.cells) t.changes.length cv o1
  co : OwnX H 4 (t.counts.flatMap Cnt.cells) t.counts.length co o2
  b1 : ∀ i, o1 = some i → h.length < i
  b2 : ∀ i, o2 = some i → h.length < i
theorem TalO.at {h H : List AObj} {t : Tal} {cv co : Value} {o1 o2 : Option Nat} (a : TalO h H t cv co o1 o2) : TalAt H (.agg ⟨talCells t cv co⟩) t cv co := ⟨rfl, ownX_sli a.ch, ownX_sli a.co⟩
theorem TalO.same {h H H' : List AObj} {t : Tal} {cv co : Value} {o1 o2 : Option Nat} {X : List Nat} (a : TalO h H t cv co o1 o2) (S : SameX X H H') (h1 : ∀ i, o1 = some i → i ∉ X) (h2 : ∀ i, o2 = some i → i ∉ X) : TalO h H' t cv co o1 o2 :=
  ⟨ownX_keep a.ch S h1, ownX_keep a.co S h2, a.b1, a.b2⟩
def ownL (t : Tal) (g : Nat) (n m : Int) : Rng := ⟨max 0 (n + ((t.changes[g]?).getD ⟨0, 0⟩).lo - m), min t.most (n + ((t.changes[g]?).getD ⟨0, 0⟩).hi - m)⟩
def Rng.lm (r : Rng) (B : Int) : Prop := 0 ≤ r.lo ∧ r.lo ≤ 1048576 ∧ -1 ≤ r.hi ∧ r.hi ≤ B
structure St73 (h0 H : List AObj) (bw p5 po : Nat) (t : Tal) (cv nv : Value) (u : Int) (m : Value) (R : Nat → Rng) : Prop where
  w : WorkIn h0 H bw t cv nv u m
  l5 : H[p5]? = some (.cells [.slice (some ⟨po, 0, none⟩) t.gates.toNat t.gates.toNat] true 0)
  lo : H[po]? = some (.cells (rngsC R t.gates.toNat) true 0)
  b0 : h0.length ≤ p5
  b1 : bw < p5
  b2 : po < p5
theorem St73.same {h0 H H' : List AObj} {bw p5 po : Nat} {t : Tal} {cv nv : Value} {u : Int} {m : Value} {R : Nat → Rng} {X : List Nat} (s : St73 h0 H bw p5 po t cv nv u m R) (S : SameX X H H') (hX : ∀ x ∈ X, p5 < x) : St73 h0 H' bw p5 po t cv nv u m R := by
  have b0 := s.b0
  have b1 := s.b1
  have b2 := s.b2
  exact ⟨s.w.same S (fun x hx => by have := hX x hx; omega) (fun hx => by have := hX _ hx; omega), S.get s.l5 (fun hx => by have := hX _ hx; omega), S.get s.lo (fun hx => by have := hX _ hx; omega), b0, b1, b2⟩
section
variable {main : Bool} {J : JT} {h h0 H : List AObj} {K : Value → List AObj → Prop} {KV : Value → Prop} {n0 : Nat}
theorem good103 (hJ : Closed prog main J) {a b : Int} {p c : Nat} (hp : h[p]? = some (.cells [vint b] true 0)) (hK : K (vint (min a b)) h) : Good prog J 103 [vint a, .slice (some ⟨p, 0, none⟩) 1 c] h K := by
  refine g103 hJ fun ok => ?_
  rw [e103, lenS]
  refine l103_1 hJ (fun i : Nat => 1 - i) (fun i f H => H = h ∧ i ≤ 1 ∧ f.ds = [] ∧ f.r 0 = vint (if i = 0 then a else min a b) ∧ f.r 7 = .slice (some ⟨p, 0, none⟩) 1 c ∧ f.r 8 = vint (1 : Nat) ∧ f.r 9 = vint (i : Nat)) ?_ (s := 0) (.inl ⟨rfl, by omega, rfl, rfl, rfl, rfl, rfl⟩)
  rintro i f H ⟨rfl, hi, hds, r0, r7, r8, r9⟩ ok' hn'
  rw [s103_1]
  simp only [r0, r7, r8, r9, hds]
  refine lssI (cndI (fun hlt => ?_) fun hge => ?_)
  · have : i = 0 := by omega
    subst this
    refine idxI ⟨by omega, by omega⟩ (ldI (v := vint b) hp rfl rfl (minI (addI (by omega) ?_)))
    exact ⟨1, by dsimp only; omega, .inl ⟨rfl, by omega, hds, rfl, r7, r8, rfl⟩⟩
  · have : i = 1 := by omega
    subst this
    exact retL_same (by simp [unk]) hK
end
def Rng.has (r : Rng) (n : Int) : Prop := r.lo ≤ n ∧ n ≤ r.hi
structure Tru (t : Tal) (L : Nat → Rng) (ns : Nat → Int) : Prop where
  first : t.first.has (ns 0)
  lim : ∀ g, g < t.gates.toNat → (L g).has (ns g)
  step : ∀ g, g + 1 < t.gates.toNat → (stretchR t g).has (ns (g + 1) - ns g)
section
variable {t : Tal} {L : Nat → Rng} {ns : Nat → Int}
theorem Tru.fwd (h : Tru t L ns) : ∀ g, g < t.gates.toNat → (Go.Proofs.Ytdgpacdknpahnaa.fwd t L g).has (ns g)
  | 0, hg => by
    have h1 := h.first
    have h2 := h.lim 0 hg
    unfold Go.Proofs.Ytdgpacdknpahnaa.fwd Rng.meet Rng.has at *
    dsimp only
    omega
  | g + 1, hg => by
    have h1 := h.fwd g (by omega)
    have h2 := h.lim (g + 1) hg
    have h3 := h.step g hg
    show (((Go.Proofs.Ytdgpacdknpahnaa.fwd t L g).plus (stretchR t g)).meet (L (g + 1))).has _
    unfold Rng.meet Rng.plus Rng.has at *
    dsimp only
    omega
theorem Tru.truth (h : Tru t L ns) : TruthIs t L := fun g hg => by
  have := h.fwd g (by omega)
  unfold Rng.has at this
  omega
theorem Tru.bk (h : Tru t L ns) : ∀ d g, g + d + 1 = t.gates.toNat → (bkR t L g).has (ns g)
  | 0, g, hg => by
    rw [bkR_last (by omega)]
    exact h.fwd g (by omega)
  | d + 1, g, hg => by
    rw [bkR_step (by omega)]
    have h1 := h.bk d (g + 1) (by omega)
    have h2 := h.fwd g (by omega)
    have h3 := h.step g (by omega)
    unfold Rng.meet Rng.plus Rng.turn Rng.has at *
    dsimp only
    omega
theorem fwd_lim {g : Nat} {n : Int} (hn : (fwd t L g).has n) : (L g).has n := by
  cases g with
  | zero =>
    unfold fwd Rng.meet Rng.has at *
    dsimp only at *
    omega
  | succ g =>
    change (((fwd t L g).plus (stretchR t g)).meet (L (g + 1))).has n at hn
    unfold Rng.meet Rng.plus Rng.has at *
    dsimp only at *
    omega
end
inductive Sum (t : Tal) (R : Nat → Rng) (a : Nat) : Nat → Int → Int → Prop
  | base {m : Int} : (R a).has m → Sum t R a 0 m 0
  | step {d : Nat} {n m s l : Int} : Sum t R a d n s → (R (a + d + 1)).has m → (ownL t (a + d) n m).has l → Sum t R a (d + 1) m (s + l)
section
variable {t : Tal} {R : Nat → Rng} {a : Nat}
theorem Sum.at {d : Nat} {m s : Int} (h : Sum t R a d m s) : (R (a + d)).has m := by
  cases h with
  | base h => exact h
  | step _ h _ => exact h
theorem own_bd {g : Nat} {n m l : Int} (h : (ownL t g n m).has l) : 0 ≤ l ∧ l ≤ t.most := by
  unfold ownL Rng.has at h
  dsimp only at h
  omega
theorem Sum.bd {d : Nat} {m s : Int} (h : Sum t R a d m s) : 0 ≤ s ∧ s ≤ t.most * d := by
  induction h with
  | base _ => simp
  | @step d n m s l _ _ h3 ih =>
    have := own_bd h3
    have e : t.most * ((d + 1 : Nat) : Int) = t.most * d + t.most := by
      rw [Int.natCast_add, Int.mul_add]
      simp
    omega
theorem Sum.zero {m s : Int} (h : Sum t R a 0 m s) : s = 0 := by
  cases h
  rfl
end
instance (r : Rng) (n : Int) : Decidable (r.has n) := inferInstanceAs (Decidable (_ ∧ _))
def AllP (t : Tal) (g : Int) (n : Int) : Prop := ∀ c ∈ t.counts, c.gate = g → (rd c).has n
theorem poss_iff {c : Cnt} (h1 : 0 ≤ c.num ∧ c.num ≤ 300) (h2 : 0 ≤ c.err ∧ c.err ≤ 20) {n : Int} : (rd c).has n ↔ 0 ≤ n ∧ 100 * (c.num - n) ≤ c.err * n ∧ 100 * -(c.num - n) ≤ c.err * n := by
  obtain ⟨a, b, d, e⟩ := rd_facts h1 h2
  show rdLo c ≤ n ∧ n ≤ rdHi c ↔ _
  rw [lo_le h2, le_hi h2]
  refine ⟨fun ⟨x, y⟩ => ⟨?_, by omega, by omega⟩, fun ⟨x, y, z⟩ => ⟨by omega, by omega⟩⟩
  have := (lo_le h2 (n := n)).2 x
  omega
theorem lim_iff {t : Tal} (f : TalFine t) {g : Nat} {n : Int} : (limA t 0 g).has n ↔ (0 ≤ n ∧ n ≤ 600) ∧ AllP t g n := by
  have key : ∀ i, i ≤ t.counts.length → ((limN 0 t.counts i g).has n ↔ (0 ≤ n ∧ n ≤ 600) ∧ ∀ j (hj : j < t.counts.length), j < i → t.counts[j].gate = g → (rd t.counts[j]).has n) := by
    intro i
    induction i with
    | zero =>
      intro _
      show (⟨0, 600⟩ : Rng).has n ↔ _
      unfold Rng.has
      simp
    | succ i ih =>
      intro hi
      have ih := ih (by omega)
      rw [limN_step (by omega), keep_zero]
      show (updL _ _ _ g).has n ↔ _
      have hc := f.co _ (List.getElem_mem (show i < t.counts.length by omega))
      unfold updL
      by_cases e : g = t.counts[i].gate.toNat
      · have e' : t.counts[i].gate = g := by omega
        rw [if_pos e, ← e]
        have hm : ((limN 0 t.counts i g).meet (rd t.counts[i])).has n ↔ (limN 0 t.counts i g).has n ∧ (rd t.counts[i]).has n := by
          unfold Rng.meet Rng.has
          dsimp only
          omega
        rw [hm, ih]
        refine ⟨fun ⟨⟨x, y⟩, z⟩ => ⟨x, fun j hj hji hg => ?_⟩, fun ⟨x, y⟩ => ⟨⟨x, fun j hj hji hg => y j hj (by omega) hg⟩, y i (by omega) (by omega) e'⟩⟩
        by_cases ej : j = i
        · subst ej
          exact z
        · exact y j hj (by omega) hg
      · rw [if_neg e, ih]
        refine ⟨fun ⟨x, y⟩ => ⟨x, fun j hj hji hg => ?_⟩, fun ⟨x, y⟩ => ⟨x, fun j hj hji hg => y j hj (by omega) hg⟩⟩
        by_cases ej : j = i
        · subst ej
          exact absurd (by omega) e
        · exact y j hj (by omega) hg
  unfold limA
  rw [key _ (Nat.le_refl _)]
  refine and_congr_right fun _ => ⟨fun h c hc => ?_, fun h j hj _ hg => h _ (List.getElem_mem hj) hg⟩
  obtain ⟨j, hj, rfl⟩ := List.mem_iff_getElem.1 hc
  exact h j hj hj
def befLo (t : Tal) (g : Nat) (n : Int) : Int := max 0 (n - ((t.changes[g]?).getD ⟨0, 0⟩).hi)
def befHi (t : Tal) (g : Nat) (n : Int) : Int := min 540 (n - ((t.changes[g]?).getD ⟨0, 0⟩).lo + t.most)
def Ch (t : Tal) : Nat → Int → Prop
  | 0, n => t.first.has n ∧ AllP t (0 : Nat) n
  | g + 1, n => (0 ≤ n ∧ n ≤ 540) ∧ (∃ m, befLo t g n ≤ m ∧ m ≤ befHi t g n ∧ Ch t g m) ∧ AllP t (g + 1 : Nat) n
section
variable {t : Tal}
theorem fwd_top (f : TalFine t) {L : Nat → Rng} : ∀ g : Nat, (fwd t L g).hi ≤ 300 + 60 * g
  | 0 => by
    have := f.first
    unfold fwd Rng.meet
    dsimp only
    omega
  | g + 1 => by
    have ih := fwd_top f (L := L) g
    have hm := f.most
    show min ((fwd t L g).hi + (stretchR t g).hi) _ ≤ _
    have : (stretchR t g).hi ≤ 60 := by
      unfold stretchR
      cases e : t.changes[g]? with
      | none =>
        unfold Rng.plus
        dsimp only [Option.getD]
        omega
      | some r =>
        have := f.ch r (List.mem_of_getElem? e)
        unfold Rng.plus
        dsimp only [Option.getD]
        omega
    omega
theorem ch_iff (f : TalFine t) : ∀ g, g < t.gates.toNat → ∀ n, Ch t g n ↔ (∀ j, j < g → (fwd t (limA t 0) j).lo ≤ (fwd t (limA t 0) j).hi) ∧ (fwd t (limA t 0) g).has n
  | 0, hg, n => by
    have h1 := f.first
    have hl := lim_iff f (g := 0) (n := n)
    show t.first.has n ∧ AllP t (0 : Nat) n ↔ _ ∧ (t.first.meet (limA t 0 0)).has n
    have hm : (t.first.meet (limA t 0 0)).has n ↔ t.first.has n ∧ (limA t 0 0).has n := by
      unfold Rng.meet Rng.has
      dsimp only
      omega
    rw [hm, hl]
    unfold Rng.has
    refine ⟨fun ⟨x, y⟩ => ⟨fun j hj => absurd hj (by omega), x, by omega, y⟩, fun ⟨_, x, _, y⟩ => ⟨x, y⟩⟩
  | g + 1, hg, n => by
    have ih := ch_iff f g (by omega)
    have hgt := f.gates
    have hch := f.chl
    have hc := f.ch _ (List.getElem_mem (show g < t.changes.length by omega))
    have hmo := f.most
    have hl := lim_iff f (g := g + 1) (n := n)
    have eg : (t.changes[g]?).getD ⟨0, 0⟩ = t.changes[g] := by rw [List.getElem?_eq_getElem (show g < t.changes.length by omega)]; rfl
    have es : stretchR t g = ⟨t.changes[g].lo + -t.most, t.changes[g].hi + 0⟩ := by
      unfold stretchR
      rw [eg]
      rfl
    have hm : (fwd t (limA t 0) (g + 1)).has n ↔ ((fwd t (limA t 0) g).plus (stretchR t g)).has n ∧ (limA t 0 (g + 1)).has n := by
      show (((fwd t (limA t 0) g).plus (stretchR t g)).meet (limA t 0 (g + 1))).has n ↔ _
      unfold Rng.meet Rng.has
      dsimp only
      omega
    have ht := fwd_top f (L := limA t 0) g
    rw [hm, hl]
    show (0 ≤ n ∧ n ≤ 540) ∧ (∃ m, befLo t g n ≤ m ∧ m ≤ befHi t g n ∧ Ch t g m) ∧ AllP t (g + 1 : Nat) n ↔ _
    unfold befLo befHi
    rw [eg, es]
    constructor
    · rintro ⟨x, ⟨m, m1, m2, m3⟩, y⟩
      obtain ⟨a1, a2⟩ := (ih m).1 m3
      unfold Rng.has at a2
      refine ⟨fun j hj => ?_, ?_, by omega, y⟩
      · by_cases e : j = g
        · subst e
          omega
        · exact a1 j (by omega)
      · unfold Rng.plus Rng.has
        dsimp only
        omega
    · rintro ⟨x, y, z, w⟩
      unfold Rng.plus Rng.has at y
      dsimp only at y
      have hne := x g (by omega)
      have hlo : 0 ≤ (fwd t (limA t 0) g).lo := by
        have := fwd_lim (t := t) (L := limA t 0) (g := g) (n := (fwd t (limA t 0) g).lo) ⟨Int.le_refl _, hne⟩
        have := ((lim_iff f).1 this).1
        omega
      refine ⟨by omega, ⟨max (fwd t (limA t 0) g).lo (n - t.changes[g].hi), by omega, by omega, (ih _).2 ⟨fun j hj => x j (by omega), ?_⟩⟩, w⟩
      unfold Rng.has
      omega
theorem truth_iff (f : TalFine t) : TruthIs t (limA t 0) ↔ ∃ n, (0 ≤ n ∧ n < 541) ∧ Ch t (t.gates.toNat - 1) n := by
  have hg := f.gates
  constructor
  · intro hT
    have h1 := hT (t.gates.toNat - 1) (by omega)
    have h2 := fwd_lim (t := t) (L := limA t 0) (g := t.gates.toNat - 1) (n := (fwd t (limA t 0) (t.gates.toNat - 1)).lo) ⟨Int.le_refl _, h1⟩
    have h3 := ((lim_iff f).1 h2).1
    have h4 := fwd_top f (L := limA t 0) (t.gates.toNat - 1)
    exact ⟨_, by omega, (ch_iff f _ (by omega) _).2 ⟨fun j hj => hT j (by omega), Int.le_refl _, h1⟩⟩
  · rintro ⟨n, _, h⟩ g hgl
    obtain ⟨a, b⟩ := (ch_iff f _ (by omega) _).1 h
    unfold Rng.has at b
    by_cases e : g = t.gates.toNat - 1
    · subst e
      omega
    · exact a g (by omega)
end
def rowD (f : Nat → Bool) : List Value := (List.range 541).map fun j => .bool (f j)
theorem rowD_len (f : Nat → Bool) : (rowD f).length = 541 := by simp [rowD]
theorem rowD_get (f : Nat → Bool) {n : Nat} (hn : n < 541) : (rowD f)[n]? = some (.bool (f n)) := by simp [rowD, hn]
theorem rowD_set (f : Nat → Bool) {n : Nat} (x : Bool) : (rowD f).set n (.bool x) = rowD (fun j => if j = n then x else f j) := by
  apply List.ext_getElem?
  intro i
  rw [List.getElem?_set]
  by_cases hi : i < 541
  · rw [rowD_get _ hi, rowD_get _ hi]
    by_cases e : n = i
    · subst e
      simp [rowD_len, hi]
    · rw [if_neg e, if_neg (fun x => e x.symm)]
  · have h1 : (rowD f)[i]? = none := List.getElem?_eq_none (by rw [rowD_len]; omega)
    have h2 : (rowD fun j => if j = n then x else f j)[i]? = none := List.getElem?_eq_none (by rw [rowD_len]; omega)
    rw [h1, h2]
    split
    · rw [if_neg (by rw [rowD_len]; omega)]
    · rfl
theorem rowD_zero : zrep [Value.bool false] 541 = rowD fun _ => false := by
  rw [zrep_one]
  apply List.ext_getElem?
  intro i
  by_cases hi : i < 541
  · rw [rowD_get _ hi, List.getElem?_replicate, if_pos hi]
  · rw [List.getElem?_eq_none (by rw [List.length_replicate]; omega), List.getElem?_eq_none (by rw [rowD_len]; omega)]
theorem rowD_congr {f f' : Nat → Bool} (h : ∀ j, j < 541 → f j = f' j) : rowD f = rowD f' := List.map_congr_left fun j hj => by rw [h j (by simpa using hj)]
section
variable {main : Bool} {J : JT} {h h0 H : List AObj} {K : Value → List AObj → Prop} {KV : Value → Prop} {n0 : Nat}
theorem good85 (hJ : Closed prog main J) {c : Cnt} {n : Int} (h1 : 0 ≤ c.num ∧ c.num ≤ 300) (h2 : 0 ≤ c.err ∧ c.err ≤ 20) (hn : -1000000 ≤ n ∧ n ≤ 1000000) (hK : K (.bool (decide ((rd c).has n))) h) : Good prog J 85 [c.val, vint n] h K := by
  refine g85 hJ fun ok => ?_
  rw [e85]
  unfold Cnt.val
  refine qBox (l := c.cells) rfl fun H1 p1 e1 S1 c1 l1 => ?_
  have hp := poss_iff h1 h2 (n := n)
  have c1' : H1[p1]? = some (.cells [vint c.gate, vint c.man, vint c.num, vint c.err] true 0) := c1
  have hm : -20000000 ≤ c.err * n ∧ c.err * n ≤ 20000000 := by
    rcases Int.le_total 0 n with x | x
    · have := mul_bd h2.1 h2.2 x hn.2
      omega
    · have := mul_bd h2.1 h2.2 (show 0 ≤ -n by omega) (show -n ≤ 1000000 by omega)
      rw [Int.mul_neg] at this
      omega
  have fin : ∀ b : Bool, b = decide ((rd c).has n) → retL h.length K [] [.bool b] H1 := fun b hb => by
    subst hb
    exact retX ok (Nat.le_refl _) S1 (by simp) (by simp [unk]) (by simp [pack, VOk]) hK
  refine offI (ldI (v := vint c.num) c1' rfl rfl (subI (by omega) (lssI (cndI (fun hlt => negI (by omega) ?_) fun hge => ?_))))
  · refine geqI (cndI (fun h0 => mulI (by omega) (offI (ldI (v := vint c.err) c1' rfl rfl (mulI (by omega) (leqI (fin _ ?_)))))) fun h0 => fin _ ?_)
    · rw [decide_eq_decide, hp]
      omega
    · rw [eq_comm, decide_eq_false_iff_not, hp]
      omega
  · refine geqI (cndI (fun h0 => mulI (by omega) (offI (ldI (v := vint c.err) c1' rfl rfl (mulI (by omega) (leqI (fin _ ?_)))))) fun h0 => fin _ ?_)
    · rw [decide_eq_decide, hp]
      omega
    · rw [eq_comm, decide_eq_false_iff_not, hp]
      omega
noncomputable instance (t : Tal) (g n : Int) : Decidable (AllP t g n) := Classical.propDecidable _
noncomputable instance (t : Tal) (g : Nat) (n : Int) : Decidable (Ch t g n) := Classical.propDecidable _
theorem good94 (hJ : Closed prog main J) {v cv nv : Value} {t : Tal} {g n : Int} (ht : TalAt h v t cv nv) (hc : CoSm t.counts) (hn : -1000000 ≤ n ∧ n ≤ 1000000) (hK : K (.bool (decide (AllP t g n))) h) : Good prog J 94 [v, vint g, vint n] h K := by
  refine g94 hJ fun ok => ?_
  rw [e94, ht.val]
  have kc : kn1 cv = true ∧ kn1 nv = true := ⟨(sli_one ht.ch).2.2, (sli_one ht.co).2.2⟩
  refine qBox (tal_one ht) fun H1 p1 e1 S1 c1 l1 => ?_
  have co := S1.sli ht.co (by simp)
  have fin : ∀ b : Bool, b = decide (AllP t g n) → retL h.length K [] [.bool b] H1 := fun b hb => by
    subst hb
    exact retX ok (Nat.le_refl _) S1 (by simp) (by simp [unk]) (by simp [pack, VOk]) hK
  have hl := hc.1
  refine l94_1 hJ (fun i : Nat => 100 - i) (fun i f H => H = H1 ∧ i ≤ t.counts.length ∧ (∀ j (hj : j < t.counts.length), j < i → t.counts[j].gate = g → (rd t.counts[j]).has n) ∧ f.ds = [] ∧ f.r 1 = vint g ∧ f.r 2 = vint n ∧ f.r 3 = ptr p1 0 ∧ f.r 7 = vint (i : Nat)) ?_ (s := 0)
    (.inl ⟨rfl, by omega, by simp, rfl, rfl, rfl, rfl, rfl⟩)
  rintro i f H ⟨rfl, hi, hall, hds, r1, r2, r3, r7⟩ ok' hn'
  rw [s94_1]
  simp only [r1, r2, r3, r7, hds]
  refine offI (ldI (v := nv) c1 rfl kc.2 (lenI co (lssI (cndI (fun hlt => ?_) fun hge => fin _ ?_))))
  rotate_left
  · rw [eq_comm, decide_eq_true_eq]
    intro c hcm
    obtain ⟨j, hj, rfl⟩ := List.mem_iff_getElem.1 hcm
    exact hall j hj (by omega)
  have hi' : i < t.counts.length := by omega
  obtain ⟨b2, o2, cs2, w2, z2, hx2, hb2, hle2, hp2, hk2⟩ := sliE_elem cnt_len (by omega) co hi'
  obtain ⟨q1, q2, q3⟩ := hc.2 _ (List.getElem_mem hi')
  have next : ∀ F : RG, F.r 32 = .bool false → F.ds = [] → F.r 1 = vint g → F.r 2 = vint n → F.r 3 = ptr p1 0 → F.r 7 = vint (i : Nat) → (t.counts[i].gate = g → (rd t.counts[i]).has n) →
      W prog J 33 h.length 94 (subC [1, 0, 1, 0, 0, 1, 0, 0, 1] (codeOf f94)) F H (contQ prog J 33 h.length 94 [1, 0, 1, 0, 0, 1, 0, 0, 1] (codeOf f94) [Nx h.length (fun i : Nat => 100 - i) (fun i f H' => H' = H ∧ i ≤ t.counts.length ∧ (∀ j (hj : j < t.counts.length), j < i → t.counts[j].gate = g → (rd t.counts[j]).has n) ∧ f.ds = [] ∧ f.r 1 = vint g ∧ f.r 2 = vint n ∧ f.r 3 = ptr p1 0 ∧ f.r 7 = vint (i : Nat)) i] (RetQ prog [.tmp 6] h.length K)) := by
    intro F t32 tds t1 t2 t3 t7 hin
    rw [s94_2, t32, t7]
    refine cnd_false.2 (addI (by omega) ⟨i + 1, by dsimp only; omega, .inl ⟨rfl, by omega, fun j hj hji hg => ?_, tds, t1, t2, t3, rfl⟩⟩)
    by_cases e : j = i
    · subst e
      exact hin hg
    · exact hall j hj (by omega) hg
  refine offI (ldI (v := nv) c1 rfl kc.2 (hx2 _ (offI (ldI hb2 (part_get (j := 0) hp2 rfl) rfl (eqlI (cndI (fun hg => ?_) fun hg => ?_))))))
  · refine offI (ldI (v := nv) c1 rfl kc.2 (hx2 _ (load_part (c := t.counts[i].cells) hb2 hle2 hp2 hk2 ?_)))
    refine good85 hJ (c := t.counts[i]) q2 q3 hn (notI ?_)
    by_cases hh : (rd t.counts[i]).has n
    · refine next _ ?_ hds r1 r2 r3 r7 fun _ => hh
      show Value.bool (!decide _) = _
      rw [decide_eq_true hh]
      rfl
    · rw [s94_2]
      have e : (!decide ((rd t.counts[i]).has n)) = true := by rw [decide_eq_false hh]; rfl
      rw [e]
      refine cnd_true.2 ?_
      show retL h.length K f.ds _ _
      rw [hds]
      refine fin _ ?_
      rw [eq_comm, decide_eq_false_iff_not]
      exact fun x => hh (x _ (List.getElem_mem hi') hg)
  · exact next _ rfl hds r1 r2 r3 r7 fun x => absurd x hg
theorem good112 (hJ : Closed prog main J) {v cv nv : Value} {t : Tal} {g : Nat} {n : Int} (ht : TalAt h v t cv nv) (fine : TalFine t) (hg : g < t.changes.length) (hn : -1000000 ≤ n ∧ n ≤ 1000000) (hK : K (.tuple ⟨[vint (befLo t g n), vint (befHi t g n)]⟩) h) : Good prog J 112 [v, vint g, vint n] h K := by
  refine g112 hJ fun ok => ?_
  rw [e112, ht.val]
  have kc : kn1 cv = true ∧ kn1 nv = true := ⟨(sli_one ht.ch).2.2, (sli_one ht.co).2.2⟩
  have hc := fine.ch _ (List.getElem_mem hg)
  have hm := fine.most
  have eg : (t.changes[g]?).getD ⟨0, 0⟩ = t.changes[g] := by rw [List.getElem?_eq_getElem hg]; rfl
  unfold befLo befHi at hK
  rw [eg] at hK
  refine qBox (tal_one ht) fun H1 p1 e1 S1 c1 l1 => ?_
  have ch := S1.sli ht.ch (by simp)
  obtain ⟨b2, o2, cs2, w2, z2, hx2, hb2, hle2, hp2, hk2⟩ := sliE_elem rng_len (by omega) ch hg
  refine offI (ldI (v := cv) c1 rfl kc.1 (hx2 _ (offI (ldI hb2 (part_get (j := 1) hp2 rfl) rfl (subI (by omega) (maxI ?_))))))
  refine offI (ldI (v := cv) c1 rfl kc.1 (hx2 _ (offI (ldI hb2 (part_get (j := 0) hp2 rfl) rfl (subI (by omega) (offI (ldI (v := vint t.most) c1 rfl rfl (addI (by omega) (minI ?_)))))))))
  exact retX ok (Nat.le_refl _) S1 (by simp) (by simp [unk]) (by simp [pack, VOk, AOk, LOk]) hK
def rowV (b : Nat) : Value := .slice (some ⟨b, 0, none⟩) 541 541
structure Grid (h H : List AObj) (v : Value) (bs : List Nat) (o : Option Nat) (P : Nat → Nat → Bool) : Prop where
  own : OwnX H 1 (bs.map rowV) bs.length v o
  rows : ∀ j (hj : j < bs.length), H[bs[j]]? = some (.cells (rowD (P j)) true 0)
  inc : ∀ i j (hi : i < bs.length) (hj : j < bs.length), i < j → bs[i] < bs[j]
  new : ∀ b ∈ bs, h.length ≤ b
  onew : ∀ i, o = some i → h.length ≤ i ∧ i ∉ bs
theorem Grid.same {v : Value} {bs : List Nat} {o : Option Nat} {P : Nat → Nat → Bool} {X : List Nat} {H' : List AObj} (G : Grid h H v bs o P) (S : SameX X H H') (h1 : ∀ b ∈ bs, b ∉ X) (h2 : ∀ i, o = some i → i ∉ X) : Grid h H' v bs o P :=
  ⟨ownX_keep G.own S h2, fun j hj => S.get (G.rows j hj) (h1 _ (List.getElem_mem hj)), G.inc, G.new, G.onew⟩
theorem Grid.lt {v : Value} {bs : List Nat} {o : Option Nat} {P : Nat → Nat → Bool} (G : Grid h H v bs o P) : ∀ b ∈ bs, b < H.length := fun b hb => by
  obtain ⟨j, hj, rfl⟩ := List.mem_iff_getElem.1 hb
  exact lt_of_get (G.rows j hj)
theorem Grid.read {v : Value} {bs : List Nat} {o : Option Nat} {P : Nat → Nat → Bool} (G : Grid h H v bs o P) {j n : Nat} (hj : j < bs.length) (hn : n < 541) {K2 : Value → Value → Value → Value → Prop} (hk : ∀ p q, K2 p (rowV bs[j]) q (.bool (P j n))) :
    aIdx 1 v (vint j) fun v4 => aLoad false 1 v4 H fun v5 => aIdx 1 v5 (vint n) fun v6 => aLoad false 1 v6 H (K2 v4 v5 v6) := by
  obtain ⟨h1, h2, ⟨h3, _, _⟩ | ⟨i, c, sz, _, rfl, h5, _⟩⟩ := G.own
  · omega
  · refine idxI ⟨by omega, by omega⟩ ?_
    rw [Int.toNat_natCast, Nat.zero_add]
    refine ldI (v := rowV bs[j]) h5 (by simp [hj]) rfl (idxI ⟨by omega, by omega⟩ ?_)
    rw [Int.toNat_natCast, Nat.zero_add]
    exact ldI (G.rows j hj) (by rw [Nat.mul_one]; exact rowD_get _ hn) rfl (hk _ _)
end
section
variable {main : Bool} {J : JT} {h h0 H : List AObj} {K : Value → List AObj → Prop} {KV : Value → Prop} {n0 : Nat}
noncomputable def chB (t : Tal) (g n : Nat) : Bool := decide (Ch t g n)
theorem Grid.more {v y : Value} {bs : List Nat} {o : Option Nat} {P : Nat → Nat → Bool} {pr : Nat} (G : Grid h H v bs o P) (hpr : H[pr]? = some (.cells (rowD (P bs.length)) true 0)) (hlt : ∀ b ∈ bs, b < pr) (hn : h.length ≤ pr) (ho : ∀ i, o = some i → i ≠ pr) (hl : bs.length < 1000) (hy : Sli H y 1 1 [rowV pr])
    (hk : ∀ v' H' p, SameX o.toList H H' → Grid h H' v' (bs ++ [pr]) (some p) P → K v' H') : aApp 1 v y H K := by
  refine ownX_more G.own (by omega) hl hy fun v' H' p e O S => ?_
  have hp := lt_of_get hpr
  have hno : ∀ b ∈ bs, b ∉ o.toList := fun b hb hm => by
    simp at hm
    exact (G.onew b hm).2 hb
  have hnp : pr ∉ o.toList := fun hm => by
    simp at hm
    exact ho pr hm rfl
  refine hk v' H' p S ⟨by simpa using O, fun j hj => ?_, fun i j hi hj hij => ?_, fun b hb => ?_, fun i hi => ?_⟩
  · rcases Nat.lt_or_ge j bs.length with x | x
    · rw [List.getElem_append_left x]
      exact S.get (G.rows j x) (hno _ (List.getElem_mem x))
    · have : j = bs.length := by
        simp at hj
        omega
      subst this
      simp only [List.getElem_concat_length]
      exact S.get hpr hnp
  · rcases Nat.lt_or_ge j bs.length with x | x
    · rw [List.getElem_append_left x, List.getElem_append_left (by omega)]
      exact G.inc i j _ _ hij
    · have : j = bs.length := by
        simp at hj
        omega
      subst this
      rw [List.getElem_append_left hij]
      simp only [List.getElem_concat_length]
      exact hlt _ (List.getElem_mem hij)
  · rcases List.mem_append.1 hb with hb | hb
    · exact G.new b hb
    · simp at hb
      omega
  · cases hi
    have := S.1
    refine ⟨by omega, fun hm => ?_⟩
    rcases List.mem_append.1 hm with hm | hm
    · have := G.lt p hm
      omega
    · simp at hm
      omega
theorem any107 (hJ : Closed prog main J) {v cv nv : Value} {t : Tal} {bs : List Nat} {o : Option Nat} {p1 pr g n : Nat} {F : RG} {nx0 nx1 : RG → List AObj → Prop} (fine : TalFine t) (hg : g + 1 < t.gates.toNat) (hb : bs.length = g + 1) (hn : n < 541)
    (G : Grid h H v bs o (chB t)) (c1 : H[p1]? = some (.cells (talCells t cv nv) true 0)) (ta : TalAt H (.agg ⟨talCells t cv nv⟩) t cv nv) (zr : H[pr]? = some (.cells (rowD fun j => if j < n then chB t (g + 1) j else false) true 0))
    (t0 : F.ds = []) (t1 : F.r 1 = ptr p1 0) (t3 : F.r 3 = v) (t4 : F.r 4 = vint ((g + 1 : Nat) : Int)) (t5 : F.r 5 = rowV pr) (t6 : F.r 6 = vint (n : Nat)) (t7 : F.r 7 = .bool false) (t9 : F.r 9 = vint (befHi t g n)) (t10 : F.r 10 = vint (befLo t g n))
    (hx : ∀ H' f', SameX [pr] H H' → H'[pr]? = some (.cells (rowD fun j => if j < n + 1 then chB t (g + 1) j else false) true 0) → f'.ds = [] → f'.r 1 = ptr p1 0 → f'.r 3 = v → f'.r 4 = vint ((g + 1 : Nat) : Int) → f'.r 5 = rowV pr → f'.r 6 = vint ((n : Int) + 1) → nx1 f' H') :
    Sem J 77 n0 107 (subC [1, 1, 0, 1, 0, 0, 1, 0, 0, 1, 0, 1, 0, 0, 1, 0, 0, 1, 0, 1, 0, 1, 1, 0] (codeOf f107)) F H (contQ prog J 77 n0 107 [1, 1, 0, 1, 0, 0, 1, 0, 0, 1, 0, 1, 0, 0, 1, 0, 0, 1, 0, 1, 0, 1, 1, 0] (codeOf f107) [nx0, nx1] (RetQ prog [.tmp 2] n0 K)) := by
  classical
  have hgt := fine.gates
  have hlo : 0 ≤ befLo t g n := by unfold befLo; omega
  have hhi : befHi t g n ≤ 540 := by unfold befHi; omega
  have kt := talAt_kc ta
  have hch : ∀ b : Bool, (b = decide (∃ q, befLo t g n ≤ q ∧ q ≤ befHi t g n ∧ Ch t g q)) → ∀ x : Bool, x = (b && decide (AllP t (g + 1 : Nat) n)) → x = chB t (g + 1) n := by
    rintro b rfl x rfl
    unfold chB
    rw [← Bool.decide_and, decide_eq_decide]
    show _ ↔ (0 ≤ (n : Int) ∧ (n : Int) ≤ 540) ∧ _ ∧ _
    exact ⟨fun ⟨a, b⟩ => ⟨by omega, a, b⟩, fun ⟨_, a, b⟩ => ⟨a, b⟩⟩
  have hset : ∀ x : Bool, x = chB t (g + 1) n → (rowD fun j => if j < n then chB t (g + 1) j else false).set n (.bool x) = rowD fun j => if j < n + 1 then chB t (g + 1) j else false := by
    rintro x rfl
    rw [rowD_set]
    refine rowD_congr fun j _ => ?_
    by_cases e : j = n
    · subst e
      rw [if_pos rfl, if_pos (by omega)]
    · rw [if_neg e]
      by_cases e2 : j < n
      · rw [if_pos e2, if_pos (by omega)]
      · rw [if_neg e2, if_neg (by omega)]
  refine l107_3 hJ (fun m : Int => (befHi t g n + 1 - m).toNat) (fun m f H' => H' = H ∧ befLo t g n ≤ m ∧ m ≤ max (befLo t g n) (befHi t g n + 1) ∧ f.ds = [] ∧ f.r 1 = ptr p1 0 ∧ f.r 3 = v ∧ f.r 4 = vint ((g + 1 : Nat) : Int) ∧ f.r 5 = rowV pr ∧ f.r 6 = vint (n : Nat) ∧ f.r 9 = vint (befHi t g n) ∧ f.r 10 = vint m ∧
      ∃ b : Bool, f.r 7 = .bool b ∧ (b = true ↔ ∃ q, befLo t g n ≤ q ∧ q < m ∧ Ch t g q)) ?_ (s := befLo t g n)
    (.inl ⟨rfl, Int.le_refl _, by omega, t0, t1, t3, t4, t5, t6, t9, t10, false, t7, by simp; intro q a b; omega⟩)
  rintro m f H' ⟨rfl, hm, hm2, hds, r1, r3, r4, r5, r6, r9, r10, b, r7, hbq⟩ ok' hn'
  rw [s107_3]
  simp only [r1, r3, r4, r5, r6, r7, r9, r10]
  -- what is found is stored
  have store : ∀ (x : Bool) (F' : Value → Value → List AObj → RG), x = chB t (g + 1) n → (∀ a c d, (F' a c d).ds = [] ∧ (F' a c d).r 1 = ptr p1 0 ∧ (F' a c d).r 3 = v ∧ (F' a c d).r 4 = vint ((g + 1 : Nat) : Int) ∧ (F' a c d).r 5 = rowV pr ∧ (F' a c d).r 6 = c) →
      aIdx 1 (rowV pr) (vint (n : Nat)) fun v15 => aStore 1 v15 (.bool x) H' fun h16 => aBin prog .add 3 (vint (n : Nat)) (vint 1) fun v17 => nx1 (F' v15 v17 h16) h16 := by
    intro x F' hxv hF
    refine idxI ⟨by omega, by omega⟩ ?_
    rw [Int.toNat_natCast, Nat.zero_add, Nat.mul_one]
    refine qSt zr (by rw [rowD_len]; omega) rfl rfl fun H2 S2 c2 l2 => addI (by omega) ?_
    rw [hset x hxv] at c2
    obtain ⟨a1, a2, a3, a4, a5, a6⟩ := hF (ptr pr n) (vint ((n : Int) + 1)) H2
    exact hx H2 _ S2 c2 a1 a2 a3 a4 a5 a6
  refine leqI (cndI (fun hle => ?_) fun hgt2 => ?_)
  · cases b with
    | false =>
      refine notI (cnd_true.2 (subI (by omega) ?_))
      rw [show ((g + 1 : Nat) : Int) - 1 = ((g : Nat) : Int) from by omega, show m = ((m.toNat : Nat) : Int) from by omega]
      refine G.read (j := g) (n := m.toNat) (by omega) (by omega) fun _ _ => addI (by omega) ?_
      refine ⟨m + 1, by dsimp only; omega, .inl ⟨rfl, by omega, by omega, hds, r1, r3, r4, r5, r6, r9, by show vint _ = vint _; congr 1; omega, _, rfl, ?_⟩⟩
      unfold chB
      rw [decide_eq_true_eq, show ((m.toNat : Nat) : Int) = m from by omega]
      refine ⟨fun h => ⟨m, hm, by omega, h⟩, fun ⟨q, q1, q2, q3⟩ => ?_⟩
      by_cases e : q = m
      · rw [← e]
        exact q3
      · exact absurd (hbq.2 ⟨q, q1, by omega, q3⟩) (by simp)
    | true =>
      obtain ⟨q, q1, q2, q3⟩ := hbq.1 rfl
      refine notI (cnd_false.2 (cnd_true.2 ?_))
      refine load_part (c := talCells t cv nv) c1 (by rw [cs_val]; omega) rfl kt ?_
      refine good94 hJ ta fine.cosm (by omega) ?_
      refine store _ (fun _ _ _ => _) (hch true ?_ _ (by rw [Bool.true_and])) fun _ _ _ => ⟨hds, r1, r3, r4, r5, rfl⟩
      rw [eq_comm, decide_eq_true_eq]
      exact ⟨q, q1, by omega, q3⟩
  · have hfin : b = decide (∃ q, befLo t g n ≤ q ∧ q ≤ befHi t g n ∧ Ch t g q) := by
      rw [← Bool.coe_iff_coe, hbq, decide_eq_true_eq]
      exact ⟨fun ⟨q, q1, q2, q3⟩ => ⟨q, q1, by omega, q3⟩, fun ⟨q, q1, q2, q3⟩ => ⟨q, q1, by omega, q3⟩⟩
    refine cnd_false.2 ?_
    cases b with
    | true =>
      refine cnd_true.2 (load_part (c := talCells t cv nv) c1 (by rw [cs_val]; omega) rfl kt ?_)
      refine good94 hJ ta fine.cosm (by omega) ?_
      exact store _ (fun _ _ _ => _) (hch true hfin _ (by rw [Bool.true_and])) fun _ _ _ => ⟨hds, r1, r3, r4, r5, rfl⟩
    | false =>
      refine cnd_false.2 ?_
      exact store _ (fun _ _ _ => _) (hch false hfin _ (by rw [Bool.false_and])) fun _ _ _ => ⟨hds, r1, r3, r4, r5, rfl⟩
theorem row107 (hJ : Closed prog main J) {v cv nv : Value} {t : Tal} {bs : List Nat} {o : Option Nat} {p1 pr g : Nat} {F : RG} {nx0 : RG → List AObj → Prop} (fine : TalFine t) (hg : g < t.gates.toNat) (hb : bs.length = g)
    (G : Grid h H v bs o (chB t)) (c1 : H[p1]? = some (.cells (talCells t cv nv) true 0)) (ta : TalAt h (.agg ⟨talCells t cv nv⟩) t cv nv) (SH : SameX [] h H) (zr : H[pr]? = some (.cells (rowD fun _ => false) true 0)) (hpr : h.length ≤ pr) (hbs : ∀ b ∈ bs, b < pr) (ho : ∀ i, o = some i → i ≠ pr) (hp1 : p1 < h.length)
    (t0 : F.ds = []) (t1 : F.r 1 = ptr p1 0) (t3 : F.r 3 = v) (t4 : F.r 4 = vint (g : Nat)) (t5 : F.r 5 = rowV pr) (t6 : F.r 6 = vint (0 : Nat))
    (hx : ∀ H' f' v' p, SameX (pr :: o.toList) H H' → Grid h H' v' (bs ++ [pr]) (some p) (chB t) → f'.ds = [] → f'.r 1 = ptr p1 0 → f'.r 3 = v' → f'.r 4 = vint ((g : Int) + 1) → nx0 f' H') :
    Sem J 77 n0 107 (subC [1, 1, 0, 1, 0, 0, 1, 0, 0, 1, 0, 1, 0] (codeOf f107)) F H (contQ prog J 77 n0 107 [1, 1, 0, 1, 0, 0, 1, 0, 0, 1, 0, 1, 0] (codeOf f107) [nx0] (RetQ prog [.tmp 2] n0 K)) := by
  have hgt := fine.gates
  have hch := fine.chl
  have kt := talAt_kc ta
  have hset : ∀ (n : Nat) (x : Bool), x = chB t g n → (rowD fun j => if j < n then chB t g j else false).set n (.bool x) = rowD fun j => if j < n + 1 then chB t g j else false := by
    rintro n x rfl
    rw [rowD_set]
    refine rowD_congr fun j _ => ?_
    by_cases e : j = n
    · subst e
      rw [if_pos rfl, if_pos (by omega)]
    · rw [if_neg e]
      by_cases e2 : j < n
      · rw [if_pos e2, if_pos (by omega)]
      · rw [if_neg e2, if_neg (by omega)]
  refine l107_2 hJ (fun n : Nat => 541 - n) (fun n f H' => SameX [pr] H H' ∧ n ≤ 541 ∧ H'[pr]? = some (.cells (rowD fun j => if j < n then chB t g j else false) true 0) ∧ f.ds = [] ∧ f.r 1 = ptr p1 0 ∧ f.r 3 = v ∧ f.r 4 = vint (g : Nat) ∧ f.r 5 = rowV pr ∧ f.r 6 = vint (n : Nat)) ?_ (s := 0)
    (.inl ⟨SameX.refl, by omega, zr, t0, t1, t3, t4, t5, t6⟩)
  rintro n f H' ⟨S, hn, zr', hds, r1, r3, r4, r5, r6⟩ ok' hn'
  have c1' := S.get c1 (by simp; omega)
  have SA : SameX [] h H' := SH.thru S (by simp; omega)
  have ta' := talAt_same ta SA (by simp)
  have G' := G.same S (fun b hb => by have := hbs b hb; simp; omega) (fun i hi => by have := ho i hi; simp; omega)
  rw [s107_2]
  simp only [r1, r3, r4, r5, r6]
  refine lssI (cndI (fun hlt => ?_) fun hge => ?_)
  · have hn541 : n < 541 := by omega
    -- a known value is stored
    have store : ∀ (x : Bool) (F' : Value → Value → List AObj → RG), x = chB t g n → (∀ a c d, (F' a c d).ds = [] ∧ (F' a c d).r 1 = ptr p1 0 ∧ (F' a c d).r 3 = v ∧ (F' a c d).r 4 = vint (g : Nat) ∧ (F' a c d).r 5 = rowV pr ∧ (F' a c d).r 6 = c) →
        aIdx 1 (rowV pr) (vint (n : Nat)) fun v15 => aStore 1 v15 (.bool x) H' fun h16 => aBin prog .add 3 (vint (n : Nat)) (vint 1) fun v17 => Nx n0 (fun n : Nat => 541 - n) (fun n f H' => SameX [pr] H H' ∧ n ≤ 541 ∧ H'[pr]? = some (.cells (rowD fun j => if j < n then chB t g j else false) true 0) ∧ f.ds = [] ∧ f.r 1 = ptr p1 0 ∧ f.r 3 = v ∧ f.r 4 = vint (g : Nat) ∧ f.r 5 = rowV pr ∧ f.r 6 = vint (n : Nat)) n (F' v15 v17 h16) h16 := by
      intro x F' hxv hF
      refine idxI ⟨by omega, by omega⟩ ?_
      rw [Int.toNat_natCast, Nat.zero_add, Nat.mul_one]
      refine qSt zr' (by rw [rowD_len]; omega) rfl rfl fun H2 S2 c2 l2 => addI (by omega) ?_
      rw [hset n x hxv] at c2
      obtain ⟨a1, a2, a3, a4, a5, a6⟩ := hF (ptr pr n) (vint ((n : Int) + 1)) H2
      exact ⟨n + 1, by dsimp only; omega, .inl ⟨S.trans S2, by omega, c2, a1, a2, a3, a4, a5, a6⟩⟩
    cases g with
    | zero =>
      refine eqlI (cndI (fun _ => ?_) fun hx => absurd rfl hx)
      refine offI (offI (ldI (v := vint t.first.lo) c1' rfl rfl (offI (offI (ldI (v := vint t.first.hi) c1' rfl rfl (good68 hJ (gtrI (cndI (fun hx => absurd hx (by omega)) fun _ => ?_))))))))
      have hc0 : ∀ x : Bool, x = (decide (t.first.lo ≤ (n : Int) ∧ (n : Int) ≤ t.first.hi) && decide (AllP t (0 : Nat) n)) → x = chB t 0 n := by
        rintro x rfl
        unfold chB
        rw [← Bool.decide_and, decide_eq_decide]
        exact Iff.rfl
      by_cases hin : t.first.lo ≤ (n : Int) ∧ (n : Int) ≤ t.first.hi
      · rw [decide_eq_true hin]
        refine cnd_true.2 (load_part (c := talCells t cv nv) c1' (by rw [cs_val]; omega) rfl kt ?_)
        refine good94 hJ ta' fine.cosm (by omega) ?_
        exact store _ (fun _ _ _ => _) (hc0 _ (by rw [decide_eq_true hin, Bool.true_and])) fun _ _ _ => ⟨hds, r1, r3, r4, r5, rfl⟩
      · rw [decide_eq_false hin]
        refine cnd_false.2 ?_
        exact store _ (fun _ _ _ => _) (hc0 _ (by rw [decide_eq_false hin, Bool.false_and])) fun _ _ _ => ⟨hds, r1, r3, r4, r5, rfl⟩
    | succ g =>
      refine eqlI (cndI (fun hx => absurd hx (by omega)) fun _ => gtrI (cndI (fun _ => ?_) fun hx => absurd (by omega) hx))
      refine load_part (c := talCells t cv nv) c1' (by rw [cs_val]; omega) rfl kt (subI (by omega) ?_)
      rw [show ((g + 1 : Nat) : Int) - 1 = ((g : Nat) : Int) from by omega]
      refine good112 hJ ta' fine (by omega) (by omega) (ext0 (ext1 ?_))
      refine any107 hJ fine hg hb hn541 G' c1' ta' zr' hds r1 r3 r4 r5 r6 rfl rfl rfl fun H2 f2 S2 z2 u0 u1 u3 u4 u5 u6 => ⟨n + 1, by dsimp only; omega, .inl ⟨S.trans S2, by omega, z2, u0, u1, u3, u4, u5, u6⟩⟩
  · have hn541 : n = 541 := by omega
    subst hn541
    have zfull : H'[pr]? = some (.cells (rowD (chB t bs.length)) true 0) := by
      rw [zr', hb]
      exact congrArg (fun c => some (AObj.cells c true 0)) (rowD_congr fun j hj => by rw [if_pos hj])
    refine ⟨by decide, fill1 rfl rfl (by decide) (fillI (qNew fun H2 p2 e2 S2 c2 l2 => ⟨by decide, ?_⟩))⟩
    have G2 := G'.same S2 (by simp) (by simp)
    refine G2.more (S2.get zfull (by simp)) hbs hpr ho (by omega) (ownX_sli (ownX_new (n := 1) c2 rfl rfl)) fun v' H3 p S3 G3 => addI (by omega) ?_
    refine hx H3 _ v' p ?_ G3 hds r1 rfl rfl
    exact ((S.weak (by simp)).thru S2 (by simp)).trans (S3.weak (by simp +contextual))
theorem good107 (hJ : Closed prog main J) {v cv nv : Value} {t : Tal} (ht : TalAt h v t cv nv) (fine : TalFine t)
    (hK : ∀ v' H bs o, SameX [] h H → Grid h H v' bs o (chB t) → bs.length = t.gates.toNat → K v' H) : Good prog J 107 [v] h K := by
  refine g107 hJ fun ok => ?_
  rw [e107, ht.val]
  have hgt := fine.gates
  refine qBox (tal_one ht) fun H1 p1 e1 S1 c1 l1 => ?_
  have t1 : TalAt H1 (.agg ⟨talCells t cv nv⟩) t cv nv := ⟨rfl, S1.sli ht.ch (by simp), S1.sli ht.co (by simp)⟩
  refine l107_1 hJ (fun g : Nat => 5 - g) (fun g f H => ∃ v' bs o, SameX [] H1 H ∧ Grid H1 H v' bs o (chB t) ∧ bs.length = g ∧ (g : Int) ≤ t.gates ∧ f.ds = [] ∧ f.r 1 = ptr p1 0 ∧ f.r 3 = v' ∧ f.r 4 = vint (g : Nat)) ?_ (s := 0)
    (.inl ⟨.slice none 0 0, [], none, SameX.refl, ⟨ownX_nil, by simp, by simp, by simp, by simp⟩, rfl, by omega, rfl, rfl, rfl, rfl⟩)
  rintro g f H ⟨v', bs, o, S, G, hb, hg, hds, r1, r3, r4⟩ ok' hn'
  rw [s107_1]
  simp only [r1, r3, r4, hds]
  have c1' := S.get c1 (by simp)
  refine offI (ldI (v := vint t.gates) c1' rfl rfl (lssI (cndI (fun hlt => ⟨by decide, ?_⟩) fun hge => ?_)))
  · show aMkS [.bool false] (vint ((541 : Nat) : Int)) (vint ((541 : Nat) : Int)) H _
    refine qMk (by omega) fun H2 pr e2 S2 c2 l2 => ?_
    rw [rowD_zero] at c2
    have hlt2 := G.lt
    have hol := ownX_lt G.own
    have hSl := S.1
    refine row107 hJ fine (by omega) hb (G.same S2 (by simp) (by simp)) (S2.get c1' (by simp)) t1 (S.trans S2) c2 (by omega) (fun b hb => by have := hlt2 b hb; omega) (fun i hi => by have := hol i hi; omega) (by omega) hds r1 r3 r4 rfl rfl fun H3 f3 v3 p S3 G3 u0 u1 u3 u4 => ?_
    refine ⟨g + 1, by dsimp only; omega, .inl ⟨v3, bs ++ [pr], some p, (S.trans S2).thru S3 ?_, G3, by simp [hb], by omega, u0, u1, u3, u4⟩⟩
    intro y hy
    right
    rcases List.mem_cons.1 hy with rfl | hy
    · omega
    · simp at hy
      exact (G.onew y hy).1
  · have hgG : g = t.gates.toNat := by omega
    refine retL_same ?_ (hK v' H bs o (S1.trans S) ⟨G.own, G.rows, G.inc, fun b hb => by have := G.new b hb; omega, fun i hi => by have := G.onew i hi; exact ⟨by omega, this.2⟩⟩ (by omega))
    intro x hx
    simp at hx
    subst hx
    intro e
    have := (ownX_val G.own).2.2
    rw [e] at this
    exact absurd this (by decide)
theorem good81 (hJ : Closed prog main J) {v cv nv : Value} {t : Tal} (ht : TalAt h v t cv nv) (fine : TalFine t) (hK : K (.bool (decide (TruthIs t (limA t 0)))) h) : Good prog J 81 [v] h K := by
  refine g81 hJ fun ok => ?_
  rw [e81, ht.val]
  have hgt := fine.gates
  have kt : kn (talCells t cv nv) = true := tal_kn (sli_one ht.ch).2.2 (sli_one ht.co).2.2
  refine qBox (tal_one ht) fun H1 p1 e1 S1 c1 l1 => load_part (c := talCells t cv nv) c1 (by rw [cs_val]; omega) rfl kt ?_
  have t1 : TalAt H1 (.agg ⟨talCells t cv nv⟩) t cv nv := ⟨rfl, S1.sli ht.ch (by simp), S1.sli ht.co (by simp)⟩
  refine good107 hJ t1 fine fun v' H2 bs o S2 G hb => ?_
  have S12 := S1.trans S2
  have c2 := S2.get c1 (by simp)
  have fin : ∀ b : Bool, b = decide (TruthIs t (limA t 0)) → retL h.length K [] [.bool b] H2 := fun b hb => by
    subst hb
    exact retX ok (Nat.le_refl _) S12 (by simp) (by simp [unk]) (by simp [pack, VOk]) hK
  refine l81_1 hJ (fun n : Nat => 541 - n) (fun n f H => H = H2 ∧ n ≤ 541 ∧ (∀ q : Nat, q < n → ¬ Ch t (t.gates.toNat - 1) q) ∧ f.ds = [] ∧ f.r 1 = ptr p1 0 ∧ f.r 3 = v' ∧ f.r 4 = vint (n : Nat)) ?_ (s := 0)
    (.inl ⟨rfl, by omega, by simp, rfl, rfl, rfl, rfl⟩)
  rintro n f H ⟨rfl, hn, hno, hds, r1, r3, r4⟩ ok' hn'
  rw [s81_1]
  simp only [r1, r3, r4, hds]
  refine lssI (cndI (fun hlt => ?_) fun hge => fin _ ?_)
  · refine offI (ldI (v := vint t.gates) c2 rfl rfl (subI (by omega) ?_))
    rw [show t.gates - 1 = ((t.gates.toNat - 1 : Nat) : Int) from by omega]
    refine G.read (j := t.gates.toNat - 1) (n := n) (by omega) (by omega) fun _ _ => ?_
    unfold chB
    refine cndI (fun hc => fin _ ?_) fun hc => addI (by omega) ?_
    · rw [eq_comm, decide_eq_true_eq, truth_iff fine]
      exact ⟨n, by omega, hc⟩
    · refine ⟨n + 1, by dsimp only; omega, .inl ⟨rfl, by omega, fun q hq => ?_, hds, r1, r3, rfl⟩⟩
      by_cases e : q = n
      · subst e
        exact hc
      · exact hno q (by omega)
  · rw [eq_comm, decide_eq_false_iff_not, truth_iff fine]
    rintro ⟨q, q1, q2⟩
    refine hno q.toNat (by omega) ?_
    rw [show ((q.toNat : Nat) : Int) = q from by omega]
    exact q2
end
section
variable {main : Bool} {J : JT} {h h0 H : List AObj} {K : Value → List AObj → Prop} {KV : Value → Prop} {HL : List AObj → Prop} {n0 : Nat}
theorem Grid.congr {v : Value} {bs : List Nat} {o : Option Nat} {P P' : Nat → Nat → Bool} (G : Grid h H v bs o P) (hp : ∀ j n, j < bs.length → n < 541 → P j n = P' j n) : Grid h H v bs o P' :=
  ⟨G.own, fun j hj => by rw [G.rows j hj, rowD_congr fun n hn => hp j n hj hn], G.inc, G.new, G.onew⟩
theorem Grid.write {v : Value} {bs : List Nat} {o : Option Nat} {P : Nat → Nat → Bool} (G : Grid h H v bs o P) {j n : Nat} {x : Bool} (hj : j < bs.length) (hn : n < 541) {K2 : Value → Value → Value → List AObj → Prop}
    (hk : ∀ p q H', SameX [bs[j]] H H' → Grid h H' v bs o (fun a b => if a = j ∧ b = n then x else P a b) → K2 p (rowV bs[j]) q H') :
    aIdx 1 v (vint j) fun v4 => aLoad false 1 v4 H fun v5 => aIdx 1 v5 (vint n) fun v6 => aStore 1 v6 (.bool x) H fun h' => K2 v4 v5 v6 h' := by
  obtain ⟨h1, h2, ⟨h3, _, _⟩ | ⟨i, c, sz, rfl, rfl, h5, h6⟩⟩ := id G.own
  · omega
  · refine idxI ⟨by omega, by omega⟩ ?_
    rw [Int.toNat_natCast, Nat.zero_add]
    refine ldI (v := rowV bs[j]) h5 (by simp [hj]) rfl (idxI ⟨by omega, by omega⟩ ?_)
    rw [Int.toNat_natCast, Nat.zero_add, Nat.mul_one]
    refine qSt (G.rows j hj) (by rw [rowD_len]; omega) rfl rfl fun H' S c' l' => hk _ _ H' S ⟨ownX_keep G.own S ?_, fun a ha => ?_, G.inc, G.new, G.onew⟩
    · intro b hb hm
      simp at hm
      subst hm
      exact (G.onew _ hb).2 (List.getElem_mem hj)
    · by_cases e : a = j
      · subst e
        rw [c', rowD_set]
        congr 2
        refine rowD_congr fun q _ => ?_
        simp
      · have hne : bs[a] ≠ bs[j] := by
          rcases Nat.lt_or_ge a j with x | x
          · have := G.inc a j ha hj x
            omega
          · have := G.inc j a hj ha (by omega)
            omega
        rw [S.get (G.rows a ha) (by simpa using hne)]
        congr 2
        refine rowD_congr fun q _ => ?_
        rw [if_neg (fun x => e x.1)]
theorem good52 (hJ : Closed prog main J) {v cv nv : Value} {t : Tal} (ht : TalAt h v t cv nv) (hK : K (vint (talErr t)) h) : Good prog J 52 [v] h K := by
  refine g52 hJ fun ok => ?_
  rw [e52, ht.val]
  have kc : kn1 cv = true ∧ kn1 nv = true := ⟨(sli_one ht.ch).2.2, (sli_one ht.co).2.2⟩
  refine qBox (tal_one ht) fun H p1 e1 S c1 l1 => ?_
  have S3 := S.sli ht.ch (by simp)
  have S5 := S.sli ht.co (by simp)
  have fin : ∀ (e : Int), talErr t = e → retL h.length K [] [vint e] H := fun e he => by
    subst he
    exact retX ok (Nat.le_refl _) S (by simp) (by simp [unk]) (by simp [pack, VOk]) hK
  refine offI (ldI (v := vint t.gates) c1 rfl rfl (good68 hJ (notI (cndN (fun h1 => fin 1 (by unfold talErr; rw [if_pos h1])) fun h1 => ?_))))
  refine offI (load_part (c := t.first.cells) c1 (by simp [talCells]) rfl rfl (good87 hJ (neqI (cndI (fun h2 => fin _ (by unfold talErr; rw [if_neg (by simpa using h1), if_pos (by simpa using h2)])) fun h2 => ?_))))
  have h2' : rngErr 0 300 t.first = 0 := by simpa using h2
  refine offI (ldI (v := cv) c1 rfl kc.1 (lenI S3 (offI (ldI (v := vint t.gates) c1 rfl rfl (subI (by omega) (lssI (cndI (fun h3 => fin 7 (by unfold talErr; rw [if_neg (by simpa using h1), if_neg (by omega), if_pos h3])) fun h3 => ?_)))))))
  refine offI (ldI (v := cv) c1 rfl kc.1 (lenI S3 (offI (ldI (v := vint t.gates) c1 rfl rfl (subI (by omega) (gtrI (cndI (fun h4 => fin 6 (by unfold talErr; rw [if_neg (by simpa using h1), if_neg (by omega), if_neg h3, if_pos h4])) fun h4 => ?_)))))))
  refine l52_1 hJ (fun i : Nat => t.changes.length - i) (fun i f H' => H' = H ∧ f.ds = [] ∧ f.r 1 = ptr p1 0 ∧ f.r 4 = vint (i : Nat) ∧ i ≤ t.changes.length ∧ firstE ((t.changes.take i).map (rngErr (-60) 60)) = 0) ?_ (s := 0)
    (.inl ⟨rfl, rfl, rfl, rfl, by omega, rfl⟩)
  rintro i f H ⟨rfl, hds, r1, r4, hi, hz⟩ ok' hn
  rw [s52_1]
  simp only [r1, r4, hds]
  refine offI (ldI (v := cv) c1 rfl kc.1 (lenI S3 (lssI (cndI (fun hlt => ?_) fun hge => ?_))))
  · have hil : i < t.changes.length := by omega
    obtain ⟨b, o, cs, wr, sz, hidx, hb, hle, hpart, hkn⟩ := sliE_elem rng_len (by omega) S3 hil
    obtain ⟨s1, s2⟩ := firstE_step (f := rngErr (-60) 60) hil hz
    refine offI (ldI (v := cv) c1 rfl kc.1 (hidx _ (load_part hb hle hpart hkn (good87 hJ (r := t.changes[i]) (neqI (cndI (fun hne => fin _ ?_) fun h0 => addI (by omega) ?_))))))
    · unfold talErr
      rw [if_neg (by simpa using h1), if_neg (by omega), if_neg h3, if_neg h4, if_pos (by rw [s1 hne]; exact hne), s1 hne]
    · exact ⟨i + 1, by dsimp only; omega, .inl ⟨rfl, hds, r1, rfl, by omega, s2 (by omega)⟩⟩
  · have hil : i = t.changes.length := by omega
    subst hil
    rw [List.take_length] at hz
    have pre : ∀ e : Int, (if ¬ (0 ≤ t.most ∧ t.most ≤ 60) then (1 : Int) else if t.counts.length > 7 then 6 else firstE (t.counts.map fun c => cntErr c t.gates)) = e → talErr t = e := fun e he => by
      unfold talErr
      rw [if_neg (by simpa using h1), if_neg (by omega), if_neg h3, if_neg h4, if_neg (by omega)]
      exact he
    refine offI (ldI (v := vint t.most) c1 rfl rfl (good68 hJ (notI (cndN (fun h5 => fin 1 (pre _ (by rw [if_pos h5]))) fun h5 => ?_))))
    refine offI (ldI (v := nv) c1 rfl kc.2 (lenI S5 (gtrI (cndI (fun h6 => fin 6 (pre _ (by rw [if_neg (by simpa using h5), if_pos (by omega)]))) fun h6 => ?_))))
    refine l52_2 hJ (fun i : Nat => t.counts.length - i) (fun i f H' => H' = H ∧ f.ds = [] ∧ f.r 1 = ptr p1 0 ∧ f.r 6 = vint (i : Nat) ∧ i ≤ t.counts.length ∧ firstE ((t.counts.take i).map fun c => cntErr c t.gates) = 0) ?_ (s := 0)
      (.inl ⟨rfl, hds, r1, rfl, by omega, rfl⟩)
    rintro i f H ⟨rfl, hds, r1, r6, hi, hz2⟩ ok' hn
    rw [s52_2]
    simp only [r1, r6, hds]
    refine offI (ldI (v := nv) c1 rfl kc.2 (lenI S5 (lssI (cndI (fun hlt => ?_) fun hge => ?_))))
    · have hil : i < t.counts.length := by omega
      obtain ⟨b, o, cs, wr, sz, hidx, hb, hle, hpart, hkn⟩ := sliE_elem cnt_len (by omega) S5 hil
      obtain ⟨s1, s2⟩ := firstE_step (f := fun c => cntErr c t.gates) hil hz2
      refine ⟨[p1, b], offI (ldI (v := nv) c1 rfl kc.2 ⟨by simp [RdOk, ptrBlk, ptr], hidx _ (load_part hb hle hpart hkn ⟨by simp [RdOk, ptrBlk, ptr], offI (ldI (v := vint t.gates) c1 rfl rfl ⟨by simp [RdOk, ptrBlk, ptr], ?_⟩)⟩)⟩)⟩
      refine good84 hJ (c := t.counts[i]) (by omega) ⟨fun _ _ => rfl, neqI (cndI (fun hne => fin _ (pre _ ?_)) fun h0 => addI (by omega) ?_)⟩
      · rw [if_neg (by simpa using h5), if_neg (by omega), s1 hne]
      · exact ⟨i + 1, by dsimp only; omega, .inl ⟨rfl, hds, r1, rfl, by omega, s2 (by omega)⟩⟩
    · have hil : i = t.counts.length := by omega
      subst hil
      rw [List.take_length] at hz2
      exact fin 0 (pre _ (by rw [if_neg (by simpa using h5), if_neg (by omega), hz2]))
end
end Go.Proofs.Ytdgpacdknpahnaa
namespace Go.Proofs.Ytdgpacdknpahnaa
open Go.Conc Go.Proofs.Try
set_option maxRecDepth 100000
set_option maxHeartbeats 4000000
set_option linter.unusedVariables false
section
variable {main : Bool} {J : JT} {n0 : Nat} {h : List AObj} {K : Value → List AObj → Prop}
theorem at43 : prog.funcs[43]? = some f43 := by kernel_rfl
theorem body43 : f43.body = some (codeOf f43) := by kernel_rfl
def pl43 : Plans := []
def ct43 : Cuts := .go
theorem pok43 : plansOk prog pl43 (codeOf f43) = true := by kernel_rfl
theorem e43 {a0 : Value} : W prog J 13 h.length 43 (codeOf f43) (RG.mk (regs [a0]) []) h (RetQ prog [.tmp 2] h.length K) =
(aBox a0 h fun v1 h2 =>
aOff v1 3 fun v3 =>
aLoad false 1 v3 h2 fun v4 =>
aLenS v4 fun v5 =>
aBin prog .gtr 3 v5 (vint 20) fun v6 =>
cnd v6
(retL h.length K [] [(Value.bool true)] h2)
(aOff v1 5 fun v7 =>
aLoad false 1 v7 h2 fun v8 =>
aLenS v8 fun v9 =>
aBin prog .gtr 3 v9 (vint 20) fun v10 =>
retL h.length K [] [v10] h2)) := top_eq pok43 ct43 (by kernel_rfl)
theorem g43 (hJ : Closed prog main J) {a0 : Value} (hs : heapOk h → W prog J 13 h.length 43 (codeOf f43) (RG.mk (regs [a0]) []) h (RetQ prog [.tmp 2] h.length K)) : Good prog J 43 [a0] h K :=
  good_of_W hJ mixed at43 body43 (by kernel_rfl) (Nat.le_of_ble_eq_true rfl) hs
end
end Go.Proofs.Ytdgpacdknpahnaa
namespace Go.Proofs.Ytdgpacdknpahnaa
open Go.Conc Go.Proofs.Try
set_option maxRecDepth 100000
structure Kn (h Hs H : List AObj) (ns : List Int) (k : Nat) (l : List (Nat × AObj)) : Prop where
  a : HX h H ns k
  S : SameX [h.length] Hs H
  g : ∀ x ∈ l, x.1 ≠ h.length ∧ H[x.1]? = some x.2
section
variable {main : Bool} {J : JT} {h Hs H : List AObj} {K : Value → List AObj → Prop} {ns : List Int} {k : Nat} {l : List (Nat × AObj)}
theorem Kn.to {H' : List AObj} {k' : Nat} (a : Kn h Hs H ns k l) (S : SameX [h.length] H H') (a' : HX h H' ns k') : Kn h Hs H' ns k' l :=
  ⟨a', a.S.trans S, fun x hx => ⟨(a.g x hx).1, S.get (a.g x hx).2 (by simpa using (a.g x hx).1)⟩⟩
theorem Kn.up (hJ : Closed prog main J) (a : Kn h Hs H ns k l) (hk : k < 1000000) {m : Int} (hm : m < 1000000)
    (hK : ∀ y H', 0 ≤ y → (y ≤ m ∨ y = 0) → Kn h Hs H' ns (k + 1) l → K (vint y) H') : Good prog J 22 [ptr h.length 0, vint m] H K :=
  upX hJ a.a hk hm fun y H' h1 h2 S _ a' => hK y H' h1 h2 (a.to S a')
theorem Kn.new (a : Kn h Hs H ns k l) {n : Nat} {c : List Value} (hK : ∀ H' p, Kn h Hs H' ns k ((p, .cells c true 0) :: l) → K (.slice (some ⟨p, 0, none⟩) n n) H') : aNewS n c H K := by
  refine qNew fun H' p e S c' _ => hK H' p ?_
  have a' : HX h H' ns k := (a.a).same S (by simp)
  have := a.to (S.weak0) a'
  refine ⟨a', this.S, fun x hx => ?_⟩
  rcases List.mem_cons.1 hx with rfl | hx
  · have := a.a.lt
    exact ⟨by show p ≠ _; omega, c'⟩
  · exact this.g x hx
theorem Kn.get (a : Kn h Hs H ns k l) {p : Nat} {o : AObj} (hm : (p, o) ∈ l) : H[p]? = some o := (a.g _ hm).2
theorem Kn.sb (a : Kn h Hs H ns k l) {B : List Nat} (hB : ∀ b ∈ B, b < Hs.length ∧ b ≠ h.length) : SameB (some B) Hs H := fun b hb => a.S.2 b (hB b hb).1 (by simpa using (hB b hb).2)
end
section
variable {main : Bool} {J : JT} {h H : List AObj} {K : Value → List AObj → Prop} {n0 : Nat} {v cv nv : Value} {t : Tal} {gate number : Int}
theorem good43 (hJ : Closed prog main J) (ht : TalAt h v t cv nv) (hK : K (.bool (decide (t.changes.length > 20 ∨ t.counts.length > 20))) h) : Good prog J 43 [v] h K := by
  refine g43 hJ fun ok => ?_
  rw [e43, ht.val]
  have kc : kn1 cv = true ∧ kn1 nv = true := ⟨(sli_one ht.ch).2.2, (sli_one ht.co).2.2⟩
  refine qBox (tal_one ht) fun H1 p1 e1 S1 c1 l1 => ?_
  have t1 : TalAt H1 (.agg ⟨talCells t cv nv⟩) t cv nv := ⟨rfl, S1.sli ht.ch (by simp), S1.sli ht.co (by simp)⟩
  have fin : ∀ b : Bool, b = decide (t.changes.length > 20 ∨ t.counts.length > 20) → retL h.length K [] [.bool b] H1 := fun b hb => by
    subst hb
    exact retX ok (Nat.le_refl _) S1 (by simp) (by simp [unk]) (by simp [pack, VOk]) hK
  refine offI (ldI (v := cv) c1 rfl kc.1 (lenI t1.ch (gtrI (cndI (fun hgt => fin true ?_) fun hle => offI (ldI (v := nv) c1 rfl kc.2 (lenI t1.co (gtrI (fin _ ?_))))))))
  · rw [eq_comm, decide_eq_true_eq]
    exact .inl (by omega)
  · rw [decide_eq_decide]
    omega
end
def addT (t : Tal) (c : Cnt) : Tal := { t with counts := t.counts ++ [c] }
section
variable {main : Bool} {J : JT} {h H : List AObj} {K : Value → List AObj → Prop} {KV : Value → Prop} {n0 : Nat}
theorem fill_four {m : List Value} {o s : Nat} {v : Value} {l : List Value} {ps : List (Nat × Nat × Value)} {KL : List Value → Prop} (hv : v.cells.toList = l) (hs : l.length = s) (ho : l.all one = true) (hl : o + s ≤ m.length) (hk : aFill (wrAt m o l) ps KL) : aFill m ((o, s, v) :: ps) KL := by
  subst hv
  exact ⟨hs, ho, hl, hk⟩
end
def OwnL (n : Nat) (H : List AObj) (v : Value) (ls : List (List Int)) (o : Option Nat) : Prop :=
  (∀ j, o = some j → n ≤ j) ∧ ∃ cs, OwnX H 1 cs ls.length v o ∧ ∀ (i : Nat) l, ls[i]? = some l → ∃ lv b, cs[i]? = some lv ∧ OwnX H 1 (l.map vint) l.length lv b ∧ ∀ j, b = some j → some j ≠ o ∧ n ≤ j
theorem OwnL.keep {n : Nat} {H H' : List AObj} {v : Value} {ls : List (List Int)} {o : Option Nat} (a : OwnL n H v ls o) (S : SameX [] H H') : OwnL n H' v ls o := by
  obtain ⟨h1, cs, O, he⟩ := a
  refine ⟨h1, cs, ownX_keep O S (by simp), fun i l hl => ?_⟩
  obtain ⟨lv, b, e1, e2, e3⟩ := he i l hl
  exact ⟨lv, b, e1, ownX_keep e2 S (by simp), e3⟩
def partG (hd : Nat → Int) (g : Nat → List (List Int)) (i k : Nat) : List (List Int) := ((List.range i).flatMap fun j => (g j).map (hd j :: ·)) ++ ((g i).take k).map (hd i :: ·)
section
variable {hd : Nat → Int} {g : Nat → List (List Int)} {i k : Nat}
theorem partG_zero : partG hd g i 0 = (List.range i).flatMap fun j => (g j).map (hd j :: ·) := by unfold partG; simp
theorem partG_all : partG hd g i (g i).length = partG hd g (i + 1) 0 := by
  rw [partG_zero]
  unfold partG
  rw [List.take_length, List.range_succ, List.flatMap_append]
  simp
theorem partG_succ {w : List Int} (hw : (g i)[k]? = some w) : partG hd g i (k + 1) = partG hd g i k ++ [hd i :: w] := by
  unfold partG
  rw [List.take_add_one, hw, List.map_append, List.append_assoc]
  rfl
theorem partG_le {B : Nat} (hB : ∀ j, (g j).length ≤ B) : (partG hd g i k).length ≤ (i + 1) * B := by
  have h : ∀ i, ((List.range i).flatMap fun j => (g j).map (hd j :: ·)).length ≤ i * B := by
    intro i
    induction i with
    | zero => simp
    | succ i ih =>
      rw [List.range_succ, List.flatMap_append, List.length_append, Nat.succ_mul]
      have := hB i
      simp only [List.flatMap_cons, List.flatMap_nil, List.append_nil, List.length_map]
      omega
  have h1 := h i
  have h2 := hB i
  unfold partG
  rw [List.length_append, List.length_map, List.length_take, Nat.succ_mul]
  have := Nat.min_le_right k (g i).length
  omega
end
section
variable {h H : List AObj} {K : Value → List AObj → Prop} {KV : Value → Prop} {HL : List AObj → Prop} {n0 : Nat}
theorem fill_one {m : List Value} {o s : Nat} {v : Value} {l : List Value} {ps : List (Nat × Nat × Value)} {KL : List Value → Prop} (hv : v.cells.toList = l) (hs : l.length = s) (ho : l.all one = true) (hl : o + s ≤ m.length) (hk : aFill (wrAt m o l) ps KL) : aFill m ((o, s, v) :: ps) KL := by
  subst hv
  exact ⟨hs, ho, hl, hk⟩
theorem ownX_app {s len m : Nat} {cs e : List Value} {v y : Value} {o : Option Nat} (ho : OwnX H s cs len v o) (hs : 0 < s) (hl : len + m < 1000) (hm : 0 < m) (hy : Sli H y s m e)
    (hk : ∀ v' H' p, p = H.length → OwnX H' s (cs ++ e) (len + m) v' (some p) → SameX o.toList H H' → H'.length = p + 1 → K v' H') : aApp s v y H K := by
  have hr : room = 1073741824 := rfl
  have hel := sli_vlen hy
  have hek : kn e = true := by
    obtain ⟨_, _, _, ⟨_, h⟩, _⟩ := hy
    exact h
  have new : ∀ H1 : List AObj, H1.length = H.length → SameX o.toList H H1 → cs.length = len * s → kn cs = true → K (.slice (some ⟨H.length, 0, none⟩) (len + m) fz) (H1 ++ [.cells (cs ++ e) true s]) := by
    intro H1 hH1 S h1 h2
    refine hk _ _ H.length rfl ⟨?_, ?_, .inr ⟨H.length, fz, s, rfl, rfl, by simp [← hH1], .inl ⟨rfl, rfl⟩⟩⟩ ?_ (by simp [hH1])
    · rw [List.length_append, hel, h1, Nat.add_mul]
    · unfold kn at *
      rw [List.all_append, h2, hek]
      rfl
    · exact S.app
  obtain ⟨h1, h2, ⟨rfl, rfl, rfl⟩ | ⟨i, c, sz, rfl, rfl, h5, h6⟩⟩ := ho
  · have hcs : cs = [] := List.length_eq_zero_iff.1 (by omega)
    subst hcs
    refine app_nil hs hy (by omega) (fun e => absurd e (by omega)) fun _ => ?_
    have := new H rfl SameX.refl h1 h2
    simpa using this
  · have hlt := (List.getElem?_eq_some_iff.1 h5).1
    have ht : cs.take (len * s) = cs := List.take_of_length_le (by omega)
    rcases h6 with ⟨rfl, rfl⟩ | rfl
    · refine app_own (cs := cs) h5 (by omega) (by rw [ht]; exact h2) hs hy (by omega) ?_
      rw [ht]
      exact new _ (by simp) (SameX.refl.set (.inl (by simp))) h1 h2
    · refine app_copy (cs := cs) h5 (by omega) (by rw [List.drop_zero, ht]; exact h2) (by omega) hs hy (by omega) ?_
      rw [List.drop_zero, ht]
      exact new H rfl SameX.refl h1 h2
theorem OwnL.get {n i : Nat} {v : Value} {ls : List (List Int)} {o : Option Nat} (a : OwnL n H v ls o) {l : List Int} (hl : ls[i]? = some l) {K2 : Value → Value → Prop} (hK : ∀ p lv b, OwnX H 1 (l.map vint) l.length lv b → (∀ j, b = some j → n ≤ j) → K2 p lv) : aIdx 1 v (vint (i : Nat)) fun p => aLoad false 1 p H (K2 p) := by
  obtain ⟨h1, cs, O, he⟩ := a
  obtain ⟨lv, b, e1, e2, e3⟩ := he i l hl
  have hi := (List.getElem?_eq_some_iff.1 hl).1
  exact idx_load (ownX_sli O) ⟨by omega, by omega⟩ (by rw [Int.toNat_natCast]; exact e1) fun p => hK p lv b e2 fun j hj => (e3 j hj).2
theorem app_zero {x y : Value} {p : Nat} (hp : H[p]? = some (.cells [x] true 0)) (hk : kn1 x = true) (hy : Sli H y 1 0 []) (hK : K (.slice (some ⟨p, 0, none⟩) 1 1) H) : aApp 1 (.slice (some ⟨p, 0, none⟩) 1 1) y H K := by
  have hfz : (1000 : Nat) < fz := by decide
  have hrm : (2000 : Nat) < room := by decide
  obtain ⟨yb, yc, rfl, hyk, hh⟩ := id hy
  refine ⟨by omega, src_sli hy (by omega) ?_⟩
  simp only [hp]
  refine ⟨⟨by simp, by simp [kn]; exact hk⟩, fun _ => ⟨fun _ => ⟨trivial, by simp, ?_⟩, fun h => absurd h (by omega)⟩, fun h => absurd h (by omega)⟩
  have e : H.set p (.cells (wrAt [x] (0 + 1 * 1) []) true 0) = H := by
    apply List.ext_getElem?
    intro i
    rw [List.getElem?_set]
    split
    · rename_i e
      subst e
      rw [if_pos (lt_of_get hp)]
      simpa [wrAt] using hp.symm
    · rfl
  rw [e]
  exact hK
theorem app_cons {He : List AObj} {pe : Nat} {x : Int} {w : List Int} {lv : Value} (ce : He[pe]? = some (.cells [vint x] true 0)) (hw : Sli He lv 1 w.length (w.map vint)) (hwl : w.length < 900)
    (hK : ∀ H' wv b, SameX [pe] He H' → OwnX H' 1 ((x :: w).map vint) (x :: w).length wv (some b) → (b = pe ∨ He.length ≤ b) → K wv H') : aApp 1 (.slice (some ⟨pe, 0, none⟩) 1 1) lv He K := by
  have Op := ownX_new (s := 1) (n := 1) (l := [vint x]) ce rfl rfl
  by_cases h0 : w.length = 0
  · have : w = [] := List.length_eq_zero_iff.1 h0
    subst this
    exact app_zero ce rfl hw (hK He _ pe SameX.refl Op (.inl rfl))
  · refine ownX_app Op (by omega) (by omega) (by omega) hw fun v8 H9 p9 e9 O9 S9 l9 => hK H9 v8 p9 S9 ?_ (.inr (by omega))
    have e1 : (x :: w).length = 1 + w.length := by simp; omega
    rw [e1]
    exact O9
theorem OwnL.more {lo : Nat} {H : List AObj} {ls : List (List Int)} {o : Option Nat} {v y wv : Value} {l : List Int} {bf : Nat} {K : Value → List AObj → Prop}
    (L : OwnL lo H v ls o) (hlo : lo ≤ H.length) (hpl : ls.length < 900) (Of : OwnX H 1 (l.map vint) l.length wv (some bf)) (hbf : lo ≤ bf) (hne : some bf ≠ o) (hyv : Sli H y 1 1 [wv])
    (hK : ∀ v' H' o', SameX o.toList H H' → OwnL lo H' v' (ls ++ [l]) (some o') → H.length ≤ o' → v' ≠ unk → K v' H') : aApp 1 v y H K := by
  obtain ⟨hl0, cs, Oc, he⟩ := L
  have bfl := ownX_lt Of bf rfl
  refine ownX_more Oc (by omega) (by omega) hyv fun v' Hh ph eh Oh Sh => ?_
  have hno : ∀ j, some j ≠ o → j ∉ o.toList := fun j hj hm => hj (by rw [Option.mem_toList.1 hm])
  refine hK v' Hh ph Sh ⟨fun j hj => by cases hj; omega, cs ++ [wv], by rw [List.length_append]; exact Oh, fun m l' hl => ?_⟩ (by omega) ?_
  · have hcl : cs.length = ls.length := by have := Oc.1; omega
    rcases Nat.lt_or_ge m ls.length with hm | hm
    · rw [List.getElem?_append_left hm] at hl
      obtain ⟨lv2, b2, e2, e3, e4⟩ := he m l' hl
      refine ⟨lv2, b2, by rw [List.getElem?_append_left (by omega)]; exact e2, ownX_keep e3 Sh fun j hj => hno j (e4 j hj).1, fun j hj => ⟨?_, (e4 j hj).2⟩⟩
      have := ownX_lt e3 j hj
      intro e
      injection e with e
      omega
    · rw [List.getElem?_append_right hm] at hl
      have hm0 : m - ls.length = 0 := by
        have := (List.getElem?_eq_some_iff.1 hl).1
        simp at this
        omega
      rw [hm0] at hl
      have : l' = l := by simpa using hl.symm
      subst this
      refine ⟨wv, some bf, by rw [List.getElem?_append_right (by omega), hcl, hm0]; rfl, ownX_keep Of Sh fun j hj => ?_, fun j hj => ?_⟩
      · cases hj
        exact hno _ hne
      · cases hj
        refine ⟨fun e => ?_, hbf⟩
        injection e with e
        omega
  · have := (ownX_val Oh).2.2
    intro e
    rw [e] at this
    cases this
theorem OwnL.get' {n i : Nat} {v : Value} {ls : List (List Int)} {o : Option Nat} (a : OwnL n H v ls o) {l : List Int} (hl : ls[i]? = some l) {K2 : Value → Value → Prop}
    (hK : ∀ b0 off lv b, o = some b0 → b0 < H.length → OwnX H 1 (l.map vint) l.length lv b → (∀ j, b = some j → some j ≠ o ∧ n ≤ j) → K2 (ptr b0 off) lv) : aIdx 1 v (vint (i : Nat)) fun p => aLoad false 1 p H (K2 p) := by
  obtain ⟨h1, cs, O, he⟩ := a
  obtain ⟨lv, b, e1, e2, e3⟩ := he i l hl
  have hi := (List.getElem?_eq_some_iff.1 hl).1
  obtain ⟨_, _, ⟨h0, _⟩ | ⟨b0, c, sz, rfl, rfl, hb, _⟩⟩ := O
  · omega
  · refine idxI ⟨by omega, by omega⟩ (ldI (v := lv) hb (by simpa using e1) (ownX_val e2).2.2 (hK b0 _ lv b rfl (lt_of_get hb) e2 e3))
theorem one_nil {lo : Nat} {p : Nat} (c : H[p]? = some (.cells [.slice none 0 0] true 0)) (hp : lo ≤ p) : OwnL lo H (.slice (some ⟨p, 0, none⟩) 1 1) [[]] (some p) := by
  refine ⟨fun j hj => by cases hj; exact hp, _, ownX_new (s := 1) (n := 1) c rfl rfl, fun i l hl => ?_⟩
  cases i with
  | zero =>
    have : l = [] := by simpa using hl.symm
    subst this
    exact ⟨_, none, rfl, ⟨rfl, rfl, .inl ⟨rfl, rfl, rfl⟩⟩, by simp⟩
  | succ i => simp at hl
theorem OwnL.nil {lo : Nat} : OwnL lo H (.slice none 0 0) [] none := ⟨by simp, [], ⟨rfl, rfl, .inl ⟨rfl, rfl, rfl⟩⟩, by simp⟩
theorem OwnL.lo {n m : Nat} {v : Value} {ls : List (List Int)} {o : Option Nat} (a : OwnL n H v ls o) (h : m ≤ n) : OwnL m H v ls o := by
  obtain ⟨a1, cs, a2, a3⟩ := a
  exact ⟨fun j hj => by have := a1 j hj; omega, cs, a2, fun i l hl => by
    obtain ⟨lv, b, q1, q2, q3⟩ := a3 i l hl
    exact ⟨lv, b, q1, q2, fun j hj => ⟨(q3 j hj).1, by have := (q3 j hj).2; omega⟩⟩⟩
theorem OwnL.keepX {n : Nat} {H' : List AObj} {X : List Nat} {v : Value} {ls : List (List Int)} {o : Option Nat} (a : OwnL n H v ls o) (S : SameX X H H') (hX : ∀ x ∈ X, x < n) : OwnL n H' v ls o := by
  obtain ⟨h1, cs, O, he⟩ := a
  refine ⟨h1, cs, ownX_keep O S fun i hi hm => ?_, fun i l hl => ?_⟩
  · have := h1 i hi
    have := hX i hm
    omega
  · obtain ⟨lv, b, e1, e2, e3⟩ := he i l hl
    exact ⟨lv, b, e1, ownX_keep e2 S fun j hj hm => by have := (e3 j hj).2; have := hX j hm; omega, e3⟩
theorem OwnL.lt {n : Nat} {v : Value} {ls : List (List Int)} {o : Option Nat} (a : OwnL n H v ls o) : ∀ j, o = some j → n ≤ j ∧ j < H.length := fun j hj => ⟨a.1 j hj, ownX_lt a.2.choose_spec.1 j hj⟩
theorem OwnL.sli {n : Nat} {v : Value} {ls : List (List Int)} {o : Option Nat} (a : OwnL n H v ls o) : ∃ cs, Sli H v 1 ls.length cs := ⟨_, ownX_sli a.2.choose_spec.1⟩
theorem OwnL.nunk {n : Nat} {v : Value} {ls : List (List Int)} {o : Option Nat} (a : OwnL n H v ls o) : v ≠ unk := by
  have := (ownX_val a.2.choose_spec.1).2.2
  intro e
  rw [e] at this
  cases this
end
def firstN {α : Type} (f : Nat → Option α) : Nat → Option α
  | 0 => none
  | n + 1 => (firstN f n).or (f n)
theorem firstN_none {α : Type} {f : Nat → Option α} : ∀ {n : Nat}, (∀ i, i < n → f i = none) → firstN f n = none
  | 0, _ => rfl
  | n + 1, h => by
    unfold firstN
    rw [firstN_none fun i hi => h i (by omega), h n (by omega)]
    rfl
theorem firstN_some {α : Type} {f : Nat → Option α} {k : Nat} {r : α} : ∀ {n : Nat}, k < n → (∀ i, i < k → f i = none) → f k = some r → firstN f n = some r
  | 0, h, _, _ => absurd h (Nat.not_lt_zero _)
  | n + 1, h, h0, hr => by
    unfold firstN
    by_cases e : k = n
    · subst e
      rw [firstN_none h0, hr]
      rfl
    · rw [firstN_some (by omega) h0 hr]
      rfl
theorem firstN_nil {α : Type} {f : Nat → Option α} {n : Nat} (h : firstN f n = none) : ∀ i, i < n → f i = none := by
  induction n with
  | zero => exact fun i hi => absurd hi (Nat.not_lt_zero _)
  | succ n ih =>
    unfold firstN at h
    cases e : firstN f n with
    | some x => rw [e] at h; cases h
    | none =>
      rw [e] at h
      intro i hi
      by_cases e2 : i = n
      · subst e2; exact h
      · exact ih e i (by omega)
theorem firstN_iff {α : Type} {f : Nat → Option α} {r : α} : ∀ {n : Nat}, firstN f n = some r → ∃ k, k < n ∧ (∀ i, i < k → f i = none) ∧ f k = some r
  | 0, h => by cases h
  | n + 1, h => by
    unfold firstN at h
    cases e : firstN f n with
    | some x =>
      rw [e] at h
      obtain ⟨k, h1, h2, h3⟩ := firstN_iff e
      exact ⟨k, by omega, h2, by rw [h3]; exact h⟩
    | none =>
      rw [e] at h
      exact ⟨n, by omega, firstN_nil e, h⟩
theorem firstN_range {α : Type} {f : Nat → Option α} : ∀ n, firstN f n = (List.range n).findSome? f
  | 0 => rfl
  | n + 1 => by
    rw [List.range_succ, List.findSome?_append, ← firstN_range n]
    show (firstN f n).or (f n) = _
    cases h : f n <;> simp [List.findSome?, h]
theorem firstN_more {α : Type} {f : Nat → Option α} {n : Nat} : ∀ {m : Nat}, n ≤ m → (∀ i, n ≤ i → i < m → f i = none) → firstN f m = firstN f n
  | 0, h, _ => by rw [show n = 0 from by omega]
  | m + 1, h, h0 => by
    rcases Nat.lt_or_ge m n with x | x
    · rw [show n = m + 1 from by omega]
    · show (firstN f m).or (f m) = firstN f n
      rw [firstN_more x fun i h1 h2 => h0 i h1 (by omega), h0 m x (by omega)]
      cases firstN f n <;> rfl
def andU (a b : Int) : Int := IntKind.u64.wrap (BitVec.ofInt 64 a &&& ~~~ BitVec.ofInt 64 b).toNat
def orU (a b : Int) : Int := IntKind.u64.wrap (BitVec.ofInt 64 a ||| BitVec.ofInt 64 b).toNat
def shU (i : Int) : Int := IntKind.u64.wrap (1 * 2 ^ min i.toNat 64)
def setF (s : Int) (l : List Int) : Int := l.foldl (fun s i => orU s (shU i)) s
def picksR (n : Nat) : Nat → Nat → List (List Int)
  | 0, _ => [[]]
  | m + 1, a => (List.range (n - a)).flatMap fun k => (picksR n m (a + k + 1)).map (((a + k : Nat) : Int) :: ·)
theorem picksR_few {n : Nat} : ∀ {m a : Nat}, n - a < m → picksR n m a = []
  | 0, a, h => by omega
  | m + 1, a, h => by
    unfold picksR
    rw [List.flatMap_eq_nil_iff]
    intro k hk
    have hk := List.mem_range.1 hk
    rw [picksR_few (by omega)]
    rfl
theorem picksR_mem {n : Nat} : ∀ {m a : Nat} {l : List Int}, l ∈ picksR n m a → l.length = m ∧ ∀ x ∈ l, (a : Int) ≤ x ∧ x < n
  | 0, a, l, h => by
    have : l = [] := by simpa [picksR] using h
    subst this
    simp
  | m + 1, a, l, h => by
    unfold picksR at h
    obtain ⟨k, hk, h⟩ := List.mem_flatMap.1 h
    obtain ⟨u, hu, rfl⟩ := List.mem_map.1 h
    have hk := List.mem_range.1 hk
    obtain ⟨h1, h2⟩ := picksR_mem hu
    refine ⟨by simp [h1], fun x hx => ?_⟩
    rcases List.mem_cons.1 hx with rfl | hx
    · omega
    · have := h2 x hx
      omega
def fromL (l : List Int) : Nat := match l.getLast? with
  | some x => x.toNat + 1
  | none => 0
theorem fromL_snoc {l : List Int} {k : Nat} : fromL (l ++ [(k : Int)]) = k + 1 := by
  unfold fromL
  rw [List.getLast?_concat]
  show (k : Int).toNat + 1 = _
  omega
def growP (Pu : Int → Bool) (n : Nat) : Nat → List Int → Int → Option (List Int)
  | 0, l, s => bif Pu s then some l else none
  | m + 1, l, s => firstN (fun k => growP Pu n m (l ++ [((fromL l + k : Nat) : Int)]) (orU s (shU ((fromL l + k : Nat) : Int)))) (n - m - fromL l)
def pickP (Pu : Int → Bool) (n : Nat) : Option (List Int) := firstN (fun m => growP Pu n m [] 0) (n + 1)
theorem growP_find {Pu : Int → Bool} {n : Nat} : ∀ (m : Nat) (l : List Int) (s : Int), growP Pu n m l s = ((picksR n m (fromL l)).find? fun r => Pu (setF s r)).map (l ++ ·)
  | 0, l, s => by
    unfold growP picksR
    show _ = Option.map _ (List.find? _ [[]])
    cases h : Pu s <;> simp [List.find?, setF, h]
  | m + 1, l, s => by
    unfold growP picksR
    rw [← firstN_more (m := n - fromL l) (by omega) fun k h1 h2 => ?_, firstN_range, List.find?_flatMap, List.map_findSome?]
    · congr 1
      funext k
      rw [growP_find m, fromL_snoc]
      show _ = Option.map _ (List.find? _ (List.map _ _))
      rw [List.find?_map, Option.map_map]
      have : (fun r => Pu (setF s r)) ∘ (fun x => ((fromL l + k : Nat) : Int) :: x) = fun r => Pu (setF (orU s (shU ((fromL l + k : Nat) : Int))) r) := rfl
      rw [this]
      congr 1
      funext r
      simp
    · rw [growP_find m, fromL_snoc, picksR_few (by omega)]
      rfl
theorem pickP_find {Pu : Int → Bool} {n : Nat} : pickP Pu n = firstN (fun m => (picksR n m 0).find? fun r => Pu (setF 0 r)) (n + 1) := by
  unfold pickP
  congr 1
  funext m
  rw [growP_find]
  show Option.map _ ((picksR n m 0).find? _) = _
  cases (picksR n m 0).find? fun r => Pu (setF 0 r) <;> rfl
theorem bits1 : ∀ n ∈ List.range 8, ∀ m ∈ List.range 8, ∀ l ∈ picksR n m 0, ((List.range n).filter (keepB (andU 127 (setF 0 l)))).map Int.ofNat = l ∧ ∀ i ∈ List.range n, keepB (setF 0 l) i = !(l.contains (i : Int)) :=
  of_decide_eq_true (by kernel_rfl)
noncomputable def truthS (t : Tal) (u : Int) : Bool := decide (TruthIs t (limN u t.counts t.counts.length))
def stepL (L : Nat → Rng) (c : Cnt) : Nat → Rng := updL L c.gate.toNat ((L c.gate.toNat).meet (rd c))
theorem limN_fold {u : Int} {cs : List Cnt} : ∀ k, limN u cs k = (((List.range k).filter (keepB u)).filterMap (cs[·]?)).foldl stepL fun _ => ⟨0, 600⟩
  | 0 => rfl
  | k + 1 => by
    rw [List.range_succ, List.filter_append, List.filterMap_append, List.foldl_append, ← limN_fold k]
    have e : limN u cs (k + 1) = match cs[k]? with
      | some c => bif keepB u k then stepL (limN u cs k) c else limN u cs k
      | none => limN u cs k := rfl
    rw [e]
    cases hc : cs[k]? with
    | none =>
      cases hk : keepB u k <;> simp [List.filter, hk, hc]
    | some c =>
      cases hk : keepB u k <;> simp [List.filter, hk, hc, stepL]
theorem limN_zero {cs : List Cnt} : limN 0 cs cs.length = cs.foldl stepL fun _ => ⟨0, 600⟩ := by
  rw [limN_fold]
  congr 1
  have h1 : (List.range cs.length).filter (keepB 0) = List.range cs.length := List.filter_eq_self.2 fun i _ => keep_zero i
  rw [h1]
  have : ∀ k, k ≤ cs.length → (List.range k).filterMap (cs[·]?) = cs.take k := by
    intro k
    induction k with
    | zero => intro _; simp
    | succ k ih =>
      intro hk
      have hx := List.getElem?_eq_getElem (show k < cs.length by omega)
      rw [List.range_succ, List.filterMap_append, ih (by omega), List.take_add_one, hx]
      simp [hx]
  rw [this _ (Nat.le_refl _), List.take_length]
def cntAt (t : Tal) (i : Int) : Cnt := t.counts.getD i.toNat ⟨0, 0, 0, 0⟩
def withT (t : Tal) (l : List Int) : Tal := { t with counts := l.map (cntAt t) }
theorem with_lim {t : Tal} {m : Nat} {l : List Int} (hn : t.counts.length ≤ 7) (hm : m ≤ 7) (hl : l ∈ picksR t.counts.length m 0) : limA (withT t l) 0 = limN (andU 127 (setF 0 l)) t.counts t.counts.length := by
  have hb := (bits1 _ (List.mem_range.2 (show t.counts.length < 8 by omega)) m (List.mem_range.2 (by omega)) l hl).1
  have hmem := (picksR_mem hl).2
  show limN 0 (withT t l).counts (withT t l).counts.length = _
  rw [limN_zero, limN_fold]
  congr 1
  show l.map (cntAt t) = _
  conv => lhs; rw [← hb]
  generalize hf : (List.range t.counts.length).filter (keepB (andU 127 (setF 0 l))) = q
  have hq : ∀ i ∈ q, i < t.counts.length := fun i hi => by
    rw [← hf] at hi
    exact List.mem_range.1 (List.mem_filter.1 hi).1
  clear hf hb
  induction q with
  | nil => rfl
  | cons i q ih =>
    have hi := hq i (by simp)
    have hx := List.getElem?_eq_getElem hi
    rw [List.map_cons, List.map_cons, ih fun j hj => hq j (by simp [hj]), List.filterMap_cons, hx]
    show _ :: _ = _ :: _
    congr 1
    unfold cntAt
    rw [List.getD_eq_getElem?_getD, show (Int.ofNat i).toNat = i from rfl, hx]
    rfl
theorem with_truth {t : Tal} {m : Nat} {l : List Int} (hn : t.counts.length ≤ 7) (hm : m ≤ 7) (hl : l ∈ picksR t.counts.length m 0) : decide (TruthIs (withT t l) (limA (withT t l) 0)) = truthS t (andU 127 (setF 0 l)) := by
  rw [with_lim hn hm hl]
  have h1 : ∀ (L : Nat → Rng) g, fwd (withT t l) L g = fwd t L g := by
    intro L g
    induction g with
    | zero => rfl
    | succ g ih =>
      show ((fwd (withT t l) L g).plus (stretchR (withT t l) g)).meet (L (g + 1)) = ((fwd t L g).plus (stretchR t g)).meet (L (g + 1))
      rw [ih]
      rfl
  unfold truthS
  refine decide_eq_decide.2 ⟨fun h g hg => ?_, fun h g hg => ?_⟩
  · have := h g hg
    rw [h1] at this
    exact this
  · rw [h1]
    exact h g hg
theorem limU_sub {u u' : Int} {cs : List Cnt} (hk : ∀ i, i < cs.length → keepB u' i = true → keepB u i = true) : ∀ k, k ≤ cs.length → ∀ g, (limN u cs k g).sub (limN u' cs k g)
  | 0, _, g => Rng.sub_refl _
  | k + 1, h, g => by
    have ih := limU_sub hk k (by omega)
    rw [limN_step (by omega), limN_step (by omega)]
    have hs : ∀ (L L' : Nat → Rng) (r : Rng), (∀ g, (L g).sub (L' g)) → (updL L cs[k].gate.toNat ((L cs[k].gate.toNat).meet r) g).sub (updL L' cs[k].gate.toNat ((L' cs[k].gate.toNat).meet r) g) := by
      intro L L' r hL
      unfold updL
      split
      · exact Rng.sub_meet (hL _) (Rng.sub_refl _)
      · exact hL g
    have hs2 : ∀ (L L' : Nat → Rng) (r : Rng), (∀ g, (L g).sub (L' g)) → (updL L cs[k].gate.toNat ((L cs[k].gate.toNat).meet r) g).sub (L' g) := by
      intro L L' r hL
      unfold updL
      split
      · rename_i e
        rw [e]
        obtain ⟨a, b⟩ := hL cs[k].gate.toNat
        unfold Rng.meet Rng.sub
        dsimp only
        omega
      · exact hL g
    cases h1 : keepB u k <;> cases h2 : keepB u' k
    · exact ih g
    · rw [hk k (by omega) h2] at h1
      cases h1
    · exact hs2 _ _ _ ih
    · exact hs _ _ _ ih
theorem truthS_more {t : Tal} {u u' : Int} (hk : ∀ i, i < t.counts.length → keepB u' i = true → keepB u i = true) (h : truthS t u = true) : truthS t u' = true := by
  unfold truthS at *
  refine decide_eq_true ?_
  have h := of_decide_eq_true h
  have tg : Tighter t t (limN u t.counts t.counts.length) (limN u' t.counts t.counts.length) := ⟨rfl, rfl, Rng.sub_refl _, fun _ _ _ => Rng.sub_refl _, Int.le_refl _, limU_sub hk _ (Nat.le_refl _)⟩
  exact tg.truth h
noncomputable def clashO (t : Tal) : Option (List Int) := pickP (fun s => !truthS t (andU 127 s)) t.counts.length
noncomputable def wrongO (t : Tal) : Option (List Int) := pickP (truthS t) t.counts.length
theorem full_mem : ∀ n ∈ List.range 8, ∃ l ∈ picksR n n 0, (∀ i ∈ List.range n, keepB (andU 127 (setF 0 l)) i = true) ∧ ∀ i ∈ List.range n, keepB (setF 0 l) i = keepB 127 i := by
  have key : ∀ n ∈ List.range 8, (picksR n n 0).any (fun l => (List.range n).all (fun i => keepB (andU 127 (setF 0 l)) i) && (List.range n).all fun i => keepB (setF 0 l) i == keepB 127 i) = true := of_decide_eq_true (by kernel_rfl)
  intro n hn
  obtain ⟨l, hl, h⟩ := List.any_eq_true.1 (key n hn)
  simp only [Bool.and_eq_true, List.all_eq_true, beq_iff_eq] at h
  exact ⟨l, hl, h.1, h.2⟩
section
variable {t : Tal}
theorem wrong_some (hn : t.counts.length ≤ 7) (h : truthS t 127 = true) : ∃ w, wrongO t = some w ∧ truthS t (setF 0 w) = true ∧ ∃ m, m ≤ 7 ∧ w ∈ picksR t.counts.length m 0 := by
  obtain ⟨l, hl, _, hk⟩ := full_mem t.counts.length (List.mem_range.2 (by omega))
  have ht : truthS t (setF 0 l) = true := truthS_more (fun i hi h => by rw [← hk i (List.mem_range.2 hi)]; exact h) h
  cases e : wrongO t with
  | some w =>
    unfold wrongO at e
    rw [pickP_find] at e
    obtain ⟨m, h1, _, h3⟩ := firstN_iff e
    exact ⟨w, rfl, List.find?_some (p := fun r => truthS t (setF 0 r)) h3, m, by omega, List.mem_of_find?_eq_some h3⟩
  | none =>
    unfold wrongO at e
    rw [pickP_find] at e
    have := firstN_nil e t.counts.length (by omega)
    rw [List.find?_eq_none] at this
    exact absurd ht (this l hl)
end
theorem picks_le {n m : Nat} (hn : n ≤ 7) (hm : m ≤ 7) (a : Nat) : (picksR n m a).length ≤ 100 := by
  have key : ∀ n ∈ List.range 8, ∀ m ∈ List.range 8, ∀ a ∈ List.range 9, (picksR n m a).length ≤ 100 := of_decide_eq_true (by kernel_rfl)
  rcases Nat.lt_or_ge a 9 with h | h
  · exact key n (List.mem_range.2 (by omega)) m (List.mem_range.2 (by omega)) a (List.mem_range.2 h)
  · cases m with
    | zero => simp [picksR]
    | succ m =>
      rw [picksR_few (by omega)]
      simp
section
variable {main : Bool} {J : JT} {h H : List AObj} {K : Value → List AObj → Prop} {KV : Value → Prop} {HL : List AObj → Prop} {n0 : Nat}
theorem good36 (hJ : Closed prog main J) {v cv nv lv : Value} {t : Tal} {l : List Int} (ht : TalAt H v t cv nv) (hl : Sli H lv 1 l.length (l.map vint)) (hb : ∀ x ∈ l, 0 ≤ x ∧ x < t.counts.length) (hll : l.length ≤ 100)
    (hK : ∀ H' nv', SameX [] H H' → TalAt H' (.agg ⟨talCells (withT t l) cv nv'⟩) (withT t l) cv nv' → K (.agg ⟨talCells (withT t l) cv nv'⟩) H') : Good prog J 36 [v, lv] H K := by
  refine g36 hJ fun ok => ?_
  rw [e36, ht.val]
  have kc : kn1 cv = true ∧ kn1 nv = true := ⟨(sli_one ht.ch).2.2, (sli_one ht.co).2.2⟩
  refine qBox (tal_one ht) fun H1 p1 e1 S1 b1 l1 => qAl fun H2 p2 e2 S2 b2 l2 => ?_
  have T2 := S1.trans S2
  have b12 := S2.get b1 (by simp)
  refine offI (ldI (v := nv) b12 rfl kc.2 (offI (qSt b12 (by rw [cs_val]; omega) rfl rfl fun H3 S3 c3 l3 => ?_)))
  have c3 : H3[p1]? = some (.cells (talCells (withT t []) cv (.slice none 0 0)) true 0) := c3
  have T3 : SameX [] H H3 := T2.thru S3 (by simp; omega)
  have c32 := S3.get b2 (by simp; omega)
  have hS1 := S1.1
  have hS2 := S2.1
  have lp1 := lt_of_get c3
  have lp2 := lt_of_get c32
  refine l36_1 hJ (fun k : Nat => l.length - k) (fun k F H' => ∃ nv' o', SameX [p1] H3 H' ∧ k ≤ l.length ∧ OwnX H' 4 (((l.take k).map (cntAt t)).flatMap Cnt.cells) k nv' o' ∧ (∀ j, o' = some j → H3.length ≤ j) ∧ H'[p1]? = some (.cells (talCells (withT t (l.take k)) cv nv') true 0) ∧ F.ds = [] ∧ F.r 1 = lv ∧ F.r 2 = ptr p1 0 ∧ F.r 4 = ptr p2 0 ∧ F.r 5 = nv ∧ F.r 6 = vint (k : Nat)) ?_ (s := 0)
    (.inl ⟨_, none, SameX.refl, by omega, ⟨rfl, rfl, .inl ⟨rfl, rfl, rfl⟩⟩, by simp, c3, rfl, rfl, rfl, rfl, rfl, rfl⟩)
  rintro k F H' ⟨nv', o', S, hk, O, ho, c', ds, r1, r2, r4, r5, r6⟩ okc hnc
  have T' : SameX [] H H' := T3.thru S (by simp; omega)
  have sl := T'.sli hl (by simp)
  have kO := (ownX_val O).2.2
  rw [s36_1, r1, r2, r4, r5, r6]
  refine lenI sl (lssI (cndI (fun hlt => ?_) fun hge => ?_))
  · have hkl : k < l.length := by omega
    have hx := List.getElem?_eq_getElem hkl
    obtain ⟨hx0, hx1⟩ := hb _ (List.getElem_mem hkl)
    have hcl : l[k].toNat < t.counts.length := by omega
    obtain ⟨b, off, cs, wr, sz, cp, hlv, hbb0, hg⟩ := sli_get hl (i := (k : Int)) ⟨by omega, by omega⟩
    have hgi := hg k (vint l[k]) (by rw [List.getElem?_map, hx]; rfl)
    have hbl := lt_of_get hbb0
    have hbb := T'.get hbb0 (by simp)
    obtain ⟨bn, on, cn, wn, zn, hidx, hbn0, hol, hft, hkn⟩ := sliE_elem (enc := Cnt.cells) (s := 4) (fun _ => rfl) (by omega) ht.co hcl
    have hbnl := lt_of_get hbn0
    have hbn := T'.get hbn0 (by simp)
    have hT := T3.1
    have hSS := S.1
    have sb : ∀ {Hn}, SameX o'.toList H' Hn → SameB (some [p1, b, bn]) H' Hn := fun S' x hx => S'.2 x (by simp at hx; rcases hx with rfl | rfl | rfl <;> omega) (fun hm => by
      have := ho x (Option.mem_toList.1 hm)
      simp at hx
      rcases hx with rfl | rfl | rfl <;> omega)
    refine ⟨[p1, b, bn], offI (ldI (v := nv') c' rfl kO ⟨by simp [RdOk, ptr, ptrBlk], ?_⟩)⟩
    rw [hlv]
    refine idxI ⟨by omega, by omega⟩ ?_
    have ei : off + (k : Int).toNat * 1 = off + k := by omega
    rw [ei]
    refine ldI (v := vint l[k]) hbb hgi rfl ⟨by simp [RdOk, ptr, ptrBlk], ?_⟩
    have ex : vint l[k] = vint (l[k].toNat : Nat) := by congr 1; omega
    rw [ex]
    refine hidx _ (load_part (c := t.counts[l[k].toNat].cells) hbn hol hft hkn ⟨by simp [RdOk, ptr, ptrBlk], ?_⟩)
    refine ⟨by decide, fill_one (l := t.counts[l[k].toNat].cells) rfl rfl rfl (by decide) (fillI (qNew fun He pe ee Se ce le => ⟨sb Se.weak0, by decide, ?_⟩))⟩
    have ce : He[pe]? = some (.cells t.counts[l[k].toNat].cells true 0) := ce
    have O1 := ownX_keep O Se (by simp)
    refine ownX_more O1 (by omega) (by omega) (ownX_sli (ownX_new (s := 4) (n := 1) (l := t.counts[l[k].toNat].cells) ce rfl rfl)) fun nv2 Hf pf ef Of Sf => ?_
    have Tf : SameX o'.toList H' Hf := Se.weak0.trans Sf
    have cf := Tf.get c' (fun hm => by have := ho p1 (Option.mem_toList.1 hm); omega)
    have hTf := Tf.1
    have hSe := Se.1
    refine ⟨sb Tf, offI (qSt cf (by rw [cs_val]; omega) (ownX_val Of).1 (ownX_val Of).2.1 fun Hg Sg cg lg => addI (by omega) ?_)⟩
    have eC : (l.take (k + 1)).map (cntAt t) = (l.take k).map (cntAt t) ++ [t.counts[l[k].toNat]] := by
      rw [List.take_add_one, hx, List.map_append]
      congr 1
      show [cntAt t l[k]] = _
      unfold cntAt
      rw [List.getD_eq_getElem?_getD, List.getElem?_eq_getElem hcl]
      rfl
    have cg : Hg[p1]? = some (.cells (talCells (withT t (l.take (k + 1))) cv nv2) true 0) := cg
    refine ⟨k + 1, by dsimp only; omega, .inl ⟨nv2, some pf, ?_, by omega, ?_, fun j hj => by cases hj; omega, cg, ds, r1.trans hlv, r2, r4, r5, by show vint _ = vint _; congr 1⟩⟩
    · exact (S.thru Tf (fun y hy => .inr (ho y (Option.mem_toList.1 hy)))).thru Sg (by simp)
    · rw [eC, List.flatMap_append]
      refine ownX_keep ?_ Sg (fun i hi => by cases hi; simp; omega)
      simpa using Of
  · have hke : k = l.length := by omega
    subst hke
    rw [List.take_length] at O c'
    have t' : TalAt H' (.agg ⟨talCells (withT t l) cv nv'⟩) (withT t l) cv nv' := ⟨rfl, T'.sli ht.ch (by simp), by
      have := ownX_sli O
      unfold SliE
      show Sli H' nv' 4 (l.map (cntAt t)).length _
      rw [List.length_map]
      exact this⟩
    refine load_part (c := talCells (withT t l) cv nv') c' (by rw [cs_val]; omega) rfl (talAt_kc t') ?_
    refine qStA (c := talCells (withT t l) cv nv') (S.get c32 (by simp; omega)) rfl rfl (tal_one t') fun Hg Sg cg lg => ?_
    refine retQ_same ds (resW_cell (gg := true) (s := 6) (by kernel_rfl) ?_)
    show aLoad true 6 (F.r 4) _ _
    rw [r4]
    have hSS := S.1
    have O2 := ownX_keep O Sg (fun i hi => by have := ho i hi; simp; omega)
    have Tg : SameX [] H Hg := T'.thru Sg (by simp; omega)
    have tg : TalAt Hg (.agg ⟨talCells (withT t l) cv nv'⟩) (withT t l) cv nv' := ⟨rfl, Tg.sli ht.ch (by simp), by
      have := ownX_sli O2
      unfold SliE
      show Sli Hg nv' 4 (l.map (cntAt t)).length _
      rw [List.length_map]
      exact this⟩
    exact load_part (c := talCells (withT t l) cv nv') cg (by rw [cs_val]; omega) rfl (talAt_kc t') (resW_nil (hK Hg nv' Tg tg))
end
def ClipAt (H : List AObj) (v : Value) (l : List Int) : Prop := (l = [] ∧ v = .slice none 0 0) ∨ ∃ i sz, v = .slice (some ⟨i, 0, none⟩) l.length l.length ∧ H[i]? = some (.cells (l.map vint) true sz)
theorem ClipAt.keep {H H' : List AObj} {v : Value} {l : List Int} (a : ClipAt H v l) (S : SameX [] H H') : ClipAt H' v l := by
  rcases a with a | ⟨i, sz, h1, h2⟩
  · exact .inl a
  · exact .inr ⟨i, sz, h1, S.get h2 (by simp)⟩
theorem kn_vint (l : List Int) : kn (l.map vint) = true := by simp [kn]; exact fun _ _ => rfl
def growV (pp pn pg : Nat) : Value := .func (.func 105) ⟨[]⟩ ⟨[ptr pp 0, ptr pn 0, ptr pg 0]⟩
structure Pass (J : JT) (X : List Nat) (I : List AObj → Prop) (Pu : Int → Bool) (fv : Value) : Prop where
  call : ∀ {H : List AObj} {s : Int} {Kf : Value → List AObj → Prop}, I H → (∀ H', SameX X H H' → I H' → Kf (.bool (Pu s)) H') → callV prog (Good prog J) fv [.int .u64 s] H Kf
  keep : ∀ {H H' : List AObj}, I H → SameX [] H H' → I H'
  kn : kn1 fv = true
  val : fv.cells = #[fv] ∧ one fv = true
section
variable {main : Bool} {J : JT} {h H : List AObj} {K : Value → List AObj → Prop} {KV : Value → Prop} {HL : List AObj → Prop} {n0 : Nat}
theorem u_shlI {i : Int} {t : TypeId} (h0 : 0 ≤ i) (hk : KV (.int .u64 (shU i))) : aBin prog .shl t (.int .u64 1) (.int .u64 i) KV := ⟨h0, hk⟩
theorem u_orI {a b : Int} {t : TypeId} (hk : KV (.int .u64 (orU a b))) : aBin prog .or t (.int .u64 a) (.int .u64 b) KV := ⟨rfl, hk⟩
theorem u_andNotI {a b : Int} {t : TypeId} (hk : KV (.int .u64 (andU a b))) : aBin prog .andNot t (.int .u64 a) (.int .u64 b) KV := ⟨rfl, hk⟩
theorem good106 (hJ : Closed prog main J) {v : Value} {l : List Int} {o : Option Nat} (O : OwnX H 1 (l.map vint) l.length v o) (hl : l.length ≤ 100) (hK : ∀ v', ClipAt H v' l → K v' H) : Good prog J 106 [v] H K := by
  have hfz : (1000 : Nat) < fz := by decide
  have hrm : (2000 : Nat) < room := by decide
  refine g106 hJ fun ok => ?_
  rw [e106]
  refine lenI (ownX_sli O) (lenI (ownX_sli O) ?_)
  obtain ⟨_, _, ⟨h0, rfl, _⟩ | ⟨i, c, sz, _, rfl, hb, hc⟩⟩ := id O
  · have : l = [] := List.length_eq_zero_iff.1 h0
    subst this
    refine ⟨Int.le_refl _, ⟨Int.le_refl _, by decide⟩, ⟨fun _ => Int.le_refl _, fun hx => absurd hx (by decide)⟩, retL_same (by simp [unk]) (hK _ (.inl ⟨rfl, rfl⟩))⟩
  · refine ⟨by omega, ⟨Int.le_refl _, by omega⟩, ⟨fun hx => ?_, fun hx => ?_⟩, ?_⟩
    · rcases hc with ⟨rfl, _⟩ | rfl
      · exact absurd hx (by omega)
      · exact Int.le_refl _
    · rcases hc with ⟨rfl, rfl⟩ | rfl
      · show (match H[i]? with
          | some (.cells cs _ sz) => fz = fz ∧ sz ≠ 0 ∧ 0 = 0 ∧ ((l.length : Nat) : Int).toNat * sz ≤ cs.length
          | _ => False)
        rw [hb]
        exact ⟨rfl, by decide, rfl, by simp⟩
      · omega
    · refine retL_same (by simp [unk]) (hK _ (.inr ⟨i, sz, ?_, hb⟩))
      show Value.slice _ ((l.length : Nat) : Int).toNat ((l.length : Nat) : Int).toNat = _
      rw [Int.toNat_natCast]
theorem clip_app {v y : Value} {l : List Int} {x : Int} (a : ClipAt H v l) (hl : l.length ≤ 100) (hy : Sli H y 1 1 [vint x])
    (hK : ∀ v' H', SameX [] H H' → OwnX H' 1 ((l ++ [x]).map vint) (l ++ [x]).length v' (some H.length) → K v' H') : aApp 1 v y H K := by
  have hr : room = 1073741824 := rfl
  rcases a with ⟨rfl, rfl⟩ | ⟨i, sz, rfl, hb⟩
  · refine app_nil (by decide) hy (by omega) (fun e => absurd e (by decide)) fun _ => hK _ _ SameX.refl.app ?_
    exact ⟨rfl, rfl, .inr ⟨H.length, fz, 1, rfl, rfl, by simp, .inl ⟨rfl, rfl⟩⟩⟩
  · refine app_copy (cs := l.map vint) hb (by simp) (by rw [List.drop_zero, List.take_of_length_le (by simp)]; exact kn_vint l) (by omega) (by decide) hy (by omega) ?_
    refine hK _ _ SameX.refl.app ⟨by simp, kn_vint _, .inr ⟨H.length, fz, 1, rfl, by simp, ?_, .inl ⟨rfl, rfl⟩⟩⟩
    rw [List.getElem?_append_right (by omega)]
    simp
    exact List.take_of_length_le (by simp)
theorem callC {g : FuncId} {args cap : List Value} (hg : Nat.blt g prog.funcs.size = true) (hk : Good prog J g (args ++ cap) H K) : callV prog (Good prog J) (.func (.func g) ⟨[]⟩ ⟨cap⟩) args H K := by
  show (bif Nat.blt g prog.funcs.size then Good prog J g ([] ++ args ++ cap) H K else False)
  rw [hg, cond_true, List.nil_append]
  exact hk
theorem nu2 {a b : Value} (ha : a ≠ unk) (hb : b ≠ unk) : ∀ v ∈ [a, b], v ≠ unk := by
  intro v hv
  rcases List.mem_cons.1 hv with rfl | hv
  · exact ha
  · rw [List.mem_singleton.1 hv]
    exact hb
theorem good105 (hJ : Closed prog main J) {X : List Nat} {I : List AObj → Prop} {Pu : Int → Bool} {fv : Value} {n lo pp pn pg : Nat} (P : Pass J X I Pu fv) (hn : n ≤ 60) (hX : ∀ x ∈ X, x < lo) (hpp : lo ≤ pp) (hpn : lo ≤ pn) (hpg : lo ≤ pg) :
    ∀ (m : Nat) (l : List Int) (s : Int) {H : List AObj} {K : Value → List AObj → Prop} {lv : Value} {o : Option Nat}, H[pp]? = some (.cells [fv] true 0) → H[pn]? = some (.cells [vint (n : Nat)] true 0) → H[pg]? = some (.cells [growV pp pn pg] true 0) → I H →
      OwnX H 1 (l.map vint) l.length lv o → (∀ j, o = some j → lo ≤ j) → l.length + m ≤ 100 → (∀ x ∈ l, 0 ≤ x ∧ x < n) →
      (∀ H' v, SameX X H H' → I H' → v ≠ unk → (∀ r, growP Pu n m l s = some r → ∃ b, OwnX H' 1 (r.map vint) r.length v b ∧ ∀ j, b = some j → lo ≤ j) → K (.tuple ⟨[v, .bool (growP Pu n m l s).isSome]⟩) H') →
      Good prog J 105 [lv, .int .u64 s, vint (m : Nat), ptr pp 0, ptr pn 0, ptr pg 0] H K
  | 0, l, s, H, K, lv, o, cp, cn, cg, hI, O, ho, hlm, hlb, hK => by
    refine g105 hJ fun ok => ?_
    rw [e105]
    refine eqlI (cndI (fun _ => ldI (v := fv) cp rfl P.kn (P.call hI fun H' S I' => ?_)) fun hx => absurd rfl hx)
    have nu : lv ≠ unk := by
      have := (ownX_val O).2.2
      intro e
      rw [e] at this
      cases this
    have O' := ownX_keep O S (fun i hi hm => by have := ho i hi; have := hX i hm; omega)
    have fin := hK H' lv S I' nu fun r hr => ?_
    · refine retL_same (nu2 nu (by simp [unk])) ?_
      have e : (growP Pu n 0 l s).isSome = Pu s := by
        unfold growP
        cases Pu s <;> rfl
      rw [e] at fin
      exact fin
    · unfold growP at hr
      cases hp : Pu s with
      | false => rw [hp] at hr; cases hr
      | true =>
        rw [hp] at hr
        have hr : some l = some r := hr
        injection hr with hr
        subst hr
        exact ⟨o, O', ho⟩
  | m + 1, l, s, H, K, lv, o, cp, cn, cg, hI, O, ho, hlm, hlb, hK => by
    refine g105 hJ fun ok => ?_
    rw [e105]
    -- the loop
    have loop : ∀ {F : RG}, F.ds = [] → F.r 0 = lv → F.r 1 = .int .u64 s → F.r 2 = vint ((m + 1 : Nat) : Int) → F.r 3 = ptr pp 0 → F.r 4 = ptr pn 0 → F.r 5 = ptr pg 0 → F.r 11 = vint (fromL l : Nat) →
        W prog J 58 H.length 105 (subC [1, 1, 1, 1] (codeOf f105)) F H (contX pl105 prog J 58 H.length 105 ct105 [1, 1, 1, 1] (codeOf f105) [] (RetQ prog [.tmp 9, .tmp 10] H.length K)) := by
      intro F ds r0 r1 r2 r3 r4 r5 r11
      rw [s105_1, r11]
      refine l105_2 hJ (fun k : Nat => n - m - fromL l - k) (fun k F H' => SameX X H H' ∧ I H' ∧ k ≤ n - m - fromL l ∧ (∀ i, i < k → growP Pu n m (l ++ [((fromL l + i : Nat) : Int)]) (orU s (shU ((fromL l + i : Nat) : Int))) = none) ∧ F.ds = [] ∧ F.r 0 = lv ∧ F.r 1 = .int .u64 s ∧ F.r 2 = vint ((m + 1 : Nat) : Int) ∧ F.r 3 = ptr pp 0 ∧ F.r 4 = ptr pn 0 ∧ F.r 5 = ptr pg 0 ∧ F.r 12 = vint ((fromL l + k : Nat) : Int)) ?_ (s := 0)
        (.inl ⟨SameX.refl, hI, by omega, fun i hi => absurd hi (Nat.not_lt_zero _), ds, r0, r1, r2, r3, r4, r5, rfl⟩)
      rintro k F H' ⟨S, I', hk, hno, ds, r0, r1, r2, r3, r4, r5, r12⟩ okc hnc
      have hfl : fromL l ≤ n := by
        unfold fromL
        cases hl : l.getLast? with
        | none => exact Nat.zero_le _
        | some x =>
          have := hlb x (List.mem_of_getLast? hl)
          show x.toNat + 1 ≤ n
          omega
      have nX : ∀ {p}, lo ≤ p → p ∉ X := fun h hm => by have := hX _ hm; omega
      have cp' := S.get cp (nX hpp)
      have cn' := S.get cn (nX hpn)
      have cg' := S.get cg (nX hpg)
      have O' := ownX_keep O S (fun i hi => nX (ho i hi))
      have lg := lt_of_get cg'
      rw [s105_2, r0, r1, r2, r4, r5, r12, ds]
      refine ldI (v := vint (n : Nat)) cn' rfl rfl (subI (by omega) (leqI (cndI (fun hle => ?_) fun hgt => ?_)))
      rotate_left
      · have hke : k = n - m - fromL l := by omega
        refine retL_same (by simp [unk]) ?_
        have e : growP Pu n (m + 1) l s = none := by
          unfold growP
          exact firstN_none fun i hi => hno i (by omega)
        have := hK H' (.slice none 0 0) S I' (by simp [unk]) fun r hr => by rw [e] at hr; cases hr
        rw [e] at this
        exact this
      have hkl : k < n - m - fromL l := by omega
      have hsb : ∀ {H2}, SameX [] H' H2 → SameB (some [pg]) H' H2 := fun S2 x hx => S2.2 x (by simp at hx; omega) (by simp)
      have e8 : ((m + 1 : Nat) : Int) - 1 = (m : Nat) := by omega
      -- behind the call
      have post : ∀ {H2 : List AObj} {wv : Value} {q : Nat} {F2 : Value → Value → Value → RG}, SameX [] H' H2 → OwnX H2 1 ((l ++ [((fromL l + k : Nat) : Int)]).map vint) (l ++ [((fromL l + k : Nat) : Int)]).length wv (some q) → H'.length ≤ q →
          (∀ a b c, (F2 a b c).ds = [] ∧ (F2 a b c).r 0 = lv ∧ (F2 a b c).r 1 = .int .u64 s ∧ (F2 a b c).r 2 = vint ((m + 1 : Nat) : Int) ∧ (F2 a b c).r 3 = ptr pp 0 ∧ (F2 a b c).r 4 = ptr pn 0 ∧ (F2 a b c).r 5 = ptr pg 0 ∧ (F2 a b c).r 12 = vint ((fromL l + k : Nat) : Int) ∧ (F2 a b c).r 13 = b ∧ (F2 a b c).r 14 = c) →
          callV prog (Good prog J) (growV pp pn pg) [wv, .int .u64 (orU s (shU ((fromL l + k : Nat) : Int))), vint (m : Nat)] H2 fun v16 h17 => aExt v16 0 fun v18 => aExt v16 1 fun v19 => Hold (W prog J 58 H.length 105 (subC [1, 1, 1, 1, 0, 1, 0, 0, 1, 0, 0, 1] (codeOf f105)) (F2 v16 v18 v19) h17 (contX pl105 prog J 58 H.length 105 ct105 [1, 1, 1, 1, 0, 1, 0, 0, 1, 0, 0, 1] (codeOf f105) [Nx H.length (fun k : Nat => n - m - fromL l - k) (fun k F H' => SameX X H H' ∧ I H' ∧ k ≤ n - m - fromL l ∧ (∀ i, i < k → growP Pu n m (l ++ [((fromL l + i : Nat) : Int)]) (orU s (shU ((fromL l + i : Nat) : Int))) = none) ∧ F.ds = [] ∧ F.r 0 = lv ∧ F.r 1 = .int .u64 s ∧ F.r 2 = vint ((m + 1 : Nat) : Int) ∧ F.r 3 = ptr pp 0 ∧ F.r 4 = ptr pn 0 ∧ F.r 5 = ptr pg 0 ∧ F.r 12 = vint ((fromL l + k : Nat) : Int)) k] (RetQ prog [.tmp 9, .tmp 10] H.length K))) := by
        intro H2 wv q F2 S2 O2 hlt hF
        refine callC (by kernel_rfl) ?_
        have hSl := S.1
        have hpgl := lt_of_get cg
        refine good105 hJ P hn hX hpp hpn hpg m (l ++ [((fromL l + k : Nat) : Int)]) (orU s (shU ((fromL l + k : Nat) : Int))) (S2.get cp' (by simp)) (S2.get cn' (by simp)) (S2.get cg' (by simp)) (P.keep I' S2) O2 (fun j hj => by cases hj; omega) (by simp; omega) (fun x hx => ?_) fun H3 v S3 I3 nu hr => ext0 (ext1 (hold.2 ?_))
        · rcases List.mem_append.1 hx with hx | hx
          · exact hlb x hx
          · have hx : x = ((fromL l + k : Nat) : Int) := by simpa using hx
            omega
        generalize hB : (growP Pu n m (l ++ [((fromL l + k : Nat) : Int)]) (orU s (shU ((fromL l + k : Nat) : Int)))).isSome = bb
        obtain ⟨f0, f1, f2, f3, f4, f5, f6, f7, f8, f9⟩ := hF (.tuple ⟨[v, .bool bb]⟩) v (.bool bb)
        have S13 : SameX X H H3 := (S.trans S2.weak0).trans S3
        rw [s105_3, f7, f8, f9, f0]
        cases bb with
        | true =>
          obtain ⟨r, hg⟩ := Option.isSome_iff_exists.1 hB
          have e : growP Pu n (m + 1) l s = some r := by
            unfold growP
            exact firstN_some hkl hno hg
          refine cnd_true.2 (retL_same (nu2 nu (by simp [unk])) ?_)
          have := hK H3 v S13 I3 nu fun r' hr' => by
            rw [e] at hr'
            injection hr' with hr'
            subst hr'
            exact hr _ hg
          rw [e] at this
          exact this
        | false =>
          have hg : growP Pu n m (l ++ [((fromL l + k : Nat) : Int)]) (orU s (shU ((fromL l + k : Nat) : Int))) = none := Option.isSome_eq_false_iff.1 hB |> Option.isNone_iff_eq_none.1
          refine cnd_false.2 (addI (by omega) ⟨k + 1, by dsimp only; omega, .inl ⟨S13, I3, by omega, fun i hi => ?_, f0, f1, f2, f3, f4, f5, f6, by show vint _ = vint _; congr 1⟩⟩)
          by_cases e : i = k
          · rw [e]
            exact hg
          · exact hno i (by omega)
      refine ⟨[pg], ldI (v := growV pp pn pg) cg' rfl rfl ⟨by simp [RdOk, ptr, ptrBlk], convI (by omega) (by omega) (u_shlI (by omega) (u_orI (subI (by omega) ?_)))⟩⟩
      rw [e8]
      refine ⟨?_, ?_⟩
      · refine good106 hJ O' (by omega) fun v' C => ⟨fun _ _ => rfl, by decide, fill_one (l := [vint ((fromL l + k : Nat) : Int)]) rfl rfl rfl (by decide) (fillI (qNew fun H1 p1 e1 S1 c1 l1 => ⟨hsb S1, by decide, ?_⟩))⟩
        have c1 : H1[p1]? = some (.cells [vint ((fromL l + k : Nat) : Int)] true 0) := c1
        refine clip_app (C.keep S1) (by omega) (ownX_sli (ownX_new (s := 1) (n := 1) (l := [vint ((fromL l + k : Nat) : Int)]) c1 rfl rfl)) fun w H2 S2 O2 => ⟨hsb (S1.trans S2), ?_⟩
        have hS1 := S1.1
        exact post (S1.trans S2) O2 hS1 fun a b c => ⟨ds, r0, r1, r2, r3, r4, r5, r12, rfl, rfl⟩
      · refine ⟨by decide, fill_one (l := [vint ((fromL l + k : Nat) : Int)]) rfl rfl rfl (by decide) (fillI (qNew fun H1 p1 e1 S1 c1 l1 => ⟨hsb S1, ?_⟩))⟩
        have c1 : H1[p1]? = some (.cells [vint ((fromL l + k : Nat) : Int)] true 0) := c1
        refine good106 hJ (ownX_keep O' S1 (by simp)) (by omega) fun v' C => ⟨hsb S1, by decide, ?_⟩
        refine clip_app C (by omega) (ownX_sli (ownX_new (s := 1) (n := 1) (l := [vint ((fromL l + k : Nat) : Int)]) c1 rfl rfl)) fun w H2 S2 O2 => ⟨hsb (S1.trans S2), ?_⟩
        have hS1 := S1.1
        exact post (S1.trans S2) O2 hS1 fun a b c => ⟨ds, r0, r1, r2, r3, r4, r5, r12, rfl, rfl⟩
    refine eqlI (cndI (fun hx => absurd hx (by omega)) fun _ => lenI (ownX_sli O) (gtrI (cndI (fun hpos => lenI (ownX_sli O) (subI (by omega) ?_)) fun h0 => hold.2 ?_)))
    · have hll : l.length - 1 < l.length := by omega
      have ei : ((l.length : Nat) : Int) - 1 = ((l.length - 1 : Nat) : Int) := by omega
      have hx := List.getElem?_eq_getElem hll
      have hb := hlb _ (List.getElem_mem hll)
      rw [ei]
      refine idx_load (ownX_sli O) ⟨by omega, by omega⟩ (x := vint l[l.length - 1]) (by rw [Int.toNat_natCast, List.getElem?_map, hx]; rfl) fun p => addI (by omega) (hold.2 (loop rfl rfl rfl rfl rfl rfl rfl ?_))
      show vint _ = vint _
      congr 1
      unfold fromL
      rw [List.getLast?_eq_getElem?, hx]
      show l[l.length - 1] + 1 = ((l[l.length - 1].toNat + 1 : Nat) : Int)
      omega
    · have : l = [] := List.length_eq_zero_iff.1 (by omega)
      refine loop rfl rfl rfl rfl rfl rfl rfl ?_
      rw [this]
      rfl
theorem good75 (hJ : Closed prog main J) {X : List Nat} {I : List AObj → Prop} {Pu : Int → Bool} {fv : Value} {n : Nat} (P : Pass J X I Pu fv) (hn : n ≤ 60) (hX : ∀ x ∈ X, x < H.length) (hI : I H)
    (hK : ∀ H' v, SameX X H H' → I H' → (∃ b, OwnX H' 1 (((pickP Pu n).getD []).map vint) ((pickP Pu n).getD []).length v b) → K (.tuple ⟨[v, .bool (pickP Pu n).isSome]⟩) H') : Good prog J 75 [vint (n : Nat), fv] H K := by
  refine g75 hJ fun ok => ?_
  rw [e75]
  refine qBox1 rfl rfl fun H1 pn e1 S1 c1 l1 => qBox1 P.val.1 P.val.2 fun H2 pp e2 S2 c2 l2 => qAl fun H3 pg e3 S3 c3 l3 => ⟨rfl, qSt c3 (by simp) rfl rfl fun H4 S4 c4 l4 => ?_⟩
  have c4 : H4[pg]? = some (.cells [growV pp pn pg] true 0) := c4
  have T24 : SameX [] H2 H4 := S3.thru S4 (by simp; omega)
  have T14 : SameX [] H1 H4 := S2.trans T24
  have T4 : SameX [] H H4 := S1.trans T14
  have n4 := T14.get c1 (by simp)
  have p4 := T24.get c2 (by simp)
  have hS1 := S1.1
  have hS2 := S2.1
  have hS3 := S3.1
  have nX : ∀ {p}, H.length ≤ p → p ∉ X := fun h hm => by have := hX _ hm; omega
  refine ldI (v := vint (n : Nat)) n4 rfl rfl (addI (by omega) ?_)
  refine l75_1 hJ (fun m : Nat => n + 1 - m) (fun m F H' => SameX X H4 H' ∧ I H' ∧ m ≤ n + 1 ∧ (∀ i, i < m → growP Pu n i [] 0 = none) ∧ F.ds = [] ∧ F.r 6 = ptr pg 0 ∧ F.r 12 = vint ((n : Int) + 1) ∧ F.r 13 = vint (m : Nat)) ?_ (s := 0)
    (.inl ⟨SameX.refl, P.keep hI T4, by omega, fun i hi => absurd hi (Nat.not_lt_zero _), rfl, rfl, rfl, rfl⟩)
  rintro m F H' ⟨S, I', hm, hno, ds, r6, r12, r13⟩ okc hnc
  have T' : SameX X H H' := T4.weak0.trans S
  rw [s75_1, r6, r12, r13, ds]
  refine lssI (cndI (fun hlt => ?_) fun hge => ?_)
  · refine ldI (v := growV pp pn pg) (S.get c4 (nX (by omega))) rfl rfl (callC (by kernel_rfl) ?_)
    refine good105 (lo := H.length) hJ P hn hX (by omega) (by omega) (by omega) m [] 0 (S.get p4 (nX (by omega))) (S.get n4 (nX (by omega))) (S.get c4 (nX (by omega))) I' ⟨rfl, rfl, .inl ⟨rfl, rfl, rfl⟩⟩ (by simp) (by simp; omega) (by simp) fun H5 v S5 I5 nu hr => ext0 (ext1 ?_)
    generalize hB : (growP Pu n m [] 0).isSome = bb
    cases bb with
    | true =>
      obtain ⟨r, hg⟩ := Option.isSome_iff_exists.1 hB
      have e : pickP Pu n = some r := firstN_some (k := m) (by omega) hno hg
      refine cnd_true.2 (retL_same (nu2 nu (by simp [unk])) ?_)
      obtain ⟨b, Ob, _⟩ := hr r hg
      have := hK H5 v (T'.trans S5) I5 (by rw [e]; exact ⟨b, Ob⟩)
      rw [e] at this
      exact this
    | false =>
      have hg : growP Pu n m [] 0 = none := Option.isNone_iff_eq_none.1 (Option.isSome_eq_false_iff.1 hB)
      refine cnd_false.2 (addI (by omega) ⟨m + 1, by dsimp only; omega, .inl ⟨S.trans S5, I5, by omega, fun i hi => ?_, ds, r6, r12, by show vint _ = vint _; congr 1⟩⟩)
      by_cases e : i = m
      · rw [e]
        exact hg
      · exact hno i (by omega)
  · have e : pickP Pu n = none := firstN_none fun i hi => hno i (by omega)
    have := hK H' (.slice none 0 0) T' I' (by rw [e]; exact ⟨none, rfl, rfl, .inl ⟨rfl, rfl, rfl⟩⟩)
    rw [e] at this
    exact retL_same (by simp [unk]) this
theorem callB {g : FuncId} {first args : List Value} (hg : Nat.blt g prog.funcs.size = true) (hk : Good prog J g (first ++ args) H K) : callV prog (Good prog J) (.func (.func g) ⟨first⟩ ⟨[]⟩) args H K := by
  show (bif Nat.blt g prog.funcs.size then Good prog J g (first ++ args ++ []) H K else False)
  rw [hg, cond_true, List.append_nil]
  exact hk
def Wk (h0 : List AObj) (bw bm : Nat) (t : Tal) (cv nv : Value) (H : List AObj) : Prop := ∃ u es, WorkIn h0 H bw t cv nv u (.map (some bm)) ∧ H[bm]? = some (.map es true) ∧ MetOk t es
theorem Wk.keep {h0 H' : List AObj} {bw bm : Nat} {t : Tal} {cv nv : Value} (a : Wk h0 bw bm t cv nv H) (S : SameX [] H H') : Wk h0 bw bm t cv nv H' := by
  obtain ⟨u, es, w, hm, met⟩ := a
  exact ⟨u, es, w.same S (by simp) (by simp), S.get hm (by simp), met⟩
theorem truthX (hJ : Closed prog main J) {h0 : List AObj} {bw bm : Nat} {t : Tal} {cv nv : Value} {u' : Int} (fine : TalFine t) (hbw : h0.length ≤ bw) (hbm : h0.length ≤ bm) (hne : bw ≠ bm) (a : Wk h0 bw bm t cv nv H)
    (hK : ∀ H', SameX [bw, bm] H H' → Wk h0 bw bm t cv nv H' → K (.bool (truthS t u')) H') : Good prog J 74 [ptr bw 0, .int .u64 u'] H K := by
  obtain ⟨u, es, w, hm, met⟩ := a
  exact good74 hJ w hbw hbm hne fine hm met fun H' es' S w' hm' met' => hK H' S ⟨u', es', w', hm', met'⟩
theorem passC (hJ : Closed prog main J) {h0 : List AObj} {bw bm pw : Nat} {t : Tal} {cv nv : Value} (fine : TalFine t) (hbw : h0.length ≤ bw) (hbm : h0.length ≤ bm) (hne : bw ≠ bm) (hp1 : pw ≠ bw) (hp2 : pw ≠ bm) :
    Pass J [bw, bm] (fun H => Wk h0 bw bm t cv nv H ∧ H[pw]? = some (.cells [ptr bw 0] true 0)) (fun s => !truthS t (andU 127 s)) (.func (.func 76) ⟨[]⟩ ⟨[ptr pw 0]⟩) where
  call := fun {H s Kf} hI hk => by
    refine callC (by kernel_rfl) (g76 hJ fun ok => ?_)
    rw [e76]
    refine ldI (v := ptr bw 0) hI.2 rfl rfl (u_andNotI (truthX hJ fine hbw hbm hne hI.1 fun H' S w' => notI (retL_same (by simp [unk]) ?_)))
    exact hk H' S ⟨w', S.get hI.2 (by simp; exact ⟨hp1, hp2⟩)⟩
  keep := fun hI S => ⟨hI.1.keep S, S.get hI.2 (by simp)⟩
  kn := rfl
  val := ⟨rfl, rfl⟩
theorem passW (hJ : Closed prog main J) {h0 : List AObj} {bw bm : Nat} {t : Tal} {cv nv : Value} (fine : TalFine t) (hbw : h0.length ≤ bw) (hbm : h0.length ≤ bm) (hne : bw ≠ bm) :
    Pass J [bw, bm] (Wk h0 bw bm t cv nv) (truthS t) (.func (.func 74) ⟨[ptr bw 0]⟩ ⟨[]⟩) where
  call := fun {H s Kf} hI hk => callB (by kernel_rfl) (truthX hJ fine hbw hbm hne hI hk)
  keep := fun hI S => hI.keep S
  kn := rfl
  val := ⟨rfl, rfl⟩
noncomputable def clashE (t : Tal) : Int := if talErr t ≠ 0 then talErr t else bif truthS t 0 then 11 else 0
noncomputable def clashL (t : Tal) : List Int := if clashE t = 0 then (clashO t).getD [] else []
noncomputable def wrongE (t : Tal) : Int := if talErr t ≠ 0 then talErr t else bif truthS t 127 then 0 else 11
noncomputable def wrongL (t : Tal) : List Int := if wrongE t = 0 then (wrongO t).getD [] else []
theorem good32 (hJ : Closed prog main J) {v cv nv : Value} {t : Tal} (ht : TalAt H v t cv nv) (hK : ∀ H' w, SameX [] H H' → Sli H' w 1 (clashL t).length ((clashL t).map vint) → K (.tuple ⟨[w, vint (clashE t)]⟩) H') : Good prog J 32 [v] H K := by
  refine g32 hJ fun ok => ?_
  rw [e32, ht.val]
  have kn : kn1 nv = true := (sli_one ht.co).2.2
  refine qBox (tal_one ht) fun H1 p1 e1 S1 c1 l1 => ?_
  have t1 : TalAt H1 (.agg ⟨talCells t cv nv⟩) t cv nv := ⟨rfl, S1.sli ht.ch (by simp), S1.sli ht.co (by simp)⟩
  refine load_part (c := talCells t cv nv) c1 (by rw [cs_val]; omega) rfl (talAt_kc t1) ?_
  refine good71 hJ t1 fun H2 bw bm S2 hbw hbm hne w hm => ext0 (ext1 ?_)
  refine qAl fun H3 p3 e3 S3 c3 l3 => qSt c3 (by simp) rfl rfl fun H4 S4 c4 l4 => ?_
  have c4 : H4[p3]? = some (.cells [ptr bw 0] true 0) := c4
  have S24 : SameX [] H2 H4 := S3.thru S4 (by simp; omega)
  have T4 : SameX [] H H4 := (S1.trans S2).trans S24
  have nil : ∀ {H' : List AObj} {e : Int}, SameX [] H H' → clashE t = e → e ≠ 0 → retL H.length K [] [.slice none 0 0, vint e] H' := fun {H' e} S he h0 => by
    subst he
    refine retL_same (by simp [unk]) (hK H' _ S ?_)
    unfold clashL
    rw [if_neg h0]
    exact ownX_sli (o := none) ⟨rfl, rfl, .inl ⟨rfl, rfl, rfl⟩⟩
  refine neqI (cndI (fun h1 => nil T4 (by unfold clashE; rw [if_pos h1]) h1) fun h1 => ?_)
  have he0 : talErr t = 0 := Decidable.not_not.1 h1
  have fine := talErr_fine he0
  have wbl := lt_of_get w.at_
  have wml := lt_of_get hm
  have hS1 := S1.1
  have hS2 := S2.1
  have W4 : Wk H1 bw bm t cv nv H4 := ⟨0, [], w.same S24 (by simp) (by simp), S24.get hm (by simp), metOk_nil⟩
  refine ldI (v := ptr bw 0) c4 rfl rfl (truthX hJ fine hbw hbm hne W4 fun H5 S5 W5 => ?_)
  have T5 : SameX [] H H5 := T4.thru S5 (by simp; omega)
  have c15 := S5.get (S24.get (S2.get c1 (by simp)) (by simp)) (by simp; omega)
  have c45 := S5.get c4 (by simp; omega)
  have hS5 := S5.1
  have hS24 := S24.1
  cases h2 : truthS t 0 with
  | true =>
    exact cnd_true.2 (nil T5 (by unfold clashE; rw [if_neg h1, h2]; rfl) (by decide))
  | false =>
    have eE : clashE t = 0 := by unfold clashE; rw [if_neg h1, h2]; rfl
    refine cnd_false.2 (offI (ldI (v := nv) c15 rfl kn (lenI (T5.sli ht.co (by simp)) ⟨rfl, ?_⟩)))
    have few := fine.few
    refine good75 hJ (passC hJ fine hbw hbm hne (pw := p3) (by omega) (by omega)) (by omega) (by simp; omega) ⟨W5, c45⟩ fun H6 v6 S6 _ hO => ext0 (ext1 ?_)
    obtain ⟨b, O⟩ := hO
    have nu : v6 ≠ unk := by
      have := (ownX_val O).2.2
      intro e
      rw [e] at this
      cases this
    refine retL_same (nu2 nu (by simp [unk])) ?_
    have := hK H6 v6 (T5.thru S6 (by simp; omega)) (by
      unfold clashL
      rw [if_pos eE]
      exact ownX_sli O)
    rw [eE] at this
    exact this
theorem good33 (hJ : Closed prog main J) {v cv nv : Value} {t : Tal} (ht : TalAt H v t cv nv) (hK : ∀ H' w, SameX [] H H' → Sli H' w 1 (wrongL t).length ((wrongL t).map vint) → K (.tuple ⟨[w, vint (wrongE t)]⟩) H') : Good prog J 33 [v] H K := by
  refine g33 hJ fun ok => ?_
  rw [e33, ht.val]
  have kn : kn1 nv = true := (sli_one ht.co).2.2
  refine qBox (tal_one ht) fun H1 p1 e1 S1 c1 l1 => ?_
  have t1 : TalAt H1 (.agg ⟨talCells t cv nv⟩) t cv nv := ⟨rfl, S1.sli ht.ch (by simp), S1.sli ht.co (by simp)⟩
  refine load_part (c := talCells t cv nv) c1 (by rw [cs_val]; omega) rfl (talAt_kc t1) ?_
  refine good71 hJ t1 fun H2 bw bm S2 hbw hbm hne w hm => ext0 (ext1 ?_)
  have T2 : SameX [] H H2 := S1.trans S2
  have nil : ∀ {H' : List AObj} {e : Int}, SameX [] H H' → wrongE t = e → e ≠ 0 → retL H.length K [] [.slice none 0 0, vint e] H' := fun {H' e} S he h0 => by
    subst he
    refine retL_same (by simp [unk]) (hK H' _ S ?_)
    unfold wrongL
    rw [if_neg h0]
    exact ownX_sli (o := none) ⟨rfl, rfl, .inl ⟨rfl, rfl, rfl⟩⟩
  refine neqI (cndI (fun h1 => nil T2 (by unfold wrongE; rw [if_pos h1]) h1) fun h1 => ?_)
  have he0 : talErr t = 0 := Decidable.not_not.1 h1
  have fine := talErr_fine he0
  have wbl := lt_of_get w.at_
  have wml := lt_of_get hm
  have hS1 := S1.1
  have W2 : Wk H1 bw bm t cv nv H2 := ⟨0, [], w, hm, metOk_nil⟩
  refine truthX hJ fine hbw hbm hne W2 fun H5 S5 W5 => notI ?_
  have T5 : SameX [] H H5 := T2.thru S5 (by simp; omega)
  have c15 := S5.get (S2.get c1 (by simp)) (by simp; omega)
  have hS5 := S5.1
  cases h2 : truthS t 127 with
  | false =>
    exact cnd_true.2 (nil T5 (by unfold wrongE; rw [if_neg h1, h2]; rfl) (by decide))
  | true =>
    have eE : wrongE t = 0 := by unfold wrongE; rw [if_neg h1, h2]; rfl
    refine cnd_false.2 (offI (ldI (v := nv) c15 rfl kn (lenI (T5.sli ht.co (by simp)) ⟨rfl, ?_⟩)))
    have few := fine.few
    refine good75 hJ (passW hJ fine hbw hbm hne) (by omega) (by simp; omega) W5 fun H6 v6 S6 _ hO => ext0 (ext1 ?_)
    obtain ⟨b, O⟩ := hO
    have nu : v6 ≠ unk := by
      have := (ownX_val O).2.2
      intro e
      rw [e] at this
      cases this
    refine retL_same (nu2 nu (by simp [unk])) ?_
    have := hK H6 v6 (T5.thru S6 (by simp; omega)) (by
      unfold wrongL
      rw [if_pos eE]
      exact ownX_sli O)
    rw [eE] at this
    exact this
end
section
variable {σ : Type}
def runTo (f : Nat → σ → σ × Bool) : Nat → σ → σ × Bool
  | 0, a => (a, false)
  | i + 1, a => bif (runTo f i a).2 then runTo f i a else f i (runTo f i a).1
def okTo (f : Nat → σ → σ × Bool) (g : Nat → σ → Bool) : Nat → σ → Bool
  | 0, _ => true
  | i + 1, a => okTo f g i a && ((runTo f i a).2 || g i (runTo f i a).1)
theorem runTo_stay {f : Nat → σ → σ × Bool} {a : σ} {k : Nat} (h : (runTo f k a).2 = true) : ∀ d, runTo f (k + d) a = runTo f k a
  | 0 => rfl
  | d + 1 => by
    have ih := runTo_stay h d
    show (bif (runTo f (k + d) a).2 then runTo f (k + d) a else f (k + d) (runTo f (k + d) a).1) = _
    rw [ih, h]
    rfl
theorem runTo_end {f : Nat → σ → σ × Bool} {a : σ} {k n : Nat} (hk : k ≤ n) (h : (runTo f k a).2 = true) : runTo f n a = runTo f k a := by
  have := runTo_stay h (n - k)
  rwa [show k + (n - k) = n from by omega] at this
theorem runTo_next {f : Nat → σ → σ × Bool} {a : σ} {k : Nat} (h : (runTo f k a).2 = false) : runTo f (k + 1) a = f k (runTo f k a).1 := by
  show (bif (runTo f k a).2 then runTo f k a else f k (runTo f k a).1) = _
  rw [h]
  rfl
theorem okTo_at {f : Nat → σ → σ × Bool} {g : Nat → σ → Bool} {a : σ} {k : Nat} : ∀ {n : Nat}, okTo f g n a = true → k < n → (runTo f k a).2 = false → g k (runTo f k a).1 = true
  | 0, _, hk, _ => by omega
  | n + 1, h, hk, hf => by
    have h : (okTo f g n a && ((runTo f n a).2 || g n (runTo f n a).1)) = true := h
    rw [Bool.and_eq_true, Bool.or_eq_true] at h
    by_cases e : k = n
    · subst e
      rcases h.2 with h2 | h2
      · rw [hf] at h2; cases h2
      · exact h2
    · exact okTo_at h.1 (by omega) hf
def runS (st : σ → Int → σ) (Pu : Int → Bool) (n : Nat) : Nat → List Int → Int → σ → σ × Bool
  | 0, _, s, a => (st a s, Pu s)
  | m + 1, l, s, a => runTo (fun k a => runS st Pu n m (l ++ [((fromL l + k : Nat) : Int)]) (orU s (shU ((fromL l + k : Nat) : Int))) a) (n - m - fromL l) a
def allS (Bd : σ → Bool) (st : σ → Int → σ) (Pu : Int → Bool) (n : Nat) : Nat → List Int → Int → σ → Bool
  | 0, _, _, a => Bd a
  | m + 1, l, s, a => okTo (fun k a => runS st Pu n m (l ++ [((fromL l + k : Nat) : Int)]) (orU s (shU ((fromL l + k : Nat) : Int))) a) (fun k a => allS Bd st Pu n m (l ++ [((fromL l + k : Nat) : Int)]) (orU s (shU ((fromL l + k : Nat) : Int))) a) (n - m - fromL l) a
def pickS (st : σ → Int → σ) (Pu : Int → Bool) (n : Nat) (a : σ) : σ × Bool := runTo (fun m a => runS st Pu n m [] 0 a) (n + 1) a
def pickOk (Bd : σ → Bool) (st : σ → Int → σ) (Pu : Int → Bool) (n : Nat) (a : σ) : Bool := okTo (fun m a => runS st Pu n m [] 0 a) (fun m a => allS Bd st Pu n m [] 0 a) (n + 1) a
end
def Mv (X : List Nat) (o : Option Nat) (H H' : List AObj) (o' : Option Nat) : Prop := SameX (X ++ o.toList) H H' ∧ (o' = o ∨ ∃ j, o' = some j ∧ H.length ≤ j)
section
variable {X : List Nat} {o o1 o2 : Option Nat} {H H1 H2 : List AObj} {p : Nat}
theorem Mv.refl : Mv X o H H o := ⟨SameX.refl, .inl rfl⟩
theorem Mv.more (S : SameX [] H H1) : Mv X o H H1 o := ⟨S.weak0, .inl rfl⟩
theorem Mv.same (a : Mv X o H H1 o1) (hp : p < H.length) (h1 : p ∉ X) (h2 : o ≠ some p) : H1[p]? = H[p]? := a.1.2 p hp (by
  simp only [List.mem_append, Option.mem_toList, not_or]
  exact ⟨h1, fun e => h2 e⟩)
theorem Mv.get {x : AObj} (a : Mv X o H H1 o1) (hx : H[p]? = some x) (h1 : p ∉ X) (h2 : o ≠ some p) : H1[p]? = some x := by
  rw [a.same (lt_of_get hx) h1 h2]
  exact hx
theorem Mv.free (a : Mv X o H H1 o1) (hp : p < H.length) (h2 : o ≠ some p) : o1 ≠ some p := by
  rcases a.2 with e | ⟨j, e, hj⟩
  · rw [e]
    exact h2
  · rw [e]
    intro h
    cases h
    omega
theorem Mv.trans (a : Mv X o H H1 o1) (b : Mv X o1 H1 H2 o2) : Mv X o H H2 o2 := by
  have h1 := a.1.1
  refine ⟨⟨Nat.le_trans h1 b.1.1, fun p hp hx => ?_⟩, ?_⟩
  · simp only [List.mem_append, Option.mem_toList, not_or] at hx
    have hn : o ≠ some p := fun e => hx.2 e
    rw [b.same (by omega) hx.1 (a.free hp hn), a.same hp hx.1 hn]
  · rcases b.2 with e | ⟨j, e, hj⟩
    · rw [e]
      exact a.2
    · exact .inr ⟨j, e, by omega⟩
theorem Mv.own {s len : Nat} {cs : List Value} {v : Value} {q : Option Nat} (a : Mv X o H H1 o1) (O : OwnX H s cs len v q) (h : ∀ j, q = some j → j ∉ X ∧ o ≠ some j) : OwnX H1 s cs len v q := ownX_keep O a.1 fun i hi => by
  simp only [List.mem_append, Option.mem_toList, not_or]
  exact ⟨(h i hi).1, fun e => (h i hi).2 e⟩
end
structure PassS {σ : Type} (J : JT) (X : List Nat) (I : σ → Option Nat → List AObj → Prop) (st : σ → Int → σ) (Pu : Int → Bool) (Bd : σ → Bool) (fv : Value) : Prop where
  call : ∀ {H : List AObj} {s : Int} {a : σ} {o : Option Nat} {Kf : Value → List AObj → Prop}, Bd a = true → I a o H → (∀ H' o', Mv X o H H' o' → I (st a s) o' H' → Kf (.bool (Pu s)) H') → callV prog (Good prog J) fv [.int .u64 s] H Kf
  keep : ∀ {H H' : List AObj} {a : σ} {o : Option Nat}, I a o H → SameX [] H H' → I a o H'
  lt : ∀ {H : List AObj} {a : σ} {o : Option Nat}, I a o H → ∀ j, o = some j → j < H.length
  kn : kn1 fv = true
  val : fv.cells = #[fv] ∧ one fv = true
section
variable {main : Bool} {J : JT} {h H : List AObj} {K : Value → List AObj → Prop} {KV : Value → Prop} {HL : List AObj → Prop} {n0 : Nat} {σ : Type} {st : σ → Int → σ} {Pu : Int → Bool} {Bd : σ → Bool}
theorem good105S (hJ : Closed prog main J) {X : List Nat} {I : σ → Option Nat → List AObj → Prop} {fv : Value} {n pp pn pg : Nat} (P : PassS J X I st Pu Bd fv) (hn : n ≤ 60) :
    ∀ (m : Nat) (l : List Int) (s : Int) {a : σ} {oo : Option Nat} {H : List AObj} {K : Value → List AObj → Prop} {lv : Value} {o : Option Nat}, H[pp]? = some (.cells [fv] true 0) → H[pn]? = some (.cells [vint (n : Nat)] true 0) → H[pg]? = some (.cells [growV pp pn pg] true 0) → I a oo H → (∀ x ∈ X, x < H.length) →
      OwnX H 1 (l.map vint) l.length lv o → (∀ j, o = some j → j ∉ X ∧ oo ≠ some j) → (∀ p ∈ [pp, pn, pg], p ∉ X ∧ oo ≠ some p) → l.length + m ≤ 100 → (∀ x ∈ l, 0 ≤ x ∧ x < n) → allS Bd st Pu n m l s a = true →
      (∀ H' v o', Mv X oo H H' o' → I (runS st Pu n m l s a).1 o' H' → v ≠ unk → K (.tuple ⟨[v, .bool (runS st Pu n m l s a).2]⟩) H') →
      Good prog J 105 [lv, .int .u64 s, vint (m : Nat), ptr pp 0, ptr pn 0, ptr pg 0] H K
  | 0, l, s, a, oo, H, K, lv, o, cp, cn, cg, hI, hX, O, ho, hM, hlm, hlb, hB, hK => by
    refine g105 hJ fun ok => ?_
    rw [e105]
    refine eqlI (cndI (fun _ => ldI (v := fv) cp rfl P.kn (P.call hB hI fun H' o' M I' => ?_)) fun hx => absurd rfl hx)
    have nu : lv ≠ unk := by
      have := (ownX_val O).2.2
      intro e
      rw [e] at this
      cases this
    exact retL_same (nu2 nu (by simp [unk])) (hK H' lv o' M I' nu)
  | m + 1, l, s, a, oo, H, K, lv, o, cp, cn, cg, hI, hX, O, ho, hM, hlm, hlb, hB, hK => by
    refine g105 hJ fun ok => ?_
    rw [e105]
    generalize hf : (fun k a => runS st Pu n m (l ++ [((fromL l + k : Nat) : Int)]) (orU s (shU ((fromL l + k : Nat) : Int))) a) = f
    have hR : runS st Pu n (m + 1) l s a = runTo f (n - m - fromL l) a := by rw [← hf]; rfl
    have hf' : ∀ k a, runS st Pu n m (l ++ [((fromL l + k : Nat) : Int)]) (orU s (shU ((fromL l + k : Nat) : Int))) a = f k a := fun k a => by rw [← hf]
    have hB' : okTo f (fun k a => allS Bd st Pu n m (l ++ [((fromL l + k : Nat) : Int)]) (orU s (shU ((fromL l + k : Nat) : Int))) a) (n - m - fromL l) a = true := by rw [← hf]; exact hB
    have lpp := lt_of_get cp
    have lpn := lt_of_get cn
    have lpg := lt_of_get cg
    have lo := ownX_lt O
    have mp := hM pp (by simp)
    have mn := hM pn (by simp)
    have mg := hM pg (by simp)
    -- the loop
    have loop : ∀ {F : RG}, F.ds = [] → F.r 0 = lv → F.r 1 = .int .u64 s → F.r 2 = vint ((m + 1 : Nat) : Int) → F.r 3 = ptr pp 0 → F.r 4 = ptr pn 0 → F.r 5 = ptr pg 0 → F.r 11 = vint (fromL l : Nat) →
        W prog J 58 H.length 105 (subC [1, 1, 1, 1] (codeOf f105)) F H (contX pl105 prog J 58 H.length 105 ct105 [1, 1, 1, 1] (codeOf f105) [] (RetQ prog [.tmp 9, .tmp 10] H.length K)) := by
      intro F ds r0 r1 r2 r3 r4 r5 r11
      rw [s105_1, r11]
      refine l105_2 hJ (fun k : Nat => n - m - fromL l - k) (fun k F H' => (∃ o', Mv X oo H H' o' ∧ I (runTo f k a).1 o' H') ∧ k ≤ n - m - fromL l ∧ (runTo f k a).2 = false ∧ F.ds = [] ∧ F.r 0 = lv ∧ F.r 1 = .int .u64 s ∧ F.r 2 = vint ((m + 1 : Nat) : Int) ∧ F.r 3 = ptr pp 0 ∧ F.r 4 = ptr pn 0 ∧ F.r 5 = ptr pg 0 ∧ F.r 12 = vint ((fromL l + k : Nat) : Int)) ?_ (s := 0)
        (.inl ⟨⟨oo, Mv.refl, hI⟩, by omega, rfl, ds, r0, r1, r2, r3, r4, r5, rfl⟩)
      rintro k F H' ⟨⟨o', M, I'⟩, hk, hno, ds, r0, r1, r2, r3, r4, r5, r12⟩ okc hnc
      have hfl : fromL l ≤ n := by
        unfold fromL
        cases hl : l.getLast? with
        | none => exact Nat.zero_le _
        | some x =>
          have := hlb x (List.mem_of_getLast? hl)
          show x.toNat + 1 ≤ n
          omega
      have cp' := M.get cp mp.1 mp.2
      have cn' := M.get cn mn.1 mn.2
      have cg' := M.get cg mg.1 mg.2
      have O' := M.own O ho
      have lg := lt_of_get cg'
      have hM' : ∀ p ∈ [pp, pn, pg], p ∉ X ∧ o' ≠ some p := fun p hp => ⟨(hM p hp).1, M.free (by simp at hp; omega) (hM p hp).2⟩
      rw [s105_2, r0, r1, r2, r4, r5, r12, ds]
      refine ldI (v := vint (n : Nat)) cn' rfl rfl (subI (by omega) (leqI (cndI (fun hle => ?_) fun hgt => ?_)))
      rotate_left
      · have hke : k = n - m - fromL l := by omega
        refine retL_same (by simp [unk]) ?_
        have e : runS st Pu n (m + 1) l s a = runTo f k a := by rw [hR, hke]
        have := hK H' (.slice none 0 0) o' M (by rw [e]; exact I') (by simp [unk])
        rw [e, hno] at this
        exact this
      have hkl : k < n - m - fromL l := by omega
      have hBk := okTo_at hB' hkl hno
      have hsb : ∀ {H2}, SameX [] H' H2 → SameB (some [pg]) H' H2 := fun S2 x hx => S2.2 x (by simp at hx; omega) (by simp)
      have e8 : ((m + 1 : Nat) : Int) - 1 = (m : Nat) := by omega
      -- behind the call
      have post : ∀ {H2 : List AObj} {wv : Value} {q : Nat} {F2 : Value → Value → Value → RG}, SameX [] H' H2 → OwnX H2 1 ((l ++ [((fromL l + k : Nat) : Int)]).map vint) (l ++ [((fromL l + k : Nat) : Int)]).length wv (some q) → H'.length ≤ q → q ∉ X → o' ≠ some q →
          (∀ a b c, (F2 a b c).ds = [] ∧ (F2 a b c).r 0 = lv ∧ (F2 a b c).r 1 = .int .u64 s ∧ (F2 a b c).r 2 = vint ((m + 1 : Nat) : Int) ∧ (F2 a b c).r 3 = ptr pp 0 ∧ (F2 a b c).r 4 = ptr pn 0 ∧ (F2 a b c).r 5 = ptr pg 0 ∧ (F2 a b c).r 12 = vint ((fromL l + k : Nat) : Int) ∧ (F2 a b c).r 13 = b ∧ (F2 a b c).r 14 = c) →
          callV prog (Good prog J) (growV pp pn pg) [wv, .int .u64 (orU s (shU ((fromL l + k : Nat) : Int))), vint (m : Nat)] H2 fun v16 h17 => aExt v16 0 fun v18 => aExt v16 1 fun v19 => Hold (W prog J 58 H.length 105 (subC [1, 1, 1, 1, 0, 1, 0, 0, 1, 0, 0, 1] (codeOf f105)) (F2 v16 v18 v19) h17 (contX pl105 prog J 58 H.length 105 ct105 [1, 1, 1, 1, 0, 1, 0, 0, 1, 0, 0, 1] (codeOf f105) [Nx H.length (fun k : Nat => n - m - fromL l - k) (fun k F H' => (∃ o', Mv X oo H H' o' ∧ I (runTo f k a).1 o' H') ∧ k ≤ n - m - fromL l ∧ (runTo f k a).2 = false ∧ F.ds = [] ∧ F.r 0 = lv ∧ F.r 1 = .int .u64 s ∧ F.r 2 = vint ((m + 1 : Nat) : Int) ∧ F.r 3 = ptr pp 0 ∧ F.r 4 = ptr pn 0 ∧ F.r 5 = ptr pg 0 ∧ F.r 12 = vint ((fromL l + k : Nat) : Int)) k] (RetQ prog [.tmp 9, .tmp 10] H.length K))) := by
        intro H2 wv q F2 S2 O2 hlt hqX hqo hF
        refine callC (by kernel_rfl) ?_
        refine good105S hJ P hn m (l ++ [((fromL l + k : Nat) : Int)]) (orU s (shU ((fromL l + k : Nat) : Int))) (S2.get cp' (by simp)) (S2.get cn' (by simp)) (S2.get cg' (by simp)) (P.keep I' S2) (fun x hx => by have := hX x hx; have := M.1.1; have := S2.1; omega) O2 (fun j hj => by cases hj; exact ⟨hqX, hqo⟩) hM' (by simp; omega) (fun x hx => ?_) hBk fun H3 v o3 M3 I3 nu => ext0 (ext1 (hold.2 ?_))
        · rcases List.mem_append.1 hx with hx | hx
          · exact hlb x hx
          · have hx : x = ((fromL l + k : Nat) : Int) := by simpa using hx
            omega
        rw [hf'] at I3 ⊢
        have hnx := runTo_next hno
        rw [← hnx] at I3 ⊢
        generalize hBB : (runTo f (k + 1) a).2 = bb
        obtain ⟨f0, f1, f2, f3, f4, f5, f6, f7, f8, f9⟩ := hF (.tuple ⟨[v, .bool bb]⟩) v (.bool bb)
        have S13 : Mv X oo H H3 o3 := (M.trans (Mv.more S2)).trans M3
        rw [s105_3, f7, f8, f9, f0]
        cases bb with
        | true =>
          have e : runS st Pu n (m + 1) l s a = runTo f (k + 1) a := by rw [hR, runTo_end (by omega) hBB]
          refine cnd_true.2 (retL_same (nu2 nu (by simp [unk])) ?_)
          have := hK H3 v o3 S13 (by rw [e]; exact I3) nu
          rw [e, hBB] at this
          exact this
        | false =>
          exact cnd_false.2 (addI (by omega) ⟨k + 1, by dsimp only; omega, .inl ⟨⟨o3, S13, I3⟩, by omega, hBB, f0, f1, f2, f3, f4, f5, f6, by show vint _ = vint _; congr 1⟩⟩)
      -- new blocks are nobody's
      have hXn : ∀ {q : Nat}, H'.length ≤ q → q ∉ X ∧ o' ≠ some q := fun hq => ⟨fun hm => by have := hX _ hm; have := M.1.1; omega, fun e => by have := P.lt I' _ e; omega⟩
      refine ⟨[pg], ldI (v := growV pp pn pg) cg' rfl rfl ⟨by simp [RdOk, ptr, ptrBlk], convI (by omega) (by omega) (u_shlI (by omega) (u_orI (subI (by omega) ?_)))⟩⟩
      rw [e8]
      refine ⟨?_, ?_⟩
      · refine good106 hJ O' (by omega) fun v' C => ⟨fun _ _ => rfl, by decide, fill_one (l := [vint ((fromL l + k : Nat) : Int)]) rfl rfl rfl (by decide) (fillI (qNew fun H1 p1 e1 S1 c1 l1 => ⟨hsb S1, by decide, ?_⟩))⟩
        have c1 : H1[p1]? = some (.cells [vint ((fromL l + k : Nat) : Int)] true 0) := c1
        refine clip_app (C.keep S1) (by omega) (ownX_sli (ownX_new (s := 1) (n := 1) (l := [vint ((fromL l + k : Nat) : Int)]) c1 rfl rfl)) fun w H2 S2 O2 => ⟨hsb (S1.trans S2), ?_⟩
        have hS1 := S1.1
        exact post (S1.trans S2) O2 hS1 (hXn hS1).1 (hXn hS1).2 fun a b c => ⟨ds, r0, r1, r2, r3, r4, r5, r12, rfl, rfl⟩
      · refine ⟨by decide, fill_one (l := [vint ((fromL l + k : Nat) : Int)]) rfl rfl rfl (by decide) (fillI (qNew fun H1 p1 e1 S1 c1 l1 => ⟨hsb S1, ?_⟩))⟩
        have c1 : H1[p1]? = some (.cells [vint ((fromL l + k : Nat) : Int)] true 0) := c1
        refine good106 hJ (ownX_keep O' S1 (by simp)) (by omega) fun v' C => ⟨hsb S1, by decide, ?_⟩
        refine clip_app C (by omega) (ownX_sli (ownX_new (s := 1) (n := 1) (l := [vint ((fromL l + k : Nat) : Int)]) c1 rfl rfl)) fun w H2 S2 O2 => ⟨hsb (S1.trans S2), ?_⟩
        have hS1 := S1.1
        exact post (S1.trans S2) O2 hS1 (hXn hS1).1 (hXn hS1).2 fun a b c => ⟨ds, r0, r1, r2, r3, r4, r5, r12, rfl, rfl⟩
    refine eqlI (cndI (fun hx => absurd hx (by omega)) fun _ => lenI (ownX_sli O) (gtrI (cndI (fun hpos => lenI (ownX_sli O) (subI (by omega) ?_)) fun h0 => hold.2 ?_)))
    · have hll : l.length - 1 < l.length := by omega
      have ei : ((l.length : Nat) : Int) - 1 = ((l.length - 1 : Nat) : Int) := by omega
      have hx := List.getElem?_eq_getElem hll
      have hb := hlb _ (List.getElem_mem hll)
      rw [ei]
      refine idx_load (ownX_sli O) ⟨by omega, by omega⟩ (x := vint l[l.length - 1]) (by rw [Int.toNat_natCast, List.getElem?_map, hx]; rfl) fun p => addI (by omega) (hold.2 (loop rfl rfl rfl rfl rfl rfl rfl ?_))
      show vint _ = vint _
      congr 1
      unfold fromL
      rw [List.getLast?_eq_getElem?, hx]
      show l[l.length - 1] + 1 = ((l[l.length - 1].toNat + 1 : Nat) : Int)
      omega
    · have : l = [] := List.length_eq_zero_iff.1 (by omega)
      refine loop rfl rfl rfl rfl rfl rfl rfl ?_
      rw [this]
      rfl
theorem good75S (hJ : Closed prog main J) {X : List Nat} {I : σ → Option Nat → List AObj → Prop} {fv : Value} {n : Nat} {a : σ} {oo : Option Nat} (P : PassS J X I st Pu Bd fv) (hn : n ≤ 60) (hX : ∀ x ∈ X, x < H.length) (hI : I a oo H) (hB : pickOk Bd st Pu n a = true)
    (hK : ∀ H' v o', Mv X oo H H' o' → I (pickS st Pu n a).1 o' H' → K v H') : Good prog J 75 [vint (n : Nat), fv] H K := by
  refine g75 hJ fun ok => ?_
  rw [e75]
  generalize hf : (fun m a => runS st Pu n m [] 0 a) = f
  have hf' : ∀ m a, runS st Pu n m [] 0 a = f m a := fun m a => by rw [← hf]
  have hR : pickS st Pu n a = runTo f (n + 1) a := by rw [← hf]; rfl
  have hB' : okTo f (fun m a => allS Bd st Pu n m [] 0 a) (n + 1) a = true := by rw [← hf]; exact hB
  refine qBox1 rfl rfl fun H1 pn e1 S1 c1 l1 => qBox1 P.val.1 P.val.2 fun H2 pp e2 S2 c2 l2 => qAl fun H3 pg e3 S3 c3 l3 => ⟨rfl, qSt c3 (by simp) rfl rfl fun H4 S4 c4 l4 => ?_⟩
  have c4 : H4[pg]? = some (.cells [growV pp pn pg] true 0) := c4
  have T24 : SameX [] H2 H4 := S3.thru S4 (by simp; omega)
  have T14 : SameX [] H1 H4 := S2.trans T24
  have T4 : SameX [] H H4 := S1.trans T14
  have n4 := T14.get c1 (by simp)
  have p4 := T24.get c2 (by simp)
  have hS1 := S1.1
  have hS2 := S2.1
  have hS3 := S3.1
  have lo := P.lt hI
  have hM : ∀ p, H.length ≤ p → p ∉ X ∧ oo ≠ some p := fun p hp => ⟨fun hm => by have := hX _ hm; omega, fun e => by have := lo _ e; omega⟩
  refine ldI (v := vint (n : Nat)) n4 rfl rfl (addI (by omega) ?_)
  refine l75_1 hJ (fun m : Nat => n + 1 - m) (fun m F H' => (∃ o', Mv X oo H4 H' o' ∧ I (runTo f m a).1 o' H') ∧ m ≤ n + 1 ∧ (runTo f m a).2 = false ∧ F.ds = [] ∧ F.r 6 = ptr pg 0 ∧ F.r 12 = vint ((n : Int) + 1) ∧ F.r 13 = vint (m : Nat)) ?_ (s := 0)
    (.inl ⟨⟨oo, Mv.refl, P.keep hI T4⟩, by omega, rfl, rfl, rfl, rfl, rfl⟩)
  rintro m F H' ⟨⟨o', M, I'⟩, hm, hno, ds, r6, r12, r13⟩ okc hnc
  rw [s75_1, r6, r12, r13, ds]
  have MM : Mv X oo H H' o' := (Mv.more T4).trans M
  refine lssI (cndI (fun hlt => ?_) fun hge => ?_)
  · have hBm := okTo_at hB' (show m < n + 1 by omega) hno
    have m1 := hM pg (by omega)
    have m2 := hM pp (by omega)
    have m3 := hM pn (by omega)
    refine ldI (v := growV pp pn pg) (M.get c4 m1.1 m1.2) rfl rfl (callC (by kernel_rfl) ?_)
    have l4p := lt_of_get p4
    have l4n := lt_of_get n4
    have l4g := lt_of_get c4
    refine good105S hJ P hn m [] 0 (M.get p4 m2.1 m2.2) (M.get n4 m3.1 m3.2) (M.get c4 m1.1 m1.2) I' (fun x hx => by have := hX x hx; have := MM.1.1; omega) ⟨rfl, rfl, .inl ⟨rfl, rfl, rfl⟩⟩ (by simp) (fun p hp => ?_) (by simp; omega) (by simp) hBm fun H5 v o5 M5 I5 nu => ext0 (ext1 ?_)
    · have hp3 : p = pp ∨ p = pn ∨ p = pg := by simpa using hp
      rcases hp3 with rfl | rfl | rfl
      · exact ⟨m2.1, M.free l4p m2.2⟩
      · exact ⟨m3.1, M.free l4n m3.2⟩
      · exact ⟨m1.1, M.free l4g m1.2⟩
    rw [hf', ← runTo_next hno] at I5 ⊢
    generalize hBB : (runTo f (m + 1) a).2 = bb
    cases bb with
    | true =>
      refine cnd_true.2 (retL_same (nu2 nu (by simp [unk])) (hK H5 _ o5 (MM.trans M5) ?_))
      rw [hR, runTo_end (by omega) hBB]
      exact I5
    | false => exact cnd_false.2 (addI (by omega) ⟨m + 1, by dsimp only; omega, .inl ⟨⟨o5, M.trans M5, I5⟩, by omega, hBB, ds, r6, r12, by show vint _ = vint _; congr 1⟩⟩)
  · have hmn : m = n + 1 := by omega
    subst hmn
    refine retL_same (by simp [unk]) (hK H' _ o' MM ?_)
    rw [hR]
    exact I'
end
theorem gtrU {a b : Int} {t : TypeId} {KV : Value → Prop} (hk : KV (.bool (decide (a > b)))) : aBin prog .gtr t (.int .u64 a) (.int .u64 b) KV := by rw [b_gtr]; exact hk
theorem own_nunk {H : List AObj} {s len : Nat} {cs : List Value} {v : Value} {o : Option Nat} (O : OwnX H s cs len v o) : v ≠ unk := by
  have := (ownX_val O).2.2
  intro e
  rw [e] at this
  cases this
theorem OwnL.moreB {lo : Nat} {H : List AObj} {ls : List (List Int)} {o : Option Nat} {v y wv : Value} {l : List Int} {b : Option Nat} {K : Value → List AObj → Prop}
    (L : OwnL lo H v ls o) (hlo : lo ≤ H.length) (hpl : ls.length < 900) (Of : OwnX H 1 (l.map vint) l.length wv b) (hb : ∀ j, b = some j → some j ≠ o ∧ lo ≤ j) (hyv : Sli H y 1 1 [wv])
    (hK : ∀ v' H' o', SameX o.toList H H' → OwnL lo H' v' (ls ++ [l]) (some o') → H.length ≤ o' → v' ≠ unk → K v' H') : aApp 1 v y H K := by
  obtain ⟨hl0, cs, Oc, he⟩ := L
  have bfl := ownX_lt Of
  refine ownX_more Oc (by omega) (by omega) hyv fun v' Hh ph eh Oh Sh => ?_
  have hno : ∀ j, some j ≠ o → j ∉ o.toList := fun j hj hm => hj (by rw [Option.mem_toList.1 hm])
  refine hK v' Hh ph Sh ⟨fun j hj => by cases hj; omega, cs ++ [wv], by rw [List.length_append]; exact Oh, fun m l' hl => ?_⟩ (by omega) (own_nunk Oh)
  have hcl : cs.length = ls.length := by have := Oc.1; omega
  rcases Nat.lt_or_ge m ls.length with hm | hm
  · rw [List.getElem?_append_left hm] at hl
    obtain ⟨lv2, b2, e2, e3, e4⟩ := he m l' hl
    refine ⟨lv2, b2, by rw [List.getElem?_append_left (by omega)]; exact e2, ownX_keep e3 Sh fun j hj => hno j (e4 j hj).1, fun j hj => ⟨?_, (e4 j hj).2⟩⟩
    have := ownX_lt e3 j hj
    intro e
    injection e with e
    omega
  · rw [List.getElem?_append_right hm] at hl
    have hm0 : m - ls.length = 0 := by
      have := (List.getElem?_eq_some_iff.1 hl).1
      simp at this
      omega
    rw [hm0] at hl
    have : l' = l := by simpa using hl.symm
    subst this
    refine ⟨wv, b, by rw [List.getElem?_append_right (by omega), hcl, hm0]; rfl, ownX_keep Of Sh fun j hj => hno j (hb j hj).1, fun j hj => ⟨fun e => ?_, (hb j hj).2⟩⟩
    have := bfl j hj
    injection e with e
    omega
def hitB (u : Int) (i : Nat) : Bool := decide (IntKind.u64.wrap (BitVec.ofInt 64 (u.fdiv (2 ^ min i 64)) &&& BitVec.ofInt 64 1).toNat = 1)
def bitsN (n : Nat) (s : Int) : List Int := ((List.range n).filter (hitB s)).map Int.ofNat
theorem bitsN_succ (n : Nat) (s : Int) : bitsN (n + 1) s = bitsN n s ++ (bif hitB s n then [(n : Int)] else []) := by
  unfold bitsN
  rw [List.range_succ, List.filter_append, List.map_append]
  congr 1
  cases h : hitB s n <;> simp [h]
theorem bitsN_le (n : Nat) (s : Int) : (bitsN n s).length ≤ n := by
  unfold bitsN
  rw [List.length_map]
  exact Nat.le_trans (List.length_filter_le _ _) (by simp)
def stM (n many : Nat) (a : List (List Int)) (s : Int) : List (List Int) := bif decide ((bitsN n s).length = many) then a ++ [bitsN n s] else a
def puM (n many : Nat) (s : Int) : Bool := decide ((bitsN n s).length > many)
def bdM (a : List (List Int)) : Bool := decide (a.length < 800)
structure IM (lo pw pm pl : Nat) (wv : Value) (many : Nat) (a : List (List Int)) (o : Option Nat) (H : List AObj) : Prop where
  hw : H[pw]? = some (.cells [wv] true 0)
  hm : H[pm]? = some (.cells [vint (many : Nat)] true 0)
  hl : ∃ lv, H[pl]? = some (.cells [lv] true 0) ∧ OwnL lo H lv a o
  lo : lo ≤ H.length
section
variable {main : Bool} {J : JT} {h H : List AObj} {K : Value → List AObj → Prop} {n0 : Nat}
theorem pass91 (hJ : Closed prog main J) {lo pw pm pl n many : Nat} {wv : Value} (hwv : ∀ KV : Value → Prop, KV (vint (n : Nat)) → aLenS wv KV) (kwv : kn1 wv = true) (hn : n ≤ 60) (hmy : many ≤ 1000) (h1 : pw < lo) (h2 : pm < lo) (h3 : pl < lo) (d1 : pw ≠ pl) (d2 : pm ≠ pl) :
    PassS J [pl] (IM lo pw pm pl wv many) (stM n many) (puM n many) bdM (.func (.func 91) ⟨[]⟩ ⟨[ptr pw 0, ptr pm 0, ptr pl 0]⟩) where
  call := fun {H s a o Kf} hB hI hk => by
    refine callC (by kernel_rfl) (g91 hJ fun ok => ?_)
    have e0 : ([.int .u64 s] ++ [ptr pw 0, ptr pm 0, ptr pl 0] : List Value) = [.int .u64 s, ptr pw 0, ptr pm 0, ptr pl 0] := rfl
    show W prog J 36 H.length 91 (codeOf f91) (RG.mk (regs [.int .u64 s, ptr pw 0, ptr pm 0, ptr pl 0]) []) H (RetQ prog [.tmp 5] H.length Kf)
    rw [e91]
    refine ldI hI.hw rfl kwv (hwv _ ?_)
    refine l91_1 hJ (fun i : Nat => n - i) (fun i f H' => SameX [] H H' ∧ i ≤ n ∧ (∃ ol, OwnX H' 1 ((bitsN i s).map vint) (bitsN i s).length (f.r 6) ol ∧ ∀ j, ol = some j → H.length ≤ j) ∧ f.ds = [] ∧ f.r 0 = .int .u64 s ∧ f.r 2 = ptr pm 0 ∧ f.r 3 = ptr pl 0 ∧ f.r 9 = vint (n : Nat) ∧ f.r 10 = vint (i : Nat)) ?_ (s := 0)
      (.inl ⟨SameX.refl, by omega, ⟨none, ownX_nil, by simp⟩, rfl, rfl, rfl, rfl, rfl, rfl⟩)
    rintro i f H' ⟨S, hi, ⟨ol, Ol, hol⟩, ds, r0, r2, r3, r9, r10⟩ okc hnc
    generalize hlv : f.r 6 = lv at Ol
    rw [s91_1, r0, r2, r3, r9, r10, hlv, ds]
    have hble := bitsN_le i s
    refine lssI (cndI (fun hlt => ?_) fun hge => ?_)
    · refine convI (by omega) (by omega) (u_shrI (u_andI (eqlU ?_)))
      have hb := bitsN_succ i s
      refine cndI (fun hh => ⟨by decide, fill1 rfl rfl (by decide) (fillI (qNew fun H1 p1 e1 S1 c1 l1 => ⟨by decide, ?_⟩))⟩) fun hh => ?_
      · have hit : hitB s i = true := decide_eq_true hh
        rw [hit] at hb
        refine ownX_more (ownX_keep Ol S1 (by simp)) (by omega) (by omega) (ownX_sli (ownX_new (n := 1) (l := [vint (i : Nat)]) c1 rfl rfl)) fun v' H2 p2 e2 O2 S2 => addI (by omega) ⟨i + 1, by dsimp only; omega, .inl ⟨(S.trans S1).thru S2 ?_, by omega, ⟨some p2, ?_, fun j hj => ?_⟩, ds, r0, r2, r3, r9, by show vint _ = vint _; congr 1⟩⟩
        · intro y hy
          rw [Option.mem_toList] at hy
          exact .inr (hol y hy)
        · rw [hb]
          show OwnX H2 1 ((bitsN i s ++ [(i : Int)]).map vint) (bitsN i s ++ [(i : Int)]).length v' (some p2)
          rw [List.map_append, List.length_append]
          exact O2
        · cases hj
          have := S.1
          have := S1.1
          omega
      · have hit : hitB s i = false := decide_eq_false hh
        rw [hit, cond_false, List.append_nil] at hb
        refine addI (by omega) ⟨i + 1, by dsimp only; omega, .inl ⟨S, by omega, ⟨ol, ?_, hol⟩, ds, r0, r2, r3, r9, by show vint _ = vint _; congr 1⟩⟩
        rw [hb]
        show OwnX H' 1 _ _ (f.r 6) ol
        rw [hlv]
        exact Ol
    · have hin : i = n := by omega
      subst hin
      have cm := S.get hI.hm (by simp)
      obtain ⟨llv, cl, LL⟩ := hI.hl
      have cl' := S.get cl (by simp)
      have LL' := LL.keep S
      have hlo := hI.lo
      have hS := S.1
      refine lenI (ownX_sli Ol) (ldI (v := vint (many : Nat)) cm rfl rfl (eqlI (cndI (fun he => ?_) fun hne => ?_)))
      · have he' : (bitsN i s).length = many := by omega
        have hst : stM i many a s = a ++ [bitsN i s] := by unfold stM; rw [decide_eq_true he']; rfl
        have hB' : a.length < 800 := of_decide_eq_true hB
        have kl := (ownX_val LL'.2.choose_spec.1)
        refine ldI cl' rfl kl.2.2 ⟨by decide, fill1 (ownX_val Ol).1 (ownX_val Ol).2.1 (by decide) (fillI (qNew fun H1 p1 e1 S1 c1 l1 => ⟨by decide, ?_⟩))⟩
        have hS1 := S1.1
        refine (LL'.keep S1).moreB (b := ol) (by omega) (by omega) (ownX_keep Ol S1 (by simp)) (fun j hj => ⟨fun e => ?_, by have := hol j hj; omega⟩) (ownX_sli (ownX_new (n := 1) (l := [lv]) c1 rfl (by
          unfold kn
          simp [(ownX_val Ol).2.2]))) fun v' H2 o2 S2 L2 ho2 nu => ?_
        · have h5 := hol j hj
          have h6 := (LL.lt j e.symm).2
          omega
        have cl1 := S1.get cl' (by simp)
        have hno : ∀ {x : Nat}, x < lo → x ∉ o.toList := fun hx hm => by
          have := LL.1 _ (Option.mem_toList.1 hm)
          omega
        have cl2 := S2.get cl1 (hno h3)
        have kv := ownX_val L2.2.choose_spec.1
        have cm2 := S2.get (S1.get cm (by simp)) (hno h2)
        refine qSt cl2 (by simp) kv.1 kv.2.1 fun H3 S3 c3 l3 => lenI (ownX_sli Ol) (ldI (v := vint (many : Nat)) (S3.get cm2 (by simpa using d2)) rfl rfl (gtrI ?_))
        have M : Mv [pl] o H H3 (some o2) := by
          refine ⟨((S.trans S1).weak0.trans (S2.weak fun y hy => List.mem_append_right _ hy)).trans (S3.weak fun y hy => List.mem_append_left _ hy), .inr ⟨o2, rfl, by omega⟩⟩
        refine retL_same (by simp [unk]) ?_
        have := hk H3 (some o2) M (by
          rw [hst]
          refine ⟨M.get hI.hw (by simpa using d1) (fun e => hno h1 (Option.mem_toList.2 e)), M.get hI.hm (by simpa using d2) (fun e => hno h2 (Option.mem_toList.2 e)), ⟨v', by rw [c3]; rfl, ?_⟩, by have := M.1.1; omega⟩
          exact L2.keepX S3 (by simp; exact h3))
        have e : decide (((bitsN i s).length : Int) > (many : Int)) = puM i many s := by
          unfold puM
          rw [decide_eq_decide]
          omega
        rw [e]
        exact this
      · have hne' : (bitsN i s).length ≠ many := by omega
        have hst : stM i many a s = a := by unfold stM; rw [decide_eq_false hne']; rfl
        refine lenI (ownX_sli Ol) (ldI (v := vint (many : Nat)) cm rfl rfl (gtrI (retL_same (by simp [unk]) ?_)))
        have := hk H' o (Mv.more S) (by
          rw [hst]
          exact ⟨S.get hI.hw (by simp), cm, ⟨llv, cl', LL'⟩, by omega⟩)
        have e : decide (((bitsN i s).length : Int) > (many : Int)) = puM i many s := by
          unfold puM
          rw [decide_eq_decide]
          omega
        rw [e]
        exact this
  keep := fun hI S => ⟨S.get hI.hw (by simp), S.get hI.hm (by simp), by
    obtain ⟨lv, h1, h2⟩ := hI.hl
    exact ⟨lv, S.get h1 (by simp), h2.keep S⟩, Nat.le_trans hI.lo S.1⟩
  lt := fun hI j hj => by
    obtain ⟨lv, _, h2⟩ := hI.hl
    exact (h2.lt j hj).2
  kn := rfl
  val := ⟨rfl, rfl⟩
def setM (t : Tal) (m : Int) : Nat → Int
  | 0 => 0
  | k + 1 => if ((t.counts[k]?).getD ⟨0, 0, 0, 0⟩).man = m then orU (setM t m k) (shU (k : Nat)) else setM t m k
def setA (t : Tal) (m : Int) : Int := setM t m t.counts.length
def menTo (t : Tal) (n : Nat) : List Int := ((List.range n).map fun k => ((k + 1 : Nat) : Int)).filter fun m => decide (setA t m > 0)
theorem menTo_succ (t : Tal) (n : Nat) : menTo t (n + 1) = menTo t n ++ (bif decide (setA t ((n + 1 : Nat) : Int) > 0) then [((n + 1 : Nat) : Int)] else []) := by
  unfold menTo
  rw [List.range_succ, List.map_append, List.filter_append]
  congr 1
theorem menTo_le (t : Tal) (n : Nat) : (menTo t n).length ≤ n := by
  unfold menTo
  exact Nat.le_trans (List.length_filter_le _ _) (by simp)
def menR (t : Tal) : List Int := menTo t 9
def setsR (t : Tal) : List Int := (menR t).map (setA t)
theorem good90 (hJ : Closed prog main J) {v cv nv : Value} {t : Tal} (ta : TalAt H v t cv nv) (hl : t.counts.length < 60)
    (hK : ∀ H' wv kv ow, SameX [] H H' → OwnX H' 1 ((menR t).map vint) (menR t).length wv ow → (∀ j, ow = some j → H.length ≤ j) → Sli H' kv 1 (setsR t).length ((setsR t).map fun n => .int .u64 n) → K (.tuple ⟨[wv, kv]⟩) H') : Good prog J 90 [v] H K := by
  refine g90 hJ fun ok => ?_
  rw [e90, ta.val]
  refine qBox (tal_one ta) fun H1 p1 e1 S1 c1 l1 => ?_
  have t1 : TalAt H1 (.agg ⟨talCells t cv nv⟩) t cv nv := ⟨rfl, S1.sli ta.ch (by simp), S1.sli ta.co (by simp)⟩
  have kn : kn1 nv = true := (sli_one t1.co).2.2
  refine l90_1 hJ (fun m : Nat => 9 - m) (fun m f H' => SameX [] H1 H' ∧ m ≤ 9 ∧ (∃ ow os, OwnX H' 1 ((menTo t m).map vint) (menTo t m).length (f.r 4) ow ∧ OwnX H' 1 (((menTo t m).map (setA t)).map fun n => .int .u64 n) ((menTo t m).map (setA t)).length (f.r 5) os ∧ (∀ j, ow = some j → H1.length ≤ j ∧ os ≠ some j) ∧ ∀ j, os = some j → H1.length ≤ j) ∧ f.ds = [] ∧ f.r 1 = ptr p1 0 ∧ f.r 6 = vint ((m + 1 : Nat) : Int)) ?_ (s := 0)
    (.inl ⟨SameX.refl, by omega, ⟨none, none, ownX_nil, ownX_nil, by simp, by simp⟩, rfl, rfl, rfl⟩)
  rintro m f H' ⟨S, hm, ⟨ow, os, Ow, Os, how, hos⟩, ds, r1, r6⟩ okc hnc
  generalize hwv : f.r 4 = wv at Ow
  generalize hkv : f.r 5 = kv at Os
  have c1' := S.get c1 (by simp)
  have t' := talAt_same t1 S (by simp)
  rw [s90_1, r1, r6, hwv, hkv, ds]
  have hml := menTo_le t m
  refine leqI (cndI (fun hle => ?_) fun hgt => ?_)
  · refine offI (ldI (v := nv) c1' rfl kn (lenI t'.co ?_))
    refine l90_2 hJ (fun i : Nat => t.counts.length - i) (fun i f H2 => SameX [] H' H2 ∧ i ≤ t.counts.length ∧ f.ds = [] ∧ f.r 1 = ptr p1 0 ∧ f.r 4 = wv ∧ f.r 5 = kv ∧ f.r 6 = vint ((m + 1 : Nat) : Int) ∧ f.r 7 = .int .u64 (setM t ((m + 1 : Nat) : Int) i) ∧ f.r 15 = nv ∧ f.r 16 = vint (t.counts.length : Nat) ∧ f.r 17 = vint (i : Nat)) ?_ (s := 0)
      (.inl ⟨SameX.refl, by omega, ds, r1, hwv, hkv, r6, rfl, rfl, rfl, rfl⟩)
    clear okc hnc
    rintro i f2 H2 ⟨S2, hi, ds2, q1, q4, q5, q6, q7, q15, q16, q17⟩ okc hnc
    have t2 := talAt_same t' S2 (by simp)
    rw [s90_2, q4, q5, q6, q7, q15, q16, q17]
    refine lssI (cndI (fun hlt => ?_) fun hge => ?_)
    · have hil : i < t.counts.length := by omega
      obtain ⟨b2, o2, cs2, w2, z2, hx2, hb2, hle2, hp2, hk2⟩ := sliE_elem cnt_len (by omega) t2.co hil
      have hget : (t.counts[i]?).getD ⟨0, 0, 0, 0⟩ = t.counts[i] := by rw [List.getElem?_eq_getElem hil]; rfl
      refine hx2 _ (load_part hb2 hle2 hp2 hk2 (qAl fun H3 p9 e3 S3 c3 l3 => qStA (c := t.counts[i].cells) c3 rfl rfl rfl fun H4 S4 c4 l4 => ?_))
      have T4 : SameX [] H' H4 := (S2.trans S3).thru S4 (by have := S2.1; simp; omega)
      refine offI (ldI (v := vint t.counts[i].man) c4 rfl rfl (eqlI (cndI (fun he => convI (by omega) (by omega) (u_shlI (by omega) (u_orI (addI (by omega) ⟨i + 1, by dsimp only; omega, .inl ⟨T4, by omega, ds2, q1, q4, q5, q6, ?_, q15, q16, by show vint _ = vint _; congr 1⟩⟩)))) fun hne => addI (by omega) ⟨i + 1, by dsimp only; omega, .inl ⟨T4, by omega, ds2, q1, q4, q5, q6, ?_, q15, q16, by show vint _ = vint _; congr 1⟩⟩)))
      · show Value.int .u64 _ = _
        conv => rhs; rw [setM, hget, if_pos he]
      · show f2.r 7 = _
        rw [q7]
        conv => rhs; rw [setM, hget, if_neg hne]
    · have hin : i = t.counts.length := by omega
      subst hin
      have hS : setM t ((m + 1 : Nat) : Int) t.counts.length = setA t ((m + 1 : Nat) : Int) := rfl
      rw [hS]
      have hsu := menTo_succ t m
      refine gtrU (cndI (fun hpos => ⟨by decide, fill1 rfl rfl (by decide) (fillI (qNew fun H3 p3 e3 S3 c3 l3 => ⟨by decide, ?_⟩))⟩) fun hno => ?_)
      · rw [decide_eq_true hpos, cond_true] at hsu
        have T3 := S2.trans S3
        refine ownX_more (ownX_keep Ow T3 (by simp)) (by omega) (by omega) (ownX_sli (ownX_new (n := 1) (l := [vint ((m + 1 : Nat) : Int)]) c3 rfl rfl)) fun v' H4 p4 e4 O4 S4 => ⟨by decide, fill1 rfl rfl (by decide) (fillI (qNew fun H5 p5 e5 S5 c5 l5 => ⟨by decide, ?_⟩))⟩
        have Os4 := ownX_keep (ownX_keep Os T3 (by simp)) S4 (fun j hj hm => by
          rw [Option.mem_toList] at hm
          exact (how j hm).2 hj)
        have lo4 := ownX_lt O4
        refine ownX_more (ownX_keep Os4 S5 (by simp)) (by omega) (by rw [List.length_map]; omega) (ownX_sli (ownX_new (n := 1) (l := [.int .u64 (setA t ((m + 1 : Nat) : Int))]) c5 rfl rfl)) fun v6 H6 p6 e6 O6 S6 => addI (by omega) ⟨m + 1, by dsimp only; omega, .inl ⟨?_, by omega, ⟨some p4, some p6, ?_, ?_, fun j hj => ?_, fun j hj => ?_⟩, ds2, q1, by show vint _ = vint _; congr 1⟩⟩
        · refine ((((S.trans T3).thru S4 fun y hy => ?_).trans S5).thru S6 fun y hy => ?_)
          · rw [Option.mem_toList] at hy
            exact .inr (how y hy).1
          · rw [Option.mem_toList] at hy
            exact .inr (hos y hy)
        · rw [hsu, List.map_append, List.length_append]
          refine ownX_keep (ownX_keep O4 S5 (by simp)) S6 fun j hj hm => ?_
          rw [Option.mem_toList] at hm
          cases hj
          have := (ownX_lt Os4) _ hm
          have := (ownX_lt (ownX_keep Os T3 (by simp))) _ hm
          omega
        · rw [hsu, List.map_append, List.map_append, List.length_append]
          exact O6
        · cases hj
          have := S.1
          have := T3.1
          refine ⟨by omega, fun e => ?_⟩
          cases e
          have := lo4 _ rfl
          have := S5.1
          omega
        · cases hj
          have := S.1
          have := T3.1
          have := S4.1
          have := S5.1
          omega
      · rw [decide_eq_false hno, cond_false, List.append_nil] at hsu
        refine addI (by omega) ⟨m + 1, by dsimp only; omega, .inl ⟨S.trans S2, by omega, ⟨ow, os, ?_, ?_, how, hos⟩, ds2, q1, by show vint _ = vint _; congr 1⟩⟩
        · show OwnX H2 1 _ _ (f2.r 4) ow
          rw [q4, hsu]
          exact ownX_keep Ow S2 (by simp)
        · show OwnX H2 1 _ _ (f2.r 5) os
          rw [q5, hsu]
          exact ownX_keep Os S2 (by simp)
  · have hm9 : m = 9 := by omega
    subst hm9
    refine retL_same (nu2 (own_nunk Ow) (own_nunk Os)) (hK H' wv kv ow (S1.trans S) Ow (fun j hj => ?_) (ownX_sli Os))
    have := (how j hj).1
    have := S1.1
    omega
end
end Go.Proofs.Ytdgpacdknpahnaa
namespace Go.Proofs.Ytdgpacdknpahnaa
open Go.Conc Go.Proofs.Try
set_option maxRecDepth 100000
set_option maxHeartbeats 4000000
set_option linter.unusedVariables false
section
variable {main : Bool} {J : JT} {n0 : Nat} {h : List AObj} {K : Value → List AObj → Prop}
section
variable {Sx : RG → List AObj → Prop}
theorem at92 : prog.funcs[92]? = some f92 := by kernel_rfl
theorem body92 : f92.body = some (codeOf f92) := by kernel_rfl
def pl92 : Plans := [(1, false, .take 1 (.take 2 (.alt 0 true (.alt 3 false (.last 4 true (.last 5 true (.take 6 (.fin)))) (.last 4 true (.alt 3 false (.last 5 true (.take 6 (.fin))) (.last 5 true (.last 3 false (.take 6 (.fin))))))) (.alt 3 false (.alt 0 true (.last 4 true (.last 5 true (.take 6 (.fin)))) (.last 4 true (.last 0 true (.last 5 true (.take 6 (.fin)))))) (.last 4 true (.alt 0 true (.alt 3 false (.last 5 true (.take 6 (.fin))) (.last 5 true (.last 3 false (.take 6 (.fin))))) (.last 3 false (.last 0 true (.last 5 true (.take 6 (.fin)))))))))))]
def ct92 : Cuts := .go
theorem pok92 : plansOk prog pl92 (trunc 2 (codeOf f92)) = true := by kernel_rfl
theorem e92 {a0 a1 a2 : Value} : W prog J 50 h.length 92 (trunc 2 (codeOf f92)) (RG.mk (regs [a0, a1, a2]) []) h (thenK Sx (RetQ prog [.tmp 6] h.length K)) =
(aBox a0 h fun v1 h2 =>
aBox a2 h2 fun v3 h4 =>
(∃ B, aLenS a1 fun v5 =>
RdOk (some B) (mapBlk a1) ∧ ((((8 : Nat) ≤ 1024 ∧ aMkC (vint 0) h4 fun v6 h7 =>
SameB (some B) h4 h7 ∧ ((((8 : Nat) ≤ 1024 ∧ aMkC v5 h7 fun v8 h9 =>
aAlloc [(Value.chan none)] h9 fun v10 h11 =>
SameB (some B) h4 h11 ∧ (aStore 1 v10 v6 h11 fun h12 =>
SameB (some B) h4 h12 ∧ (Sx (RG.p (RG.p (RG.p (RG.p (RG.p (RG.p (RG.p (RG.p (RG.p (RG.mk (regs [a0, a1, a2]) []) 3 v1) 5 v3) 6 (vint 0)) 15 a1) 16 v5) 14 v6) 17 v8) 7 v10) 8 v8) h12)))) ∧ (aAlloc [(Value.chan none)] h7 fun v13 h14 =>
SameB (some B) h4 h14 ∧ ((((8 : Nat) ≤ 1024 ∧ aMkC v5 h14 fun v15 h16 =>
aStore 1 v13 v6 h16 fun h17 =>
SameB (some B) h4 h17 ∧ (Sx (RG.p (RG.p (RG.p (RG.p (RG.p (RG.p (RG.p (RG.p (RG.p (RG.mk (regs [a0, a1, a2]) []) 3 v1) 5 v3) 6 (vint 0)) 15 a1) 16 v5) 14 v6) 7 v13) 17 v15) 8 v15) h17))) ∧ (aStore 1 v13 v6 h14 fun h18 =>
SameB (some B) h4 h18 ∧ (((8 : Nat) ≤ 1024 ∧ aMkC v5 h18 fun v19 h20 =>
Sx (RG.p (RG.p (RG.p (RG.p (RG.p (RG.p (RG.p (RG.p (RG.p (RG.mk (regs [a0, a1, a2]) []) 3 v1) 5 v3) 6 (vint 0)) 15 a1) 16 v5) 14 v6) 7 v13) 17 v19) 8 v19) h20)))))))) ∧ (((8 : Nat) ≤ 1024 ∧ aMkC v5 h4 fun v21 h22 =>
(((8 : Nat) ≤ 1024 ∧ aMkC (vint 0) h22 fun v23 h24 =>
SameB (some B) h4 h24 ∧ (aAlloc [(Value.chan none)] h24 fun v25 h26 =>
SameB (some B) h4 h26 ∧ (aStore 1 v25 v23 h26 fun h27 =>
SameB (some B) h4 h27 ∧ (Sx (RG.p (RG.p (RG.p (RG.p (RG.p (RG.p (RG.p (RG.p (RG.p (RG.mk (regs [a0, a1, a2]) []) 3 v1) 5 v3) 6 (vint 0)) 15 a1) 16 v5) 17 v21) 14 v23) 7 v25) 8 v21) h27))))) ∧ (aAlloc [(Value.chan none)] h22 fun v28 h29 =>
SameB (some B) h4 h29 ∧ (((8 : Nat) ≤ 1024 ∧ aMkC (vint 0) h29 fun v30 h31 =>
SameB (some B) h4 h31 ∧ (aStore 1 v28 v30 h31 fun h32 =>
SameB (some B) h4 h32 ∧ (Sx (RG.p (RG.p (RG.p (RG.p (RG.p (RG.p (RG.p (RG.p (RG.p (RG.mk (regs [a0, a1, a2]) []) 3 v1) 5 v3) 6 (vint 0)) 15 a1) 16 v5) 17 v21) 7 v28) 14 v30) 8 v21) h32))))))) ∧ (aAlloc [(Value.chan none)] h4 fun v33 h34 =>
SameB (some B) h4 h34 ∧ ((((8 : Nat) ≤ 1024 ∧ aMkC (vint 0) h34 fun v35 h36 =>
SameB (some B) h4 h36 ∧ ((((8 : Nat) ≤ 1024 ∧ aMkC v5 h36 fun v37 h38 =>
aStore 1 v33 v35 h38 fun h39 =>
SameB (some B) h4 h39 ∧ (Sx (RG.p (RG.p (RG.p (RG.p (RG.p (RG.p (RG.p (RG.p (RG.p (RG.mk (regs [a0, a1, a2]) []) 3 v1) 5 v3) 6 (vint 0)) 15 a1) 16 v5) 7 v33) 14 v35) 17 v37) 8 v37) h39))) ∧ (aStore 1 v33 v35 h36 fun h40 =>
SameB (some B) h4 h40 ∧ (((8 : Nat) ≤ 1024 ∧ aMkC v5 h40 fun v41 h42 =>
Sx (RG.p (RG.p (RG.p (RG.p (RG.p (RG.p (RG.p (RG.p (RG.p (RG.mk (regs [a0, a1, a2]) []) 3 v1) 5 v3) 6 (vint 0)) 15 a1) 16 v5) 7 v33) 14 v35) 17 v41) 8 v41) h42)))))) ∧ (((8 : Nat) ≤ 1024 ∧ aMkC v5 h34 fun v43 h44 =>
((8 : Nat) ≤ 1024 ∧ aMkC (vint 0) h44 fun v45 h46 =>
SameB (some B) h4 h46 ∧ (aStore 1 v33 v45 h46 fun h47 =>
SameB (some B) h4 h47 ∧ (Sx (RG.p (RG.p (RG.p (RG.p (RG.p (RG.p (RG.p (RG.p (RG.p (RG.mk (regs [a0, a1, a2]) []) 3 v1) 5 v3) 6 (vint 0)) 15 a1) 16 v5) 7 v33) 17 v43) 14 v45) 8 v43) h47)))))))))) := top_eq pok92 ct92 (by kernel_rfl)
end
theorem q92_1 {f : RG} {fr : FuncId} {Q : QT} : W prog J 50 n0 fr (subC [1, 1, 0, 0] (codeOf f92)) f h Q =
(aLenS (f.r 1) fun v1 =>
Q .normal (RG.p (RG.p (RG.p f 18 (f.r 1)) 19 v1) 20 (vint 0)) h) := by kernel_rfl
theorem q92_2 {f : RG} {fr : FuncId} {Q : QT} : W prog J 50 n0 fr (subC [1, 1, 0, 1, 0, 0, 0] (codeOf f92)) f h Q =
(aBin prog .lss 3 (f.r 20) (f.r 19) fun v1 =>
Q .normal (RG.p f 21 v1) h) := by kernel_rfl
theorem q92_3 {f : RG} {fr : FuncId} {Q : QT} : W prog J 50 n0 fr (subC [1, 1, 0, 1, 0, 0, 1, 0] (codeOf f92)) f h Q =
(cnd (f.r 21)
(Q .normal f h)
(Q (.exit 0) f h)) := by kernel_rfl
theorem q92_4 {f : RG} {fr : FuncId} {Q : QT} : W prog J 50 n0 fr (subC [1, 1, 0, 1, 0, 0, 1, 1, 0, 0, 0] (codeOf f92)) f h Q =
(aIdx 1 (f.r 18) (f.r 20) fun v1 =>
aLoad false 1 v1 h fun v2 =>
aAlloc [(vint 0)] h fun v3 h4 =>
aAlloc [(Value.slice none 0 0)] h4 fun v5 h6 =>
aStore 1 v3 (f.r 20) h6 fun h7 =>
aStore 1 v5 v2 h7 fun h8 =>
Q .normal (RG.p (RG.p (RG.p (RG.p (RG.p f 22 (f.r 20)) 23 v1) 24 v2) 9 v3) 10 v5) h8) := by kernel_rfl
theorem q92_5 {f : RG} {fr : FuncId} {Q : QT} : W prog J 50 n0 fr (subC [1, 1, 0, 1, 0, 0, 1, 1, 1] (codeOf f92)) f h Q =
(aBin prog .add 3 (f.r 20) (vint 1) fun v1 =>
Q .normal (RG.p (RG.p f 26 v1) 20 v1) h) := by kernel_rfl
theorem q92_6 {f : RG} {fr : FuncId} {Q : QT} : W prog J 50 n0 fr (subC [1, 1, 1, 0, 0] (codeOf f92)) f h Q =
(aLenS (f.r 1) fun v1 =>
Q .normal (RG.p (RG.p (RG.p f 27 (f.r 1)) 28 v1) 29 (vint 0)) h) := by kernel_rfl
theorem q92_7 {f : RG} {fr : FuncId} {Q : QT} : W prog J 50 n0 fr (subC [1, 1, 1, 0, 1, 0, 0, 0] (codeOf f92)) f h Q =
(aBin prog .lss 3 (f.r 29) (f.r 28) fun v1 =>
Q .normal (RG.p f 30 v1) h) := by kernel_rfl
theorem q92_8 {f : RG} {fr : FuncId} {Q : QT} : W prog J 50 n0 fr (subC [1, 1, 1, 0, 1, 0, 0, 1, 0] (codeOf f92)) f h Q =
(cnd (f.r 30)
(Q .normal f h)
(Q (.exit 2) f h)) := by kernel_rfl
theorem q92_9 {f : RG} {fr : FuncId} {Q : QT} : W prog J 50 n0 fr (subC [1, 1, 1, 0, 1, 0, 0, 1, 1, 0, 0, 1, 0] (codeOf f92)) f h Q =
(aBin prog .geq 3 (f.r 11) (vint 0) fun v1 =>
Q .normal (RG.p (RG.p f 33 (f.r 11)) 34 v1) h) := by kernel_rfl
theorem q92_10 {f : RG} {fr : FuncId} {Q : QT} : W prog J 50 n0 fr (subC [1, 1, 1, 0, 1, 0, 0, 1, 1, 1] (codeOf f92)) f h Q =
(aBin prog .add 3 (f.r 29) (vint 1) fun v1 =>
Q .normal (RG.p (RG.p f 37 v1) 29 v1) h) := by kernel_rfl
theorem q92_11 {f : RG} {fr : FuncId} {Q : QT} : W prog J 50 n0 fr (subC [1, 1, 1, 1, 1, 0] (codeOf f92)) f h Q =
(aLenS (f.r 1) fun v1 =>
Q .normal (RG.p (RG.p (RG.p f 39 (f.r 1)) 40 v1) 12 v1) h) := by kernel_rfl
theorem q92_12 {f : RG} {fr : FuncId} {Q : QT} : W prog J 50 n0 fr (subC [1, 1, 1, 1, 1, 1, 0, 0] (codeOf f92)) f h Q =
(Q .normal (RG.p f 41 (f.r 8)) h) := by kernel_rfl
theorem q92_13 {f : RG} {fr : FuncId} {Q : QT} : W prog J 50 n0 fr (subC [1, 1, 1, 1, 1, 1, 0, 1, 0, 0, 1, 0] (codeOf f92)) f h Q =
(cnd (f.r 43)
(Q .normal f h)
(Q (.exit 4) f h)) := by kernel_rfl
theorem q92_14 {f : RG} {fr : FuncId} {Q : QT} : W prog J 50 n0 fr (subC [1, 1, 1, 1, 1, 1, 0, 1, 0, 0, 1, 1] (codeOf f92)) f h Q =
(aExt (f.r 42) 0 fun v1 =>
(((1 * 1 : Nat) ≤ 16777216 ∧ (1 : Nat) ≤ 16777216 ∧ List.length [(vint 0)] = 1) ∧ aFill (zrep [(vint 0)] 1) [(0, 1, v1)] fun c2 =>
aNewS 1 c2 h fun v3 h4 =>
Good prog J 103 [(f.r 12), v3] h4 fun v5 h6 =>
Q .normal (RG.p (RG.p (RG.p (RG.p (RG.p (RG.p (RG.p f 44 v1) 13 v1) 45 (f.r 12)) 46 v1) 47 v3) 48 v5) 12 v5) h6)) := by kernel_rfl
noncomputable def ops92_1 : Array Oper := opsAt [1, 1, 0, 1, 0, 0, 1, 1, 0, 0, 1] (codeOf f92)
theorem z92_1 : ops92_1.size = 2 := by kernel_rfl
noncomputable def p92_1_0 : Oper := opGet ops92_1 0
theorem o92_1_0 {J : JT} : ops92_1[0]? = some p92_1_0 ∧ p92_1_0.dst = some 25 ∧ dstOk 50 p92_1_0 = true ∧ (∀ r, gd ops92_1 p92_1_0 r = some true) ∧ (∀ (f : RG) (h : List AObj) (H : Value → List AObj → Prop), opW prog (Good prog J) p92_1_0 f.r h H = (aMkF 110 [] [(f.r 10), (f.r 5), (f.r 3), (f.r 7), (f.r 9)] fun v1 =>
H v1 h)) := ⟨by kernel_rfl, by kernel_rfl, by kernel_rfl, fun _ => by kernel_rfl, fun _ _ _ => by kernel_rfl⟩
noncomputable def p92_1_1 : Oper := opGet ops92_1 1
theorem o92_1_1 {J : JT} : ops92_1[1]? = some p92_1_1 ∧ p92_1_1.dst = none ∧ dstOk 50 p92_1_1 = true ∧ (∀ r, gd ops92_1 p92_1_1 r = some true) ∧ (p92_1_1.op = (Go.Op.go { callee := (Go.Callee.value (Go.Operand.tmp 25)), args := #[], argTypes := #[] })) := ⟨by kernel_rfl, by kernel_rfl, by kernel_rfl, fun _ => by kernel_rfl, by kernel_rfl⟩
noncomputable def ops92_2 : Array Oper := opsAt [1, 1, 1, 0, 1, 0, 0, 1, 1, 0, 0, 0] (codeOf f92)
theorem z92_2 : ops92_2.size = 3 := by kernel_rfl
noncomputable def p92_2_0 : Oper := opGet ops92_2 0
theorem o92_2_0 {J : JT} : ops92_2[0]? = some p92_2_0 ∧ p92_2_0.dst = some 31 ∧ dstOk 50 p92_2_0 = true ∧ (∀ r, gd ops92_2 p92_2_0 r = some true) ∧ (∀ (f : RG) (h : List AObj) (H : Value → List AObj → Prop), opW prog (Good prog J) p92_2_0 f.r h H = (aLoad false 1 (f.r 7) h fun v1 =>
H v1 h)) := ⟨by kernel_rfl, by kernel_rfl, by kernel_rfl, fun _ => by kernel_rfl, fun _ _ _ => by kernel_rfl⟩
noncomputable def p92_2_1 : Oper := opGet ops92_2 1
theorem o92_2_1 {J : JT} : ops92_2[1]? = some p92_2_1 ∧ p92_2_1.dst = some 32 ∧ dstOk 50 p92_2_1 = true ∧ (∀ r, gd ops92_2 p92_2_1 r = some true) ∧ (p92_2_1.op = (Go.Op.recv 138 (Go.Operand.tmp 31) false)) := ⟨by kernel_rfl, by kernel_rfl, by kernel_rfl, fun _ => by kernel_rfl, by kernel_rfl⟩
noncomputable def p92_2_2 : Oper := opGet ops92_2 2
theorem o92_2_2 {J : JT} : ops92_2[2]? = some p92_2_2 ∧ p92_2_2.dst = some 11 ∧ dstOk 50 p92_2_2 = true ∧ (∀ r, gd ops92_2 p92_2_2 r = some true) ∧ (∀ (f : RG) (h : List AObj) (H : Value → List AObj → Prop), opW prog (Good prog J) p92_2_2 f.r h H = (H (f.r 32) h)) := ⟨by kernel_rfl, by kernel_rfl, by kernel_rfl, fun _ => by kernel_rfl, fun _ _ _ => by kernel_rfl⟩
noncomputable def ops92_3 : Array Oper := opsAt [1, 1, 1, 0, 1, 0, 0, 1, 1, 0, 0, 1, 1, 0] (codeOf f92)
theorem z92_3 : ops92_3.size = 3 := by kernel_rfl
noncomputable def p92_3_0 : Oper := opGet ops92_3 0
theorem o92_3_0 {J : JT} : ops92_3[0]? = some p92_3_0 ∧ p92_3_0.dst = some 35 ∧ dstOk 50 p92_3_0 = true ∧ (∀ r, gd ops92_3 p92_3_0 r = some true) ∧ (∀ (f : RG) (h : List AObj) (H : Value → List AObj → Prop), opW prog (Good prog J) p92_3_0 f.r h H = (H (f.r 8) h)) := ⟨by kernel_rfl, by kernel_rfl, by kernel_rfl, fun _ => by kernel_rfl, fun _ _ _ => by kernel_rfl⟩
noncomputable def p92_3_1 : Oper := opGet ops92_3 1
theorem o92_3_1 {J : JT} : ops92_3[1]? = some p92_3_1 ∧ p92_3_1.dst = some 36 ∧ dstOk 50 p92_3_1 = true ∧ (∀ r, gd ops92_3 p92_3_1 r = some true) ∧ (∀ (f : RG) (h : List AObj) (H : Value → List AObj → Prop), opW prog (Good prog J) p92_3_1 f.r h H = (H (f.r 11) h)) := ⟨by kernel_rfl, by kernel_rfl, by kernel_rfl, fun _ => by kernel_rfl, fun _ _ _ => by kernel_rfl⟩
noncomputable def p92_3_2 : Oper := opGet ops92_3 2
theorem o92_3_2 {J : JT} : ops92_3[2]? = some p92_3_2 ∧ p92_3_2.dst = none ∧ dstOk 50 p92_3_2 = true ∧ (∀ r, gd ops92_3 p92_3_2 r = some true) ∧ (p92_3_2.op = (Go.Op.send (Go.Operand.tmp 35) (Go.Operand.tmp 36))) := ⟨by kernel_rfl, by kernel_rfl, by kernel_rfl, fun _ => by kernel_rfl, by kernel_rfl⟩
noncomputable def ops92_4 : Array Oper := opsAt [1, 1, 1, 1, 0] (codeOf f92)
theorem z92_4 : ops92_4.size = 2 := by kernel_rfl
noncomputable def p92_4_0 : Oper := opGet ops92_4 0
theorem o92_4_0 {J : JT} : ops92_4[0]? = some p92_4_0 ∧ p92_4_0.dst = some 38 ∧ dstOk 50 p92_4_0 = true ∧ (∀ r, gd ops92_4 p92_4_0 r = some true) ∧ (∀ (f : RG) (h : List AObj) (H : Value → List AObj → Prop), opW prog (Good prog J) p92_4_0 f.r h H = (H (f.r 8) h)) := ⟨by kernel_rfl, by kernel_rfl, by kernel_rfl, fun _ => by kernel_rfl, fun _ _ _ => by kernel_rfl⟩
noncomputable def p92_4_1 : Oper := opGet ops92_4 1
theorem o92_4_1 {J : JT} : ops92_4[1]? = some p92_4_1 ∧ p92_4_1.dst = none ∧ dstOk 50 p92_4_1 = true ∧ (∀ r, gd ops92_4 p92_4_1 r = some true) ∧ (p92_4_1.op = (Go.Op.call { callee := (Go.Callee.builtin Go.Builtin.close), args := #[(Go.Operand.tmp 38)], argTypes := #[138] })) := ⟨by kernel_rfl, by kernel_rfl, by kernel_rfl, fun _ => by kernel_rfl, by kernel_rfl⟩
noncomputable def ops92_5 : Array Oper := opsAt [1, 1, 1, 1, 1, 1, 0, 1, 0, 0, 0] (codeOf f92)
theorem z92_5 : ops92_5.size = 2 := by kernel_rfl
noncomputable def p92_5_0 : Oper := opGet ops92_5 0
theorem o92_5_0 {J : JT} : ops92_5[0]? = some p92_5_0 ∧ p92_5_0.dst = some 42 ∧ dstOk 50 p92_5_0 = true ∧ (∀ r, gd ops92_5 p92_5_0 r = some true) ∧ (p92_5_0.op = (Go.Op.recv 138 (Go.Operand.tmp 41) true)) := ⟨by kernel_rfl, by kernel_rfl, by kernel_rfl, fun _ => by kernel_rfl, by kernel_rfl⟩
noncomputable def p92_5_1 : Oper := opGet ops92_5 1
theorem o92_5_1 {J : JT} : ops92_5[1]? = some p92_5_1 ∧ p92_5_1.dst = some 43 ∧ dstOk 50 p92_5_1 = true ∧ (∀ r, gd ops92_5 p92_5_1 r = some true) ∧ (∀ (f : RG) (h : List AObj) (H : Value → List AObj → Prop), opW prog (Good prog J) p92_5_1 f.r h H = (aExt (f.r 42) 1 fun v1 =>
H v1 h)) := ⟨by kernel_rfl, by kernel_rfl, by kernel_rfl, fun _ => by kernel_rfl, fun _ _ _ => by kernel_rfl⟩
def pl92t : Plans := [(1, false, .take 1 (.take 2 (.alt 0 true (.alt 3 false (.last 4 true (.last 5 true (.take 6 (.fin)))) (.last 4 true (.alt 3 false (.last 5 true (.take 6 (.fin))) (.last 5 true (.last 3 false (.take 6 (.fin))))))) (.alt 3 false (.alt 0 true (.last 4 true (.last 5 true (.take 6 (.fin)))) (.last 4 true (.last 0 true (.last 5 true (.take 6 (.fin)))))) (.last 4 true (.alt 0 true (.alt 3 false (.last 5 true (.take 6 (.fin))) (.last 5 true (.last 3 false (.take 6 (.fin))))) (.last 3 false (.last 0 true (.last 5 true (.take 6 (.fin)))))))))))]
def ct92t : Cuts := .bin (.go) (.bin (.go) (.bin (.go) (.bin (.go) (.bin (.go) (.bin (.go) (.bin (.go) (.cut (.go))))))))
theorem pok92t : plansOk prog pl92t (codeOf f92) = true := by kernel_rfl
theorem s92t_1 {f : RG} : W prog J 50 n0 92 (subC [1, 1, 1, 1, 1, 1, 1] (codeOf f92)) f h (contX pl92t prog J 50 n0 92 ct92t [1, 1, 1, 1, 1, 1, 1] (codeOf f92) [] (RetQ prog [.tmp 6] n0 K)) =
(retL n0 K f.ds [(f.r 12)] h) := sub_eq pok92t ct92t (by kernel_rfl)
end
section
variable {main : Bool} {J : JT} {n0 : Nat} {h : List AObj} {K : Value → List AObj → Prop}
theorem at110 : prog.funcs[110]? = some f110 := by kernel_rfl
theorem body110 : f110.body = some (codeOf f110) := by kernel_rfl
theorem q110_1 {f : RG} {fr : FuncId} {Q : QT} : W prog J 28 n0 fr (subC [0] (codeOf f110)) f h Q =
(Q .normal (RG.p f 5 (Value.int .u64 0)) h) := by kernel_rfl
theorem q110_2 {f : RG} {fr : FuncId} {Q : QT} : W prog J 28 n0 fr (subC [1, 0, 0] (codeOf f110)) f h Q =
(aLoad false 1 (f.r 0) h fun v1 =>
aLenS v1 fun v2 =>
Q .normal (RG.p (RG.p (RG.p f 8 v1) 9 v2) 10 (vint 0)) h) := by kernel_rfl
theorem q110_3 {f : RG} {fr : FuncId} {Q : QT} : W prog J 28 n0 fr (subC [1, 0, 1, 0, 0, 0] (codeOf f110)) f h Q =
(aBin prog .lss 3 (f.r 10) (f.r 9) fun v1 =>
Q .normal (RG.p f 11 v1) h) := by kernel_rfl
theorem q110_4 {f : RG} {fr : FuncId} {Q : QT} : W prog J 28 n0 fr (subC [1, 0, 1, 0, 0, 1, 0] (codeOf f110)) f h Q =
(cnd (f.r 11)
(Q .normal f h)
(Q (.exit 0) f h)) := by kernel_rfl
theorem q110_5 {f : RG} {fr : FuncId} {Q : QT} : W prog J 28 n0 fr (subC [1, 0, 1, 0, 0, 1, 1, 0] (codeOf f110)) f h Q =
(aIdx 1 (f.r 8) (f.r 10) fun v1 =>
aLoad false 1 v1 h fun v2 =>
aLoad false 1 (f.r 1) h fun v3 =>
aIdx 1 v3 v2 fun v4 =>
aLoad false 1 v4 h fun v5 =>
aBin prog .or 101 (f.r 5) v5 fun v6 =>
Q .normal (RG.p (RG.p (RG.p (RG.p (RG.p (RG.p (RG.p (RG.p (RG.p (RG.p f 12 v1) 13 v2) 7 v2) 14 (f.r 5)) 15 v3) 16 v2) 17 v4) 18 v5) 19 v6) 5 v6) h) := by kernel_rfl
theorem q110_6 {f : RG} {fr : FuncId} {Q : QT} : W prog J 28 n0 fr (subC [1, 0, 1, 0, 0, 1, 1, 1] (codeOf f110)) f h Q =
(aBin prog .add 3 (f.r 10) (vint 1) fun v1 =>
Q .normal (RG.p (RG.p f 20 v1) 10 v1) h) := by kernel_rfl
theorem q110_7 {f : RG} {fr : FuncId} {Q : QT} : W prog J 28 n0 fr (subC [1, 1, 0] (codeOf f110)) f h Q =
(aLoad true 6 (f.r 2) h fun v1 =>
Good prog J 95 [v1] h fun v2 h3 =>
Good prog J 74 [v2, (f.r 5)] h3 fun v4 h5 =>
Q .normal (RG.p (RG.p (RG.p (RG.p f 21 v1) 22 v2) 23 (f.r 5)) 24 v4) h5) := by kernel_rfl
noncomputable def ops110_1 : Array Oper := opsAt [1, 1, 1, 0] (codeOf f110)
theorem r110_1 : subC [1, 1, 1, 0] (codeOf f110) = .region 7 ops110_1 false := by kernel_rfl
theorem z110_1 : ops110_1.size = 3 := by kernel_rfl
noncomputable def p110_1_0 : Oper := opGet ops110_1 0
theorem o110_1_0 {J : JT} : ops110_1[0]? = some p110_1_0 ∧ p110_1_0.dst = some 25 ∧ dstOk 28 p110_1_0 = true ∧ (∀ r, gd ops110_1 p110_1_0 r = some true) ∧ (∀ (f : RG) (h : List AObj) (H : Value → List AObj → Prop), opW prog (Good prog J) p110_1_0 f.r h H = (aLoad false 1 (f.r 3) h fun v1 =>
H v1 h)) := ⟨by kernel_rfl, by kernel_rfl, by kernel_rfl, fun _ => by kernel_rfl, fun _ _ _ => by kernel_rfl⟩
noncomputable def p110_1_1 : Oper := opGet ops110_1 1
theorem o110_1_1 {J : JT} : ops110_1[1]? = some p110_1_1 ∧ p110_1_1.dst = some 26 ∧ dstOk 28 p110_1_1 = true ∧ (∀ r, gd ops110_1 p110_1_1 r = some true) ∧ (∀ (f : RG) (h : List AObj) (H : Value → List AObj → Prop), opW prog (Good prog J) p110_1_1 f.r h H = (aLoad false 1 (f.r 4) h fun v1 =>
H v1 h)) := ⟨by kernel_rfl, by kernel_rfl, by kernel_rfl, fun _ => by kernel_rfl, fun _ _ _ => by kernel_rfl⟩
noncomputable def p110_1_2 : Oper := opGet ops110_1 2
theorem o110_1_2 {J : JT} : ops110_1[2]? = some p110_1_2 ∧ p110_1_2.dst = none ∧ dstOk 28 p110_1_2 = true ∧ (∀ r, gd ops110_1 p110_1_2 r = some true) ∧ (p110_1_2.op = (Go.Op.send (Go.Operand.tmp 25) (Go.Operand.tmp 26))) := ⟨by kernel_rfl, by kernel_rfl, by kernel_rfl, fun _ => by kernel_rfl, by kernel_rfl⟩
noncomputable def ops110_2 : Array Oper := opsAt [1, 1, 1, 1] (codeOf f110)
theorem r110_2 : subC [1, 1, 1, 1] (codeOf f110) = .region 8 ops110_2 false := by kernel_rfl
theorem z110_2 : ops110_2.size = 2 := by kernel_rfl
noncomputable def p110_2_0 : Oper := opGet ops110_2 0
theorem o110_2_0 {J : JT} : ops110_2[0]? = some p110_2_0 ∧ p110_2_0.dst = some 27 ∧ dstOk 28 p110_2_0 = true ∧ (∀ r, gd ops110_2 p110_2_0 r = some true) ∧ (∀ (f : RG) (h : List AObj) (H : Value → List AObj → Prop), opW prog (Good prog J) p110_2_0 f.r h H = (aLoad false 1 (f.r 3) h fun v1 =>
H v1 h)) := ⟨by kernel_rfl, by kernel_rfl, by kernel_rfl, fun _ => by kernel_rfl, fun _ _ _ => by kernel_rfl⟩
noncomputable def p110_2_1 : Oper := opGet ops110_2 1
theorem o110_2_1 {J : JT} : ops110_2[1]? = some p110_2_1 ∧ p110_2_1.dst = none ∧ dstOk 28 p110_2_1 = true ∧ (∀ r, gd ops110_2 p110_2_1 r = some true) ∧ (p110_2_1.op = (Go.Op.send (Go.Operand.tmp 27) (Go.Operand.const (Go.Value.int Go.IntKind.i64 (-1))))) := ⟨by kernel_rfl, by kernel_rfl, by kernel_rfl, fun _ => by kernel_rfl, by kernel_rfl⟩
end
end Go.Proofs.Ytdgpacdknpahnaa
