/- Parts of the proof, 2. No conditions. -/
import Derived.Test.YthnccaajpdnndaaK1
import Derived.Conc.Listed
import Derived.Laws.Sem
import Derived.Orders
import Derived.Test.YthnccaajpdnndaaProg
set_option linter.unusedSimpArgs false
set_option linter.unusedVariables false
namespace Go.Proofs.Ythnccaajpdnndaa
open Go.Conc
section
variable {P : Program} {ρ : Env} {h : List AObj} {FC : Frm} {w : World} {ft : Foot}
theorem one_ne {v : Value} (h : v.cells.toList.all one = true) : v ≠ unk := by
  rintro rfl
  simp [unk, Value.cells, one] at h
theorem aFill_parts {z : List Value} {ps : List (Nat × Value)} {t : TypeId} {l : List (Nat × Nat × Value)} {K : List Value → Prop} (hp : places P t ps = some l) (hK : aFill z l K) : ∀ p ∈ ps, p.2 ≠ unk := by
  have h1 := aFill_one l z hK
  intro p hpm
  have key : ∃ q ∈ l, q.2.2 = p.2 := by
    unfold places at hp
    split at hp
    · rename_i fs hu
      cases hb : fs.toList.all fun f => (P.info? f.type).isSome with
      | false => rw [hb] at hp; cases hp
      | true =>
        rw [hb] at hp
        simp only [cond_true] at hp
        have h2 := mapM_some ps l hp
        have h3 : (match fs[p.1]? with
          | some f => (tk P f.type).map fun x => (f.offset, x.2, p.2)
          | none => none) ∈ l.map some := by
          rw [← h2]
          exact List.mem_map.2 ⟨p, hpm, rfl⟩
        obtain ⟨q, hq, he⟩ := List.mem_map.1 h3
        refine ⟨q, hq, ?_⟩
        split at he
        · obtain ⟨x, _, hx⟩ := Option.map_eq_some_iff.1 he.symm
          rw [← hx]
        · cases he
    · split at hp
      · simp only [Option.some.injEq] at hp
        subst hp
        exact ⟨_, List.mem_map.2 ⟨p, hpm, rfl⟩, rfl⟩
      · cases hp
    · split at hp
      · simp only [Option.some.injEq] at hp
        subst hp
        exact ⟨_, List.mem_map.2 ⟨p, hpm, rfl⟩, rfl⟩
      · cases hp
    · cases hp
  obtain ⟨q, hq, he⟩ := key
  rw [← he]
  exact h1 q hq
theorem parts_ne {r : Nat → Value} {ps : Array (Nat × Operand)} {z : List Value} {t : TypeId} {l : List (Nat × Nat × Value)} {K : List Value → Prop} (hp : places P t (ps.toList.map fun (i, x) => (i, ev r x)) = some l) (hK : aFill z l K) :
    ∀ p ∈ ps.toList, ev r p.2 ≠ unk := fun p hpm => aFill_parts hp hK (p.1, ev r p.2) (List.mem_map.2 ⟨p, hpm, rfl⟩)
theorem kOk_ne {n : Nat} {t : TypeId} {v : Value} (h : kOk P n t v = true) : v ≠ unk := by
  rintro rfl
  cases n with
  | zero => cases h
  | succ n =>
    unfold kOk at h
    cases hu : P.underlying t with
    | none => rw [hu] at h; simp at h
    | some d => rw [hu] at h; cases d <;> simp [unk] at h
theorem build_ty {t : TypeId} (h : aggT P t = true) : (∃ fs, P.underlying t = some (.struct fs)) ∨ ∃ m e, P.underlying t = some (.array m e) := by
  unfold aggT at h
  split at h
  · rename_i d hd
    cases d <;> first | (cases h; done) | exact .inl ⟨_, hd⟩ | exact .inr ⟨_, _, hd⟩
  · cases h
theorem minmax_ne (mx : Bool) : ∀ (l : List Operand) (x : Value) (f : Operand → Value) {K : Value → Prop}, (match mx with | true => aMax x (l.map f) K | false => aMin x (l.map f) K) → (l ≠ [] → x ≠ unk) ∧ ∀ y ∈ l, f y ≠ unk
  | [], _, _, _, _ => ⟨fun h => absurd rfl h, fun y hy => by cases hy⟩
  | y :: l, x, f, K, hK => by
    cases mx with
    | true =>
      simp only [List.map_cons, aMax] at hK
      split at hK
      · rename_i k a k' b hy
        have := minmax_ne true l _ f hK
        refine ⟨fun _ => by simp [unk], fun z hz => ?_⟩
        rcases List.mem_cons.1 hz with rfl | hz
        · rw [hy]; simp [unk]
        · exact this.2 z hz
      · exact hK.elim
    | false =>
      simp only [List.map_cons, aMin] at hK
      split at hK
      · rename_i k a k' b hy
        have := minmax_ne false l _ f hK
        refine ⟨fun _ => by simp [unk], fun z hz => ?_⟩
        rcases List.mem_cons.1 hz with rfl | hz
        · rw [hy]; simp [unk]
        · exact this.2 z hz
      · exact hK.elim
theorem aop_sound {a : Act} {r : Nat → Value} (H : HRel ρ h FC w ft) (hr : RegRel h.length ρ r a.tmps) (o : Oper) {K : Value → List AObj → Prop} (hK : aop P o.op r h K) {Q : Next → World → Prop}
    (hQ : ∀ v h' ρ' w' nx, K v h' → Goes1 ρ h FC w ft ρ' h' w' → NxRel h'.length ρ' v nx → Q nx w') : RunsTo P (EvOk ft) (execOp a.eval o) w Q := by
  have er := fun x => ev_rel hr x
  have qx : ∀ v c, K v h → VRel h.length ρ v c → Q (.value c) w := fun v c hk hv => hQ v h ρ w _ hk (Goes1.refl H) (.inr ⟨c, rfl, hv⟩)
  have qv : ∀ v, K v h → VOk h.length v → Q (.value (ren ρ v)) w := fun v hk hv => qx v _ hk (.inr ⟨hv, rfl⟩)
  have qn : ∀ v h' ρ' w', K v h' → VOk h'.length v → Goes1 ρ h FC w ft ρ' h' w' → Q (.value (ren ρ' v)) w' := fun v h' ρ' w' hk hv g => hQ v h' ρ' w' _ hk g (.inr ⟨_, rfl, .inr ⟨hv, rfl⟩⟩)
  have val : ∀ {x : Operand}, ev r x ≠ unk → VOk h.length (ev r x) ∧ a.eval x = ren ρ (ev r x) := fun hx => (er _).val hx
  obtain ⟨dst, op, ty, pos, after, guard⟩ := o
  unfold execOp
  cases op <;> simp only [aop] at hK <;> dsimp only
  case move x => exact RunsTo.pure (qx _ _ hK (er x))
  case assign x => exact RunsTo.pure (qx _ _ hK (er x))
  case pick c x y =>
    split at hK
    · rename_i t hc
      have := (val (x := c) (by rw [hc]; simp [unk])).2
      rw [hc] at this
      rw [this]
      simp only [ren, asBool]
      refine RunsTo.bind (RunsTo.pure (RunsTo.pure ?_))
      cases t with
      | true => exact qx _ _ hK (er x)
      | false => exact qx _ _ hK (er y)
    · exact hK.elim
  case alloc t =>
    split at hK
    · rename_i l hz
      exact RunsTo.bind (sound_alloc H hz hK fun v h' ρ' w' hk hv g => RunsTo.pure (qn v h' ρ' w' hk hv g))
    · exact hK.elim
  case box t x =>
    obtain ⟨h1, h2⟩ := val (x := x) (one_ne hK.1)
    rw [h2]
    exact RunsTo.bind (sound_box H h1 hK fun v h' ρ' w' hk hv g => RunsTo.pure (qn v h' ρ' w' hk hv g))
  case build t ps =>
    split at hK
    · rename_i z l hz hp
      cases hag : aggT P t with
      | false => rw [hag] at hK; exact hK.elim
      | true =>
      rw [hag] at hK
      simp only [cond_true] at hK
      have hne : ∀ p ∈ ps.toList, ev r p.2 ≠ unk := parts_ne hp hK
      have hty := build_ty hag
      refine RunsTo.bind (sound_build hz hp (fun p hp' => ?_) hty hK _ (parts_rel hr ps hne) fun v hk hv => RunsTo.pure (qv v hk hv))
      obtain ⟨q, hq, rfl⟩ := List.mem_map.1 hp'
      exact (val (hne q hq)).1
    · exact hK.elim
  case buildSlice t n ps =>
    split at hK
    · rename_i e hu
      split at hK
      · rename_i z g s l hz ht hp
        obtain ⟨⟨c1, c2, c3⟩, hK⟩ := hK
        have hne : ∀ p ∈ ps.toList, ev r p.2 ≠ unk := parts_ne hp hK
        refine RunsTo.bind (sound_buildSlice H hu hz ht hp (fun p hp' => ?_) c1 c2 c3 hK _ (parts_rel hr ps hne) fun v h' ρ' w' hk hv g => RunsTo.pure (qn v h' ρ' w' hk hv g))
        obtain ⟨q, hq, rfl⟩ := List.mem_map.1 hp'
        exact (val (hne q hq)).1
      · exact hK.elim
    · exact hK.elim
  case load t x =>
    split at hK
    · rename_i g s ht
      have hx : ev r x ≠ unk := by
        intro e
        rw [e] at hK
        exact hK
      rw [(val hx).2]
      exact RunsTo.bind (sound_load H ht hK fun v hk hv => RunsTo.pure (qv v hk hv))
    · exact hK.elim
  case store t x y =>
    split at hK
    · rename_i g s ht
      have hx : ev r x ≠ unk := by
        intro e
        rw [e] at hK
        exact hK
      have hy : ev r y ≠ unk := by
        intro e
        rw [e] at hK
        unfold aStore at hK
        split at hK
        · split at hK
          · have := hK.2.1
            simp [unk, Value.cells, one] at this
          · exact hK
        · exact hK
      rw [(val hx).2, (val hy).2]
      exact RunsTo.bind (sound_store H ht (val hy).1 hK fun h' w' hk g => RunsTo.pure (hQ _ h' ρ w' _ hk g (.inl ⟨rfl, rfl⟩)))
    · exact hK.elim
  case nilCheck x =>
    unfold aNil at hK
    split at hK
    · rename_i ad hx
      have := val (x := x) (by rw [hx]; simp [unk])
      rw [hx] at this
      rw [this.2]
      simp only [ren]
      have := qv _ hK this.1
      exact RunsTo.pure (by simpa [ren] using this)
    · rename_i g a b hx
      have := val (x := x) (by rw [hx]; simp [unk])
      rw [hx] at this
      rw [this.2]
      simp only [ren, renFn]
      have := qv _ hK this.1
      exact RunsTo.pure (by simpa [ren, renFn] using this)
    · rename_i l a b hx
      have := val (x := x) (by rw [hx]; simp [unk])
      rw [hx] at this
      rw [this.2]
      simp only [ren, renFn]
      have := qv _ hK this.1
      exact RunsTo.pure (by simpa [ren, renFn] using this)
    · exact hK.elim
  case binOp op t x y yt => exact RunsTo.bind (sound_bin (er x) (er y) hK fun v hk hv => RunsTo.pure (qv v hk hv))
  case unOp op t x =>
    unfold aUn at hK
    split at hK
    · rename_i b hx
      have := (val (x := x) (by rw [hx]; simp [unk])).2
      rw [hx] at this
      rw [this]
      simp only [ren, Op.unary]
      have := qv _ hK (by simp [VOk])
      exact RunsTo.bind (RunsTo.pure (RunsTo.pure (by simpa [ren] using this)))
    · rename_i k n hx
      have := (val (x := x) (by rw [hx]; simp [unk])).2
      rw [hx] at this
      rw [this]
      simp only [ren, Op.unary]
      have := qv _ hK (by simp [VOk])
      exact RunsTo.bind (RunsTo.pure (RunsTo.pure (by simpa [ren] using this)))
    · exact hK.elim
  case convert s d x =>
    split at hK
    · rename_i ks hs
      unfold aConv at hK
      split at hK
      · rename_i k k2 n hd hx
        have := (val (x := x) (by rw [hx]; simp [unk])).2
        rw [hx] at this
        rw [this]
        simp only [ren]
        have := qv _ hK (by simp [VOk])
        refine RunsTo.bind ?_
        unfold convert
        refine RunsTo.bind (RunsTo.underlying hs (RunsTo.bind (RunsTo.underlying hd ?_)))
        simp only [Conv.intToInt]
        exact RunsTo.pure (RunsTo.pure (by simpa [ren] using this))
      · exact hK.elim
    · rename_i e hs
      split at hK
      · rename_i hd he
        have hx : ev r x ≠ unk := by
          intro e
          rw [e] at hK
          exact hK
        rw [(val hx).2]
        exact RunsTo.bind (sound_b2s H hs hd he hK fun v hk hv => RunsTo.pure (qv v hk hv))
      · exact hK.elim
    · exact hK.elim
  case index t x i =>
    split at hK
    · rename_i hu
      have hne : ev r x ≠ unk ∧ ev r i ≠ unk := by
        unfold aIdxStr at hK
        split at hK
        · rename_i h1 h2
          exact ⟨by rw [h1]; simp [unk], by rw [h2]; simp [unk]⟩
        · exact hK.elim
      rw [(val hne.1).2, (val hne.2).2]
      exact RunsTo.bind (sound_idxStr hu hK fun v hk hv => RunsTo.pure (qv v hk hv))
    · rename_i n e hu
      split at hK
      · rename_i g s ht
        have hne : ev r x ≠ unk ∧ ev r i ≠ unk := by
          unfold aIdxV at hK
          split at hK
          · rename_i h2
            have h3 := hK.2
            unfold aField at h3
            split at h3
            · rename_i h1
              exact ⟨by rw [h1]; simp [unk], by rw [h2]; simp [unk]⟩
            · exact h3.elim
          · exact hK.elim
        rw [(val hne.1).2, (val hne.2).2]
        exact RunsTo.bind (sound_idxV hu ht (val hne.1).1 hK fun v hk hv => RunsTo.pure (qv v hk hv))
      · exact hK.elim
    · exact hK.elim
  case makeFunc fn first cap =>
    cases fn with
    | func f =>
      simp only at hK
      obtain ⟨h1, h2⟩ := hK
      have hall : ∀ x ∈ first.toList ++ cap.toList, ev r x ≠ unk := fun x hx => not_undef_of_one (List.all_eq_true.1 h1 x hx)
      have hmap : ∀ (l : List Operand), (∀ x ∈ l, ev r x ≠ unk) → l.map a.eval = (l.map (ev r)).map (ren ρ) ∧ LOk h.length (l.map (ev r)) := by
        intro l hl
        refine ⟨by rw [List.map_map]; exact List.map_congr_left fun x hx => (val (hl x hx)).2, (LOk_iff _).2 fun v hv => ?_⟩
        obtain ⟨x, hx, rfl⟩ := List.mem_map.1 hv
        exact (val (hl x hx)).1
      obtain ⟨f1, f2⟩ := hmap first.toList fun x hx => hall x (List.mem_append.2 (.inl hx))
      obtain ⟨g1, g2⟩ := hmap cap.toList fun x hx => hall x (List.mem_append.2 (.inr hx))
      have e1 : first.map a.eval = ⟨(first.toList.map (ev r)).map (ren ρ)⟩ := by rw [← f1]; cases first; simp
      have e2 : cap.map a.eval = ⟨(cap.toList.map (ev r)).map (ren ρ)⟩ := by rw [← g1]; cases cap; simp
      rw [e1, e2]
      have := qv _ h2 (by simp only [VOk, FnOk, AOk]; exact ⟨trivial, f2, g2⟩)
      unfold Instr.makeFunc
      exact RunsTo.bind (RunsTo.pure (RunsTo.pure (by simpa [ren, renFn, renA_mk] using this)))
    | _ => exact hK.elim
  case makeMap t res =>
    cases res with
    | none =>
      simp only at hK
      exact RunsTo.bind (sound_makeMap H hK fun v h' ρ' w' hk hv g => RunsTo.pure (qn v h' ρ' w' hk hv g))
    | some _ => exact hK.elim
  case makeChan t s =>
    split at hK
    · rename_i dd e hu
      split at hK
      · rename_i i hi
        have hne : ev r s ≠ unk := by
          have := hK.2
          unfold aMkC at this
          split at this
          · rename_i hs
            rw [hs]; simp [unk]
          · exact this.elim
        exact RunsTo.bind (sound_makeChan H ⟨_, hu⟩ hi hK.1 (val hne).2 hK.2 fun v h' ρ' w' hk hv g => RunsTo.pure (qn v h' ρ' w' hk hv g))
      · exact hK.elim
    · exact hK.elim
  case makeSlice t l c =>
    split at hK
    · rename_i e hu
      split at hK
      · rename_i z g s i hz ht hi
        obtain ⟨⟨c1, c2⟩, hK⟩ := hK
        have hne : ev r l ≠ unk ∧ ev r c ≠ unk := by
          unfold aMkS at hK
          split at hK
          · rename_i hl hc
            exact ⟨by rw [hl]; simp [unk], by rw [hc]; simp [unk]⟩
          · exact hK.elim
        rw [(val hne.1).2, (val hne.2).2]
        exact RunsTo.bind (sound_makeSlice H hu hz ht hi c1 c2 hK fun v h' ρ' w' hk hv g => RunsTo.pure (qn v h' ρ' w' hk hv g))
      · exact hK.elim
    · exact hK.elim
  case slice t x lo hi mx =>
    cases mx with
    | none =>
      simp only at hK
      have bne : ∀ {d : Nat} {o : Option Operand} {l : Nat}, bnd d (o.map (ev r)) = some l → o.map a.eval = (o.map (ev r)).map (ren ρ) := by
        intro d o l hb
        cases o with
        | none => rfl
        | some y =>
          have hy : ev r y ≠ unk := by
            intro e
            rw [Option.map_some, e] at hb
            simp [bnd, unk] at hb
          simp only [Option.map_some]
          rw [(val hy).2]
      have hboth : ∀ {d : Nat} {l u : Nat}, bnd 0 (lo.map (ev r)) = some l → bnd d (hi.map (ev r)) = some u → lo.map a.eval = (lo.map (ev r)).map (ren ρ) ∧ hi.map a.eval = (hi.map (ev r)).map (ren ρ) := fun h1 h2 => ⟨bne h1, bne h2⟩
      split at hK
      · rename_i hu
        have hne : ev r x ≠ unk ∧ (lo.map a.eval = (lo.map (ev r)).map (ren ρ) ∧ hi.map a.eval = (hi.map (ev r)).map (ren ρ)) := by
          unfold aSlStr at hK
          split at hK
          · rename_i h1
            split at hK
            · rename_i h2 h3
              exact ⟨by rw [h1]; simp [unk], hboth h2 h3⟩
            · exact hK.elim
          · exact hK.elim
        simp only [Option.map_none]
        rw [(val hne.1).2, hne.2.1, hne.2.2]
        exact RunsTo.bind (sound_slStr hu hK fun v hk hv => RunsTo.pure (qv v hk hv))
      · rename_i e hu
        split at hK
        · rename_i g s ht
          have hne : ev r x ≠ unk ∧ (lo.map a.eval = (lo.map (ev r)).map (ren ρ) ∧ hi.map a.eval = (hi.map (ev r)).map (ren ρ)) := by
            unfold aSl2 at hK
            split at hK
            · rename_i h1
              split at hK
              · rename_i h2 h3
                exact ⟨by rw [h1]; simp [unk], hboth h2 h3⟩
              · exact hK.elim
            · exact hK.elim
          simp only [Option.map_none]
          rw [(val hne.1).2, hne.2.1, hne.2.2]
          exact RunsTo.bind (sound_sl2 H hu ht (val hne.1).1 hK fun v hk hv => RunsTo.pure (qv v hk hv))
        · exact hK.elim
      · rename_i n e hu
        split at hK
        · rename_i g s ht
          have hne : ev r x ≠ unk ∧ (lo.map a.eval = (lo.map (ev r)).map (ren ρ) ∧ hi.map a.eval = (hi.map (ev r)).map (ren ρ)) := by
            unfold aSlA at hK
            split at hK
            · rename_i h1
              split at hK
              · rename_i h2 h3
                exact ⟨by rw [h1]; simp [unk], hboth h2 h3⟩
              · exact hK.elim
            · exact hK.elim
          simp only [Option.map_none]
          rw [(val hne.1).2, hne.2.1, hne.2.2]
          exact RunsTo.bind (sound_slA hu ht (val hne.1).1 hK fun v hk hv => RunsTo.pure (qv v hk hv))
        · exact hK.elim
      · exact hK.elim
    | some mx =>
    cases lo with
    | some _ => exact hK.elim
    | none =>
    cases hi with
    | none => exact hK.elim
    | some hi =>
      simp only at hK
      split at hK
      · rename_i e hu
        split at hK
        · rename_i i hi0
          have hne : ev r x ≠ unk ∧ ev r hi ≠ unk ∧ ev r mx ≠ unk := by
            unfold aSl3 at hK
            split at hK
            · rename_i h1 h2 h3
              exact ⟨by rw [h1]; simp [unk], by rw [h2]; simp [unk], by rw [h3]; simp [unk]⟩
            · exact hK.elim
          simp only [Option.map_none, Option.map_some]
          rw [(val hne.1).2, (val hne.2.1).2, (val hne.2.2).2]
          refine RunsTo.bind ?_
          unfold Instr.sliceAt
          refine RunsTo.bind (RunsTo.underlying hu ?_)
          exact sound_slice3 H hu hi0 (val hne.1).1 hK fun v hk hv => RunsTo.pure (qv v hk hv)
        · exact hK.elim
      · exact hK.elim
  case fieldAddr t x f =>
    split at hK
    · rename_i off hf
      have hx : ev r x ≠ unk := by
        intro e
        rw [e] at hK
        exact hK
      rw [(val hx).2]
      exact RunsTo.bind (sound_fieldAddr hf (val hx).1 hK fun v hk hv => RunsTo.pure (qv v hk hv))
    · exact hK.elim
  case field t x f =>
    split at hK
    · rename_i fs hu
      split at hK
      · rename_i fld hf
        split at hK
        · rename_i g s ht
          have hx : ev r x ≠ unk := by
            intro e
            rw [e] at hK
            exact hK
          rw [(val hx).2]
          exact RunsTo.bind (sound_field hu hf ht (val hx).1 hK fun v hk hv => RunsTo.pure (qv v hk hv))
        · exact hK.elim
      · exact hK.elim
    · exact hK.elim
  case indexAddr t x i =>
    split at hK
    · rename_i e hu
      split at hK
      · rename_i g s ht
        have hne : ev r x ≠ unk ∧ ev r i ≠ unk := by
          unfold aIdx at hK
          split at hK
          · rename_i h1 h2
            exact ⟨by rw [h1]; simp [unk], by rw [h2]; simp [unk]⟩
          · exact hK.elim
        rw [(val hne.1).2, (val hne.2).2]
        exact RunsTo.bind (sound_index hu ht (val hne.1).1 hK fun v hk hv => RunsTo.pure (qv v hk hv))
      · exact hK.elim
    · rename_i n e hu
      split at hK
      · rename_i g s ht
        have hne : ev r x ≠ unk ∧ ev r i ≠ unk := by
          unfold aIdxA at hK
          split at hK
          · rename_i h1 h2
            exact ⟨by rw [h1]; simp [unk], by rw [h2]; simp [unk]⟩
          · exact hK.elim
        rw [(val hne.1).2, (val hne.2).2]
        exact RunsTo.bind (sound_indexA hu ht (val hne.1).1 hK fun v hk hv => RunsTo.pure (qv v hk hv))
      · exact hK.elim
    · exact hK.elim
  case lookup t m k ok =>
    have hne : ev r m ≠ unk ∧ ev r k ≠ unk := by
      unfold aLook at hK
      split at hK
      · rename_i h2
        refine ⟨by rw [h2]; simp [unk], ?_⟩
        split at hK
        · exact kOk_ne hK.1
        · exact hK.elim
      · exact hK.elim
    rw [(val hne.1).2, (val hne.2).2]
    exact RunsTo.bind (sound_lookup H hK fun v hk hv => RunsTo.pure (qv v hk hv))
  case mapUpdate t m k v =>
    obtain ⟨⟨hv1, hv2⟩, hK⟩ := hK
    cases hsk : skey P t with
    | true =>
      rw [hsk, cond_true] at hK
      have hne : ev r m ≠ unk ∧ ev r k ≠ unk := by
        unfold aUpdX at hK
        split at hK
        · rename_i h2
          refine ⟨by rw [h2]; simp [unk], ?_⟩
          split at hK
          · exact kOk_ne hK.1
          · exact hK.elim
        · exact hK.elim
      rw [(val hne.1).2, (val hne.2).2, (val (not_undef_of_one hv2)).2]
      exact RunsTo.bind (sound_updateX H hv1 hK fun h' w' hk g => RunsTo.pure (hQ _ h' ρ w' _ hk g (.inl ⟨rfl, rfl⟩)))
    | false =>
      rw [hsk, cond_false] at hK
      have hne : ev r m ≠ unk ∧ ev r k ≠ unk := by
        unfold aUpd at hK
        split at hK
        · rename_i h2
          refine ⟨by rw [h2]; simp [unk], ?_⟩
          split at hK
          · exact kOk_ne hK.1
          · exact hK.elim
        · exact hK.elim
      rw [(val hne.1).2, (val hne.2).2, (val (not_undef_of_one hv2)).2]
      exact RunsTo.bind (sound_update H hv1 hK fun h' w' hk g => RunsTo.pure (hQ _ h' ρ w' _ hk g (.inl ⟨rfl, rfl⟩)))
  case insert t m k v =>
    obtain ⟨⟨hv1, hv2⟩, hK⟩ := hK
    have hne : ev r m ≠ unk ∧ ev r k ≠ unk := by
      unfold aUpdX at hK
      split at hK
      · rename_i h2
        refine ⟨by rw [h2]; simp [unk], ?_⟩
        split at hK
        · exact kOk_ne hK.1
        · exact hK.elim
      · exact hK.elim
    rw [(val hne.1).2, (val hne.2).2, (val (not_undef_of_one hv2)).2]
    exact RunsTo.bind (sound_updateX H hv1 hK fun h' w' hk g => RunsTo.pure (hQ _ h' ρ w' _ hk g (.inl ⟨rfl, rfl⟩)))
  case range t x =>
    have hne : ev r x ≠ unk := by
      unfold aRange at hK
      split at hK
      · rename_i h2
        rw [h2]
        simp [unk]
      · exact hK.elim
    rw [(val hne).2]
    exact RunsTo.bind (sound_range H hK fun v h' ρ' w' hk hv g => RunsTo.pure (qn v h' ρ' w' hk hv g))
  case next x s =>
    cases s with
    | true => exact hK.elim
    | false =>
      simp only at hK
      have hne : ev r x ≠ unk := by
        unfold aNext at hK
        split at hK
        · rename_i h2
          rw [h2]
          simp [unk]
        · exact hK.elim
      rw [(val hne).2]
      exact RunsTo.bind (sound_next H hK fun v h' w' hk hv g => RunsTo.pure (qn v h' ρ w' hk hv g))
  case entry x =>
    have hne : ev r x ≠ unk := by
      unfold aEntry at hK
      split at hK
      · rename_i h2
        rw [h2]
        simp [unk]
      · exact hK.elim
    rw [(val hne).2]
    exact RunsTo.bind (sound_entry H hK fun v hk hv => RunsTo.pure (qv v hk hv))
  case extract t i =>
    unfold aExt at hK
    split at hK
    · rename_i a1 a2 l0 hx
      generalize hl0 : a1 :: a2 :: l0 = l at hx hK
      split at hK
      · rename_i v hv
        have hne : ev r t ≠ unk := by
          rw [hx]
          intro e
          simp only [unk, Value.tuple.injEq] at e
          have : l = [.tuple ⟨[]⟩] := by simpa using congrArg Array.toList e
          rw [← hl0] at this
          cases this
        have hva := val hne
        rw [hx] at hva
        rw [hva.2]
        simp only [ren, renA_mk, Instr.extract]
        have hok : VOk h.length v := by
          have := hva.1
          simp only [VOk, AOk] at this
          exact LOk_get this hv
        have hget : (Array.mk (l.map (ren ρ)))[i]? = some (ren ρ v) := by simp [hv]
        rw [hget]
        exact RunsTo.bind (RunsTo.pure (RunsTo.pure (qv _ hK hok)))
      · exact hK.elim
    · rename_i bb hx
      obtain ⟨rfl, hk⟩ := hK
      have hne : ev r t ≠ unk := by
        rw [hx]
        simp [unk]
      have hva := val hne
      rw [hx] at hva
      rw [hva.2]
      have e : ren ρ (.tuple ⟨[.bool bb]⟩) = .tuple ⟨[ren ρ (.bool bb)]⟩ := by simp only [ren, renA_mk, List.map]
      rw [e]
      exact RunsTo.bind (RunsTo.pure (RunsTo.pure (qv _ hk (by simp [VOk]))))
    · exact hK.elim
  case call c =>
    obtain ⟨callee, args, argTypes⟩ := c
    cases callee with
    | value f => exact hK.elim
    | invoke x m => exact hK.elim
    | builtin b =>
      obtain ⟨args⟩ := args
      obtain ⟨argTypes⟩ := argTypes
      simp only at hK
      unfold resolve
      simp only
      refine RunsTo.bind (RunsTo.pure ?_)
      unfold invoke builtin
      simp only
      split at hK
      · rename_i x t
        simp only [List.map_toArray, List.map_cons, List.map_nil]
        split at hK
        · rename_i hu
          have hx : ev r x ≠ unk := by
            intro e
            rw [e] at hK
            exact hK
          rw [(val hx).2]
          exact RunsTo.bind (sound_lenStr hu hK fun v hk hv => RunsTo.pure (qv v hk hv))
        · rename_i e hu
          have hx : ev r x ≠ unk := by
            intro e
            rw [e] at hK
            exact hK
          rw [(val hx).2]
          exact RunsTo.bind (sound_len hu hK fun v hk hv => RunsTo.pure (qv v hk hv))
        · rename_i e1 e2 hu
          have hx : ev r x ≠ unk := by
            intro e
            rw [e] at hK
            exact hK
          rw [(val hx).2]
          exact RunsTo.bind (sound_lenM (n := h.length) H hu hK fun v hk hv => RunsTo.pure (qv v hk hv))
        · rename_i n e hu
          exact RunsTo.bind (sound_lenArr hu hK fun v hk hv => RunsTo.pure (qv v hk hv))
        · exact hK.elim
      · rename_i x t
        simp only [List.map_toArray, List.map_cons, List.map_nil]
        split at hK
        · rename_i e hu
          have hx : ev r x ≠ unk := by
            intro e
            rw [e] at hK
            exact hK
          rw [(val hx).2]
          exact RunsTo.bind (sound_capS hu hK fun v hk hv => RunsTo.pure (qv v hk hv))
        · exact hK.elim
      · rename_i x l
        simp only [List.map_toArray, List.map_cons]
        obtain ⟨h1, h2⟩ := minmax_ne false l (ev r x) (fun x => ev r x) hK
        have hm : l.map a.eval = (l.map (ev r)).map (ren ρ) := by
          rw [List.map_map]
          exact List.map_congr_left fun y hy => (val (h2 y hy)).2
        by_cases hxu : ev r x = unk
        · cases l with
          | nil =>
            simp only [List.map_nil, aMin] at hK
            unfold Builtin.min_
            simp only
            exact RunsTo.bind (RunsTo.pure (RunsTo.pure (qx _ _ hK (er x))))
          | cons y l => exact absurd hxu (h1 (by simp))
        · rw [hm, (val hxu).2]
          unfold Builtin.min_
          simp only
          exact RunsTo.bind (minmax_run (n := h.length) false (l.map (ev r)) (ev r x) hK (val hxu).1 fun v hk hv => RunsTo.pure (qv v hk hv))
      · rename_i x l
        simp only [List.map_toArray, List.map_cons]
        obtain ⟨h1, h2⟩ := minmax_ne true l (ev r x) (fun x => ev r x) hK
        have hm : l.map a.eval = (l.map (ev r)).map (ren ρ) := by
          rw [List.map_map]
          exact List.map_congr_left fun y hy => (val (h2 y hy)).2
        by_cases hxu : ev r x = unk
        · cases l with
          | nil =>
            simp only [List.map_nil, aMax] at hK
            unfold Builtin.max_
            simp only
            exact RunsTo.bind (RunsTo.pure (RunsTo.pure (qx _ _ hK (er x))))
          | cons y l => exact absurd hxu (h1 (by simp))
        · rw [hm, (val hxu).2]
          unfold Builtin.max_
          simp only
          exact RunsTo.bind (minmax_run (n := h.length) true (l.map (ev r)) (ev r x) hK (val hxu).1 fun v hk hv => RunsTo.pure (qv v hk hv))
      · rename_i x y t u
        simp only [List.map_toArray, List.map_cons, List.map_nil]
        split at hK
        · rename_i e e2 hu hu2
          split at hK
          · rename_i z g s i hz ht hi
            obtain ⟨⟨c1, c2, c3, c4⟩, hK⟩ := hK
            have hne : ev r x ≠ unk ∧ ev r y ≠ unk := by
              unfold aApp at hK
              split at hK
              · rename_i h1 h2
                exact ⟨by rw [h1]; simp [unk], by rw [h2]; simp [unk]⟩
              · exact hK.elim
            rw [(val hne.1).2, (val hne.2).2]
            exact RunsTo.bind (sound_append H hu hu2 hz ht hi c1 c2 c3 c4 (val hne.1).1 hK fun v h' ρ' w' hk hv g => RunsTo.pure (qn v h' ρ' w' hk hv g))
          · exact hK.elim
        · rename_i e e2 hu hu2
          split at hK
          · rename_i z g s i hz ht hi
            obtain ⟨⟨c1, c2, c3, c4⟩, hK⟩ := hK
            have hne : ev r x ≠ unk ∧ ev r y ≠ unk := by
              unfold aAppZ at hK
              split at hK
              · rename_i h1 h2
                exact ⟨by rw [h1]; simp [unk], by rw [h2]; simp [unk]⟩
              · exact hK.elim
            rw [(val hne.1).2, (val hne.2).2]
            exact RunsTo.bind (sound_appendZ H hu hu2 hz ht hi c1 c2 c3 c4 hK fun v h' ρ' w' hk hv g => RunsTo.pure (qn v h' ρ' w' hk hv g))
          · exact hK.elim
        · exact hK.elim
      · rename_i x y t u
        simp only [List.map_toArray, List.map_cons, List.map_nil]
        split at hK
        · rename_i e e2 hu hu2
          split at hK
          · rename_i g s ht
            have hne : ev r x ≠ unk ∧ ev r y ≠ unk := by
              have hK := hK.2
              unfold aCopy at hK
              split at hK
              · rename_i h1 h2
                exact ⟨by rw [h1]; simp [unk], by rw [h2]; simp [unk]⟩
              · exact hK.elim
            rw [(val hne.1).2, (val hne.2).2]
            exact RunsTo.bind (sound_copy H hu hu2 ht hK.2 fun v h' w' hk hv g => RunsTo.pure (qn v h' ρ w' hk hv g))
          · exact hK.elim
        · exact hK.elim
      · exact hK.elim
  all_goals exact hK.elim
end
structure RG where
  r : Nat → Value
  ds : List Nat
def RG.p (f : RG) (d : Nat) (v : Value) : RG := ⟨fun t => bif t == d then v else f.r t, f.ds⟩
structure FB where
  fn : FuncId
  kind : CallKind
  ro : Option Nat
  /-- Calls that are to be made behind all else, when the frame is left. -/
  dfs : List Deferred
def FB.tag (b : FB) : Nat :=
  match b.ro with
  | none => b.fn
  | some _ => b.fn + 1000000
def FB.at (b : FB) (a : Act) (todo : List Item) : Frame := { fn := b.fn, tmps := a.tmps, todo, defers := a.defers ++ b.dfs, mode := .run, kind := b.kind, roundOf := b.ro }
structure ActRel (n : Nat) (ρ : Env) (N : Nat) (f : RG) (a : Act) : Prop where
  regs : RegRel n ρ f.r a.tmps
  size : a.tmps.size = N
  defers : a.defers = f.ds.map fun b => { target := .collected (ρ.blk b), args := #[] }
  ok : ∀ b ∈ f.ds, b < n
abbrev JT := Goroutine → World → Foot → Prop
def Heads (jump : Option Code) (todo : List Item) : Prop :=
  (jump = some .ret ∧ ∃ k, todo = .code .ret :: k) ∨ (∃ id k, jump = some (.exit id) ∧ todo = .code (.exit id) :: k ∧ exitTo id k = none) ∨ (jump = none ∧ todo = [])
def LeaveOk (J : JT) (b : FB) (cs : List Frame) (L : Option Code → Act → World → Foot → Prop) : Prop :=
  ∀ jump a w ft todo, L jump a w ft → Heads jump todo → J (G (b.at a todo) cs) w ft
def AfterJ (J : JT) (b : FB) (k : List Item) (cs : List Frame) (L : Option Code → Act → World → Foot → Prop) (e : Exit) (a : Act) (w : World) (ft : Foot) : Prop :=
  match e with
  | .normal => J (G (b.at a k) cs) w ft
  | .exit id => match exitTo id k with
    | some k' => J (G (b.at a k') cs) w ft
    | none => L (some (.exit id)) a w ft
  | .ret => L (some .ret) a w ft
  | _ => False
abbrev QT := Exit → RG → List AObj → Prop
def Cont (J : JT) (N n0 : Nat) (b : FB) (k : List Item) (cs : List Frame) (L : Option Code → Act → World → Foot → Prop) (ρ : Env) (FC : Frm) (Q : QT) : Prop :=
  ∀ e f' h' ρ' w' ft' a', Q e f' h' → ActRel h'.length ρ' N f' a' → HRel ρ' h' FC w' ft' → Env.upto n0 ρ ρ' → n0 ≤ h'.length → AfterJ J b k cs L e a' w' ft'
def Sem (J : JT) (N n0 : Nat) (fn : FuncId) (c : Code) (f : RG) (h : List AObj) (Q : QT) : Prop :=
  ∀ (b : FB) (a : Act) (k : List Item) (cs : List Frame) (L : Option Code → Act → World → Foot → Prop) (ρ : Env) (FC : Frm) (w : World) (ft : Foot), b.tag = fn → b.kind ≠ .early → LeaveOk J b cs L →
    ActRel h.length ρ N f a → HRel ρ h FC w ft → n0 ≤ h.length → Cont J N n0 b k cs L ρ FC Q → J (G (b.at a (.code c :: k)) cs) w ft
def SemOps (J : JT) (N n0 : Nat) (fn : FuncId) (ops : Array Oper) (todo : List Nat) (f : RG) (h : List AObj) (Q : QT) : Prop :=
  ∀ (b : FB) (a : Act) (k : List Item) (cs : List Frame) (L : Option Code → Act → World → Foot → Prop) (ρ : Env) (FC : Frm) (w : World) (ft : Foot), b.tag = fn → b.kind ≠ .early → LeaveOk J b cs L →
    ActRel h.length ρ N f a → HRel ρ h FC w ft → n0 ≤ h.length → Cont J N n0 b k cs L ρ FC Q → J (G (b.at a (.inRegion ops todo :: k)) cs) w ft
def thenK (S : RG → List AObj → Prop) (Q : QT) : QT := fun e f h =>
  match e with
  | .normal => S f h
  | e => Q e f h
def blockK (id : Nat) (Q : QT) : QT := fun e f h =>
  match e with
  | .exit i => bif i == id then Q .normal f h else Q (.exit i) f h
  | e => Q e f h
section
variable {P : Program} {main : Bool} {J : JT} {N n0 : Nat} {fn : FuncId} {Q Q' : QT} {f : RG} {h : List AObj}
theorem Closed.ctrl (hJ : Closed P main J) {g g' : Goroutine} {w : World} {ft : Foot} (hs : g.status = .running) (hs' : g'.status = .running) (hst : ∀ w, stepG P main g w = .go g' w #[]) (h : J g' w ft) : J g w ft :=
  hJ.step hs fun w₁ h₁ => ⟨g', w₁, #[], hst w₁, hs', GuarW.refl _ _, by rw [Foot.ext_self]; exact hJ.rely h h₁⟩
theorem upto_act {n m : Nat} {ρ ρ' : Env} {N : Nat} {f : RG} {a : Act} (hu : Env.upto n ρ ρ') (hn : n ≤ m) (h : ActRel n ρ N f a) : ActRel m ρ' N f a :=
  ⟨h.regs.congr hu hn, h.size, by rw [h.defers]; exact List.map_congr_left fun b hb => by rw [(hu b (h.ok b hb)).1], fun b hb => Nat.lt_of_lt_of_le (h.ok b hb) hn⟩
theorem Sem.mono {c : Code} (hh : Sem J N n0 fn c f h Q) (hq : ∀ e f h, Q e f h → Q' e f h) : Sem J N n0 fn c f h Q' :=
  fun b a k cs L ρ FC w ft h1 h2 h3 h4 h5 h6 hc => hh b a k cs L ρ FC w ft h1 h2 h3 h4 h5 h6 fun e f' h' ρ' w' ft' a' q => hc e f' h' ρ' w' ft' a' (hq _ _ _ q)
theorem Sem_skip (hJ : Closed P main J) (hq : Q .normal f h) : Sem J N n0 fn .skip f h Q := by
  intro b a k cs L ρ FC w ft h1 h2 h3 h4 h5 h6 hc
  refine hJ.ctrl rfl rfl (g' := G (b.at a k) cs) (fun w => by simp [G, stepG, stepG.exec, FB.at]) ?_
  exact hc _ _ _ _ _ _ _ hq h4 h5 (Env.upto_refl _ _) h6
theorem Sem_label (hJ : Closed P main J) {l : Nat} (hq : Q .normal f h) : Sem J N n0 fn (.label l) f h Q := by
  intro b a k cs L ρ FC w ft h1 h2 h3 h4 h5 h6 hc
  refine hJ.ctrl rfl rfl (g' := G (b.at a k) cs) (fun w => by simp [G, stepG, stepG.exec, FB.at]) ?_
  exact hc _ _ _ _ _ _ _ hq h4 h5 (Env.upto_refl _ _) h6
theorem Sem_ret (hq : Q .ret f h) : Sem J N n0 fn .ret f h Q := by
  intro b a k cs L ρ FC w ft h1 h2 h3 h4 h5 h6 hc
  exact h3 _ _ _ _ _ (hc _ _ _ _ _ _ _ hq h4 h5 (Env.upto_refl _ _) h6) (.inl ⟨rfl, _, rfl⟩)
theorem Sem_exit (hJ : Closed P main J) {id : Nat} (hq : Q (.exit id) f h) : Sem J N n0 fn (.exit id) f h Q := by
  intro b a k cs L ρ FC w ft h1 h2 h3 h4 h5 h6 hc
  have := hc _ _ _ _ _ _ _ hq h4 h5 (Env.upto_refl _ _) h6
  unfold AfterJ at this
  simp only at this
  cases he : exitTo id k with
  | some k' =>
    rw [he] at this
    exact hJ.ctrl rfl rfl (g' := G (b.at a k') cs) (fun w => by simp [G, stepG, stepG.exec, FB.at, he]) this
  | none =>
    rw [he] at this
    exact h3 _ _ _ _ _ this (.inr (.inl ⟨id, k, rfl, rfl, he⟩))
theorem AfterJ.push {b : FB} {x : Item} {k : List Item} {cs : List Frame} {L : Option Code → Act → World → Foot → Prop} {e : Exit} {a : Act} {w : World} {ft : Foot} (hx : ∀ id, exitTo id (x :: k) = exitTo id k) (he : e ≠ .normal)
    (h : AfterJ J b k cs L e a w ft) : AfterJ J b (x :: k) cs L e a w ft := by
  cases e with
  | normal => exact absurd rfl he
  | exit id => unfold AfterJ at h ⊢; simp only [hx] at h ⊢; exact h
  | ret => exact h
  | _ => exact h
theorem Sem_seq (hJ : Closed P main J) {x y : Code} (hx : Sem J N n0 fn x f h (thenK (fun f' h' => Sem J N n0 fn y f' h' Q) Q)) : Sem J N n0 fn (.seq x y) f h Q := by
  intro b a k cs L ρ FC w ft h1 h2 h3 h4 h5 h6 hc
  refine hJ.ctrl rfl rfl (g' := G (b.at a (.code x :: .code y :: k)) cs) (fun w => by simp [G, stepG, stepG.exec, FB.at]) ?_
  refine hx b a (.code y :: k) cs L ρ FC w ft h1 h2 h3 h4 h5 h6 fun e f' h' ρ' w' ft' a' q g1 g2 g3 g4 => ?_
  cases e with
  | normal => exact q b a' k cs L ρ' FC w' ft' h1 h2 h3 g1 g2 g4 fun e f2 h2' ρ2 w2 ft2 a2 q2 r1 r2 r3 r4 => hc e f2 h2' ρ2 w2 ft2 a2 q2 r1 r2 (Env.upto_trans g3 r3) r4
  | exit id => exact AfterJ.push (fun _ => rfl) (by simp) (hc _ _ _ _ _ _ _ q g1 g2 g3 g4)
  | ret => exact AfterJ.push (fun _ => rfl) (by simp) (hc _ _ _ _ _ _ _ q g1 g2 g3 g4)
  | goto l => exact hc _ _ _ _ _ _ _ q g1 g2 g3 g4
  | panic l => exact hc _ _ _ _ _ _ _ q g1 g2 g3 g4
  | outgrown => exact hc _ _ _ _ _ _ _ q g1 g2 g3 g4
theorem Sem_cond (hJ : Closed P main J) {c : Operand} {x y : Code} {t : Bool} (ht : ev f.r c = .bool t) (hx : Sem J N n0 fn (if t then x else y) f h Q) : Sem J N n0 fn (.cond c x y) f h Q := by
  intro b a k cs L ρ FC w ft h1 h2 h3 h4 h5 h6 hc
  have hv := ((ev_rel h4.regs c).val (by rw [ht]; simp [unk])).2
  rw [ht] at hv
  simp only [ren] at hv
  have he : ∀ todo, (b.at a todo).eval c = .bool t := fun todo => by rw [← hv]; cases c <;> rfl
  refine hJ.ctrl rfl rfl (g' := G (b.at a (.code (if t then x else y) :: k)) cs) (fun w => ?_) ?_
  · have := he (.code (.cond c x y) :: k)
    simp only [FB.at] at this
    simp [G, stepG, stepG.exec, FB.at, this]
  · exact hx b a k cs L ρ FC w ft h1 h2 h3 h4 h5 h6 hc
theorem Sem_block (hJ : Closed P main J) {id : Nat} {c : Code} (hx : Sem J N n0 fn c f h (blockK id Q)) : Sem J N n0 fn (.block id c) f h Q := by
  intro b a k cs L ρ FC w ft h1 h2 h3 h4 h5 h6 hc
  refine hJ.ctrl rfl rfl (g' := G (b.at a (.code c :: .inBlock id :: k)) cs) (fun w => by simp [G, stepG, stepG.exec, FB.at]) ?_
  refine hx b a (.inBlock id :: k) cs L ρ FC w ft h1 h2 h3 h4 h5 h6 fun e f' h' ρ' w' ft' a' q g1 g2 g3 g4 => ?_
  have step : J (G (b.at a' k) cs) w' ft' → J (G (b.at a' (.inBlock id :: k)) cs) w' ft' := fun hh => hJ.ctrl rfl rfl (fun w => by simp [G, stepG, stepG.exec, FB.at]) hh
  cases e with
  | normal => exact step (hc .normal _ _ _ _ _ _ q g1 g2 g3 g4)
  | exit i =>
    unfold blockK at q
    simp only at q
    unfold AfterJ
    simp only [exitTo]
    cases hi : i == id with
    | true =>
      rw [hi] at q
      have hi' : (id == i) = true := by simp at hi ⊢; omega
      rw [hi']
      exact hc .normal _ _ _ _ _ _ q g1 g2 g3 g4
    | false =>
      rw [hi] at q
      have hi' : (id == i) = false := by simp at hi ⊢; omega
      rw [hi']
      exact hc (.exit i) _ _ _ _ _ _ q g1 g2 g3 g4
  | ret => exact hc .ret _ _ _ _ _ _ q g1 g2 g3 g4
  | goto l => exact hc _ _ _ _ _ _ _ q g1 g2 g3 g4
  | panic l => exact hc _ _ _ _ _ _ _ q g1 g2 g3 g4
  | outgrown => exact hc _ _ _ _ _ _ _ q g1 g2 g3 g4
theorem Sem_scope (hJ : Closed P main J) {c : Code} (hx : Sem J N n0 fn c f h Q) : Sem J N n0 fn (.scope c) f h Q := by
  intro b a k cs L ρ FC w ft h1 h2 h3 h4 h5 h6 hc
  refine hJ.ctrl rfl rfl (g' := G (b.at a (.code c :: .inScope c :: k)) cs) (fun w => by simp [G, stepG, stepG.exec, FB.at]) ?_
  refine hx b a (.inScope c :: k) cs L ρ FC w ft h1 h2 h3 h4 h5 h6 fun e f' h' ρ' w' ft' a' q g1 g2 g3 g4 => ?_
  have hh := hc _ _ _ _ _ _ _ q g1 g2 g3 g4
  cases e with
  | normal => exact hJ.ctrl rfl rfl (g' := G (b.at a' k) cs) (fun w => by simp [G, stepG, stepG.exec, FB.at]) hh
  | exit id => exact AfterJ.push (fun _ => rfl) (by simp) hh
  | ret => exact hh
  | _ => exact hh
theorem Sem_region (hJ : Closed P main J) {id : Nat} {ops : Array Oper} (hx : SemOps J N n0 fn ops (List.range ops.size) f h Q) : Sem J N n0 fn (.region id ops false) f h Q := by
  intro b a k cs L ρ FC w ft h1 h2 h3 h4 h5 h6 hc
  refine hJ.ctrl rfl rfl (g' := G (b.at a (.inRegion ops (List.range ops.size) :: k)) cs) (fun w => by simp [G, stepG, stepG.exec, FB.at]) ?_
  exact hx b a k cs L ρ FC w ft h1 h2 h3 h4 h5 h6 hc
theorem SemOps_nil (hJ : Closed P main J) {ops : Array Oper} (hq : Q .normal f h) : SemOps J N n0 fn ops [] f h Q := by
  intro b a k cs L ρ FC w ft h1 h2 h3 h4 h5 h6 hc
  refine hJ.ctrl rfl rfl (g' := G (b.at a k) cs) (fun w => by simp [G, stepG, stepG.exec, FB.at]) ?_
  exact hc _ _ _ _ _ _ _ hq h4 h5 (Env.upto_refl _ _) h6
end
theorem FB.eval_at (b : FB) (a : Act) (todo : List Item) : (b.at a todo).eval = a.eval := funext fun x => by cases x <;> rfl
theorem FB.finish_at (b : FB) (a : Act) (ops : Array Oper) (i : Nat) (rest : List Nat) (k : List Item) (v : Value) :
    (b.at a (.inRegion ops (i :: rest) :: k)).finish v = b.at (a.put ((ops[i]?).bind (·.dst)) v) (.inRegion ops rest :: k) := by
  cases h : (ops[i]?).bind (·.dst) <;> simp [Frame.finish, FB.at, Act.put, h]
def RG.putO (f : RG) (d : Option Nat) (v : Value) : RG :=
  match d with
  | some d => f.p d v
  | none => f
def gd (ops : Array Oper) (o : Oper) (r : Nat → Value) : Option Bool :=
  match o.guard with
  | none => some true
  | some (j, want) => match (ops[j]?).bind (·.dst) with
    | some t => match r t with
      | .bool b => some (b == want)
      | .tuple ⟨[]⟩ => some false
      | _ => none
    | none => none
def callable (P : Program) (g : FuncId) : Bool :=
  match P.funcs[g]? with
  | some fn => fn.body.isSome && !(fn.name == "runtime.NumGoroutine")
  | none => false
def yid (P : Program) (l : Nat) : Nat := P.funcs.size + l
def loopAt (h : List AObj) (l n : Nat) : Prop := ∃ st pend fn r size params assign body dfr, h[l]? = some (.loop st pend fn r size params assign body dfr) ∧ params.size = n
def okCall (P : Program) (g n : Nat) (h : List AObj) : Prop := (g < P.funcs.size ∧ callable P g = true) ∨ (P.funcs.size ≤ g ∧ loopAt h (g - P.funcs.size) n)
def Entry (P : Program) (g : Nat) (ρ : Env) (w : World) (cargs : List Value) (fr : Frame) : Prop :=
  (g < P.funcs.size ∧ fr = Frame.enter P g ⟨cargs⟩ .normal) ∨ (P.funcs.size ≤ g ∧ ∃ lo : Loop, w.heap[ρ.blk (g - P.funcs.size)]? = some (.loop lo) ∧ lo.params.size = cargs.length ∧
    fr = Frame.round (ρ.blk (g - P.funcs.size)) lo.fn ((lo.params.zip ⟨cargs⟩).foldl (fun tmps (t, a) => tmps.setIfInBounds t a) lo.tmps) lo.assign lo.body .normal)
def GoodF (P : Program) (J : JT) (g : FuncId) (args : List Value) (h : List AObj) (K : Value → List AObj → Prop) : Prop :=
  okCall P g args.length h ∧ ∀ (ρ : Env) (FC : Frm) (w : World) (ft : Foot) (cs : List Frame) (c : Frame) (cargs : List Value) (fr : Frame), HRel ρ h FC w ft →
    (∀ i : Nat, VRel h.length ρ (args.getD i unk) (cargs.getD i undef)) → cargs.length = args.length → Entry P g ρ w cargs fr →
    (∀ v h' ρ' w' ft' cv, K v h' → HRel ρ' h' FC w' ft' → Env.upto h.length ρ ρ' → h.length ≤ h'.length → VRel h'.length ρ' v cv → J (G (c.finish cv) cs) w' ft') →
    J (G fr (c :: cs)) w ft
structure Site (g : FuncId) (cargs : List Value) (b : FB) (a : Act) (ops : Array Oper) (i : Nat) (o : Oper) : Prop where
  kind : b.kind ≠ .early
  here : ops[i]? = some o
  wanted : Region.wanted o (yielded ops a.tmps) = true
  nodef : ∀ c, o.op ≠ .defer c
  calls : execOp a.eval o = callFunc g ⟨cargs⟩
def ExtJ (J : JT) (g : FuncId) (args : List Value) (h : List AObj) (K : Value → List AObj → Prop) : Prop :=
  ∀ (b : FB) (a : Act) (ops : Array Oper) (i : Nat) (rest : List Nat) (o : Oper) (k : List Item) (cs : List Frame) (ρ : Env) (FC : Frm) (w : World) (ft : Foot) (cargs : List Value), Site g cargs b a ops i o → HRel ρ h FC w ft →
    (∀ i : Nat, VRel h.length ρ (args.getD i unk) (cargs.getD i undef)) → cargs.length = args.length →
    (∀ v h' ρ' w' ft' cv, K v h' → HRel ρ' h' FC w' ft' → Env.upto h.length ρ ρ' → h.length ≤ h'.length → VRel h'.length ρ' v cv → J (G (b.at (a.put o.dst cv) (.inRegion ops rest :: k)) cs) w' ft') →
    J (G (b.at a (.inRegion ops (i :: rest) :: k)) cs) w ft
def Good (P : Program) (J : JT) (g : FuncId) (args : List Value) (h : List AObj) (K : Value → List AObj → Prop) : Prop :=
  GoodF P J g args h K ∨ ((g < P.funcs.size ∧ callable P g = false) ∧ ExtJ J g args h K)
def callV (P : Program) (C : FuncId → List Value → List AObj → (Value → List AObj → Prop) → Prop) (v : Value) (args : List Value) (h : List AObj) (K : Value → List AObj → Prop) : Prop :=
  match v with
  | .func (.func g) ⟨first⟩ ⟨cap⟩ => bif Nat.blt g P.funcs.size then C g (first ++ args ++ cap) h K else False
  | .func (.yield l) ⟨[]⟩ ⟨[]⟩ => C (yid P l) args h K
  | _ => False
def opW (P : Program) (C : FuncId → List Value → List AObj → (Value → List AObj → Prop) → Prop) (o : Oper) (r : Nat → Value) (h : List AObj) (K : Value → List AObj → Prop) : Prop :=
  match o.op with
  | .call { callee := .value x, args, .. } => callV P C (ev r x) (args.toList.map (ev r)) h K
  | op => aop P op r h K
section
variable {P : Program} {main : Bool} {J : JT} {N : Nat} {b : FB} {f : RG} {h : List AObj} {a : Act} {k : List Item} {cs : List Frame} {ρ : Env} {FC : Frm} {w : World} {ft : Foot} {ops : Array Oper} {i : Nat} {rest : List Nat} {o : Oper}
theorem regs_put {n : Nat} {r : Nat → Value} {tmps : Array Value} {d : Nat} {v c : Value} (hr : RegRel n ρ r tmps) (hd : d < tmps.size) (hv : VRel n ρ v c) : RegRel n ρ (fun t => bif t == d then v else r t) (tmps.setIfInBounds d c) := by
  intro t
  by_cases e : t = d
  · subst e
    simp only [BEq.rfl, cond_true]
    rcases hv with rfl | ⟨h1, h2⟩
    · exact .inl rfl
    · refine .inr ⟨h1, ?_⟩
      simp [Array.getD, hd, h2]
  · have : (t == d) = false := by simpa using e
    simp only [this, cond_false]
    rcases hr t with h | ⟨h1, h2⟩
    · exact .inl h
    · refine .inr ⟨h1, ?_⟩
      rw [← h2]
      simp only [Array.getD_eq_getD_getElem?, Array.getElem?_setIfInBounds]
      rw [if_neg (fun x => e x.symm)]
theorem act_put {n : Nat} {d : Option Nat} {v c : Value} (A : ActRel n ρ N f a) (hd : ∀ t, d = some t → t < N) (hv : VRel n ρ v c) : ActRel n ρ N (f.putO d v) (a.put d c) := by
  cases d with
  | none => exact A
  | some t => exact ⟨regs_put A.regs (by rw [A.size]; exact hd t rfl) hv, by simp [Act.put, A.size], A.defers, A.ok⟩
theorem gd_wanted {n : Nat} {t : Bool} (A : ActRel n ρ N f a) (hg : gd ops o f.r = some t) : Region.wanted o (yielded ops a.tmps) = t := by
  unfold gd at hg
  unfold Region.wanted
  split at hg
  · rename_i e
    rw [e]
    cases hg
    rfl
  · rename_i j want e
    rw [e]
    simp only
    split at hg
    · rename_i u hu
      split at hg
      · rename_i bb hb
        cases hg
        have hv := (A.regs u).resolve_left (by rw [hb]; simp [unk])
        rw [hb] at hv
        have h2 : a.tmps[u]? = some (.bool bb) := by
          have := hv.2
          simp only [ren] at this
          rw [Array.getD_eq_getD_getElem?] at this
          cases hx : a.tmps[u]? with
          | none => rw [hx] at this; simp [undef] at this
          | some x => rw [hx] at this; simpa using this
        unfold yielded
        rw [hu]
        simp only [Option.bind_some, h2]
        cases bb <;> cases want <;> rfl
      · rename_i hb
        cases hg
        have hv := (A.regs u).resolve_left (by rw [hb]; simp [unk])
        rw [hb] at hv
        have h2 := hv.2
        simp only [ren, renA, renL] at h2
        unfold yielded
        rw [hu]
        simp only [Option.bind_some]
        rw [Array.getD_eq_getD_getElem?] at h2
        cases hx : a.tmps[u]? with
        | none => rfl
        | some x =>
          rw [hx] at h2
          simp only [Option.getD_some] at h2
          subst h2
          rfl
      · cases hg
    · cases hg
theorem stepG_op (ho : ops[i]? = some o) (hw : Region.wanted o (yielded ops a.tmps) = true) (hnd : ∀ c, o.op ≠ .defer c) (main : Bool) (w : World) :
    stepG P main (G (b.at a (.inRegion ops (i :: rest) :: k)) cs) w = stepG.apply P true (b.at a (.inRegion ops (i :: rest) :: k)) cs none (execOp a.eval o) w := by
  have he := FB.eval_at b a (.inRegion ops (i :: rest) :: k)
  simp only [FB.at] at he
  simp only [G, stepG, stepG.exec, stepG.oper, Frame.oper?, FB.at, ho, hw, he, Option.map_some, Option.getD_some, if_true]
  split
  · rename_i l c h1 h2
    exact absurd h2 (hnd c)
  · rfl
theorem step_skip (hJ : Closed P main J) (ho : ops[i]? = some o) (hg : gd ops o f.r = some false) (A : ActRel h.length ρ N f a) (hJ' : J (G (b.at (a.put o.dst undef) (.inRegion ops rest :: k)) cs) w ft) :
    J (G (b.at a (.inRegion ops (i :: rest) :: k)) cs) w ft := by
  have hw := gd_wanted A hg
  refine hJ.ctrl rfl rfl (g' := G (b.at (a.put o.dst undef) (.inRegion ops rest :: k)) cs) (fun w => ?_) hJ'
  have hf := FB.finish_at b a ops i rest k undef
  rw [ho] at hf
  simp only [Option.bind_some] at hf
  rw [← hf]
  simp [G, stepG, stepG.exec, FB.at, ho, hw]
theorem step_op (hJ : Closed P main J) (hk : b.kind ≠ .early) (ho : ops[i]? = some o) (hg : gd ops o f.r = some true) (hd : ∀ t, o.dst = some t → t < N) (A : ActRel h.length ρ N f a) (H : HRel ρ h FC w ft) {K : Value → List AObj → Prop} (hop : aop P o.op f.r h K)
    (hc : ∀ v h' ρ' w' ft' a', K v h' → ActRel h'.length ρ' N (f.putO o.dst v) a' → HRel ρ' h' FC w' ft' → Env.upto h.length ρ ρ' → h.length ≤ h'.length → J (G (b.at a' (.inRegion ops rest :: k)) cs) w' ft') :
    J (G (b.at a (.inRegion ops (i :: rest) :: k)) cs) w ft := by
  have hw := gd_wanted A hg
  have hnd : ∀ c, o.op ≠ .defer c := fun c e => by rw [e] at hop; exact hop
  have hk' : (b.kind == CallKind.early) = false := by simpa using hk
  refine hJ.step rfl fun w₁ h₁ => ?_
  have H₁ := H.rely h₁
  obtain ⟨nx, w', es, hr, he, v, h', ρ', hK, g, hn⟩ := aop_sound H₁ A.regs o hop (Q := fun nx w' => ∃ v h' ρ', K v h' ∧ Goes1 ρ h FC w₁ ft ρ' h' w' ∧ NxRel h'.length ρ' v nx)
    (fun v h' ρ' w' nx hK g hn => ⟨v, h', ρ', hK, g, hn⟩) #[] (by simp)
  have hes : ∀ e ∈ seen P b.fn es, EvOk ft e := fun e hm => he e (mem_seen hm)
  have hf := FB.finish_at b a ops i rest k
  rw [ho] at hf
  simp only [Option.bind_some] at hf
  have A' := upto_act g.upto g.len A
  rcases hn with ⟨rfl, rfl⟩ | ⟨c, rfl, hv⟩
  · refine ⟨G (b.at (a.put o.dst undef) (.inRegion ops rest :: k)) cs, w', seen P b.fn es, ?_, rfl, g.stays.guar hes, ?_⟩
    · rw [stepG_op ho hw hnd, ← hf]
      simp only [stepG.apply, hr, if_true]
      simp [G, FB.at, hk', GStep.after]
    · exact hc _ _ _ _ _ _ hK (act_put A' hd (.inl rfl)) g.rel g.upto g.len
  · refine ⟨G (b.at (a.put o.dst c) (.inRegion ops rest :: k)) cs, w', seen P b.fn es, ?_, rfl, g.stays.guar hes, ?_⟩
    · rw [stepG_op ho hw hnd, ← hf]
      simp only [stepG.apply, hr, if_true]
      simp [G, FB.at, hk', GStep.after]
    · exact hc _ _ _ _ _ _ hK (act_put A' hd hv) g.rel g.upto g.len
theorem callFunc_run {X : Event → Prop} {g : FuncId} {args : Array Value} (hg : callable P g = true) {Q : Next → World → Prop} (hQ : Q (.enter g args) w) : RunsTo P X (callFunc g args) w Q := by
  unfold callable at hg
  split at hg
  · rename_i fn hf
    simp only [Bool.and_eq_true, Bool.not_eq_true'] at hg
    unfold callFunc
    refine RunsTo.bind (RunsTo.program ?_)
    simp only [hf, hg.2]
    have : fn.body.isNone = false := by cases h : fn.body <;> simp_all
    simp only [this]
    exact RunsTo.pure hQ
  · cases hg
theorem getD_app {x y x' y' : List Value} (hl : x.length = x'.length) {n : Nat} (h1 : ∀ i : Nat, VRel n ρ (x.getD i unk) (x'.getD i undef)) (h2 : ∀ i : Nat, VRel n ρ (y.getD i unk) (y'.getD i undef)) (i : Nat) :
    VRel n ρ ((x ++ y).getD i unk) ((x' ++ y').getD i undef) := by
  by_cases e : i < x.length
  · have := h1 i
    simp only [List.getD_eq_getElem?_getD] at this ⊢
    rw [List.getElem?_append_left e, List.getElem?_append_left (by omega)]
    exact this
  · have := h2 (i - x.length)
    simp only [List.getD_eq_getElem?_getD] at this ⊢
    rw [List.getElem?_append_right (by omega), List.getElem?_append_right (by omega), ← hl]
    exact this
theorem getD_ren {n : Nat} {l : List Value} (h : LOk n l) (i : Nat) : VRel n ρ (l.getD i unk) ((l.map (ren ρ)).getD i undef) := by
  simp only [List.getD_eq_getElem?_getD, List.getElem?_map]
  cases hx : l[i]? with
  | none => exact .inl rfl
  | some v => exact .inr ⟨(LOk_iff l).1 h v (List.mem_of_getElem? hx), rfl⟩
theorem getD_ev {n : Nat} (hr : RegRel n ρ f.r a.tmps) (l : List Operand) (i : Nat) : VRel n ρ ((l.map (ev f.r)).getD i unk) ((l.map a.eval).getD i undef) := by
  simp only [List.getD_eq_getElem?_getD, List.getElem?_map]
  cases hx : l[i]? with
  | none => exact .inl rfl
  | some v => exact ev_rel hr v
theorem step_enter (hJ : Closed P main J) (hk : b.kind ≠ .early) (ho : ops[i]? = some o) (hg : gd ops o f.r = some true) (A : ActRel h.length ρ N f a)
    {x : Operand} {args : Array Operand} {ats : Array TypeId} (hop : o.op = .call { callee := .value x, args := args, argTypes := ats }) {g : FuncId} {first cap : List Value} (hx : ev f.r x = .func (.func g) ⟨first⟩ ⟨cap⟩) (hcl : callable P g = true)
    (hc : ∀ cargs, (∀ i : Nat, VRel h.length ρ ((first ++ args.toList.map (ev f.r) ++ cap).getD i unk) (cargs.getD i undef)) → cargs.length = (first ++ args.toList.map (ev f.r) ++ cap).length →
      J (G (Frame.enter P g ⟨cargs⟩ .normal) (b.at a (.inRegion ops (i :: rest) :: k) :: cs)) w ft) :
    J (G (b.at a (.inRegion ops (i :: rest) :: k)) cs) w ft := by
  have hw := gd_wanted A hg
  have hnd : ∀ c, o.op ≠ .defer c := fun c e => by rw [hop] at e; cases e
  have hk' : (b.kind == CallKind.early) = false := by simpa using hk
  obtain ⟨hok, hv⟩ := (ev_rel A.regs x).val (by rw [hx]; simp [unk])
  rw [hx] at hv hok
  simp only [ren, renFn, renA, renL_eq] at hv
  simp only [VOk, AOk] at hok
  have hrel : ∀ i : Nat, VRel h.length ρ ((first ++ args.toList.map (ev f.r) ++ cap).getD i unk) ((first.map (ren ρ) ++ args.toList.map a.eval ++ cap.map (ren ρ)).getD i undef) :=
    getD_app (by simp) (getD_app (by simp) (getD_ren hok.2.1) (getD_ev A.regs _)) (getD_ren hok.2.2)
  refine hJ.step rfl fun w₁ h₁ => ?_
  have hrun : RunsTo P (EvOk ft) (execOp a.eval o) w₁ fun nx w' => nx = .enter g ⟨first.map (ren ρ) ++ args.toList.map a.eval ++ cap.map (ren ρ)⟩ ∧ w' = w₁ := by
    unfold execOp
    rw [hop]
    simp only
    unfold resolve
    simp only [hv, Deferred.ofValue]
    refine RunsTo.bind (RunsTo.pure ?_)
    unfold invoke
    simp only
    refine callFunc_run hcl ⟨?_, rfl⟩
    congr 1
    apply Array.ext'
    simp
  obtain ⟨nx, w', es, hr, he, rfl, rfl⟩ := hrun #[] (by simp)
  have hes : ∀ e ∈ seen P b.fn es, EvOk ft e := fun e hm => he e (mem_seen hm)
  refine ⟨G (Frame.enter P g ⟨first.map (ren ρ) ++ args.toList.map a.eval ++ cap.map (ren ρ)⟩ .normal) (b.at a (.inRegion ops (i :: rest) :: k) :: cs), w', seen P b.fn es, ?_, rfl, (Stays.refl ft w').guar hes, ?_⟩
  · rw [stepG_op ho hw hnd]
    simp only [stepG.apply, hr, if_true]
    simp [FB.at, hk', GStep.after, G]
  · rw [Foot.ext_self]
    exact hJ.rely (hc _ hrel (by simp)) h₁
theorem step_round (hJ : Closed P main J) (hk : b.kind ≠ .early) (ho : ops[i]? = some o) (hg : gd ops o f.r = some true) (A : ActRel h.length ρ N f a) (H : HRel ρ h FC w ft)
    {x : Operand} {args : Array Operand} {ats : Array TypeId} (hop : o.op = .call { callee := .value x, args := args, argTypes := ats }) {l : Nat} (hx : ev f.r x = .func (.yield l) ⟨[]⟩ ⟨[]⟩) (hcl : loopAt h l args.size)
    (hc : ∀ w₁ cargs lo, RelyW ft w w₁ → (∀ i : Nat, VRel h.length ρ ((args.toList.map (ev f.r)).getD i unk) (cargs.getD i undef)) → cargs.length = args.size → w₁.heap[ρ.blk l]? = some (.loop lo) → lo.params.size = cargs.length →
      J (G (Frame.round (ρ.blk l) lo.fn ((lo.params.zip ⟨cargs⟩).foldl (fun tmps (t, a) => tmps.setIfInBounds t a) lo.tmps) lo.assign lo.body .normal) (b.at a (.inRegion ops (i :: rest) :: k) :: cs)) w₁ ft) :
    J (G (b.at a (.inRegion ops (i :: rest) :: k)) cs) w ft := by
  have hw := gd_wanted A hg
  have hnd : ∀ c, o.op ≠ .defer c := fun c e => by rw [hop] at e; cases e
  have hk' : (b.kind == CallKind.early) = false := by simpa using hk
  obtain ⟨hok, hv⟩ := (ev_rel A.regs x).val (by rw [hx]; simp [unk])
  rw [hx] at hv hok
  simp only [ren, renFn, renA, renL] at hv
  obtain ⟨st, pend, fn, r, size, params, assign, body, dfr, hl, hps⟩ := hcl
  refine hJ.step rfl fun w₁ h₁ => ?_
  have H₁ := H.rely h₁
  have hobj := H₁.obj l _ hl
  have hrd := H₁.rd l _ hl rfl
  match hlo : w₁.heap[ρ.blk l]?, hobj with
  | some (.loop lo), hobj =>
    obtain ⟨_, _, _, _, _, hpar, _⟩ := hobj
    have hsz : lo.params.size = (args.toList.map a.eval).length := by rw [hpar, hps]; simp
    have hrun : RunsTo P (EvOk ft) (execOp a.eval o) w₁ fun nx w' => nx = .round (ρ.blk l) lo.fn ((lo.params.zip ⟨args.toList.map a.eval⟩).foldl (fun tmps (t, a) => tmps.setIfInBounds t a) lo.tmps) lo.assign lo.body ∧ w' = w₁ := by
      unfold execOp
      rw [hop]
      simp only
      unfold resolve
      simp only [hv, Deferred.ofValue]
      refine RunsTo.bind (RunsTo.pure ?_)
      unfold invoke
      simp only
      unfold Instr.yield Instr.getLoop
      have he : (#[] ++ args.map a.eval : Array Value) = ⟨args.toList.map a.eval⟩ := by
        apply Array.ext'
        simp
      rw [he]
      refine RunsTo.bind (RunsTo.bind (RunsTo.getObj hlo (fun _ _ _ e => by cases e) ⟨rfl, hrd, fun e => by cases e⟩ (RunsTo.pure ?_)))
      have hne : ¬ ((⟨args.toList.map a.eval⟩ : Array Value).size ≠ lo.params.size) := by
        rw [hsz]
        simp
      simp only [if_neg hne]
      exact RunsTo.bind (RunsTo.pure (RunsTo.pure ⟨rfl, rfl⟩))
    obtain ⟨nx, w', es, hr, he, rfl, rfl⟩ := hrun #[] (by simp)
    have hes : ∀ e ∈ seen P b.fn es, EvOk ft e := fun e hm => he e (mem_seen hm)
    refine ⟨G (Frame.round (ρ.blk l) lo.fn ((lo.params.zip ⟨args.toList.map a.eval⟩).foldl (fun tmps (t, a) => tmps.setIfInBounds t a) lo.tmps) lo.assign lo.body .normal) (b.at a (.inRegion ops (i :: rest) :: k) :: cs), w', seen P b.fn es, ?_, rfl, (Stays.refl ft w').guar hes, ?_⟩
    · rw [stepG_op ho hw hnd]
      simp only [stepG.apply, hr, if_true]
      simp [FB.at, hk', GStep.after, G]
    · rw [Foot.ext_self]
      exact hc w' _ lo h₁ (getD_ev A.regs _) (by simp) hlo hsz
theorem step_any (hJ : Closed P main J) (hk : b.kind ≠ .early) (ho : ops[i]? = some o) (hg : gd ops o f.r = some true) (hd : ∀ t, o.dst = some t → t < N) (A : ActRel h.length ρ N f a) (H : HRel ρ h FC w ft) {K : Value → List AObj → Prop} (hop : opW P (Good P J) o f.r h K)
    (hc : ∀ v h' ρ' w' ft' a', K v h' → ActRel h'.length ρ' N (f.putO o.dst v) a' → HRel ρ' h' FC w' ft' → Env.upto h.length ρ ρ' → h.length ≤ h'.length → J (G (b.at a' (.inRegion ops rest :: k)) cs) w' ft') :
    J (G (b.at a (.inRegion ops (i :: rest) :: k)) cs) w ft := by
  unfold opW at hop
  split at hop
  · rename_i x args ats hopp
    unfold callV at hop
    split at hop
    · rename_i g first cap hx
      cases hlt : Nat.blt g P.funcs.size with
      | false => rw [hlt] at hop; exact hop.elim
      | true =>
        rw [hlt, cond_true] at hop
        have hlt' : g < P.funcs.size := by rw [← Nat.blt_eq]; exact hlt
        rcases hop with hop | ⟨_, hop⟩
        rotate_left
        · obtain ⟨hok, hv⟩ := (ev_rel A.regs x).val (by rw [hx]; simp [unk])
          rw [hx] at hv hok
          simp only [ren, renFn, renA, renL_eq] at hv
          simp only [VOk, AOk] at hok
          have hrel : ∀ i : Nat, VRel h.length ρ ((first ++ args.toList.map (ev f.r) ++ cap).getD i unk) ((first.map (ren ρ) ++ args.toList.map a.eval ++ cap.map (ren ρ)).getD i undef) :=
            getD_app (by simp) (getD_app (by simp) (getD_ren hok.2.1) (getD_ev A.regs _)) (getD_ren hok.2.2)
          refine hop b a ops i rest o k cs ρ FC w ft (first.map (ren ρ) ++ args.toList.map a.eval ++ cap.map (ren ρ)) ⟨hk, ho, gd_wanted A hg, fun c e => (by rw [hopp] at e; cases e), ?_⟩ H hrel (by simp) fun v h' ρ' w' ft' cv hK H' hu hl hv => hc v h' ρ' w' ft' _ hK (act_put (upto_act hu hl A) hd hv) H' hu hl
          unfold execOp
          rw [hopp]
          simp only
          unfold resolve
          simp only [hv, Deferred.ofValue, pure_bind]
          unfold invoke
          simp only
          congr 1
          apply Array.ext'
          simp
        rcases hop.1 with ⟨_, hcl⟩ | ⟨hge, _⟩
        · refine step_enter hJ hk ho hg A hopp hx hcl fun cargs h1 h2 => ?_
          refine hop.2 ρ FC w ft cs _ cargs _ H h1 h2 (.inl ⟨hlt', rfl⟩) fun v h' ρ' w' ft' cv hK H' hu hl hv => ?_
          have hf := FB.finish_at b a ops i rest k cv
          rw [ho] at hf
          rw [hf]
          exact hc v h' ρ' w' ft' _ hK (act_put (upto_act hu hl A) hd hv) H' hu hl
        · exact absurd hlt' (Nat.not_lt.2 hge)
    · rename_i l hx
      have hge : P.funcs.size ≤ yid P l := Nat.le_add_right _ _
      have hll : yid P l - P.funcs.size = l := by simp [yid]
      rcases hop with hop | ⟨⟨hlt, _⟩, _⟩
      rotate_left
      · exact absurd hlt (Nat.not_lt.2 hge)
      rcases hop.1 with ⟨hlt, _⟩ | ⟨_, hcl⟩
      · omega
      · rw [hll] at hcl
        refine step_round hJ hk ho hg A H hopp hx (by simpa using hcl) fun w₁ cargs lo hr h1 h2 h3 h4 => ?_
        refine hop.2 ρ FC w₁ ft cs _ cargs _ (H.rely hr) h1 (by simpa using h2) (.inr ⟨hge, lo, by rw [hll]; exact h3, h4, by rw [hll]⟩) fun v h' ρ' w' ft' cv hK H' hu hl hv => ?_
        have hf := FB.finish_at b a ops i rest k cv
        rw [ho] at hf
        rw [hf]
        exact hc v h' ρ' w' ft' _ hK (act_put (upto_act hu hl A) hd hv) H' hu hl
    · exact hop.elim
  · exact step_op hJ hk ho hg hd A H hop hc
end
def subFn (σ : Nat → Nat) : Fn → Fn
  | .yield l => .yield (σ l)
  | f => f
mutual
/-- Block numbers replaced. -/
def sub (σ : Nat → Nat) : Value → Value
  | .pointer (some a) => .pointer (some ⟨σ a.block, a.off, a.spot⟩)
  | .slice (some a) n c => .slice (some ⟨σ a.block, a.off, a.spot⟩) n c
  | .map (some r) => .map (some (σ r))
  | .chan (some r) => .chan (some (σ r))
  | .func fn first cap => .func (subFn σ fn) (subA σ first) (subA σ cap)
  | .iface t v => .iface t (sub σ v)
  | .agg cs => .agg (subA σ cs)
  | .tuple vs => .tuple (subA σ vs)
  | .bool b => .bool b
  | .int k n => .int k n
  | .float k n => .float k n
  | .complex k a b => .complex k a b
  | .string s => .string s
  | .pointer none => .pointer none
  | .slice none n c => .slice none n c
  | .map none => .map none
  | .chan none => .chan none
  | .nilFunc => .nilFunc
  | .nilIface => .nilIface
def subA (σ : Nat → Nat) : Array Value → Array Value
  | ⟨l⟩ => ⟨subL σ l⟩
def subL (σ : Nat → Nat) : List Value → List Value
  | [] => []
  | v :: l => sub σ v :: subL σ l
end
def Env.comp (ρ : Env) (σ : Nat → Nat) : Env := ⟨fun b => ρ.blk (σ b), fun b => ρ.cap (σ b)⟩
section
variable {ρ : Env} {σ : Nat → Nat} {n m : Nat}
theorem subL_eq (l : List Value) : subL σ l = l.map (sub σ) := by
  induction l with
  | nil => simp [subL]
  | cons v l ih => simp [subL, ih]
mutual
theorem ren_sub : ∀ v : Value, ren ρ (sub σ v) = ren (ρ.comp σ) v
  | .pointer (some a) => by simp [sub, ren, renAddr, Env.comp]
  | .slice (some a) _ _ => by simp [sub, ren, renAddr, renCap, Env.comp]
  | .map (some r) => by simp [sub, ren, Env.comp]
  | .chan (some r) => by simp [sub, ren, Env.comp]
  | .func fn first cap => by
    have hf : renFn ρ (subFn σ fn) = renFn (ρ.comp σ) fn := by cases fn <;> simp [renFn, subFn, Env.comp]
    simp only [sub, ren, hf, renA_sub first, renA_sub cap]
  | .iface _ v => by simp only [sub, ren, ren_sub v]
  | .agg cs => by simp only [sub, ren, renA_sub cs]
  | .tuple vs => by simp only [sub, ren, renA_sub vs]
  | .bool _ | .int _ _ | .float _ _ | .complex _ _ _ | .string _ | .pointer none | .slice none _ _ | .map none | .chan none | .nilFunc | .nilIface => by simp only [sub, ren]
theorem renA_sub : ∀ a : Array Value, renA ρ (subA σ a) = renA (ρ.comp σ) a
  | ⟨l⟩ => by simp only [subA, renA, renL_sub l]
theorem renL_sub : ∀ l : List Value, renL ρ (subL σ l) = renL (ρ.comp σ) l
  | [] => by simp only [subL, renL]
  | v :: l => by simp only [subL, renL, ren_sub v, renL_sub l]
end
def Same (n : Nat) (σ : Nat → Nat) : Prop := ∀ b, b < n → σ b = b
mutual
theorem sub_same (h : Same n σ) : ∀ v : Value, VOk n v → sub σ v = v
  | .pointer (some a), hv => by simp only [VOk, AddrOk] at hv; simp [sub, h _ hv.1]
  | .slice (some a) _ _, hv => by simp only [VOk, AddrOk] at hv; simp [sub, h _ hv.1]
  | .map (some r), hv => by simp only [VOk] at hv; simp [sub, h _ hv]
  | .chan (some r), hv => by simp only [VOk] at hv; simp [sub, h _ hv]
  | .func fn first cap, hv => by
    simp only [VOk] at hv
    have hf : subFn σ fn = fn := by
      cases fn <;> simp only [subFn]
      have := hv.1
      simp only [FnOk] at this
      rw [h _ this]
    simp only [sub, hf, subA_same h first hv.2.1, subA_same h cap hv.2.2]
  | .iface _ v, hv => by simp only [VOk] at hv; simp only [sub, sub_same h v hv]
  | .agg cs, hv => by simp only [VOk] at hv; simp only [sub, subA_same h cs hv]
  | .tuple vs, hv => by simp only [VOk] at hv; simp only [sub, subA_same h vs hv]
  | .bool _, _ | .int _ _, _ | .float _ _, _ | .complex _ _ _, _ | .string _, _ | .pointer none, _ | .slice none _ _, _ | .map none, _ | .chan none, _ | .nilFunc, _ | .nilIface, _ => by simp only [sub]
theorem subA_same (h : Same n σ) : ∀ a : Array Value, AOk n a → subA σ a = a
  | ⟨l⟩, hv => by simp only [AOk] at hv; simp only [subA, subL_same h l hv]
theorem subL_same (h : Same n σ) : ∀ l : List Value, LOk n l → subL σ l = l
  | [], _ => by simp only [subL]
  | v :: l, hv => by simp only [LOk] at hv; simp only [subL, sub_same h v hv.1, subL_same h l hv.2]
end
theorem one_sub (v : Value) : one (sub σ v) = one v := by
  cases v with
  | pointer a => cases a <;> rfl
  | slice a _ _ => cases a <;> rfl
  | map a => cases a <;> rfl
  | chan a => cases a <;> rfl
  | _ => rfl
theorem sub_undef : sub σ unk = unk := by simp [unk, sub, subA, subL]
end
def ROk (n : Nat) (r : Nat → Value) : Prop := ∀ t, r t = unk ∨ VOk n (r t)
def objOk (n : Nat) : AObj → Prop
  | .dead => True
  | .cells c _ _ => LOk n c
  | .map es _ => ∀ e ∈ es, VOk 0 e.1 ∧ VOk n e.2
  | .loop _ _ _ r _ _ _ _ dfr => ROk n r ∧ dfr < n
  | .deferred => True
  | .chan _ => True
  | .group _ => True
  | .iter m _ _ => m < n
def heapOk (h : List AObj) : Prop := ∀ (i : Nat) (o : AObj), h[i]? = some o → objOk h.length o
def subO (σ : Nat → Nat) : AObj → AObj
  | .dead => .dead
  | .cells c wr sz => .cells (c.map (sub σ)) wr sz
  | .map es wr => .map (es.map fun e => (e.1, sub σ e.2)) wr
  | .loop st pend fn r size params assign body dfr => .loop st pend fn (fun t => sub σ (r t)) size params assign body (σ dfr)
  | .deferred => .deferred
  | .chan cap => .chan cap
  | .group x => .group x
  | .iter m k sn => .iter (σ m) k sn
theorem subO_live {σ : Nat → Nat} (o : AObj) : (subO σ o).live = o.live := by cases o <;> rfl
theorem subO_wrt {σ : Nat → Nat} (o : AObj) : (subO σ o).wrt = o.wrt := by cases o <;> rfl
theorem subO_same {n : Nat} {σ : Nat → Nat} (h : Same n σ) {o : AObj} (ho : objOk n o) : subO σ o = o := by
  cases o with
  | dead => rfl
  | deferred => rfl
  | chan cap => rfl
  | group x => rfl
  | iter m k sn =>
    simp only [objOk] at ho
    simp only [subO]
    rw [h m ho]
  | cells c wr sz =>
    simp only [objOk, LOk_iff] at ho
    simp only [subO]
    congr 1
    exact (List.map_congr_left fun v hv => sub_same h v (ho v hv)).trans (List.map_id _)
  | map es wr =>
    simp only [objOk] at ho
    simp only [subO]
    congr 1
    refine (List.map_congr_left fun e he => ?_).trans (List.map_id _)
    rw [sub_same h _ (ho e he).2]
    rfl
  | loop st pend fn r size params assign body dfr =>
    simp only [objOk] at ho
    simp only [subO]
    congr 1
    · funext t
      rcases ho.1 t with e | e
      · rw [e, sub_undef]
      · exact sub_same h _ e
    · exact h _ ho.2
structure GC (n0 : Nat) (σ : Nat → Nat) (h₂ h' : List AObj) : Prop where
  le : n0 ≤ h'.length
  same : Same n0 σ
  obj : ∀ (i : Nat) (o : AObj), h'[i]? = some o → o = .dead ∨ h₂[σ i]? = some (subO σ o)
  inj : ∀ (i j : Nat) (o o' : AObj), h'[i]? = some o → h'[j]? = some o' → o.live = true → o'.live = true → σ i = σ j → i = j
  ok : heapOk h'
section
variable {ρ : Env} {σ : Nat → Nat} {n0 n n' : Nat} {h h₂ h' : List AObj} {FC : Frm} {w : World} {ft : Foot} {f f' : RG} {a : Act} {N : Nat}
theorem sub_inv0 {v : Value} (u : sub σ v = .tuple ⟨[]⟩) : v = .tuple ⟨[]⟩ := by
  cases v with
  | tuple vs =>
    obtain ⟨l⟩ := vs
    simp only [sub, subA, subL_eq, Value.tuple.injEq] at u ⊢
    have := congrArg Array.toList u
    simp only [List.map_eq_nil_iff] at this
    rw [this]
  | pointer a => cases a <;> simp [sub] at u
  | slice a _ _ => cases a <;> simp [sub] at u
  | map a => cases a <;> simp [sub] at u
  | chan a => cases a <;> simp [sub] at u
  | _ => simp [sub] at u
theorem sub_inv {v : Value} (u : sub σ v = unk) : v = unk := by
  cases v with
  | tuple vs =>
    obtain ⟨l⟩ := vs
    simp only [sub, subA, subL_eq, unk, Value.tuple.injEq] at u ⊢
    have := congrArg Array.toList u
    simp only at this
    obtain ⟨x, rfl, hx⟩ := List.map_eq_singleton_iff.1 this
    rw [sub_inv0 hx]
  | pointer a => cases a <;> simp [sub, unk] at u
  | slice a _ _ => cases a <;> simp [sub, unk] at u
  | map a => cases a <;> simp [sub, unk] at u
  | chan a => cases a <;> simp [sub, unk] at u
  | _ => simp [sub, unk] at u
theorem RegRel.sub {r r' : Nat → Value} {tmps : Array Value} (hr : RegRel n ρ r tmps) (h : ∀ t, r' t = unk ∨ (r t = sub σ (r' t) ∧ VOk n' (r' t))) : RegRel n' (ρ.comp σ) r' tmps := by
  intro t
  rcases h t with e | ⟨e, ok⟩
  · exact .inl e
  · rcases hr t with u | ⟨_, u⟩
    · rw [e] at u
      have hu : r' t = unk := sub_inv u
      exact .inl hu
    · exact .inr ⟨ok, by rw [u, e, ren_sub]⟩
theorem ORel.sub {b : Nat} {o : AObj} {x : Option Obj} (ho : ORel n ρ (σ b) (subO σ o) x) (hok : objOk n' o) : ORel n' (ρ.comp σ) b o x := by
  cases o with
  | dead => trivial
  | cells c wr sz =>
    match x, ho with
    | some (.cells c' ty fr), ho =>
      obtain ⟨h1, h2, h3, h4⟩ := ho
      simp only [objOk, LOk_iff] at hok
      refine ⟨fun i v hv => ?_, fun hz => by simpa using h2 hz, fun hz => by simpa [Env.comp] using h3 hz, h4⟩
      rcases h1 i (Go.Proofs.Ythnccaajpdnndaa.sub σ v) (by rw [List.getElem?_map, hv]; rfl) with u | ⟨a1, a2, a3⟩
      · exact .inl ⟨sub_inv u.1, u.2⟩
      · exact .inr ⟨hok v (List.mem_of_getElem? hv), by rw [one_sub] at a2; exact a2, by rw [a3, ren_sub]⟩
  | map es wr =>
    match x, ho with
    | some (.map es' _), ⟨ho, hcl⟩ =>
      simp only [objOk] at hok
      refine ⟨⟨by simpa using ho.1, fun i k v hv => ?_⟩, by simpa using hcl⟩
      obtain ⟨a1, a2, e, a3, a4, a5, a6⟩ := ho.2 i k (Go.Proofs.Ythnccaajpdnndaa.sub σ v) (by rw [List.getElem?_map, hv]; rfl)
      exact ⟨a1, (hok _ (List.mem_of_getElem? hv)).2, e, a3, a4, by rw [a5, ren_sub], a6⟩
  | iter m k sn =>
    match x, ho with
    | some (.mapIter m' since seen last), ho => exact ⟨hok, ho.2⟩
  | loop st pend fn r size params assign body dfr =>
    match x, ho with
    | some (.loop l), ho =>
      obtain ⟨a1, a2, a3, a4, a5, a6, a7, a8, a9, a10⟩ := ho
      refine ⟨a1, a2, a3, a4.sub fun t => ?_, a5, a6, a7, a8, a9, hok.2⟩
      rcases hok.1 t with e | e
      · exact .inl e
      · exact .inr ⟨rfl, e⟩
  | deferred =>
    match x, ho with
    | some (.deferred (some [])), _ => trivial
  | chan cap =>
    match x, ho with
    | some (.chan _ _ _ _ _ _), ho => exact ho
  | group x => trivial
theorem GC.rel (g : GC n0 σ h₂ h') (H : HRel ρ h₂ FC w ft) : HRel (ρ.comp σ) h' FC w ft where
  obj := fun b o hb => by
    rcases g.obj b o hb with rfl | e
    · trivial
    · exact (H.obj _ _ e).sub (g.ok b o hb)
  inj := fun b b' o o' hb hb' l l' e => by
    have e1 := (g.obj b o hb).resolve_left (fun x => by rw [x] at l; cases l)
    have e2 := (g.obj b' o' hb').resolve_left (fun x => by rw [x] at l'; cases l')
    exact g.inj b b' o o' hb hb' l l' (H.inj _ _ _ _ e1 e2 (by rw [subO_live]; exact l) (by rw [subO_live]; exact l') e)
  rd := fun b o hb l => by
    have e1 := (g.obj b o hb).resolve_left (fun x => by rw [x] at l; cases l)
    exact H.rd _ _ e1 (by rw [subO_live]; exact l)
  wr := fun b o hb l => by
    have e1 := (g.obj b o hb).resolve_left (fun x => by rw [x] at l; cases l)
    exact H.wr _ _ e1 (by rw [subO_wrt]; exact l)
  lt := H.lt
  sub := H.sub
  kept := fun b o hb => by
    obtain ⟨a1, a2, a3⟩ := H.kept b o hb
    refine ⟨a1, a2, fun i oi hi l => ?_⟩
    have e1 := (g.obj i oi hi).resolve_left (fun x => by rw [x] at l; cases l)
    exact a3 _ _ e1 (by rw [subO_wrt]; exact l)
  keptW := H.keptW
  tag := fun b x hb => by
    have e1 := (g.obj b _ hb).resolve_left (fun e => by cases e)
    exact H.tag _ x e1
theorem GC.upto (g : GC n0 σ h₂ h') : Env.upto n0 ρ (ρ.comp σ) := fun b hb => by simp [Env.comp, g.same b hb]
theorem HRel.ok (H : HRel ρ h FC w ft) : heapOk h := by
  intro i o hi
  have := H.obj i o hi
  cases o with
  | dead => trivial
  | deferred => trivial
  | chan cap => trivial
  | group x => trivial
  | iter m k sn =>
    match hx : w.heap[ρ.blk i]?, this with
    | some (.mapIter m' since seen last), ho => exact ho.1
  | cells c wr sz =>
    match hx : w.heap[ρ.blk i]?, this with
    | some (.cells c' ty fr), ho =>
      simp only [objOk, LOk_iff]
      intro v hv
      obtain ⟨j, hj⟩ := List.getElem?_of_mem hv
      exact H.cellOk hi hj
  | map es wr =>
    match hx : w.heap[ρ.blk i]?, this with
    | some (.map es' _), ⟨ho, _⟩ =>
      intro e he
      obtain ⟨j, hj⟩ := List.getElem?_of_mem he
      obtain ⟨a1, a2, _⟩ := ho.2 j e.1 e.2 hj
      exact ⟨a1, a2⟩
  | loop st pend fn r size params assign body dfr =>
    match hx : w.heap[ρ.blk i]?, this with
    | some (.loop l), ho =>
      obtain ⟨a1, a2, a3, a4, a5, a6, a7, a8, a9, a10⟩ := ho
      refine ⟨fun t => ?_, a10⟩
      rcases a4 t with e | ⟨e, _⟩
      · exact .inl e
      · exact .inr e
structure GCR (n0 : Nat) (σ : Nat → Nat) (f₂ : RG) (h₂ : List AObj) (f' : RG) (h' : List AObj) : Prop where
  gc : GC n0 σ h₂ h'
  regs : ∀ t, f'.r t = unk ∨ (f₂.r t = sub σ (f'.r t) ∧ VOk h'.length (f'.r t))
  ds : f₂.ds = f'.ds.map σ
  dok : ∀ b ∈ f'.ds, b < h'.length
theorem GCR.act {f₂ : RG} (g : GCR n0 σ f₂ h₂ f' h') (A : ActRel h₂.length ρ N f₂ a) : ActRel h'.length (ρ.comp σ) N f' a :=
  ⟨A.regs.sub g.regs, A.size, by rw [A.defers, g.ds, List.map_map]; rfl, g.dok⟩
variable {P : Program} {main : Bool} {J : JT} {fn : FuncId} {Q : QT}
theorem Sem.gc {c : Code} {f₂ : RG} (g : GCR n0 σ f₂ h₂ f' h') (hs : Sem J N n0 fn c f' h' Q) : Sem J N n0 fn c f₂ h₂ Q := by
  intro b a k cs L ρ FC w ft h1 h2 h3 h4 h5 h6 hc
  exact hs b a k cs L _ FC w ft h1 h2 h3 (g.act h4) (g.gc.rel h5) g.gc.le fun e f3 h3' ρ3 w3 ft3 a3 q r1 r2 r3 r4 => hc e f3 h3' ρ3 w3 ft3 a3 q r1 r2 (Env.upto_trans g.gc.upto r3) r4
theorem Sem.ok {c : Code} (hs : heapOk h → n0 ≤ h.length → Sem J N n0 fn c f h Q) : Sem J N n0 fn c f h Q := by
  intro b a k cs L ρ FC w ft h1 h2 h3 h4 h5 h6 hc
  exact hs h5.ok h6 b a k cs L ρ FC w ft h1 h2 h3 h4 h5 h6 hc
theorem Sem_loop (hJ : Closed P main J) {c : Code} (I : Nat → RG → List AObj → Prop)
    (hI : ∀ m f h, I m f h → Sem J N n0 fn c f h (thenK (fun f h => ∃ m', m' < m ∧ I m' f h) Q))
    {m : Nat} (h0 : I m f h) : Sem J N n0 fn (.loop c) f h Q := by
  have main : ∀ (m : Nat) (f : RG) (h : List AObj), I m f h → ∀ (b : FB) (a : Act) (k : List Item) (cs : List Frame) (L : Option Code → Act → World → Foot → Prop) (ρ : Env) (FC : Frm) (w : World) (ft : Foot), b.tag = fn → b.kind ≠ .early → LeaveOk J b cs L →
      ActRel h.length ρ N f a → HRel ρ h FC w ft → n0 ≤ h.length → Cont J N n0 b k cs L ρ FC Q → J (G (b.at a (.code c :: .inLoop c :: k)) cs) w ft := by
    intro m
    induction m using Nat.strongRecOn with
    | ind m ih =>
      intro f h hi b a k cs L ρ FC w ft h1 h2 h3 h4 h5 h6 hc
      refine hI m f h hi b a (.inLoop c :: k) cs L ρ FC w ft h1 h2 h3 h4 h5 h6 fun e f' h' ρ' w' ft' a' q g1 g2 g3 g4 => ?_
      cases e with
      | normal =>
        obtain ⟨m', hm, hi'⟩ := q
        refine hJ.ctrl rfl rfl (g' := G (b.at a' (.code c :: .inLoop c :: k)) cs) (fun w => by simp [G, stepG, stepG.exec, FB.at]) ?_
        exact ih m' hm f' h' hi' b a' k cs L _ FC w' ft' h1 h2 h3 g1 g2 g4 fun e f3 h3' ρ3 w3 ft3 a3 q r1 r2 r3 r4 => hc e f3 h3' ρ3 w3 ft3 a3 q r1 r2 (Env.upto_trans g3 r3) r4
      | exit id => exact AfterJ.push (fun _ => rfl) (by simp) (hc _ _ _ _ _ _ _ q g1 g2 g3 g4)
      | ret => exact AfterJ.push (fun _ => rfl) (by simp) (hc _ _ _ _ _ _ _ q g1 g2 g3 g4)
      | goto l => exact hc _ _ _ _ _ _ _ q g1 g2 g3 g4
      | panic l => exact hc _ _ _ _ _ _ _ q g1 g2 g3 g4
      | outgrown => exact hc _ _ _ _ _ _ _ q g1 g2 g3 g4
  intro b a k cs L ρ FC w ft h1 h2 h3 h4 h5 h6 hc
  refine hJ.ctrl rfl rfl (g' := G (b.at a (.code c :: .inLoop c :: k)) cs) (fun w => by simp [G, stepG, stepG.exec, FB.at]) ?_
  exact main m f h h0 b a k cs L ρ FC w ft h1 h2 h3 h4 h5 h6 hc
end
def resW (P : Program) : List ResultVar → (Nat → Value) → List AObj → (List Value → Prop) → Prop
  | [], _, _, K => K []
  | .tmp t :: rs, r, h, K => r t ≠ unk ∧ resW P rs r h fun vs => K (r t :: vs)
  | .cell a t :: rs, r, h, K => match tk P t with
    | some (g, s) => aLoad g s (r a) h fun v => resW P rs r h fun vs => K (v :: vs)
    | none => False
def pack (vs : List Value) : Value :=
  match vs with
  | [v] => v
  | vs => .tuple ⟨vs⟩
def takeW : List Nat → List AObj → (List AObj → Prop) → Prop
  | [], h, K => K h
  | d :: ds, h, K => h[d]? = some .deferred ∧ takeW ds (h.set d .dead) K
def RetQ (P : Program) (rs : List ResultVar) (n0 : Nat) (K : Value → List AObj → Prop) : QT := fun e f h =>
  match e with
  | .normal | .ret => takeW f.ds h fun h => resW P rs f.r h fun vs => K (pack vs) h ∨ ∃ σ h' v, GC n0 σ h h' ∧ pack vs = sub σ v ∧ VOk h'.length v ∧ K v h'
  | _ => False
section
variable {P : Program} {main : Bool} {J : JT} {N : Nat} {ρ : Env} {h : List AObj} {FC : Frm} {w : World} {ft : Foot} {f : RG} {a : Act} {cs : List Frame} {b : FB}
theorem HRel.clobber (H : HRel ρ h FC w ft) {d : Nat} {o₀ : AObj} (hd : h[d]? = some o₀) (hw : o₀.wrt = true) (x : Obj) : HRel ρ (h.set d .dead) FC { w with heap := w.heap.setIfInBounds (ρ.blk d) x } ft := by
  have hl0 : o₀.live = true := by cases o₀ <;> first | rfl | cases hw
  have hoth : ∀ y, y ≠ ρ.blk d → (w.heap.setIfInBounds (ρ.blk d) x)[y]? = w.heap[y]? := fun y hy => by
    rw [Array.getElem?_setIfInBounds, if_neg (fun e => hy e.symm)]
  refine ⟨fun i o hi => ?_, fun i j o o' hi hj l1 l2 e => ?_, fun i o hi hl => ?_, fun i o hi hl => ?_, fun y hy => ?_, H.sub, fun y o hy => ?_, H.keptW, fun i x hi => (by
    rcases set_get hi with ⟨rfl, e, _⟩ | ⟨_, hi⟩
    · cases e
    · exact H.tag i x hi)⟩
  · rw [List.length_set]
    rcases set_get hi with ⟨rfl, rfl, _⟩ | ⟨hne, hi⟩
    · trivial
    · cases hl : o.live with
      | false => cases o <;> first | trivial | cases hl
      | true =>
        show ORel h.length ρ i o (w.heap.setIfInBounds (ρ.blk d) x)[ρ.blk i]?
        rw [hoth _ (fun e => hne (H.inj _ _ _ _ hi hd hl hl0 e))]
        exact H.obj _ _ hi
  · rcases set_get hi with ⟨rfl, rfl, _⟩ | ⟨hne, hi⟩
    · cases l1
    · rcases set_get hj with ⟨rfl, rfl, _⟩ | ⟨hne', hj⟩
      · cases l2
      · exact H.inj _ _ _ _ hi hj l1 l2 e
  · rcases set_get hi with ⟨rfl, rfl, _⟩ | ⟨hne, hi⟩
    · cases hl
    · exact H.rd _ _ hi hl
  · rcases set_get hi with ⟨rfl, rfl, _⟩ | ⟨hne, hi⟩
    · cases hl
    · exact H.wr _ _ hi hl
  · simpa using H.lt y hy
  · obtain ⟨a1, a2, a3⟩ := H.kept y o hy
    refine ⟨?_, a2, fun i oi hi hl => ?_⟩
    · show (w.heap.setIfInBounds (ρ.blk d) x)[y]? = some o
      rw [hoth _ (fun e => a3 _ _ hd hw e.symm)]
      exact a1
    · rcases set_get hi with ⟨rfl, rfl, _⟩ | ⟨hne, hi⟩
      · cases hl
      · exact a3 _ _ hi hl
theorem evOk_objW {r : Nat} {x : Obj} (hr : ft.rd r) (hw : ft.wr r) (hx : x.isChan = false) : EvOk ft ⟨.obj r, true, x.isChan⟩ := ⟨hx, hr, fun _ => hw⟩
theorem evOk_objR {r : Nat} {x : Obj} (hr : ft.rd r) (hx : x.isChan = false) : EvOk ft ⟨.obj r, false, x.isChan⟩ := ⟨hx, hr, fun e => by cases e⟩
theorem take_run (H : HRel ρ h FC w ft) {d : Nat} (hd : h[d]? = some .deferred) {Q : List Deferred → World → Prop} (hQ : ∀ w', HRel ρ (h.set d .dead) FC w' ft → Stays ft w w' → w'.heap.size = w.heap.size → Q [] w') : RunsTo P (EvOk ft) (Instr.takeDeferred (ρ.blk d)) w Q := by
  have ho := H.obj d _ hd
  have hrd := H.rd d _ hd rfl
  have hwr := H.wr d _ hd rfl
  match hw : w.heap[ρ.blk d]?, ho with
  | some (.deferred (some [])), _ =>
    unfold Instr.takeDeferred
    refine RunsTo.bind (RunsTo.getObj hw (fun _ _ _ e => by cases e) (evOk_objR hrd rfl) ?_)
    simp only
    refine RunsTo.bind (RunsTo.setObj hw (fun _ _ _ e => by cases e) (evOk_objW hrd hwr rfl) (RunsTo.pure ?_))
    refine hQ _ (H.clobber hd rfl _) ⟨fun y hy hny => ?_, by simp, rfl, rfl, rfl⟩ (by simp)
    show (w.heap.setIfInBounds (ρ.blk d) _)[y]? = _
    have hne : ρ.blk d ≠ y := fun e => hny (by rw [← e]; exact hwr)
    rw [Array.getElem?_setIfInBounds, if_neg hne]
def resF (tmps : Array Value) : ResultVar → Go.Sem Value
  | .tmp t => pure (tmps.getD t undef)
  | .cell x t => do loadVar t (← asAddr (tmps.getD x undef))
theorem res_run (H : HRel ρ h FC w ft) {n : Nat} (hr : RegRel h.length ρ f.r a.tmps) {Q : List Value → World → Prop} : ∀ (rs : List ResultVar) {K : List Value → Prop}, resW P rs f.r h K →
    (∀ vs, K vs → (∀ v ∈ vs, VOk h.length v) → Q (vs.map (ren ρ)) w) →
    RunsTo P (EvOk ft) (rs.mapM (resF a.tmps)) w Q
  | [], K, hK, hQ => by
    rw [List.mapM_nil]
    exact RunsTo.pure (hQ [] hK (by simp))
  | .tmp t :: rs, K, hK, hQ => by
    rw [List.mapM_cons]
    have hv := (hr t).resolve_left hK.1
    refine RunsTo.bind (RunsTo.pure (RunsTo.bind (res_run (n := n) H hr rs hK.2 fun vs hvs hok => RunsTo.pure ?_)))
    rw [hv.2]
    exact hQ (f.r t :: vs) hvs (by simpa using ⟨hv.1, hok⟩)
  | .cell x t :: rs, K, hK, hQ => by
    rw [List.mapM_cons]
    simp only [resW] at hK
    split at hK
    · rename_i g s ht
      have hx : f.r x ≠ unk := by
        intro e
        rw [e] at hK
        exact hK
      have hv := (hr x).resolve_left hx
      have hl : resF a.tmps (.cell x t) = Instr.loadAt t (ren ρ (f.r x)) := by
        unfold resF
        simp only
        rw [hv.2]
        unfold aLoad at hK
        split at hK
        · rename_i e
          rw [e]
          rfl
        · exact hK.elim
      rw [hl]
      refine RunsTo.bind (sound_load H ht hK fun v hk hok => ?_)
      refine RunsTo.bind (res_run (n := n) H hr rs hk fun vs hvs hoks => RunsTo.pure ?_)
      exact hQ (v :: vs) hvs (by simpa using ⟨hok, hoks⟩)
    · exact hK.elim
theorem pack_ren (vs : List Value) : (if h : (vs.map (ren ρ)).toArray.size = 1 then (vs.map (ren ρ)).toArray[0] else .tuple (vs.map (ren ρ)).toArray) = ren ρ (pack vs) := by
  match vs with
  | [] => simp [pack, ren, renA, renL]
  | [v] => simp [pack]
  | v :: u :: vs => simp [pack, ren, renA, renL_eq]
theorem pack_ok {n : Nat} {vs : List Value} (h : ∀ v ∈ vs, VOk n v) : VOk n (pack vs) := by
  match vs with
  | [] => simp [pack, VOk, AOk, LOk]
  | [v] => exact h v (by simp)
  | v :: u :: vs =>
    simp only [pack, VOk, AOk]
    exact (LOk_iff _).2 h
theorem leave_run (hJ : Closed P main J) {fn : Func} (hk : b.kind = .normal) (hf : P.funcs[b.fn]? = some fn) {c : Frame} {n0 : Nat} {K : Value → List AObj → Prop}
    (hc : ∀ v h' ρ' w' ft' cv, K v h' → HRel ρ' h' FC w' ft' → Env.upto n0 ρ ρ' → n0 ≤ h'.length → VRel h'.length ρ' v cv → J (G (c.finish cv) cs) w' ft') :
    ∀ (ds : List Nat) (h : List AObj) (w : World) (ft : Foot) (a : Act) (fr : Frame), fr.fn = b.fn → fr.kind = .normal → fr.mode = .returning → fr.tmps = a.tmps → fr.defers = ds.map (fun d => { target := .collected (ρ.blk d), args := #[] }) → RegRel h.length ρ f.r a.tmps → HRel ρ h FC w ft → n0 ≤ h.length →
      takeW ds h (fun h => resW P fn.results.toList f.r h fun vs => K (pack vs) h ∨ ∃ σ h' v, GC n0 σ h h' ∧ pack vs = sub σ v ∧ VOk h'.length v ∧ K v h') → J (G fr (c :: cs)) w ft
  | [], h, w, ft, a, fr, e1, e2, e3, e4, e5, hr, H, hn, hq => by
    obtain ⟨fn', tmps, todo, defers, mode, kind, ro⟩ := fr
    simp only at e1 e2 e3 e4 e5
    subst e1 e2 e3 e4 e5
    refine hJ.step rfl fun w₁ h₁ => ?_
    have H₁ := H.rely h₁
    have hrun : RunsTo P (EvOk ft) (results fn a.tmps) w₁ fun cv w' => w' = w₁ ∧ ∃ vs, cv = ren ρ (pack vs) ∧ (∀ v ∈ vs, VOk h.length v) ∧ (K (pack vs) h ∨ ∃ σ h' v, GC n0 σ h h' ∧ pack vs = sub σ v ∧ VOk h'.length v ∧ K v h') := by
      unfold results
      have : (fn.results.mapM (resF a.tmps)) = Functor.map List.toArray (fn.results.toList.mapM (resF a.tmps)) := by
        rw [Array.mapM_eq_mapM_toList]
      show RunsTo P (EvOk ft) (do
        let vs ← fn.results.mapM (resF a.tmps)
        pure (if h : vs.size = 1 then vs[0] else .tuple vs)) w₁ _
      rw [this]
      refine RunsTo.bind (RunsTo.map (res_run (n := 0) H₁ hr fn.results.toList hq fun vs hvs hok => RunsTo.pure ⟨rfl, vs, ?_, hok, hvs⟩))
      exact pack_ren vs
    obtain ⟨cv, w', es, hr', he, rfl, vs, rfl, hvok, hvs⟩ := hrun #[] (by simp)
    have hes : ∀ e ∈ seen P b.fn es, EvOk ft e := fun e hm => he e (mem_seen hm)
    refine ⟨G (c.finish (ren ρ (pack vs))) cs, w', seen P b.fn es, ?_, rfl, (Stays.refl ft w').guar hes, ?_⟩
    · simp only [G, stepG, unwind, List.map_nil, hf, hr']
      simp [doReturn, GStep.after]
    · rw [Foot.ext_self]
      rcases hvs with hK | ⟨σ, h', v, g, hp, hok, hK⟩
      · exact hc _ h _ w' ft _ hK H₁ (Env.upto_refl _ _) hn (.inr ⟨pack_ok hvok, rfl⟩)
      · rw [hp, ren_sub]
        exact hc v h' _ w' ft _ hK (g.rel H₁) g.upto g.le (.inr ⟨hok, rfl⟩)
  | d :: ds, h, w, ft, a, fr, e1, e2, e3, e4, e5, hr, H, hn, hq => by
    obtain ⟨fn', tmps, todo, defers, mode, kind, ro⟩ := fr
    simp only at e1 e2 e3 e4 e5
    subst e1 e2 e3 e4 e5
    obtain ⟨hd, hq⟩ := hq
    refine hJ.step rfl fun w₁ h₁ => ?_
    have H₁ := H.rely h₁
    obtain ⟨cv, w', es, hr', he, rfl, H', hst, hsz⟩ := take_run (P := P) H₁ hd (Q := fun l w' => l = [] ∧ HRel ρ (h.set d .dead) FC w' ft ∧ Stays ft w₁ w' ∧ w'.heap.size = w₁.heap.size) (fun w' a1 a2 a3 => ⟨rfl, a1, a2, a3⟩) #[] (by simp)
    have hes : ∀ e ∈ seen P b.fn es, EvOk ft e := fun e hm => he e (mem_seen hm)
    refine ⟨G { fn := b.fn, tmps := a.tmps, todo := todo, defers := ds.map (fun d => { target := .collected (ρ.blk d), args := #[] }), mode := .returning, kind := .normal, roundOf := ro } (c :: cs), w', seen P b.fn es, ?_, rfl, hst.guar hes, ?_⟩
    · simp only [G, stepG, unwind, List.map_cons, hr']
      simp [GStep.after]
    · rw [hsz, Foot.ext_self]
      exact leave_run hJ hk hf hc ds _ w' ft a _ rfl rfl rfl rfl rfl (by rw [List.length_set]; exact hr) H' (by rw [List.length_set]; exact hn) hq
end
def regs (args : List Value) : Nat → Value := fun t => args.getD t unk
section
variable {P : Program} {main : Bool} {J : JT} {g : FuncId} {args : List Value} {h : List AObj} {K : Value → List AObj → Prop}
theorem Good.mono {K' : Value → List AObj → Prop} (hg : Good P J g args h K) (hk : ∀ v h, K v h → K' v h) : Good P J g args h K' :=
  hg.imp (fun hg => ⟨hg.1, fun ρ FC w ft cs c cargs fr h1 h2 h3 he h4 => hg.2 ρ FC w ft cs c cargs fr h1 h2 h3 he fun v h' ρ' w' ft' cv k => h4 v h' ρ' w' ft' cv (hk _ _ k)⟩) fun hg => ⟨hg.1, fun b a ops i rest o k cs ρ FC w ft cargs s h1 h2 h3 h4 => hg.2 b a ops i rest o k cs ρ FC w ft cargs s h1 h2 h3 fun v h' ρ' w' ft' cv k => h4 v h' ρ' w' ft' cv (hk _ _ k)⟩
theorem good_of_sem (hJ : Closed P main J) {fn : Func} (hf : P.funcs[g]? = some fn) {c : Code} (hb : fn.body = some c) (hn : (fn.name == "runtime.NumGoroutine") = false) (ha : args.length ≤ fn.ntmps)
    (hs : heapOk h → Sem J fn.ntmps h.length g c ⟨regs args, []⟩ h (RetQ P fn.results.toList h.length K)) : Good P J g args h K := by
  have hlt : g < P.funcs.size := (Array.getElem?_eq_some_iff.1 hf).1
  refine .inl ⟨.inl ⟨hlt, by simp [callable, hf, hb, hn]⟩, fun ρ FC w ft cs c' cargs fr H hr hl hent hc => ?_⟩
  obtain rfl : fr = Frame.enter P g ⟨cargs⟩ .normal := by
    rcases hent with ⟨_, e⟩ | ⟨hge, _⟩
    · exact e
    · exact absurd hlt (Nat.not_lt.2 hge)
  have he : Frame.enter P g ⟨cargs⟩ .normal = FB.at ⟨g, .normal, none, []⟩ ⟨⟨cargs⟩ ++ Array.replicate (fn.ntmps - cargs.length) undef, []⟩ [.code c] := by
    simp [Frame.enter, FB.at, hf, hb]
  rw [he]
  have A : ActRel h.length ρ fn.ntmps ⟨regs args, []⟩ ⟨⟨cargs⟩ ++ Array.replicate (fn.ntmps - cargs.length) undef, []⟩ := by
    refine ⟨fun t => ?_, by simp; omega, rfl, by simp⟩
    have := hr t
    have ht : ((⟨cargs⟩ : Array Value) ++ Array.replicate (fn.ntmps - cargs.length) undef).getD t undef = cargs.getD t undef := by
      rw [Array.getD_eq_getD_getElem?, List.getD_eq_getElem?_getD]
      by_cases hx : t < cargs.length
      · rw [Array.getElem?_append_left (by simpa using hx)]
        simp
      · rw [Array.getElem?_append_right (by simp; omega), List.getElem?_eq_none (by omega)]
        simp only [Array.getElem?_replicate]
        split <;> rfl
    rw [ht]
    exact this
  have last : ∀ f' h' ρ' w' ft' a' todo, RetQ P fn.results.toList h.length K .ret f' h' → ActRel h'.length ρ' fn.ntmps f' a' → HRel ρ' h' FC w' ft' → Env.upto h.length ρ ρ' → h.length ≤ h'.length →
      J (G { (FB.at ⟨g, .normal, none, []⟩ a' todo) with mode := .returning } (c' :: cs)) w' ft' := by
    intro f' h' ρ' w' ft' a' todo q A' H' hu hl
    exact leave_run (b := ⟨g, .normal, none, []⟩) (f := f') (n0 := h.length) (ρ := ρ') hJ rfl hf (fun v h2 ρ2 w2 ft2 cv k H2 u2 l2 v2 => hc v h2 ρ2 w2 ft2 cv k H2 (Env.upto_trans hu u2) l2 v2) f'.ds h' w' ft' a' _ rfl rfl rfl rfl ((List.append_nil _).trans A'.defers) A'.regs H' hl q
  refine hs H.ok ⟨g, .normal, none, []⟩ _ [] (c' :: cs) (fun jump a w ft => jump = some .ret ∧ ∀ todo, J (G { (FB.at ⟨g, .normal, none, []⟩ a todo) with mode := .returning } (c' :: cs)) w ft) ρ FC w ft rfl (by simp) ?_ A H (Nat.le_refl _) ?_
  · rintro jump a w ft todo ⟨rfl, hj⟩ hh
    rcases hh with ⟨_, k, rfl⟩ | ⟨id, k, e, _⟩ | ⟨e, _⟩
    · exact hJ.ctrl rfl rfl (fun w => by simp [G, stepG, stepG.exec, FB.at]) (hj (.code .ret :: k))
    · cases e
    · cases e
  · intro e f' h' ρ' w' ft' a' q A' H' hu hl
    cases e with
    | normal => exact hJ.ctrl rfl rfl (fun w => by simp [G, stepG, stepG.exec, FB.at]) (last f' h' ρ' w' ft' a' [] q A' H' hu hl)
    | ret => exact ⟨rfl, fun todo => last f' h' ρ' w' ft' a' todo q A' H' hu hl⟩
    | exit id => exact q.elim
    | goto l => exact q.elim
    | panic l => exact q.elim
    | outgrown => exact q.elim
end
def Pin (F : (Value → Prop) → Prop) : Prop := ∀ K, F K → ∃ v, K v ∧ ∀ K1 : Value → Prop, K1 v → F K1
section
variable {P : Program}
theorem pin_const (v : Value) : Pin fun K => K v := fun _ h => ⟨v, h, fun _ h => h⟩
theorem pin_no : Pin fun _ => False := fun _ h => h.elim
theorem pin_and {p : Prop} {F : (Value → Prop) → Prop} (h : Pin F) : Pin fun K => p ∧ F K := fun K hk => by
  obtain ⟨v, a, b⟩ := h K hk.2
  exact ⟨v, a, fun K1 k => ⟨hk.1, b K1 k⟩⟩
theorem pin_aLoad {g : Bool} {s : Nat} {p : Value} {h : List AObj} : Pin (aLoad g s p h) := by
  intro K hK
  unfold aLoad at hK ⊢
  split at hK
  · split at hK
    · rename_i hb
      cases g with
      | true => exact ⟨_, hK.2.2, fun K1 k => ⟨hK.1, hK.2.1, k⟩⟩
      | false =>
        simp only [cond_false] at hK
        split at hK
        · rename_i hv
          exact ⟨_, hK.2, fun K1 k => by first | exact ⟨hK.1, k⟩ | (simp only [cond_false]; exact ⟨hK.1, k⟩) | (simp only [cond_false, hv]; exact ⟨hK.1, k⟩)⟩
        · exact hK.elim
    · exact hK.elim
  · exact hK.elim
theorem pin_aField {g : Bool} {s o : Nat} {x : Value} : Pin (aField g s o x) := by
  intro K hK
  unfold aField at hK ⊢
  split at hK
  · cases g with
    | true => exact ⟨_, hK.2, fun K1 k => ⟨hK.1, k⟩⟩
    | false =>
      simp only [cond_false] at hK
      split at hK
      · rename_i hv
        exact ⟨_, hK, fun K1 k => by first | exact k | (simp only [cond_false]; exact k) | (simp only [cond_false, hv]; exact k)⟩
      · exact hK.elim
  · exact hK.elim
theorem pin_aOff {p : Value} {o : Nat} : Pin (aOff p o) := by
  intro K hK
  unfold aOff at hK ⊢
  split at hK
  · exact ⟨_, hK, fun K1 k => k⟩
  · exact hK.elim
theorem pin_aIdx {s : Nat} {x i : Value} : Pin (aIdx s x i) := by
  intro K hK
  unfold aIdx at hK ⊢
  split at hK
  · exact ⟨_, hK.2, fun K1 k => ⟨hK.1, k⟩⟩
  · exact hK.elim
theorem pin_aIdxA {l s : Nat} {x i : Value} : Pin (aIdxA l s x i) := by
  intro K hK
  unfold aIdxA at hK ⊢
  split at hK
  · exact ⟨_, hK.2, fun K1 k => ⟨hK.1, k⟩⟩
  · exact hK.elim
theorem pin_aInt {op : BinOp} {k : IntKind} {a b : Int} : Pin (aInt op k a b) := by
  cases op <;> first | exact pin_no | exact pin_const _ | exact pin_and (pin_const _)
theorem pin_aShift {op : BinOp} {k : IntKind} {a b : Int} : Pin (aShift op k a b) := by
  unfold aShift
  refine pin_and ?_
  cases op <;> first | exact pin_no | exact pin_const _
theorem pin_aEq {n : Bool} {t : TypeId} {x y : Value} : Pin (aEq P n t x y) := by
  intro K hK
  unfold aEq at hK ⊢
  split at hK
  · rename_i hb
    exact ⟨_, hK.2, fun K1 k => by first | exact ⟨hK.1, k⟩ | (simp only [hb]; exact ⟨hK.1, k⟩)⟩
  · exact hK.elim
theorem pin_aStr {op : BinOp} {a b : ByteArray} : Pin (aStr op a b) := by
  cases op <;> first | exact pin_no | exact pin_const _ | exact pin_and (pin_const _)
theorem pin_aBin {op : BinOp} {t : TypeId} {x y : Value} : Pin (aBin P op t x y) := by
  intro K hK
  have hh := hK
  unfold aBin at hK
  split at hK
  · split at hK
    · obtain ⟨v, a, b⟩ := pin_aShift K hK
      exact ⟨v, a, fun K1 k => by unfold aBin; exact b K1 k⟩
    · obtain ⟨v, a, b⟩ := pin_aShift K hK
      exact ⟨v, a, fun K1 k => by unfold aBin; exact b K1 k⟩
    · rename_i n1 n2
      obtain ⟨v, a, b⟩ := pin_aInt K hK.2
      refine ⟨v, a, fun K1 k => ?_⟩
      unfold aBin
      cases op <;> first | exact ⟨hK.1, b K1 k⟩ | exact absurd rfl n1 | exact absurd rfl n2
  · obtain ⟨v, a, b⟩ := pin_aStr K hK
    exact ⟨v, a, fun K1 k => by unfold aBin; exact b K1 k⟩
  · rename_i n1 n2
    cases op <;> first | exact hK.elim | skip
    · obtain ⟨v, a, b⟩ := pin_aEq K hK
      refine ⟨v, a, fun K1 k => ?_⟩
      unfold aBin
      split
      · exact absurd rfl (n1 _ _ _ _ rfl)
      · exact absurd rfl (n2 _ _ rfl)
      · exact b K1 k
    · obtain ⟨v, a, b⟩ := pin_aEq K hK
      refine ⟨v, a, fun K1 k => ?_⟩
      unfold aBin
      split
      · exact absurd rfl (n1 _ _ _ _ rfl)
      · exact absurd rfl (n2 _ _ rfl)
      · exact b K1 k
theorem pin_aUn {op : UnOp} {x : Value} : Pin (aUn op x) := by
  intro K hK
  unfold aUn at hK ⊢
  split at hK
  · exact ⟨_, hK, fun K1 k => k⟩
  · exact ⟨_, hK, fun K1 k => k⟩
  · exact hK.elim
theorem pin_aConv {t : TypeId} {x : Value} : Pin (aConv P t x) := by
  intro K hK
  unfold aConv at hK ⊢
  split at hK
  · rename_i hb
    exact ⟨_, hK, fun K1 k => by first | exact k | (simp only [hb]; exact k)⟩
  · exact hK.elim
theorem pin_aIdxStr {x i : Value} : Pin (aIdxStr x i) := by
  intro K hK
  unfold aIdxStr at hK ⊢
  split at hK
  · obtain ⟨h0, hK⟩ := hK
    split at hK
    · rename_i hb
      exact ⟨_, hK, fun K1 k => by first | exact ⟨h0, k⟩ | (simp only [hb]; exact ⟨h0, k⟩)⟩
    · exact hK.elim
  · exact hK.elim
theorem pin_aIdxV {n s : Nat} {g : Bool} {x i : Value} : Pin (aIdxV n s g x i) := by
  intro K hK
  unfold aIdxV at hK ⊢
  split at hK
  · obtain ⟨v, a, b⟩ := pin_aField _ hK.2
    exact ⟨v, a, fun K1 k => ⟨hK.1, b K1 k⟩⟩
  · exact hK.elim
theorem pin_aCapS {x : Value} : Pin (aCapS x) := by
  intro K hK
  unfold aCapS at hK ⊢
  split at hK
  · exact ⟨_, hK.2, fun K1 k => ⟨hK.1, k⟩⟩
  · exact hK.elim
theorem pin_aExt {x : Value} {i : Nat} : Pin (aExt x i) := by
  intro K hK
  unfold aExt at hK ⊢
  split at hK
  · split at hK
    · rename_i hb
      exact ⟨_, hK, fun K1 k => by first | exact k | (simp only [hb]; exact k)⟩
    · exact hK.elim
  · exact ⟨_, hK.2, fun K1 k => ⟨hK.1, k⟩⟩
  · exact hK.elim
theorem pin_aNil {x : Value} : Pin (aNil x) := by
  intro K hK
  unfold aNil at hK ⊢
  split at hK
  · exact ⟨_, hK, fun K1 k => k⟩
  · exact ⟨_, hK, fun K1 k => k⟩
  · exact ⟨_, hK, fun K1 k => k⟩
  · exact hK.elim
theorem pin_aLenS {x : Value} : Pin (aLenS x) := by
  intro K hK
  unfold aLenS at hK ⊢
  split at hK
  · exact ⟨_, hK, fun K1 k => k⟩
  · exact hK.elim
theorem pin_aLenStr {x : Value} : Pin (aLenStr x) := by
  intro K hK
  unfold aLenStr at hK ⊢
  split at hK
  · exact ⟨_, hK, fun K1 k => k⟩
  · exact hK.elim
theorem pin_aMin : ∀ (l : List Value) (x : Value), Pin (aMin x l)
  | [], x => fun K hK => ⟨x, hK, fun K1 k => k⟩
  | y :: l, x => by
    intro K hK
    unfold aMin at hK ⊢
    split at hK
    · obtain ⟨v, a, b⟩ := pin_aMin l _ K hK
      exact ⟨v, a, fun K1 k => b K1 k⟩
    · exact hK.elim
theorem pin_aMax : ∀ (l : List Value) (x : Value), Pin (aMax x l)
  | [], x => fun K hK => ⟨x, hK, fun K1 k => k⟩
  | y :: l, x => by
    intro K hK
    unfold aMax at hK ⊢
    split at hK
    · obtain ⟨v, a, b⟩ := pin_aMax l _ K hK
      exact ⟨v, a, fun K1 k => b K1 k⟩
    · exact hK.elim
theorem pin_aFill : ∀ (ps : List (Nat × Nat × Value)) (c : List Value) (K : List Value → Prop), aFill c ps K → ∃ c', K c' ∧ ∀ K1 : List Value → Prop, K1 c' → aFill c ps K1
  | [], c, K, hK => ⟨c, hK, fun K1 k => k⟩
  | (off, s, v) :: ps, c, K, hK => by
    obtain ⟨a1, a2, a3, hK⟩ := hK
    obtain ⟨c', b1, b2⟩ := pin_aFill ps _ K hK
    exact ⟨c', b1, fun K1 k => ⟨a1, a2, a3, b2 K1 k⟩⟩
def ptrBlk : Value → Option Nat
  | .pointer (some a) => some a.block
  | _ => none
def mapBlk : Value → Option Nat
  | .map b => b
  | _ => none
def readOf (o : Op) (r : Nat → Value) : Option Nat :=
  match o with
  | .load _ x => ptrBlk (ev r x)
  | .lookup _ m _ _ => mapBlk (ev r m)
  | .call { callee := .builtin .len, args, .. } => match args.toList with
    | [x] => mapBlk (ev r x)
    | _ => none
  | _ => none
def freeOp (P : Program) : Op → Bool
  | .move _ | .assign _ | .pick .. | .load .. | .nilCheck _ | .binOp .. | .unOp .. | .fieldAddr .. | .field .. | .indexAddr .. | .lookup .. | .extract .. | .build .. | .index .. => true
  | .convert s _ _ => match P.underlying s with
    | some (.int _) => true
    | _ => false
  | .makeFunc .. => true
  | .call { callee := .builtin b, .. } => match b with
    | .len | .min | .max | .cap => true
    | _ => false
  | _ => false
theorem aLoad_same {g : Bool} {s : Nat} {p : Value} {h h1 : List AObj} {K : Value → Prop} (e : ∀ b, ptrBlk p = some b → h1[b]? = h[b]?) (hK : aLoad g s p h K) : aLoad g s p h1 K := by
  unfold aLoad at hK ⊢
  split at hK
  · rename_i b off
    rw [e b rfl]
    exact hK
  · exact hK.elim
theorem aop_free {o : Op} {r : Nat → Value} {h : List AObj} {K : Value → List AObj → Prop} (hf : freeOp P o = true) (hK : aop P o r h K) :
    ∃ v, K v h ∧ ∀ (h1 : List AObj) (K1 : Value → List AObj → Prop), (∀ b, readOf o r = some b → h1[b]? = h[b]?) → K1 v h1 → aop P o r h1 K1 := by
  have use : ∀ {F : (Value → Prop) → Prop}, Pin F → F (fun v => K v h) → (∀ h1 (K1 : Value → List AObj → Prop), (∀ b, readOf o r = some b → h1[b]? = h[b]?) → F (fun v => K1 v h1) → aop P o r h1 K1) →
      ∃ v, K v h ∧ ∀ (h1 : List AObj) (K1 : Value → List AObj → Prop), (∀ b, readOf o r = some b → h1[b]? = h[b]?) → K1 v h1 → aop P o r h1 K1 := by
    intro F pf hF hh
    obtain ⟨v, a, b⟩ := pf _ hF
    exact ⟨v, a, fun h1 K1 e k => hh h1 K1 e (b _ k)⟩
  cases o <;> simp only [freeOp, Bool.false_eq_true] at hf <;> simp only [aop] at hK
  case move x => exact ⟨_, hK, fun h1 K1 _ k => k⟩
  case assign x => exact ⟨_, hK, fun h1 K1 _ k => k⟩
  case pick c a b =>
    split at hK
    · rename_i hb
      exact ⟨_, hK, fun h1 K1 _ k => by simp only [aop, hb]; exact k⟩
    · exact hK.elim
  case build t ps =>
    split at hK
    · rename_i z l hz hl
      cases hg : aggT P t with
      | true =>
        rw [hg] at hK
        obtain ⟨c', b1, b2⟩ := pin_aFill _ _ _ hK
        exact ⟨_, b1, fun h1 K1 _ k => by simp only [aop, hz, hl, hg, cond_true]; exact b2 _ k⟩
      | false => rw [hg] at hK; exact hK.elim
    · exact hK.elim
  case load t x =>
    split at hK
    · rename_i g s ht
      obtain ⟨v, a, b⟩ := pin_aLoad _ hK
      refine ⟨v, a, fun h1 K1 e k => ?_⟩
      simp only [aop, ht]
      exact aLoad_same e (b (fun v => K1 v h1) k)
    · exact hK.elim
  case nilCheck x => exact use pin_aNil hK fun h1 K1 _ k => k
  case binOp op t x y _ => exact use pin_aBin hK fun h1 K1 _ k => k
  case unOp op _ x => exact use pin_aUn hK fun h1 K1 _ k => k
  case convert s d x =>
    split at hK
    · rename_i hs
      exact use pin_aConv hK fun h1 K1 _ k => by simp only [aop, hs]; exact k
    · rename_i e hs
      rw [hs] at hf
      cases hf
    · exact hK.elim
  case index t x i =>
    split at hK
    · rename_i hs
      exact use pin_aIdxStr hK fun h1 K1 _ k => by simp only [aop, hs]; exact k
    · rename_i h1
      split at hK
      · rename_i h2
        exact use pin_aIdxV hK fun _ K1 _ k => by simp only [aop, h1, h2]; exact k
      · exact hK.elim
    · exact hK.elim
  case makeFunc fn first cap =>
    cases fn <;> simp only at hK
    exact ⟨_, hK.2, fun h1 K1 _ k => ⟨hK.1, k⟩⟩
  case fieldAddr t x f =>
    split at hK
    · rename_i hs
      exact use pin_aOff hK fun h1 K1 _ k => by simp only [aop, hs]; exact k
    · exact hK.elim
  case field t x f =>
    split at hK
    · rename_i h1
      split at hK
      · rename_i h2
        split at hK
        · rename_i h3
          exact use pin_aField hK fun _ K1 _ k => by simp only [aop, h1, h2, h3]; exact k
        · exact hK.elim
      · exact hK.elim
    · exact hK.elim
  case indexAddr t x i =>
    split at hK
    · rename_i h1
      split at hK
      · rename_i h2
        exact use pin_aIdx hK fun _ K1 _ k => by simp only [aop, h1, h2]; exact k
      · exact hK.elim
    · rename_i h1
      split at hK
      · rename_i h2
        exact use pin_aIdxA hK fun _ K1 _ k => by simp only [aop, h1, h2]; exact k
      · exact hK.elim
    · exact hK.elim
  case lookup t m k ok =>
    unfold aLook at hK
    split at hK
    · rename_i kt vt b hu hm
      split at hK
      · rename_i es wr z hb hz
        obtain ⟨hk, hK⟩ := hK
        split at hK
        · rename_i v hv
          refine ⟨_, hK, fun h1 K1 e k1 => ?_⟩
          simp only [aop, aLook, hu, hm]
          rw [e b (by simp [readOf, mapBlk, hm]), hb, hz]
          simp only [hv]
          exact ⟨hk, k1⟩
        · rename_i hv
          refine ⟨_, hK, fun h1 K1 e k1 => ?_⟩
          simp only [aop, aLook, hu, hm]
          rw [e b (by simp [readOf, mapBlk, hm]), hb, hz]
          simp only [hv]
          exact ⟨hk, k1⟩
        · exact hK.elim
      · exact hK.elim
    · exact hK.elim
  case extract t i => exact use pin_aExt hK fun h1 K1 _ k => k
  case call c =>
    obtain ⟨callee, args, argTypes⟩ := c
    cases callee with
    | value f => cases hf
    | invoke x m => cases hf
    | builtin b =>
      obtain ⟨args⟩ := args
      obtain ⟨argTypes⟩ := argTypes
      simp only at hK
      split at hK
      · rename_i x t
        split at hK
        · rename_i hu
          exact use pin_aLenStr hK fun h1 K1 _ k => by simp only [aop, hu]; exact k
        · rename_i hu
          exact use pin_aLenS hK fun h1 K1 _ k => by simp only [aop, hu]; exact k
        · rename_i hu
          unfold aLenM at hK
          split at hK
          · rename_i hm
            exact ⟨_, hK, fun h1 K1 _ k => by simp only [aop, hu, aLenM, hm]; exact k⟩
          · rename_i bb hm
            split at hK
            · rename_i hb
              refine ⟨_, hK, fun h1 K1 e k => ?_⟩
              simp only [aop, hu, aLenM, hm]
              rw [e bb (by simp [readOf, mapBlk, hm]), hb]
              exact k
            · exact hK.elim
          · exact hK.elim
        · rename_i hu
          exact ⟨_, hK, fun h1 K1 _ k => by simp only [aop, hu]; exact k⟩
        · exact hK.elim
      · split at hK
        · rename_i hu
          exact use pin_aCapS hK fun h1 K1 _ k => by simp only [aop, hu]; exact k
        · exact hK.elim
      · exact use (pin_aMin _ _) hK fun h1 K1 _ k => k
      · exact use (pin_aMax _ _) hK fun h1 K1 _ k => k
      · simp at hf
      · simp at hf
      · exact hK.elim
end
section
variable {P : Program} {C : FuncId → List Value → List AObj → (Value → List AObj → Prop) → Prop} {N : Nat} {ops : Array Oper}
theorem aop_congr {o : Op} {r r' : Nat → Value} {h : List AObj} {K : Value → List AObj → Prop} (e : ∀ x ∈ o.operands, ev r x = ev r' x) (hK : aop P o r h K) : aop P o r' h K := by
  have lst : ∀ l : Array Operand, (∀ x ∈ l, ev r x = ev r' x) → l.toList.map (ev r) = l.toList.map (ev r') := fun l hl => List.map_congr_left fun x hx => hl x (by simpa using hx)
  have prs : ∀ ps : Array (Nat × Operand), (∀ x ∈ (ps.toList.map (·.2)).toArray, ev r x = ev r' x) → (ps.toList.map fun (i, x) => (i, ev r x)) = ps.toList.map fun (i, x) => (i, ev r' x) := fun ps hp =>
    List.map_congr_left fun p hm => by
      obtain ⟨i, x⟩ := p
      simp only [hp x (by simp only [List.mem_toArray, List.mem_map]; exact ⟨(i, x), hm, rfl⟩)]
  cases o <;> simp only [Op.operands] at e
  case build t ps => simp only [aop] at hK ⊢; rw [← prs ps e]; exact hK
  case buildSlice t n ps => simp only [aop] at hK ⊢; rw [← prs ps e]; exact hK
  case makeFunc fn first cap =>
    cases fn <;> simp only [aop] at hK ⊢
    have e1 : ∀ x ∈ first, ev r x = ev r' x := fun x hx => e x (by simp [hx])
    have e2 : ∀ x ∈ cap, ev r x = ev r' x := fun x hx => e x (by simp [hx])
    rw [← lst first e1, ← lst cap e2]
    refine ⟨?_, hK.2⟩
    rw [List.all_eq_true] at *
    intro x hx
    rw [← e x (by simpa using hx)]
    exact hK.1 x hx
  case slice t x lo hi mx => cases lo <;> cases hi <;> cases mx <;> simp_all [aop]
  case makeMap t x => cases x <;> simp_all [aop]
  case call c =>
    obtain ⟨callee, args, argTypes⟩ := c
    cases callee with
    | value f => exact hK.elim
    | invoke x m => exact hK.elim
    | builtin b =>
      have e1 := lst args fun x hx => e x (by simp [Call.operands, hx])
      obtain ⟨args⟩ := args
      simp only at e1
      obtain ⟨argTypes⟩ := argTypes
      simp only [aop] at hK
      split at hK
      · rename_i x t
        have hx : ev r x = ev r' x := by simpa using e1
        simp only [aop]
        rw [← hx]
        exact hK
      · rename_i x t
        have hx : ev r x = ev r' x := by simpa using e1
        simp only [aop]
        rw [← hx]
        exact hK
      · rename_i x l tys
        simp only [List.map_cons, List.cons.injEq] at e1
        simp only [aop]
        rw [← e1.1, ← e1.2]
        exact hK
      · rename_i x l tys
        simp only [List.map_cons, List.cons.injEq] at e1
        simp only [aop]
        rw [← e1.1, ← e1.2]
        exact hK
      · rename_i x y t u
        simp only [List.map_cons, List.cons.injEq] at e1
        simp only [aop]
        rw [← e1.1, ← e1.2.1]
        exact hK
      · rename_i x y t u
        simp only [List.map_cons, List.cons.injEq] at e1
        simp only [aop]
        rw [← e1.1, ← e1.2.1]
        exact hK
      · exact hK.elim
  case next x s =>
    cases s with
    | true => exact hK.elim
    | false =>
      simp only [aop] at hK ⊢
      have ex : ev r x = ev r' x := by first | exact e | exact e x (by simp)
      rw [← ex]
      exact hK
  all_goals (first | exact hK | (simp_all [aop]; done))
def opG (P : Program) (C : FuncId → List Value → List AObj → (Value → List AObj → Prop) → Prop) (ops : Array Oper) (o : Oper) (r : Nat → Value) (h : List AObj) (K : Value → List AObj → Prop) : Prop :=
  match gd ops o r with
  | some true => opW P C o r h K
  | some false => K undef h
  | none => False
def opM (P : Program) (C : FuncId → List Value → List AObj → (Value → List AObj → Prop) → Prop) (ops : Array Oper) (o : Oper) (r : Nat → Value) (h : List AObj) (K : Value → List AObj → Prop) : Prop :=
  ∃ K', opG P C ops o r h K' ∧ ∀ v h', K' v h' → K v h'
theorem gd_congr {o : Oper} {r r' : Nat → Value} (e : ∀ t ∈ o.looksAt ops, r t = r' t) : gd ops o r = gd ops o r' := by
  unfold gd
  cases hg : o.guard with
  | none => rfl
  | some jw =>
    obtain ⟨j, want⟩ := jw
    simp only
    cases hd : (ops[j]?).bind (·.dst) with
    | none => rfl
    | some t =>
      simp only
      rw [e t (by simp [Oper.looksAt, hg, hd])]
theorem ev_looks {o : Oper} {r r' : Nat → Value} (e : ∀ t ∈ o.looksAt ops, r t = r' t) : ∀ x ∈ o.op.operands, ev r x = ev r' x := by
  intro x hx
  cases x with
  | tmp t => exact e t (by
      simp only [Oper.looksAt, List.mem_append, List.mem_filterMap]
      exact .inl ⟨.tmp t, by simpa using hx, rfl⟩)
  | _ => rfl
theorem opG_congr {o : Oper} {r r' : Nat → Value} {h : List AObj} {K : Value → List AObj → Prop} (e : ∀ t ∈ o.looksAt ops, r t = r' t) (hK : opG P C ops o r h K) : opG P C ops o r' h K := by
  unfold opG at hK ⊢
  rw [← gd_congr e]
  split at hK
  · have eo := ev_looks e
    unfold opW at hK ⊢
    split at hK
    · rename_i x args ats hop
      rw [hop] at eo
      have ex := eo x (by simp [Op.operands, Call.operands])
      have ea : args.toList.map (ev r) = args.toList.map (ev r') := List.map_congr_left fun y hy => eo y (by simp [Op.operands, Call.operands]; exact .inr (by simpa using hy))
      try simp only [hop]
      rw [← ex, ← ea]
      exact hK
    · rename_i hn
      exact aop_congr eo hK
  · exact hK
  · exact hK.elim
def isFree (P : Program) (o : Oper) : Bool := freeOp P o.op
theorem opG_free {o : Oper} {r : Nat → Value} {h : List AObj} {K : Value → List AObj → Prop} (hf : isFree P o = true) (hK : opG P C ops o r h K) :
    ∃ v, K v h ∧ ∀ (h1 : List AObj) (K1 : Value → List AObj → Prop), (∀ b, readOf o.op r = some b → h1[b]? = h[b]?) → K1 v h1 → opG P C ops o r h1 K1 := by
  unfold opG at hK ⊢
  split at hK
  · have hw : opW P C o r h K = aop P o.op r h K := by
      unfold opW
      unfold isFree at hf
      split
      · rename_i e
        rw [e] at hf
        cases hf
      · rfl
    rw [hw] at hK
    obtain ⟨v, a, b⟩ := aop_free hf hK
    refine ⟨v, a, fun h1 K1 e k => ?_⟩
    have hw1 : opW P C o r h1 K1 = aop P o.op r h1 K1 := by
      unfold opW
      unfold isFree at hf
      split
      · rename_i e
        rw [e] at hf
        cases hf
      · rfl
    simp only [hw1]
    exact b h1 K1 e k
  · exact ⟨_, hK, fun h1 K1 _ k => k⟩
  · exact hK.elim
def isRead : Op → Bool
  | .load .. | .lookup .. => true
  | .call { callee := .builtin .len, .. } => true
  | _ => false
theorem readOf_none {o : Op} {r : Nat → Value} (h : isRead o = false) : readOf o r = none := by
  unfold isRead at h
  split at h
  · cases h
  · cases h
  · cases h
  · rename_i n1 n2 n3
    unfold readOf
    split
    · exact absurd rfl (n1 _ _)
    · exact absurd rfl (n2 _ _ _ _)
    · exact absurd rfl (n3 _ _)
    · rfl
def sOld (P : Program) (ops : Array Oper) (j : Nat) (o : Oper) : Bool :=
  !isFree P o && (List.range ops.size).any fun i => i != j && (match ops[i]? with
    | some oi => isRead oi.op && !(o.after.any fun e => Region.binds .any e && e.on == i)
    | none => false)
def maskOf (ops : Array Oper) (l : List Nat) (j : Nat) : Nat := match ops[j]? with
  | some o => o.after.toList.foldl (fun m e => bif Region.binds .any e then m ||| (2 ^ e.on ||| l.getD e.on 0) else m) 0
  | none => 0
def snocM (ops : Array Oper) (l : List Nat) (n : Nat) : List Nat := l ++ [maskOf ops l n]
def masks (ops : Array Oper) : Nat → List Nat
  | 0 => []
  | n + 1 => snocM ops (masks ops n) n
def isSt : Op → Bool
  | .store .. => true
  | _ => false
def fineR (P : Program) (ops : Array Oper) : Bool := (List.range ops.size).any fun i => match ops[i]? with
  | some o => isSt o.op && sOld P ops i o
  | none => false
def sFine (P : Program) (ops : Array Oper) (j : Nat) (o : Oper) : Bool :=
  !isFree P o && (List.range ops.size).any fun i => i != j && (match ops[i]? with
    | some oi => isRead oi.op && !(Nat.testBit ((masks ops ops.size).getD j 0) i)
    | none => false)
def sNeed (P : Program) (ops : Array Oper) (j : Nat) (o : Oper) : Bool := bif fineR P ops then sFine P ops j o else sOld P ops j o
def Down (ops : Array Oper) (L : Array Bool) : Prop := ∀ k ok, ops[k]? = some ok → L.getD k false = true → ∀ e ∈ ok.after, Region.binds .any e = true → L.getD e.on false = true
theorem down_init {ops : Array Oper} {n : Nat} : Down ops (Array.replicate n false) := by
  intro k ok _ hk
  exfalso
  rw [Array.getD_eq_getD_getElem?, Array.getElem?_replicate] at hk
  split at hk <;> simp at hk
theorem down_set {ops : Array Oper} {L : Array Bool} {j : Nat} (hD : Down ops L) (hj : j ∈ Region.ready .any ops L) : Down ops (L.setIfInBounds j true) := by
  intro k ok hk hd e he hb
  refine getD_set_true ?_
  by_cases hkj : j = k
  · subst hkj
    rw [mem_ready] at hj
    obtain ⟨_, o, ho, hall⟩ := hj
    rw [hk] at ho
    cases ho
    exact hall e he hb
  · rw [getD_set_ne false hkj] at hd
    exact hD k ok hk hd e he hb
theorem mask_fold {ops : Array Oper} {l : List Nat} {i : Nat} : ∀ {es : List Edge} {m : Nat}, Nat.testBit (es.foldl (fun m e => bif Region.binds .any e then m ||| (2 ^ e.on ||| l.getD e.on 0) else m) m) i = true → Nat.testBit m i = true ∨ ∃ e ∈ es, Region.binds .any e = true ∧ (e.on = i ∨ Nat.testBit (l.getD e.on 0) i = true)
  | [], m, h => .inl h
  | e :: es, m, h => by
    rw [List.foldl_cons] at h
    rcases mask_fold (ops := ops) h with h | ⟨x, hx, h1, h2⟩
    · cases hb : Region.binds .any e with
      | false => rw [hb] at h; exact .inl h
      | true =>
        rw [hb, cond_true, Nat.testBit_or, Nat.testBit_or, Nat.testBit_two_pow] at h
        simp only [Bool.or_eq_true, decide_eq_true_eq] at h
        rcases h with h | h | h
        · exact .inl h
        · exact .inr ⟨e, List.mem_cons_self, hb, .inl h⟩
        · exact .inr ⟨e, List.mem_cons_self, hb, .inr h⟩
    · exact .inr ⟨x, List.mem_cons_of_mem _ hx, h1, h2⟩
theorem masks_len {ops : Array Oper} : ∀ n, (masks ops n).length = n
  | 0 => rfl
  | n + 1 => by
    show (masks ops n ++ [_]).length = n + 1
    rw [List.length_append, masks_len n]
    rfl
theorem masks_sound {ops : Array Oper} {L : Array Bool} (hD : Down ops L) {i : Nat} : ∀ (n j : Nat), Nat.testBit ((masks ops n).getD j 0) i = true → (∀ oj, ops[j]? = some oj → ∀ e ∈ oj.after, Region.binds .any e = true → L.getD e.on false = true) → L.getD i false = true
  | 0, j, h, _ => by simp [masks] at h
  | n + 1, j, h, hj => by
    have hl := masks_len (ops := ops) n
    rw [List.getD_eq_getElem?_getD] at h
    rcases Nat.lt_or_ge j n with hjn | hjn
    · have e : (masks ops (n + 1))[j]? = (masks ops n)[j]? := List.getElem?_append_left (by omega)
      rw [e, ← List.getD_eq_getElem?_getD] at h
      exact masks_sound hD n j h hj
    · rcases Nat.lt_or_ge n j with hnj | hnj
      · have e : (masks ops (n + 1))[j]? = none := List.getElem?_eq_none (by rw [masks_len]; omega)
        rw [e] at h
        simp at h
      · have : j = n := by omega
        subst this
        have e : (masks ops (j + 1))[j]? = some (maskOf ops (masks ops j) j) := by
          show (masks ops j ++ [_])[j]? = _
          rw [List.getElem?_append_right (by omega), hl, Nat.sub_self]
          rfl
        rw [e, Option.getD_some] at h
        unfold maskOf at h
        cases ho : ops[j]? with
        | none => rw [ho] at h; simp at h
        | some o =>
          rw [ho] at h
          rcases mask_fold (ops := ops) h with h | ⟨x, hx, h1, h2⟩
          · simp at h
          · have hx' : x ∈ o.after := Array.mem_toList_iff.1 hx
            have hdone := hj o ho x hx' h1
            rcases h2 with h2 | h2
            · rw [← h2]
              exact hdone
            · exact masks_sound hD j x.on h2 fun ox hox e he hb => hD x.on ox hox hdone e he hb
def AnyH (P : Program) (C : FuncId → List Value → List AObj → (Value → List AObj → Prop) → Prop) (N : Nat) (ops : Array Oper) (S : List AObj → Prop) : Nat → Array Bool → RG → List AObj → (RG → List AObj → Prop) → Prop
  | 0, L, f, h, K => Region.ready .any ops L = [] ∧ K f h
  | n + 1, L, f, h, K => (Region.ready .any ops L = [] → K f h) ∧ ∀ i ∈ Region.ready .any ops L, ∀ o, ops[i]? = some o → (∀ t, o.dst = some t → t < N) ∧
      opM P C ops o f.r h fun v h' => (sNeed P ops i o = true → S h') ∧ AnyH P C N ops S n (L.setIfInBounds i true) (f.putO o.dst v) h' K
def Apart (ops : Array Oper) (i : Nat) (oi : Oper) (L : Array Bool) : Prop :=
  ∀ j oj, ops[j]? = some oj → j ≠ i → L.getD j true = false → (∀ e ∈ oj.after, Region.binds .any e = true → e.on ≠ i) → oi.apart ops oj = true
theorem putO_r {f : RG} {d : Option Nat} {v : Value} {t : Nat} (h : d ≠ some t) : (f.putO d v).r t = f.r t := by
  cases d with
  | none => rfl
  | some d =>
    have : (t == d) = false := by
      have : t ≠ d := fun e => h (by rw [e])
      simpa using this
    simp [RG.putO, RG.p, this]
theorem putO_comm (f : RG) {x y : Option Nat} (v u : Value) (h : ∀ d, x = some d → y ≠ some d) : (f.putO x v).putO y u = (f.putO y u).putO x v := by
  cases x with
  | none => rfl
  | some d =>
    cases y with
    | none => rfl
    | some e =>
      have hde : d ≠ e := fun he => h d rfl (by rw [he])
      simp only [RG.putO, RG.p]
      congr 1
      funext t
      by_cases h1 : t = d
      · subst h1
        have : (t == e) = false := by simpa using hde
        simp [this]
      · have : (t == d) = false := by simpa using h1
        simp [this]
theorem set_comm {L : Array Bool} {i j : Nat} : (L.setIfInBounds i true).setIfInBounds j true = (L.setIfInBounds j true).setIfInBounds i true := by
  by_cases h : i = j
  · rw [h]
  · exact Array.setIfInBounds_comm _ _ h
theorem need_free {j : Nat} {o : Oper} (hf : isFree P o = true) : sNeed P ops j o = false := by
  unfold sNeed sFine sOld
  rw [hf]
  cases fineR P ops <;> rfl
theorem need_read {L : Array Bool} {i j : Nat} {oi oj : Oper} (hD : Down ops L) (hi : ops[i]? = some oi) (hij : i ≠ j) (hr : isRead oi.op = true) (hfj : isFree P oj = false) (hil : L.getD i true = false)
    (haft : ∀ e ∈ oj.after, Region.binds .any e = true → e.on ≠ i) (hrd : ∀ ox, ops[j]? = some ox → ∀ e ∈ ox.after, Region.binds .any e = true → L.getD e.on false = true) : sNeed P ops j oj = true := by
  have hlt : i < ops.size := by
    rcases Nat.lt_or_ge i ops.size with hlt | hlt
    · exact hlt
    · rw [Array.getElem?_eq_none hlt] at hi
      cases hi
  have hne : (i != j) = true := by simpa using hij
  unfold sNeed
  cases fineR P ops with
  | true =>
    rw [cond_true]
    unfold sFine
    rw [hfj]
    simp only [Bool.not_false, Bool.true_and, List.any_eq_true]
    refine ⟨i, List.mem_range.2 hlt, ?_⟩
    rw [hne, hi]
    simp only [hr, Bool.true_and, Bool.not_eq_true']
    cases ht : Nat.testBit ((masks ops ops.size).getD j 0) i with
    | false => rfl
    | true =>
      exfalso
      have h1 := masks_sound hD _ j ht hrd
      rw [Array.getD_eq_getD_getElem?] at h1 hil
      cases hx : L[i]? with
      | none => rw [hx] at hil; cases hil
      | some b => rw [hx] at h1 hil; simp at h1 hil; rw [h1] at hil; cases hil
  | false =>
    rw [cond_false]
    unfold sOld
    rw [hfj]
    simp only [Bool.not_false, Bool.true_and, List.any_eq_true]
    refine ⟨i, List.mem_range.2 hlt, ?_⟩
    rw [hne, hi]
    simp only [hr, Bool.true_and, Bool.not_eq_true', Array.any_eq_false]
    intro x hx hh
    simp only [Bool.and_eq_true, beq_iff_eq] at hh
    exact haft _ (Array.getElem_mem hx) hh.1 hh.2
theorem AnyH_take {S : List AObj → Prop} {i : Nat} {oi : Oper} {v : Value} {K : RG → List AObj → Prop} (hi : ops[i]? = some oi) (hN : ∀ t, oi.dst = some t → t < N) (hfr : isFree P oi = true) :
    ∀ (n : Nat) (L : Array Bool) (f : RG) (h : List AObj), Down ops L → Apart ops i oi L → i ∈ Region.ready .any ops L → (isRead oi.op = true → S h) →
      (∀ h1 (K1 : Value → List AObj → Prop), (isRead oi.op = true → S h1) → K1 v h1 → opG P C ops oi f.r h1 K1) → AnyH P C N ops S n (L.setIfInBounds i true) (f.putO oi.dst v) h K → AnyH P C N ops S (n + 1) L f h K := by
  intro n
  induction n with
  | zero =>
    intro L f h hD hap hir hS hY hA
    refine ⟨fun e => (by rw [e] at hir; cases hir), fun j hj oj hoj => ?_⟩
    by_cases hji : j = i
    · subst hji
      rw [hi] at hoj
      cases hoj
      refine ⟨hN, fun u h' => u = v ∧ h' = h, hY h _ hS ⟨rfl, rfl⟩, ?_⟩
      rintro u h' ⟨rfl, rfl⟩
      exact ⟨fun e => (by rw [need_free hfr] at e; cases e), hA⟩
    · have := ready_mono hj hji
      rw [hA.1] at this
      cases this
  | succ n ih =>
    intro L f h hD hap hir hS hY hA
    refine ⟨fun e => (by rw [e] at hir; cases hir), fun j hj oj hoj => ?_⟩
    by_cases hji : j = i
    · subst hji
      rw [hi] at hoj
      cases hoj
      refine ⟨hN, fun u h' => u = v ∧ h' = h, hY h _ hS ⟨rfl, rfl⟩, ?_⟩
      rintro u h' ⟨rfl, rfl⟩
      exact ⟨fun e => (by rw [need_free hfr] at e; cases e), hA⟩
    · obtain ⟨hjN, K', hK', hsub⟩ := hA.2 j (ready_mono hj hji) oj hoj
      have hnl : L.getD j true = false := by
        rw [mem_ready] at hj
        exact hj.1
      have hil : L.getD i true = false := by
        rw [mem_ready] at hir
        exact hir.1
      have haft : ∀ e ∈ oj.after, Region.binds .any e = true → e.on ≠ i := by
        intro e he hb hei
        rw [mem_ready] at hj
        obtain ⟨_, o, ho, hall⟩ := hj
        rw [hoj] at ho
        cases ho
        have h1 := hall e he hb
        rw [hei] at h1
        rw [Array.getD_eq_getD_getElem?] at h1 hil
        cases hx : L[i]? with
        | none => rw [hx] at hil; cases hil
        | some b => rw [hx] at h1 hil; simp at h1 hil; rw [h1] at hil; cases hil
      obtain ⟨ap1, ap2, ap3⟩ := Oper.apart_spec (hap j oj hoj hji hnl haft)
      have back : ∀ t ∈ oj.looksAt ops, (f.putO oi.dst v).r t = f.r t := fun t ht => putO_r fun e => ap1 t e ht
      have hKj := opG_congr back hK'
      refine ⟨hjN, ?_⟩
      have fin : ∀ u h', (isRead oi.op = true → S h') → ((sNeed P ops j oj = true → S h') ∧ AnyH P C N ops S n ((L.setIfInBounds i true).setIfInBounds j true) ((f.putO oi.dst v).putO oj.dst u) h' K) →
          (sNeed P ops j oj = true → S h') ∧ AnyH P C N ops S (n + 1) (L.setIfInBounds j true) (f.putO oj.dst u) h' K := by
        rintro u h' hS' ⟨hs, hA'⟩
        refine ⟨hs, ih (L.setIfInBounds j true) (f.putO oj.dst u) h' (down_set hD hj) ?_ (ready_mono hir (fun e => hji e.symm)) hS' (fun h1 K1 hs1 k1 => ?_) ?_⟩
        · intro x ox hx hxi hxl hxa
          refine hap x ox hx hxi ?_ hxa
          by_cases hxj : x = j
          · rw [hxj]; exact hnl
          · rw [getD_set_ne true (Ne.symm hxj)] at hxl
            exact hxl
        · refine opG_congr (fun t ht => ?_) (hY h1 K1 hs1 k1)
          exact (putO_r fun e => ap3 t e ht).symm
        · rw [set_comm, ← putO_comm f v u ap2]
          exact hA'
      cases hfj : isFree P oj with
      | true =>
        obtain ⟨u, a, b⟩ := opG_free hfj hKj
        refine ⟨fun u' h' => u' = u ∧ h' = h, b h _ (fun _ _ => rfl) ⟨rfl, rfl⟩, ?_⟩
        rintro u' h' ⟨rfl, rfl⟩
        exact fin _ _ hS (hsub _ _ a)
      | false =>
        refine ⟨K', hKj, fun u h' k => fin u h' (fun hr => ?_) (hsub _ _ k)⟩
        refine (hsub _ _ k).1 ?_
        refine need_read hD hi (fun e => hji e.symm) hr hfj hil (fun e he hb hei => haft e he hb hei) ?_
        intro ox hox e he hb
        rw [mem_ready] at hj
        obtain ⟨_, o, ho, hall⟩ := hj
        rw [hox] at ho
        cases ho
        exact hall e he hb
end
def cnd (v : Value) (A B : Prop) : Prop :=
  match v with
  | .bool b => bif b then A else B
  | _ => False
abbrev Dec := List (Nat × Option Bool)
def dfind (j : Nat) : Dec → Option (Option Bool)
  | [] => none
  | (i, b) :: l => bif i == j then some b else dfind j l
def dstOf (ops : Array Oper) (j : Nat) : Option Nat :=
  match ops[j]? with
  | some o => o.dst
  | none => none
def goG (ops : Array Oper) (dec : Dec) (o : Oper) (f : RG) (A : Bool → Dec → RG → Prop) : Prop :=
  match o.guard with
  | none => A true dec f
  | some (j, want) => match dfind j dec with
    | some (some b) => A (b == want) dec f
    | some none => A false dec f
    | none => match dstOf ops j with
      | some t => cnd (f.r t) (A (true == want) ((j, some true) :: dec) (f.p t (.bool true))) (A (false == want) ((j, some false) :: dec) (f.p t (.bool false)))
      | none => False
def forget (ops : Array Oper) (d : Option Nat) (dec : Dec) : Dec :=
  match d with
  | none => dec
  | some d => dec.filter fun x => !(dstOf ops x.1 == some d)
def skipD (ops : Array Oper) (i : Nat) (d : Option Nat) (dec : Dec) : Dec :=
  match d with
  | none => dec
  | some d => (i, none) :: forget ops (some d) dec
def dstOk (N : Nat) (o : Oper) : Bool :=
  match o.dst with
  | some d => Nat.blt d N
  | none => true
abbrev CT := FuncId → List Value → List AObj → (Value → List AObj → Prop) → Prop
def opsW (P : Program) (C : CT) (N : Nat) (ops : Array Oper) : List Nat → Dec → RG → List AObj → (RG → List AObj → Prop) → Prop
  | [], _, f, h, K => K f h
  | i :: l, dec, f, h, K => match ops[i]? with
    | some o => bif dstOk N o then goG ops dec o f fun w dec f =>
        bif w then opW P C o f.r h fun v h' => opsW P C N ops l (forget ops o.dst dec) (f.putO o.dst v) h' K
        else opsW P C N ops l (skipD ops i o.dst dec) (f.putO o.dst undef) h K
      else False
    | none => False
def SameB (B : Option (List Nat)) (h0 h1 : List AObj) : Prop :=
  match B with
  | none => h1 = h0
  | some B => ∀ b ∈ B, h1[b]? = h0[b]?
def RdOk (B : Option (List Nat)) (x : Option Nat) : Prop :=
  match B, x with
  | some B, some b => b ∈ B
  | _, _ => True
def apartB (ops : Array Oper) (i : Nat) (oi : Oper) (L : Array Bool) : Bool :=
  (List.range ops.size).all fun j => match ops[j]? with
    | none => true
    | some oj => j == i || L.getD j true || (oj.after.any fun e => Region.binds .any e && e.on == i) || oi.apart ops oj
def pickN (P : Program) (ops : Array Oper) (L : Array Bool) : Option Nat :=
  (Region.ready .any ops L).find? fun i => match ops[i]? with
    | some o => isFree P o && apartB ops i o L
    | none => false
def allOf : List Nat → (Nat → Prop) → Prop
  | [], _ => True
  | [i], A => A i
  | i :: l, A => A i ∧ allOf l A
def anyW (P : Program) (C : CT) (N : Nat) (ops : Array Oper) (B : Option (List Nat)) (h0 : List AObj) : Nat → Array Bool → Bool → Dec → RG → List AObj → (RG → List AObj → Prop) → Prop
  | 0, L, _, _, f, h, K => bif (Region.ready .any ops L).isEmpty then K f h else False
  | n + 1, L, sok, dec, f, h, K => match pickN P ops L with
    | some i => match ops[i]? with
      | some o => bif dstOk N o && (!isRead o.op || sok) then goG ops dec o f fun w dec f =>
          bif w then opW P C o f.r h fun v _ =>
            bif isRead o.op && B.isSome then RdOk B (readOf o.op f.r) ∧ anyW P C N ops B h0 n (L.setIfInBounds i true) sok (forget ops o.dst dec) (f.putO o.dst v) h K
            else anyW P C N ops B h0 n (L.setIfInBounds i true) sok (forget ops o.dst dec) (f.putO o.dst v) h K
          else anyW P C N ops B h0 n (L.setIfInBounds i true) sok (skipD ops i o.dst dec) (f.putO o.dst undef) h K
        else False
      | none => False
    | none => bif (Region.ready .any ops L).isEmpty then K f h else allOf (Region.ready .any ops L) fun i => match ops[i]? with
      | some o => bif dstOk N o then goG ops dec o f fun w dec f =>
          bif w then opW P C o f.r h fun v h' =>
            bif sNeed P ops i o then SameB B h0 h' ∧ anyW P C N ops B h0 n (L.setIfInBounds i true) true (forget ops o.dst dec) (f.putO o.dst v) h' K
            else anyW P C N ops B h0 n (L.setIfInBounds i true) false (forget ops o.dst dec) (f.putO o.dst v) h' K
          else bif sNeed P ops i o && !sok then False else anyW P C N ops B h0 n (L.setIfInBounds i true) sok (skipD ops i o.dst dec) (f.putO o.dst undef) h K
        else False
      | none => False
def still (P : Program) (ops : Array Oper) : Bool := (List.range ops.size).all fun i => match ops[i]? with
  | some o => !sNeed P ops i o
  | none => true
def drawW (P : Program) (C : CT) (N : Nat) (ops : Array Oper) (f : RG) (h : List AObj) (K : RG → List AObj → Prop) : Prop :=
  bif still P ops then anyW P C N ops none h ops.size (Array.replicate ops.size false) true [] f h K
  else ∃ B, anyW P C N ops (some B) h ops.size (Array.replicate ops.size false) true [] f h K
section
variable {P : Program} {C : CT} {N : Nat} {ops : Array Oper} {f : RG} {h : List AObj}
def dval : Option Bool → Value
  | some b => .bool b
  | none => undef
def decOk (ops : Array Oper) (dec : Dec) (f : RG) : Prop := ∀ j b, dfind j dec = some b → ∃ t, dstOf ops j = some t ∧ f.r t = dval b
theorem bind_dst (j : Nat) : (ops[j]?).bind (·.dst) = dstOf ops j := by
  unfold dstOf
  cases ops[j]? <;> rfl
theorem put_self {t : Nat} {v : Value} (e : f.r t = v) : f.p t v = f := by
  obtain ⟨r, ds⟩ := f
  simp only [RG.p, RG.mk.injEq, and_true]
  funext x
  by_cases hx : x = t
  · subst hx
    simp only [BEq.rfl, cond_true]
    exact e.symm
  · have : (x == t) = false := by simpa using hx
    simp [this]
theorem goG_out {dec : Dec} {o : Oper} {A : Bool → Dec → RG → Prop} (hd : decOk ops dec f) (hg : goG ops dec o f A) : ∃ w dec', decOk ops dec' f ∧ gd ops o f.r = some w ∧ A w dec' f := by
  unfold goG at hg
  unfold gd
  split at hg
  · rename_i e
    try rw [e]
    exact ⟨true, dec, hd, rfl, hg⟩
  · rename_i j want e
    try rw [e]
    simp only [bind_dst]
    split at hg
    · rename_i b hb
      obtain ⟨t, h1, h2⟩ := hd j _ hb
      exact ⟨_, dec, hd, by rw [h1]; simp only [h2, dval], hg⟩
    · rename_i hb
      obtain ⟨t, h1, h2⟩ := hd j _ hb
      exact ⟨_, dec, hd, by rw [h1]; simp only [h2, dval, undef], hg⟩
    · split at hg
      · rename_i t ht
        unfold cnd at hg
        split at hg
        · rename_i b hb
          have nd : ∀ b', f.r t = .bool b' → decOk ops ((j, some b') :: dec) f := by
            intro b' hb' i c hc
            unfold dfind at hc
            cases hij : j == i with
            | true =>
              rw [hij] at hc
              simp only [cond_true, Option.some.injEq] at hc
              have : j = i := by simpa using hij
              subst this
              subst hc
              exact ⟨t, ht, hb'⟩
            | false =>
              rw [hij] at hc
              exact hd i c hc
          cases b with
          | true =>
            have := hg
            simp only [cond_true] at this
            rw [put_self hb] at this
            exact ⟨_, _, nd _ hb, by rw [ht]; simp only [hb], this⟩
          | false =>
            have := hg
            simp only [cond_false] at this
            rw [put_self hb] at this
            exact ⟨_, _, nd _ hb, by rw [ht]; simp only [hb], this⟩
        · exact hg.elim
      · exact hg.elim
theorem dfind_filter {p : Nat × Option Bool → Bool} : ∀ {dec : Dec} {j : Nat} {b : Option Bool}, dfind j (dec.filter p) = some b → (∀ x y y', p (x, y) = p (x, y')) → dfind j dec = some b ∧ p (j, b) = true
  | [], j, b, h, _ => by cases h
  | (i, c) :: l, j, b, h, hp => by
    rw [List.filter_cons] at h
    unfold dfind
    split at h
    · rename_i hpc
      unfold dfind at h
      cases hij : i == j with
      | true =>
        rw [hij] at h
        simp only [cond_true, Option.some.injEq] at h
        have : i = j := by simpa using hij
        subst this
        subst h
        exact ⟨rfl, hpc⟩
      | false =>
        rw [hij] at h
        exact dfind_filter h hp
    · rename_i hpc
      obtain ⟨h1, h2⟩ := dfind_filter h hp
      cases hij : i == j with
      | true =>
        have : i = j := by simpa using hij
        subst this
        exfalso
        apply hpc
        rw [hp i c b]
        exact h2
      | false => exact ⟨h1, h2⟩
theorem decOk_put {dec : Dec} {d : Option Nat} {v : Value} (hd : decOk ops dec f) : decOk ops (forget ops d dec) (f.putO d v) := by
  intro j b hj
  cases d with
  | none => exact hd j b hj
  | some d =>
    obtain ⟨h1, h2⟩ := dfind_filter hj (fun _ _ _ => rfl)
    obtain ⟨t, ht, hv⟩ := hd j b h1
    refine ⟨t, ht, ?_⟩
    rw [putO_r]
    · exact hv
    · intro e
      cases e
      simp [ht] at h2
theorem decOk_skip {dec : Dec} {i : Nat} {o : Oper} (ho : ops[i]? = some o) (hd : decOk ops dec f) : decOk ops (skipD ops i o.dst dec) (f.putO o.dst undef) := by
  unfold skipD
  cases hdst : o.dst with
  | none => exact hd
  | some d =>
    intro j b hj
    unfold dfind at hj
    cases hij : i == j with
    | true =>
      rw [hij] at hj
      simp only [cond_true, Option.some.injEq] at hj
      have : i = j := by simpa using hij
      subst this
      subst hj
      refine ⟨d, by simp [dstOf, ho, hdst], ?_⟩
      simp [RG.putO, RG.p, dval]
    | false =>
      rw [hij] at hj
      exact decOk_put (d := some d) hd j b hj
theorem dstOk_lt {o : Oper} (h : dstOk N o = true) : ∀ t, o.dst = some t → t < N := by
  intro t ht
  unfold dstOk at h
  rw [ht] at h
  simpa using h
theorem allOf_mem {A : Nat → Prop} : ∀ {l : List Nat} {i : Nat}, allOf l A → i ∈ l → A i
  | [i], j, h, hm => by
    simp only [List.mem_singleton] at hm
    subst hm
    exact h
  | i :: k :: l, j, h, hm => by
    rcases List.mem_cons.1 hm with rfl | hm
    · exact h.1
    · exact allOf_mem h.2 hm
theorem opG_of {o : Oper} {r : Nat → Value} {K : Value → List AObj → Prop} {w : Bool} (hg : gd ops o r = some w) (hk : bif w then opW P C o r h K else K undef h) : opG P C ops o r h K := by
  unfold opG
  rw [hg]
  cases w <;> exact hk
theorem anyW_sound {B : Option (List Nat)} {h0 : List AObj} {K : RG → List AObj → Prop} : ∀ (n : Nat) (L : Array Bool) (sok : Bool) (dec : Dec) (f : RG) (h : List AObj), Down ops L → decOk ops dec f → (sok = true → SameB B h0 h) →
    anyW P C N ops B h0 n L sok dec f h K → AnyH P C N ops (SameB B h0) n L f h K := by
  intro n
  induction n with
  | zero =>
    intro L sok dec f h hD hd hs hw
    unfold anyW at hw
    cases he : (Region.ready .any ops L).isEmpty with
    | true =>
      rw [he] at hw
      exact ⟨List.isEmpty_iff.1 he, hw⟩
    | false => rw [he] at hw; exact hw.elim
  | succ n ih =>
    intro L sok dec f h hD hd hs hw
    unfold anyW at hw
    split at hw
    · rename_i i hp
      have hir : i ∈ Region.ready .any ops L := List.mem_of_find?_eq_some hp
      have hpi := List.find?_some hp
      split at hw
      · rename_i o ho
        simp only [ho, Bool.and_eq_true] at hpi
        cases hc : dstOk N o && (!isRead o.op || sok) with
        | false => rw [hc] at hw; exact hw.elim
        | true =>
          rw [hc] at hw
          rw [cond_true] at hw
          simp only [Bool.and_eq_true, Bool.or_eq_true, Bool.not_eq_true'] at hc
          obtain ⟨w, dec', hd', hg, hw⟩ := goG_out hd hw
          have hap : Apart ops i o L := by
            intro j oj hoj hji hl ha
            have hall := hpi.2
            unfold apartB at hall
            rw [List.all_eq_true] at hall
            have hlt : j < ops.size := by
              rcases Nat.lt_or_ge j ops.size with hlt | hlt
              · exact hlt
              · rw [Array.getElem?_eq_none hlt] at hoj
                cases hoj
            have := hall j (List.mem_range.2 hlt)
            rw [hoj] at this
            simp only [hl, Bool.or_false, Bool.or_eq_true, beq_iff_eq, hji, false_or] at this
            rcases this with this | this
            · rw [Array.any_eq_true] at this
              obtain ⟨x, hx, he⟩ := this
              simp only [Bool.and_eq_true, beq_iff_eq] at he
              exact absurd he.2 (ha _ (Array.getElem_mem hx) he.1)
            · exact this
          have hSr : isRead o.op = true → SameB B h0 h := by
            intro hr
            rcases hc.2 with x | x
            · rw [hr] at x; cases x
            · exact hs x
          cases w with
          | false =>
            exact AnyH_take ho (dstOk_lt hc.1) hpi.1 n L f h hD hap hir hSr (fun h1 K1 _ k1 => opG_of hg k1) (ih _ sok _ _ h (down_set hD hir) (decOk_skip ho hd') hs hw)
          | true =>
            have hop : opG P C ops o f.r h fun v _ => (isRead o.op = true → RdOk B (readOf o.op f.r)) ∧ anyW P C N ops B h0 n (L.setIfInBounds i true) sok (forget ops o.dst dec') (f.putO o.dst v) h K := by
              refine opG_of hg ?_
              simp only [cond_true] at hw ⊢
              cases hr : isRead o.op && B.isSome with
              | true =>
                simp only [hr, cond_true] at hw
                simp only [Bool.and_eq_true] at hr
                simp only [hr.1, true_implies]
                exact hw
              | false =>
                simp only [hr, cond_false] at hw
                have hrd : isRead o.op = true → RdOk B (readOf o.op f.r) := by
                  intro hx
                  cases B with
                  | none => exact trivial
                  | some B => simp [hx] at hr
                have e := eq_true hrd
                simp only [e, true_and]
                exact hw
            obtain ⟨v, ⟨hrd, hv⟩, hrep⟩ := opG_free hpi.1 hop
            refine AnyH_take ho (dstOk_lt hc.1) hpi.1 n L f h hD hap hir hSr (fun h1 K1 hs1 k1 => hrep h1 K1 (fun b hb => ?_) k1) (ih _ sok _ _ h (down_set hD hir) (decOk_put hd') hs hv)
            have hr : isRead o.op = true := by
              cases hx : isRead o.op with
              | true => rfl
              | false => rw [readOf_none hx] at hb; cases hb
            have sh := hSr hr
            have sh1 := hs1 hr
            have hrd := hrd hr
            cases B with
            | none =>
              simp only [SameB] at sh sh1
              rw [sh, sh1]
            | some B =>
              rw [hb] at hrd
              rw [sh1 b hrd, sh b hrd]
      · exact hw.elim
    · cases he : (Region.ready .any ops L).isEmpty with
      | true =>
        rw [he] at hw
        have hnil := List.isEmpty_iff.1 he
        exact ⟨fun _ => hw, fun i hi => (by rw [hnil] at hi; cases hi)⟩
      | false =>
        rw [he] at hw
        rw [cond_false] at hw
        refine ⟨fun e => (by rw [e] at he; cases he), fun i hi o ho => ?_⟩
        have hx := allOf_mem hw hi
        simp only [ho] at hx
        cases hc : dstOk N o with
        | false => rw [hc] at hx; exact hx.elim
        | true =>
          rw [hc, cond_true] at hx
          refine ⟨dstOk_lt hc, ?_⟩
          obtain ⟨w, dec', hd', hg, hx⟩ := goG_out hd hx
          cases w with
          | true =>
            rw [cond_true] at hx
            refine ⟨_, opG_of hg hx, fun v h' k => ?_⟩
            cases hn : sNeed P ops i o with
            | true =>
              rw [hn, cond_true] at k
              exact ⟨fun _ => k.1, ih _ true _ _ h' (down_set hD hi) (decOk_put hd') (fun _ => k.1) k.2⟩
            | false =>
              rw [hn, cond_false] at k
              exact ⟨fun e => (by cases e), ih _ false _ _ h' (down_set hD hi) (decOk_put hd') (fun e => by cases e) k⟩
          | false =>
            rw [cond_false] at hx
            cases hn : sNeed P ops i o && !sok with
            | true => rw [hn] at hx; exact hx.elim
            | false =>
              rw [hn, cond_false] at hx
              refine ⟨fun v h' => v = undef ∧ h' = h, opG_of hg ⟨rfl, rfl⟩, ?_⟩
              rintro v h' ⟨rfl, rfl⟩
              refine ⟨fun e => ?_, ih _ sok _ _ h' (down_set hD hi) (decOk_skip ho hd') hs hx⟩
              rw [e] at hn
              simp only [Bool.true_and, Bool.not_eq_false'] at hn
              exact hs hn
end
section
variable {P : Program} {main : Bool} {J : JT} {N n0 : Nat} {ops : Array Oper} {f : RG} {h : List AObj} {fn : FuncId} {Q : QT} {i : Nat} {rest : List Nat} {o : Oper}
theorem SemOps_cons (hJ : Closed P main J) (ho : ops[i]? = some o) (hd : ∀ t, o.dst = some t → t < N) {K : Value → List AObj → Prop} (hop : opG P (Good P J) ops o f.r h K) (hs : ∀ v h', K v h' → SemOps J N n0 fn ops rest (f.putO o.dst v) h' Q) : SemOps J N n0 fn ops (i :: rest) f h Q := by
  intro b a k cs L ρ FC w ft h1 h2 h3 h4 h5 h6 hc
  unfold opG at hop
  split at hop
  · rename_i hg
    refine step_any hJ h2 ho hg hd h4 h5 hop fun v h' ρ' w' ft' a' hK A' H' hu hl => ?_
    exact hs v h' hK b a' k cs L ρ' FC w' ft' h1 h2 h3 A' H' (Nat.le_trans h6 hl) fun e f2 h2' ρ2 w2 ft2 a2 q r1 r2 r3 r4 => hc e f2 h2' ρ2 w2 ft2 a2 q r1 r2 (Env.upto_trans (Env.upto_le hu h6) r3) r4
  · rename_i hg
    refine step_skip hJ ho hg h4 ?_
    exact hs _ _ hop b _ k cs L ρ FC w ft h1 h2 h3 (act_put h4 hd (vrel_undef _ _)) h5 h6 hc
  · exact hop.elim
theorem SemOps_of (hJ : Closed P main J) : ∀ (todo : List Nat) {dec : Dec} {f : RG} {h : List AObj}, decOk ops dec f → opsW P (Good P J) N ops todo dec f h (fun f h => Q .normal f h) → SemOps J N n0 fn ops todo f h Q
  | [], _, f, h, _, hq => SemOps_nil hJ hq
  | i :: todo, dec, f, h, hdec, hq => by
    unfold opsW at hq
    cases ho : ops[i]? with
    | none => rw [ho] at hq; exact hq.elim
    | some o =>
      rw [ho] at hq
      simp only at hq
      cases hc : dstOk N o with
      | false => rw [hc] at hq; exact hq.elim
      | true =>
        rw [hc, cond_true] at hq
        obtain ⟨w, dec', hd', hg, hq⟩ := goG_out hdec hq
        cases w with
        | true =>
          rw [cond_true] at hq
          exact SemOps_cons hJ ho (dstOk_lt hc) (opG_of hg hq) fun v h' k => SemOps_of hJ todo (decOk_put hd') k
        | false =>
          rw [cond_false] at hq
          refine SemOps_cons hJ ho (dstOk_lt hc) (K := fun v h' => v = undef ∧ h' = h) (opG_of hg ⟨rfl, rfl⟩) ?_
          rintro v h' ⟨rfl, rfl⟩
          exact SemOps_of hJ todo (decOk_skip ho hd') hq
theorem Sem_region_text (hJ : Closed P main J) {id : Nat} (hq : opsW P (Good P J) N ops (List.range ops.size) [] f h (fun f h => Q .normal f h)) : Sem J N n0 fn (.region id ops false) f h Q :=
  Sem_region hJ (SemOps_of hJ _ (fun j b e => by cases e) hq)
theorem SemOps_any (hJ : Closed P main J) {S : List AObj → Prop} : ∀ (n t : Nat) (L : Array Bool) (f : RG) (h : List AObj), AnyH P (Good P J) N ops S n L f h (fun f h => Q .normal f h) → SemOps J N n0 fn ops (Region.linearise.go .any ops n t L []) f h Q := by
  intro n
  induction n with
  | zero =>
    intro t L f h hA
    simp only [Region.linearise.go, List.reverse_nil]
    exact SemOps_nil hJ hA.2
  | succ n ih =>
    intro t L f h hA
    obtain ⟨h₀, h₁⟩ := hA
    simp only [Region.linearise.go]
    change SemOps J N n0 fn ops (match (Region.ready .any ops L)[t % (Region.ready .any ops L).length]? with
      | some i => Region.linearise.go .any ops n (t / (Region.ready .any ops L).length) (L.setIfInBounds i true) [i]
      | none => [].reverse) f h Q
    cases hi : (Region.ready .any ops L)[t % (Region.ready .any ops L).length]? with
    | none =>
      have hnil : Region.ready .any ops L = [] := by
        cases hr : Region.ready .any ops L with
        | nil => rfl
        | cons x xs =>
          rw [hr] at hi
          have hlt : t % (x :: xs).length < (x :: xs).length := Nat.mod_lt _ (by simp)
          simp at hi
          simp at hlt
          omega
      exact SemOps_nil hJ (h₀ hnil)
    | some i =>
      simp only []
      rw [linearise_go_acc, List.reverse_singleton, List.singleton_append]
      have hm := List.mem_of_getElem? hi
      have hm' := hm
      rw [mem_ready] at hm'
      obtain ⟨_, o, ho, _⟩ := hm'
      obtain ⟨hN, K', hK', hsub⟩ := h₁ i hm o ho
      exact SemOps_cons hJ ho hN hK' fun v h' k => ih _ _ _ _ (hsub v h' k).2
theorem Sem_region_draw (hJ : Closed P main J) (hm : P.follows .mixedOrders = true) {id : Nat} (hq : drawW P (Good P J) N ops f h (fun f h => Q .normal f h)) : Sem J N n0 fn (.region id ops true) f h Q := by
  have hA : ∃ S, AnyH P (Good P J) N ops S ops.size (Array.replicate ops.size false) f h (fun f h => Q .normal f h) := by
    unfold drawW at hq
    cases hs : still P ops with
    | true =>
      rw [hs] at hq
      exact ⟨_, anyW_sound (B := none) (h0 := h) _ _ true [] f h down_init (fun j b e => by cases e) (fun _ => rfl) hq⟩
    | false =>
      rw [hs] at hq
      obtain ⟨B, hq⟩ := hq
      exact ⟨_, anyW_sound (B := some B) (h0 := h) _ _ true [] f h down_init (fun j b e => by cases e) (fun _ b _ => rfl) hq⟩
  obtain ⟨S, hA⟩ := hA
  intro b a k cs L ρ FC w ft h1 h2 h3 h4 h5 h6 hc
  refine hJ.step rfl fun w₁ h₁ => ⟨G (b.at a (.inRegion ops (Region.schedule (P.follows .mixedOrders) ops (w₁.tape w₁.drawn (.order b.fn id))) :: k)) cs, { w₁ with drawn := w₁.drawn + 1 }, #[], ?_, rfl, (Stays.drawn ft w₁ _).guar (by simp), ?_⟩
  · simp [G, stepG, stepG.exec, FB.at, choose, Go.Sem.run, Question.forced, Question.cut]
  · rw [show ({ w₁ with drawn := w₁.drawn + 1 } : World).heap = w₁.heap from rfl, Foot.ext_self]
    have H₁ := (h5.rely h₁).of_drawn (w₁.drawn + 1)
    simp only [Region.schedule, hm, Bool.true_or, if_true]
    exact SemOps_any hJ _ _ _ _ _ hA b a k cs L ρ FC _ ft h1 h2 h3 h4 H₁ h6 hc
def W (P : Program) (J : JT) (N n0 : Nat) (fn : FuncId) : Code → RG → List AObj → QT → Prop
  | .skip, f, h, Q => Q .normal f h
  | .label _, f, h, Q => Q .normal f h
  | .ret, f, h, Q => Q .ret f h
  | .exit id, f, h, Q => Q (.exit id) f h
  | .seq a b, f, h, Q => W P J N n0 fn a f h (thenK (fun f h => W P J N n0 fn b f h Q) Q)
  | .cond c a b, f, h, Q => cnd (ev f.r c) (W P J N n0 fn a f h Q) (W P J N n0 fn b f h Q)
  | .block id a, f, h, Q => W P J N n0 fn a f h (blockK id Q)
  | .scope a, f, h, Q => W P J N n0 fn a f h Q
  | .region _ ops draw, f, h, Q => bif draw then drawW P (Good P J) N ops f h (fun f h => Q .normal f h) else opsW P (Good P J) N ops (List.range ops.size) [] f h (fun f h => Q .normal f h)
  | c, f, h, Q => Sem J N n0 fn c f h Q
theorem W_sound (hJ : Closed P main J) (hm : P.follows .mixedOrders = true) : ∀ (c : Code) {f : RG} {h : List AObj} {Q : QT}, W P J N n0 fn c f h Q → Sem J N n0 fn c f h Q
  | .skip, f, h, Q, hw => Sem_skip hJ hw
  | .label _, f, h, Q, hw => Sem_label hJ hw
  | .ret, f, h, Q, hw => Sem_ret hw
  | .exit id, f, h, Q, hw => Sem_exit hJ hw
  | .seq a b, f, h, Q, hw => by
    refine Sem_seq hJ ((W_sound hJ hm a hw).mono fun e f h q => ?_)
    cases e with
    | normal => exact W_sound hJ hm b q
    | _ => exact q
  | .cond c a b, f, h, Q, hw => by
    simp only [W, cnd] at hw
    split at hw
    · rename_i t ht
      refine Sem_cond hJ ht ?_
      cases t with
      | true => exact W_sound hJ hm a hw
      | false => exact W_sound hJ hm b hw
    · exact hw.elim
  | .block id a, f, h, Q, hw => Sem_block hJ (W_sound hJ hm a hw)
  | .scope a, f, h, Q, hw => Sem_scope hJ (W_sound hJ hm a hw)
  | .region id ops draw, f, h, Q, hw => by
    cases draw with
    | true => exact Sem_region_draw hJ hm hw
    | false => exact Sem_region_text hJ hw
  | .loop _, f, h, Q, hw => hw
  | .rangeFunc .., f, h, Q, hw => hw
  | .goto _, f, h, Q, hw => hw
  | .refuse _, f, h, Q, hw => hw
def codeOf (fn : Func) : Code := fn.body.getD .skip
theorem good_of_W (hJ : Closed P main J) (hm : P.follows .mixedOrders = true) {g : FuncId} {args : List Value} {K : Value → List AObj → Prop} {fn : Func} (hf : P.funcs[g]? = some fn) {c : Code} (hb : fn.body = some c) (hn : (fn.name == "runtime.NumGoroutine") = false) (ha : args.length ≤ fn.ntmps)
    (hs : heapOk h → W P J fn.ntmps h.length g c ⟨regs args, []⟩ h (RetQ P fn.results.toList h.length K)) : Good P J g args h K :=
  good_of_sem hJ hf hb hn ha fun ok => W_sound hJ hm c (hs ok)
end
def subC : List Nat → Code → Code
  | [], c => c
  | 0 :: p, .seq a _ => subC p a
  | _ :: p, .seq _ b => subC p b
  | 0 :: p, .cond _ a _ => subC p a
  | _ :: p, .cond _ _ b => subC p b
  | _ :: p, .block _ a => subC p a
  | _ :: p, .scope a => subC p a
  | _ :: p, .loop a => subC p a
  | 0 :: p, .rangeFunc _ _ a _ => subC p a
  | _ :: p, .rangeFunc _ _ _ b => subC p b
  | _, c => c
def contQ (P : Program) (J : JT) (N n0 : Nat) (fn : FuncId) : List Nat → Code → List (RG → List AObj → Prop) → QT → QT
  | 0 :: p, .seq a b, nx, Q => contQ P J N n0 fn p a nx (thenK (fun f h => W P J N n0 fn b f h Q) Q)
  | _ :: p, .seq _ b, nx, Q => contQ P J N n0 fn p b nx Q
  | 0 :: p, .cond _ a _, nx, Q => contQ P J N n0 fn p a nx Q
  | _ :: p, .cond _ _ b, nx, Q => contQ P J N n0 fn p b nx Q
  | _ :: p, .block id a, nx, Q => contQ P J N n0 fn p a nx (blockK id Q)
  | _ :: p, .scope a, nx, Q => contQ P J N n0 fn p a nx Q
  | _ :: p, .loop a, n :: nx, Q => contQ P J N n0 fn p a nx (thenK n Q)
  | _, _, _, Q => Q
def Gets {S : Type} (n0 : Nat) (I : S → RG → List AObj → Prop) (s : S) (f : RG) (h : List AObj) : Prop :=
  I s f h ∨ ∃ σ f' h', GCR n0 σ f h f' h' ∧ I s f' h'
def Nx {S : Type} (n0 : Nat) (μ : S → Nat) (I : S → RG → List AObj → Prop) (s : S) : RG → List AObj → Prop := fun f h =>
  ∃ s', μ s' < μ s ∧ Gets n0 I s' f h
section
variable {P : Program} {main : Bool} {J : JT} {N n0 : Nat} {f : RG} {h : List AObj} {fn : FuncId} {Q : QT}
theorem loop_rule (hJ : Closed P main J) (hm : P.follows .mixedOrders = true) {c b : Code} (hc : c = .loop b) {S : Type} (μ : S → Nat) (I : S → RG → List AObj → Prop)
    (hI : ∀ s f h, I s f h → heapOk h → n0 ≤ h.length → W P J N n0 fn b f h (thenK (Nx n0 μ I s) Q))
    {s : S} (hi : Gets n0 I s f h) : Sem J N n0 fn c f h Q := by
  subst hc
  have body : ∀ s f h, I s f h → Sem J N n0 fn b f h (thenK (fun f h => ∃ m', m' < μ s ∧ ∃ s, m' = μ s ∧ Gets n0 I s f h) Q) := by
    intro s f h hi
    refine Sem.ok fun ok hn => (W_sound hJ hm b (hI s f h hi ok hn)).mono fun e f h q => ?_
    cases e with
    | normal =>
      obtain ⟨s', hlt, g⟩ := q
      exact ⟨μ s', hlt, s', rfl, g⟩
    | _ => exact q
  refine Sem_loop hJ (fun m f h => ∃ s, m = μ s ∧ Gets n0 I s f h) ?_ (m := μ s) ⟨s, rfl, hi⟩
  rintro m f h ⟨s, rfl, hi | ⟨σ, f', h', g, hi⟩⟩
  · exact body s f h hi
  · exact Sem.gc g (body s f' h' hi)
end
def nuK : List Value → Prop → Prop
  | [], p => p
  | v :: vs, p => v ≠ unk ∧ nuK vs p
def retL (n0 : Nat) (K : Value → List AObj → Prop) (ds : List Nat) (vs : List Value) (h : List AObj) : Prop :=
  takeW ds h fun h => nuK vs (K (pack vs) h ∨ ∃ σ h' v, GC n0 σ h h' ∧ pack vs = sub σ v ∧ VOk h'.length v ∧ K v h')
def aNewS (n : Nat) (c : List Value) (h : List AObj) (K : Value → List AObj → Prop) : Prop := K (.slice (some ⟨h.length, 0, none⟩) n n) (h ++ [.cells c true 0])
def aNewM (h : List AObj) (K : Value → List AObj → Prop) : Prop := K (.map (some h.length)) (h ++ [.map [] true])
def aConvI (k : IntKind) (x : Value) (K : Value → Prop) : Prop :=
  match x with
  | .int _ n => K (.int k (k.wrap n))
  | _ => False
def aMkF (f : FuncId) (first cap : List Value) (K : Value → Prop) : Prop := ((first ++ cap).all one) = true ∧ K (.func (.func f) ⟨first⟩ ⟨cap⟩)
inductive Plan where
  | fin
  | take (i : Nat) (p : Plan)
  | last (i : Nat) (s : Bool) (p : Plan)
  | alt (i : Nat) (s : Bool) (p q : Plan)
def planOk (P : Program) (ops : Array Oper) : Plan → Nat → Array Bool → Option (List Nat) → Bool
  | .fin, n, L, r => r.isNone && (Region.ready .any ops L).isEmpty && (Nat.beq n 0 || (pickN P ops L).isNone)
  | .take i p, n, L, r => r.isNone && (match n with | 0 => false | n + 1 => (match pickN P ops L with | some k => Nat.beq k i | none => false) && planOk P ops p n (L.setIfInBounds i true) none)
  | .last i s p, n, L, r => match n with
    | 0 => false
    | m + 1 => match r with
      | none => (pickN P ops L).isNone && (match Region.ready .any ops L with | [k] => Nat.beq k i | _ => false) && (match ops[i]? with | some o => sNeed P ops i o == s | none => true) && planOk P ops p m (L.setIfInBounds i true) none
      | some r => (match r with | [k] => Nat.beq k i | _ => false) && (match ops[i]? with | some o => sNeed P ops i o == s | none => true) && planOk P ops p m (L.setIfInBounds i true) none
  | .alt i s p q, n, L, r => match n with
    | 0 => false
    | m + 1 => match r with
      | none => (pickN P ops L).isNone && (match Region.ready .any ops L with | k :: j :: l => Nat.beq k i && planOk P ops q (m + 1) L (some (j :: l)) | _ => false) && (match ops[i]? with | some o => sNeed P ops i o == s | none => true) && planOk P ops p m (L.setIfInBounds i true) none
      | some r => (match r with | k :: j :: l => Nat.beq k i && planOk P ops q (m + 1) L (some (j :: l)) | _ => false) && (match ops[i]? with | some o => sNeed P ops i o == s | none => true) && planOk P ops p m (L.setIfInBounds i true) none
def oneP (P : Program) (C : CT) (N : Nat) (ops : Array Oper) (B : Option (List Nat)) (h0 : List AObj) (i : Nat) (s sok : Bool) (dec : Dec) (f : RG) (h : List AObj) (W : Bool → Dec → RG → List AObj → Prop) : Prop :=
  match ops[i]? with
  | some o => bif dstOk N o then goG ops dec o f fun w dec f =>
      bif w then opW P C o f.r h fun v h' =>
        bif s then SameB B h0 h' ∧ W true (forget ops o.dst dec) (f.putO o.dst v) h'
        else W false (forget ops o.dst dec) (f.putO o.dst v) h'
      else bif s && !sok then False else W sok (skipD ops i o.dst dec) (f.putO o.dst undef) h
    else False
  | none => False
def planW (P : Program) (C : CT) (N : Nat) (ops : Array Oper) (B : Option (List Nat)) (h0 : List AObj) : Plan → Bool → Dec → RG → List AObj → (RG → List AObj → Prop) → Prop
  | .fin, _, _, f, h, K => K f h
  | .take i p, sok, dec, f, h, K => match ops[i]? with
    | some o => bif dstOk N o && (!isRead o.op || sok) then goG ops dec o f fun w dec f =>
        bif w then opW P C o f.r h fun v _ =>
          bif isRead o.op && B.isSome then RdOk B (readOf o.op f.r) ∧ planW P C N ops B h0 p sok (forget ops o.dst dec) (f.putO o.dst v) h K
          else planW P C N ops B h0 p sok (forget ops o.dst dec) (f.putO o.dst v) h K
        else planW P C N ops B h0 p sok (skipD ops i o.dst dec) (f.putO o.dst undef) h K
      else False
    | none => False
  | .last i s p, sok, dec, f, h, K => oneP P C N ops B h0 i s sok dec f h fun sok dec f h => planW P C N ops B h0 p sok dec f h K
  | .alt i s p q, sok, dec, f, h, K => (oneP P C N ops B h0 i s sok dec f h fun sok dec f h => planW P C N ops B h0 p sok dec f h K) ∧ planW P C N ops B h0 q sok dec f h K
section
variable {P : Program} {C : CT} {N : Nat} {ops : Array Oper} {B : Option (List Nat)} {h0 : List AObj} {K : RG → List AObj → Prop}
def oneA (P : Program) (C : CT) (N : Nat) (ops : Array Oper) (B : Option (List Nat)) (h0 : List AObj) (n : Nat) (L : Array Bool) (sok : Bool) (dec : Dec) (f : RG) (h : List AObj) (K : RG → List AObj → Prop) (i : Nat) : Prop :=
  match ops[i]? with
  | some o => bif dstOk N o then goG ops dec o f fun w dec f =>
      bif w then opW P C o f.r h fun v h' =>
        bif sNeed P ops i o then SameB B h0 h' ∧ anyW P C N ops B h0 n (L.setIfInBounds i true) true (forget ops o.dst dec) (f.putO o.dst v) h' K
        else anyW P C N ops B h0 n (L.setIfInBounds i true) false (forget ops o.dst dec) (f.putO o.dst v) h' K
      else bif sNeed P ops i o && !sok then False else anyW P C N ops B h0 n (L.setIfInBounds i true) sok (skipD ops i o.dst dec) (f.putO o.dst undef) h K
    else False
  | none => False
theorem oneP_eq {n : Nat} {L : Array Bool} {i : Nat} {s sok : Bool} {dec : Dec} {f : RG} {h : List AObj} {W : Bool → Dec → RG → List AObj → Prop} (hs : (match ops[i]? with | some o => sNeed P ops i o == s | none => true) = true)
    (hW : ∀ sok dec f h, W sok dec f h = anyW P C N ops B h0 n (L.setIfInBounds i true) sok dec f h K) : oneP P C N ops B h0 i s sok dec f h W = oneA P C N ops B h0 n L sok dec f h K i := by
  unfold oneP oneA
  cases ho : ops[i]? with
  | none => rfl
  | some o =>
    rw [ho] at hs
    have hs' : sNeed P ops i o = s := by simpa using hs
    subst hs'
    simp only [hW]
def planT (P : Program) (C : CT) (N : Nat) (ops : Array Oper) (B : Option (List Nat)) (h0 : List AObj) (K : RG → List AObj → Prop) (n : Nat) (L : Array Bool) (sok : Bool) (dec : Dec) (f : RG) (h : List AObj) (r : Option (List Nat)) : Prop :=
  match r with
  | none => anyW P C N ops B h0 n L sok dec f h K
  | some r => match n with
    | 0 => False
    | m + 1 => allOf r (oneA P C N ops B h0 m L sok dec f h K)
theorem anyW_all {n : Nat} {L : Array Bool} {sok : Bool} {dec : Dec} {f : RG} {h : List AObj} (hp : (pickN P ops L).isNone = true) (hr : (Region.ready .any ops L).isEmpty = false) :
    anyW P C N ops B h0 (n + 1) L sok dec f h K = allOf (Region.ready .any ops L) (oneA P C N ops B h0 n L sok dec f h K) := by
  conv => lhs; unfold anyW
  cases hq : pickN P ops L with
  | some k => rw [hq] at hp; cases hp
  | none =>
    simp only [hr, cond_false]
    rfl
theorem planW_eq : ∀ (p : Plan) (n : Nat) (L : Array Bool) (r : Option (List Nat)) (sok : Bool) (dec : Dec) (f : RG) (h : List AObj), planOk P ops p n L r = true →
    planW P C N ops B h0 p sok dec f h K = planT P C N ops B h0 K n L sok dec f h r
  | .fin, n, L, r, sok, dec, f, h, hk => by
    unfold planOk at hk
    simp only [Bool.and_eq_true, Option.isNone_iff_eq_none] at hk
    obtain ⟨⟨rfl, he⟩, hn⟩ := hk
    simp only [planW, planT]
    cases n with
    | zero => simp only [anyW, he, cond_true]
    | succ n =>
      have hp : pickN P ops L = none := by simpa using hn
      conv => rhs; unfold anyW
      simp only [hp, he, cond_true]
  | .take i p, n, L, r, sok, dec, f, h, hk => by
    unfold planOk at hk
    simp only [Bool.and_eq_true, Option.isNone_iff_eq_none] at hk
    obtain ⟨rfl, hk⟩ := hk
    cases n with
    | zero => cases hk
    | succ n =>
      simp only [Bool.and_eq_true] at hk
      obtain ⟨h1, h2⟩ := hk
      cases hp : pickN P ops L with
      | none => rw [hp] at h1; cases h1
      | some k =>
        rw [hp] at h1
        have : k = i := Nat.eq_of_beq_eq_true h1
        subst this
        have ih := fun sok dec f h => planW_eq p n (L.setIfInBounds k true) none sok dec f h h2
        simp only [planT] at ih ⊢
        conv => rhs; unfold anyW
        simp only [planW, ih, hp] <;> rfl
  | .last i s p, n, L, r, sok, dec, f, h, hk => by
    unfold planOk at hk
    cases n with
    | zero => cases hk
    | succ n =>
      cases r with
      | none =>
        simp only [Bool.and_eq_true] at hk
        obtain ⟨⟨⟨h1, h2⟩, h3⟩, h4⟩ := hk
        have ih := fun sok dec f h => planW_eq p n (L.setIfInBounds i true) none sok dec f h h4
        split at h2
        · rename_i k hr
          have : k = i := Nat.eq_of_beq_eq_true h2
          subst this
          simp only [planT] at ih ⊢
          rw [anyW_all h1 (by rw [hr]; rfl), hr]
          simp only [planW, allOf]
          exact oneP_eq h3 ih
        · cases h2
      | some r =>
        simp only [Bool.and_eq_true] at hk
        obtain ⟨⟨h2, h3⟩, h4⟩ := hk
        have ih := fun sok dec f h => planW_eq p n (L.setIfInBounds i true) none sok dec f h h4
        split at h2
        · rename_i k
          have : k = i := Nat.eq_of_beq_eq_true h2
          subst this
          simp only [planT] at ih ⊢
          simp only [planW, allOf]
          exact oneP_eq h3 ih
        · cases h2
  | .alt i s p q, n, L, r, sok, dec, f, h, hk => by
    unfold planOk at hk
    cases n with
    | zero => cases hk
    | succ n =>
      cases r with
      | none =>
        simp only [Bool.and_eq_true] at hk
        obtain ⟨⟨⟨h1, h2⟩, h3⟩, h4⟩ := hk
        have ih := fun sok dec f h => planW_eq p n (L.setIfInBounds i true) none sok dec f h h4
        split at h2
        · rename_i k j l hr
          simp only [Bool.and_eq_true] at h2
          have : k = i := Nat.eq_of_beq_eq_true h2.1
          subst this
          have ih2 := planW_eq q (n + 1) L (some (j :: l)) sok dec f h h2.2
          simp only [planT] at ih ih2 ⊢
          rw [anyW_all h1 (by rw [hr]; rfl), hr]
          simp only [planW, allOf]
          rw [oneP_eq h3 ih, ih2]
        · cases h2
      | some r =>
        simp only [Bool.and_eq_true] at hk
        obtain ⟨⟨h2, h3⟩, h4⟩ := hk
        have ih := fun sok dec f h => planW_eq p n (L.setIfInBounds i true) none sok dec f h h4
        split at h2
        · rename_i k j l
          simp only [Bool.and_eq_true] at h2
          have : k = i := Nat.eq_of_beq_eq_true h2.1
          subst this
          have ih2 := planW_eq q (n + 1) L (some (j :: l)) sok dec f h h2.2
          simp only [planT] at ih ih2 ⊢
          simp only [planW, allOf]
          rw [oneP_eq h3 ih, ih2]
        · cases h2
end
abbrev Plans := List (Nat × Bool × Plan)
def findP (id : Nat) : Plans → Option (Bool × Plan)
  | [] => none
  | (k, x) :: l => bif Nat.beq k id then some x else findP id l
def drawP (P : Program) (C : CT) (N : Nat) (ops : Array Oper) (s : Bool) (p : Plan) (f : RG) (h : List AObj) (K : RG → List AObj → Prop) : Prop :=
  bif s then planW P C N ops none h p true [] f h K
  else ∃ B, planW P C N ops (some B) h p true [] f h K
def plansOk (P : Program) (pl : Plans) : Code → Bool
  | .seq a b => plansOk P pl a && plansOk P pl b
  | .cond _ a b => plansOk P pl a && plansOk P pl b
  | .block _ a => plansOk P pl a
  | .scope a => plansOk P pl a
  | .loop a => plansOk P pl a
  | .rangeFunc _ _ a b => plansOk P pl a && plansOk P pl b
  | .region id ops draw => !draw || (match findP id pl with
    | some (s, p) => (still P ops == s) && planOk P ops p ops.size (Array.replicate ops.size false) none
    | none => true)
  | _ => true
inductive Cuts where
  | go
  | cut (x : Cuts)
  | un (a : Cuts)
  | bin (a b : Cuts)
def Cuts.l : Cuts → Cuts
  | .bin a _ => a
  | .un a => a
  | _ => .go
def Cuts.r : Cuts → Cuts
  | .bin _ b => b
  | _ => .go
def Cuts.into : Cuts → Cuts
  | .cut x => x
  | c => c
inductive Hold (p : Prop) : Prop where
  | mk : p → Hold p
theorem hold {p : Prop} : Hold p ↔ p := ⟨fun h => by cases h with | mk h => exact h, .mk⟩
theorem hold_eq {p : Prop} : Hold p = p := propext hold
def WX (pl : Plans) (P : Program) (J : JT) (N n0 : Nat) (fn : FuncId) : Cuts → Code → RG → List AObj → QT → Prop
  | _, .skip, f, h, Q => Q .normal f h
  | _, .label _, f, h, Q => Q .normal f h
  | _, .ret, f, h, Q => Q .ret f h
  | _, .exit id, f, h, Q => Q (.exit id) f h
  | ct, .seq a b, f, h, Q => WX pl P J N n0 fn ct.l a f h (thenK (fun f h => match ct.r with
      | .cut _ => Hold (W P J N n0 fn b f h Q)
      | x => WX pl P J N n0 fn x b f h Q) Q)
  | ct, .cond c a b, f, h, Q => cnd (ev f.r c) (WX pl P J N n0 fn ct.l a f h Q) (WX pl P J N n0 fn ct.r b f h Q)
  | ct, .block id a, f, h, Q => WX pl P J N n0 fn ct.l a f h (blockK id Q)
  | ct, .scope a, f, h, Q => WX pl P J N n0 fn ct.l a f h Q
  | _, .region id ops draw, f, h, Q => bif draw then (match findP id pl with
      | some (s, p) => drawP P (Good P J) N ops s p f h (fun f h => Q .normal f h)
      | none => drawW P (Good P J) N ops f h (fun f h => Q .normal f h)) else opsW P (Good P J) N ops (List.range ops.size) [] f h (fun f h => Q .normal f h)
  | _, c, f, h, Q => Sem J N n0 fn c f h Q
def contX (pl : Plans) (P : Program) (J : JT) (N n0 : Nat) (fn : FuncId) : Cuts → List Nat → Code → List (RG → List AObj → Prop) → QT → QT
  | ct, 0 :: p, .seq a b, nx, Q => contX pl P J N n0 fn ct.l p a nx (thenK (fun f h => match ct.r with
      | .cut _ => Hold (W P J N n0 fn b f h Q)
      | x => WX pl P J N n0 fn x b f h Q) Q)
  | ct, _ :: p, .seq _ b, nx, Q => contX pl P J N n0 fn ct.r.into p b nx Q
  | ct, 0 :: p, .cond _ a _, nx, Q => contX pl P J N n0 fn ct.l p a nx Q
  | ct, _ :: p, .cond _ _ b, nx, Q => contX pl P J N n0 fn ct.r p b nx Q
  | ct, _ :: p, .block id a, nx, Q => contX pl P J N n0 fn ct.l p a nx (blockK id Q)
  | ct, _ :: p, .scope a, nx, Q => contX pl P J N n0 fn ct.l p a nx Q
  | ct, _ :: p, .loop a, n :: nx, Q => contX pl P J N n0 fn ct.l p a nx (thenK n Q)
  | _, _, _, _, Q => Q
def subT : Cuts → List Nat → Code → Cuts
  | ct, 0 :: p, .seq a _ => subT ct.l p a
  | ct, _ :: p, .seq _ b => subT ct.r.into p b
  | ct, 0 :: p, .cond _ a _ => subT ct.l p a
  | ct, _ :: p, .cond _ _ b => subT ct.r p b
  | ct, _ :: p, .block _ a => subT ct.l p a
  | ct, _ :: p, .scope a => subT ct.l p a
  | ct, _ :: p, .loop a => subT ct.l p a
  | ct, 0 :: p, .rangeFunc _ _ a _ => subT ct.l p a
  | ct, _ :: p, .rangeFunc _ _ _ b => subT ct.r p b
  | ct, _, _ => ct
section
variable {pl : Plans} {P : Program} {J : JT} {N n0 : Nat} {fn : FuncId}
theorem drawP_eq {C : CT} {ops : Array Oper} {s : Bool} {p : Plan} {f : RG} {h : List AObj} {K : RG → List AObj → Prop} (hs : (still P ops == s) = true) (hp : planOk P ops p ops.size (Array.replicate ops.size false) none = true) :
    drawW P C N ops f h K = drawP P C N ops s p f h K := by
  have hs' : still P ops = s := by simpa using hs
  subst hs'
  unfold drawW drawP
  have e := fun B => planW_eq (P := P) (C := C) (N := N) (ops := ops) (B := B) (h0 := h) (K := K) p ops.size (Array.replicate ops.size false) none true [] f h hp
  simp only [planT] at e
  simp only [e]
theorem WX_eq : ∀ (c : Code), plansOk P pl c = true → ∀ (ct : Cuts) (f : RG) (h : List AObj) (Q : QT), W P J N n0 fn c f h Q = WX pl P J N n0 fn ct c f h Q
  | .skip, _, _, _, _, _ => rfl
  | .label _, _, _, _, _, _ => rfl
  | .ret, _, _, _, _, _ => rfl
  | .exit _, _, _, _, _, _ => rfl
  | .seq a b, hk, ct, f, h, Q => by
    simp only [plansOk, Bool.and_eq_true] at hk
    simp only [W, WX]
    rw [WX_eq a hk.1 ct.l]
    congr 2
    funext f h
    split
    · rw [hold_eq]
    · exact WX_eq b hk.2 _ f h Q
  | .cond c a b, hk, ct, f, h, Q => by
    simp only [plansOk, Bool.and_eq_true] at hk
    simp only [W, WX]
    rw [WX_eq a hk.1 ct.l, WX_eq b hk.2 ct.r]
  | .block id a, hk, ct, f, h, Q => by
    simp only [plansOk] at hk
    simp only [W, WX]
    rw [WX_eq a hk ct.l]
  | .scope a, hk, ct, f, h, Q => by
    simp only [plansOk] at hk
    simp only [W, WX]
    rw [WX_eq a hk ct.l]
  | .region id ops draw, hk, ct, f, h, Q => by
    cases draw with
    | false => rfl
    | true =>
      simp only [plansOk, Bool.not_true, Bool.false_or] at hk
      simp only [W, WX, cond_true]
      cases hf : findP id pl with
      | none => rfl
      | some x =>
        obtain ⟨s, p⟩ := x
        rw [hf] at hk
        simp only [Bool.and_eq_true] at hk
        exact drawP_eq hk.1 hk.2
  | .loop _, _, _, _, _, _ => rfl
  | .rangeFunc .., _, _, _, _, _ => rfl
  | .goto _, _, _, _, _, _ => rfl
  | .refuse _, _, _, _, _, _ => rfl
theorem plansOk_sub : ∀ (p : List Nat) (c : Code), plansOk P pl c = true → plansOk P pl (subC p c) = true := by
  intro p
  induction p with
  | nil => intro c hk; cases c <;> exact hk
  | cons i p ih =>
    intro c hk
    cases c with
    | seq a b =>
      simp only [plansOk, Bool.and_eq_true] at hk
      cases i with
      | zero => exact ih a hk.1
      | succ i => exact ih b hk.2
    | cond c a b =>
      simp only [plansOk, Bool.and_eq_true] at hk
      cases i with
      | zero => exact ih a hk.1
      | succ i => exact ih b hk.2
    | block id a => cases i <;> exact ih a hk
    | scope a => cases i <;> exact ih a hk
    | loop a => cases i <;> exact ih a hk
    | rangeFunc x y a b =>
      simp only [plansOk, Bool.and_eq_true] at hk
      cases i with
      | zero => exact ih a hk.1
      | succ i => exact ih b hk.2
    | _ => cases i <;> exact hk
def opsAt (p : List Nat) (c : Code) : Array Oper :=
  match subC p c with
  | .region _ ops _ => ops
  | _ => #[]
def opGet (ops : Array Oper) (i : Nat) : Oper := ops.getD i default
def trunc : Nat → Code → Code
  | 0, _ => .skip
  | n + 1, .seq a b => .seq a (trunc n b)
  | _, c => c
def spineOk : Nat → Code → Bool
  | 0, _ => true
  | n + 1, .seq _ b => spineOk n b
  | _, _ => false
theorem trunc_sound {main : Bool} (hJ : Closed P main J) (hm : P.follows .mixedOrders = true) {Q : QT} : ∀ (n : Nat) (c : Code) {f : RG} {h : List AObj}, spineOk n c = true →
    W P J N n0 fn (trunc n c) f h (thenK (fun f h => Sem J N n0 fn (subC (List.replicate n 1) c) f h Q) Q) → Sem J N n0 fn c f h Q
  | 0, c, f, h, _, hw => by
    have : subC (List.replicate 0 1) c = c := by cases c <;> rfl
    rw [this] at hw
    exact hw
  | n + 1, .seq a b, f, h, hs, hw => by
    simp only [trunc, W] at hw
    refine Sem_seq hJ ((W_sound hJ hm a hw).mono fun e f h q => ?_)
    cases e with
    | normal => exact trunc_sound hJ hm n b hs q
    | _ => exact q
  | n + 1, .skip, _, _, hs, _ | n + 1, .label _, _, _, hs, _ | n + 1, .ret, _, _, hs, _ | n + 1, .exit _, _, _, hs, _ | n + 1, .cond .., _, _, hs, _ | n + 1, .block .., _, _, hs, _ | n + 1, .scope _, _, _, hs, _ | n + 1, .region .., _, _, hs, _ | n + 1, .loop _, _, _, hs, _ | n + 1, .rangeFunc .., _, _, hs, _ | n + 1, .goto _, _, _, hs, _ | n + 1, .refuse _, _, _, hs, _ => by cases hs
theorem top_eq {c : Code} (hk : plansOk P pl c = true) (ct : Cuts) {f : RG} {h : List AObj} {Q : QT} {R : Prop} (e : WX pl P J N n0 fn ct c f h Q = R) : W P J N n0 fn c f h Q = R := by
  rw [WX_eq _ hk ct]
  exact e
theorem sub_eq {c : Code} (hk : plansOk P pl c = true) (ct : Cuts) {p : List Nat} {f : RG} {h : List AObj} {Q : QT} {R : Prop} (e : WX pl P J N n0 fn (subT ct p c) (subC p c) f h Q = R) : W P J N n0 fn (subC p c) f h Q = R := by
  rw [WX_eq _ (plansOk_sub p c hk) (subT ct p c)]
  exact e
end
end Go.Proofs.Ythnccaajpdnndaa
namespace Go.Proofs.Ythnccaajpdnndaa
open Go Go.Proofs.Try
theorem mixed : prog.follows .mixedOrders = true := by kernel_rfl
end Go.Proofs.Ythnccaajpdnndaa
namespace Go.Proofs.Ythnccaajpdnndaa
open Go.Conc
def putAll : (Nat → Value) → List Nat → List Value → Nat → Value
  | r, t :: ts, v :: vs => putAll (fun i => bif i == t then v else r i) ts vs
  | r, _, _ => r
def jumpQ (pend : Option Code) (Q : QT) (f : RG) (h : List AObj) : Prop :=
  match pend with
  | none => Q .normal f h
  | some .ret => Q .ret f h
  | some (.exit id) => Q (.exit id) f h
  | _ => False
def endQ (n : Nat) (f : RG) (Q : QT) : Value → List AObj → Prop := fun _ h =>
  ∃ st pend fn r size params assign body dfr, h[n + 1]? = some (.loop st pend fn r size params assign body dfr) ∧ st ≠ .busy ∧ jumpQ pend Q ⟨f.r, n :: f.ds⟩ (h.set (n + 1) .dead)
def Fin (n0 : Nat) (K : Value → List AObj → Prop) (t : Bool) (h : List AObj) : Prop := K (.bool t) h ∨ ∃ σ h', GC n0 σ h h' ∧ K (.bool t) h'
def roundQ (l n0 : Nat) (K : Value → List AObj → Prop) : QT := fun e _ h =>
  ∃ st pend fn r size params assign body dfr, h[l]? = some (.loop st pend fn r size params assign body dfr) ∧
    match e with
    | .normal => Fin n0 K true (h.set l (.loop .ready none fn r size params assign body dfr))
    | .exit id => Fin n0 K false (h.set l (.loop .done (some (.exit id)) fn r size params assign body dfr))
    | .ret => Fin n0 K false (h.set l (.loop .done (some .ret) fn r size params assign body dfr))
    | _ => False
section
variable {P : Program} {main : Bool} {J : JT} {N n0 : Nat} {ρ : Env} {h : List AObj} {FC : Frm} {w : World} {ft : Foot} {f : RG} {a : Act} {cs : List Frame} {b : FB} {fn : FuncId} {Q : QT}
theorem regs_putAll {n : Nat} : ∀ (ps : List Nat) (vs cs : List Value) {r : Nat → Value} {tmps : Array Value}, RegRel n ρ r tmps → (∀ t ∈ ps, t < tmps.size) → vs.length = cs.length → (∀ i : Nat, VRel n ρ (vs.getD i unk) (cs.getD i undef)) →
    RegRel n ρ (putAll r ps vs) ((ps.zip cs).foldl (fun tmps (t, a) => tmps.setIfInBounds t a) tmps) ∧ ((ps.zip cs).foldl (fun tmps (t, a) => tmps.setIfInBounds t a) tmps).size = tmps.size
  | [], vs, cs, r, tmps, hr, _, _, _ => by
    cases vs <;> exact ⟨hr, rfl⟩
  | t :: ps, [], cs, r, tmps, hr, _, hl, _ => by
    cases cs with
    | nil => exact ⟨hr, rfl⟩
    | cons c cs => cases hl
  | t :: ps, v :: vs, cs, r, tmps, hr, ht, hl, hv => by
    cases cs with
    | nil => cases hl
    | cons c cs =>
      have h0 := hv 0
      simp only [List.getD_cons_zero] at h0
      have := regs_putAll ps vs cs (regs_put hr (ht t (by simp)) h0) (fun x hx => by simpa using ht x (by simp [hx])) (by simpa using hl) (fun i => by simpa using hv (i + 1))
      simpa [putAll] using this
theorem zip_fold (ps : List Nat) (cs : List Value) (tmps : Array Value) : ((⟨ps⟩ : Array Tmp).zip ⟨cs⟩).foldl (fun tmps (t, a) => tmps.setIfInBounds t a) tmps = (ps.zip cs).foldl (fun tmps (t, a) => tmps.setIfInBounds t a) tmps := by
  rw [List.zip_toArray]
  simp
theorem tag_none (hb : b.tag = fn) (hf : fn < 1000000) : b.ro = none ∧ b.fn = fn := by
  unfold FB.tag at hb
  cases e : b.ro with
  | none => rw [e] at hb; exact ⟨rfl, hb⟩
  | some l =>
    rw [e] at hb
    have : (1000000 : Nat) ≤ fn := hb ▸ Nat.le_add_left _ _
    exact absurd hf (Nat.not_lt.2 this)
theorem Sem_range (hJ : Closed P main J) (hfn : fn < 1000000) {fop : Operand} {params : Array Tmp} {assign body : Code} {g : FuncId} {first cap : List Value} (hx : ev f.r fop = .func (.func g) ⟨first⟩ ⟨cap⟩) (hg : g < P.funcs.size)
    (hs : Good P J g (first ++ [.func (.yield (h.length + 1)) ⟨[]⟩ ⟨[]⟩] ++ cap) (h ++ [.deferred] ++ [.loop .ready none fn f.r N params assign body h.length]) (endQ h.length f Q)) (hcall : callable P g = true) : Sem J N n0 fn (.rangeFunc fop params assign body) f h Q := by
  intro b a k cs L ρ FC w ft h1 h2 h3 h4 h5 h6 hc
  obtain ⟨hro, hbf⟩ := tag_none h1 hfn
  have hk' : (b.kind == CallKind.early) = false := by simpa using h2
  obtain ⟨hok, hv⟩ := (ev_rel h4.regs fop).val (by rw [hx]; simp [unk])
  rw [hx] at hv hok
  simp only [ren, renFn, renA, renL_eq] at hv
  simp only [VOk, AOk] at hok
  have hs : GoodF P J g (first ++ [.func (.yield (h.length + 1)) ⟨[]⟩ ⟨[]⟩] ++ cap) (h ++ [.deferred] ++ [.loop .ready none fn f.r N params assign body h.length]) (endQ h.length f Q) := by
    rcases hs with hs | ⟨⟨_, hx⟩, _⟩
    · exact hs
    · rw [hcall] at hx
      cases hx
  have hcl : callable P g = true := by
    rcases hs.1 with ⟨_, x⟩ | ⟨x, _⟩
    · exact x
    · exact absurd hg (Nat.not_lt.2 x)
  refine hJ.step rfl fun w₁ hr => ?_
  have H₁ := h5.rely hr
  have G1 := H₁.push .deferred (.deferred (some [])) 0 trivial w₁.drawn
  have A1 := upto_act G1.upto G1.len h4
  have e1 : (h ++ [AObj.deferred]).length = h.length + 1 := by simp
  have b1 : (ρ.put h.length w₁.heap.size 0).blk h.length = w₁.heap.size := (Env.put_self ρ h.length w₁.heap.size 0).1
  have G2 := G1.rel.push (.loop .ready none fn f.r N params assign body h.length) (.loop { state := .ready, pending := none, fn, tmps := a.tmps, params, assign, body, defers := w₁.heap.size }) 0
    ⟨rfl, rfl, rfl, A1.regs.congr (Env.put_upto _ _ _ _) (by simp), A1.size, rfl, rfl, rfl, by
      have := (Env.put_upto (ρ.put h.length w₁.heap.size 0) (h ++ [AObj.deferred]).length (w₁.heap.push (.deferred (some []))).size 0) h.length (by simp)
      rw [this.1, b1], by simp; omega⟩ w₁.drawn
  have hent : RunsTo P (EvOk ft) (Instr.enterLoop fn a.tmps params assign body none) w₁ fun r w' => r = (w₁.heap.size + 1, [{ target := .collected w₁.heap.size, args := #[] }]) ∧
      w' = { w₁ with heap := (w₁.heap.push (.deferred (some []))).push (.loop { state := .ready, pending := none, fn, tmps := a.tmps, params, assign, body, defers := w₁.heap.size }) } := by
    unfold Instr.enterLoop
    refine RunsTo.bind (RunsTo.bind (RunsTo.new ?_))
    exact RunsTo.pure (P := P) (RunsTo.pure (P := P) ⟨by simp, rfl⟩)
  obtain ⟨r, w', es, hr1, he1, rfl, hw'⟩ := hent #[] (by simp)
  have hes1 : ∀ e ∈ seen P b.fn es, EvOk ft e := fun e hm => he1 e (mem_seen hm)
  have hres : RunsTo P (EvOk ft) (do let d ← resolve (b.at ⟨a.tmps, { target := .collected w₁.heap.size, args := #[] } :: a.defers⟩ (.inRangeFunc (w₁.heap.size + 1) :: k)).eval { callee := .value fop, args := #[.const (.func (.yield (w₁.heap.size + 1)) #[] #[])], argTypes := #[] } 0; invoke d.target d.args) w' fun nx w'' =>
      nx = .enter g ⟨first.map (ren ρ) ++ [.func (.yield (w₁.heap.size + 1)) #[] #[]] ++ cap.map (ren ρ)⟩ ∧ w'' = w' := by
    unfold resolve
    have hev : (b.at ⟨a.tmps, { target := .collected w₁.heap.size, args := #[] } :: a.defers⟩ (.inRangeFunc (w₁.heap.size + 1) :: k)).eval fop = .func (.func g) ⟨first.map (ren ρ)⟩ ⟨cap.map (ren ρ)⟩ := by
      rw [← hv]
      cases fop <;> rfl
    simp only [hev, Deferred.ofValue]
    refine RunsTo.bind (RunsTo.pure ?_)
    unfold invoke
    simp only
    refine callFunc_run hcl ⟨?_, rfl⟩
    congr 1
    apply Array.ext'
    simp [Frame.eval]
  obtain ⟨nx, w'', es2, hr2, he2, rfl, rfl⟩ := hres #[] (by simp)
  have hes2 : ∀ e ∈ seen P b.fn es2, EvOk ft e := fun e hm => he2 e (mem_seen hm)
  have hst : Stays ft w₁ w'' := by
    have := G1.stays.trans (w₂ := { w₁ with heap := (w₁.heap.push (.deferred (some []))).push (.loop { state := .ready, pending := none, fn, tmps := a.tmps, params, assign, body, defers := w₁.heap.size }) })
      ⟨fun y hy hn => by
        show ((w₁.heap.push _).push _)[y]? = (w₁.heap.push _)[y]?
        rw [Array.getElem?_push_lt hy, Array.getElem?_eq_getElem hy], by simp, rfl, rfl, rfl⟩
    rw [hw']
    exact this
  have hext : (ft.ext w₁.heap.size (w₁.heap.push (.deferred (some []))).size).ext (w₁.heap.push (.deferred (some []))).size w''.heap.size = ft.ext w₁.heap.size w''.heap.size := by
    have hsz : w''.heap.size = w₁.heap.size + 2 := by rw [hw']; simp
    simp only [Foot.ext, Foot.mk.injEq, hsz, Array.size_push]
    exact ⟨by funext y; by_cases hy : ft.rd y <;> simp [hy] <;> omega, by funext y; by_cases hy : ft.wr y <;> simp [hy] <;> omega, trivial⟩
  have H2 : HRel ((ρ.put h.length w₁.heap.size 0).put (h ++ [AObj.deferred]).length (w₁.heap.push (.deferred (some []))).size 0) (h ++ [.deferred] ++ [.loop .ready none fn f.r N params assign body h.length]) FC w'' (ft.ext w₁.heap.size w''.heap.size) := by
    rw [← hext, hw']
    exact G2.rel
  generalize hρ2 : ((ρ.put h.length w₁.heap.size 0).put (h ++ [AObj.deferred]).length (w₁.heap.push (.deferred (some []))).size 0) = ρ2 at H2
  have hu2 : Env.upto h.length ρ ρ2 := by
    rw [← hρ2]
    exact Env.upto_trans (Env.put_upto _ _ _ _) (Env.upto_le (Env.put_upto _ _ _ _) (by simp))
  have hbd : ρ2.blk h.length = w₁.heap.size := by
    rw [← hρ2]
    rw [((Env.put_upto (ρ.put h.length w₁.heap.size 0) (h ++ [AObj.deferred]).length (w₁.heap.push (.deferred (some []))).size 0) h.length (by simp)).1, b1]
  have hbl : ρ2.blk (h.length + 1) = w₁.heap.size + 1 := by
    rw [← hρ2]
    have := (Env.put_self (ρ.put h.length w₁.heap.size 0) (h ++ [AObj.deferred]).length (w₁.heap.push (.deferred (some []))).size 0).1
    rw [e1] at this
    rw [e1, this]
    simp
  refine ⟨G (Frame.enter P g ⟨first.map (ren ρ) ++ [.func (.yield (w₁.heap.size + 1)) #[] #[]] ++ cap.map (ren ρ)⟩ .normal) (b.at ⟨a.tmps, { target := .collected w₁.heap.size, args := #[] } :: a.defers⟩ (.inRangeFunc (w₁.heap.size + 1) :: k) :: cs), w'', seen P b.fn es ++ seen P b.fn es2, ?_, rfl, hst.guar (fun e hm => ?_), ?_⟩
  · have hr2' := hr2
    simp only [FB.at, List.cons_append] at hr2'
    simp only [G, stepG, stepG.exec, FB.at, hro, hbf, hr1, GStep.after, stepG.apply]
    rw [hro, hbf] at hr2'
    simp only [List.cons_append, List.nil_append, hr2', if_true, hk']
    simp
  · rcases Array.mem_append.1 hm with hm | hm
    · exact hes1 e hm
    · exact hes2 e hm
  · have hargs : ∀ i : Nat, VRel (h ++ [AObj.deferred] ++ [AObj.loop .ready none fn f.r N params assign body h.length]).length ρ2 ((first ++ [Value.func (.yield (h.length + 1)) ⟨[]⟩ ⟨[]⟩] ++ cap).getD i unk) ((first.map (ren ρ) ++ [Value.func (.yield (w₁.heap.size + 1)) #[] #[]] ++ cap.map (ren ρ)).getD i undef) := by
      have hlen : h.length ≤ (h ++ [AObj.deferred] ++ [AObj.loop .ready none fn f.r N params assign body h.length]).length := by simp
      have hcg : ∀ l, LOk h.length l → l.map (ren ρ) = l.map (ren ρ2) := fun l hl => List.map_congr_left fun v hv => (ren_congr hu2 v ((LOk_iff l).1 hl v hv)).symm
      rw [hcg first hok.2.1, hcg cap hok.2.2]
      refine getD_app (by simp) (getD_app (by simp) (getD_ren (LOk.mono hlen _ hok.2.1)) fun i => ?_) (getD_ren (LOk.mono hlen _ hok.2.2))
      cases i with
      | zero => exact .inr ⟨by simp [VOk, FnOk, AOk, LOk], by simp [ren, renFn, renA, renL, hbl]⟩
      | succ i => exact .inl (by simp)
    refine hs.2 ρ2 FC w'' _ cs _ _ _ H2 hargs (by simp) (.inl ⟨hg, rfl⟩) fun v h' ρ' w3 ft3 cv hK H3 hu3 hl3 hv3 => ?_
    obtain ⟨st, pend, fn', r', size', params', assign', body', dfr', hlk, hst, hj⟩ := hK
    have hfin : (b.at ⟨a.tmps, { target := .collected w₁.heap.size, args := #[] } :: a.defers⟩ (.inRangeFunc (w₁.heap.size + 1) :: k)).finish cv = b.at ⟨a.tmps, { target := .collected w₁.heap.size, args := #[] } :: a.defers⟩ (.endRangeFunc (w₁.heap.size + 1) :: k) := rfl
    rw [hfin]
    have hlen2 : h.length + 2 = (h ++ [AObj.deferred] ++ [AObj.loop .ready none fn f.r N params assign body h.length]).length := by simp
    have hbl3 : ρ'.blk (h.length + 1) = w₁.heap.size + 1 := by rw [(hu3 _ (by omega)).1, hbl]
    have hbd3 : ρ'.blk h.length = w₁.heap.size := by rw [(hu3 _ (by omega)).1, hbd]
    have hu03 : Env.upto h.length ρ ρ' := Env.upto_trans hu2 (Env.upto_le hu3 (by omega))
    have A3 : ActRel h'.length ρ' N ⟨f.r, h.length :: f.ds⟩ ⟨a.tmps, { target := .collected w₁.heap.size, args := #[] } :: a.defers⟩ := by
      have A := upto_act (m := h'.length) hu03 (by omega) h4
      exact ⟨A.regs, A.size, by simp [A.defers, hbd3], by
        intro y hy
        rcases List.mem_cons.1 hy with rfl | hy
        · omega
        · exact A.ok y hy⟩
    refine hJ.step rfl fun w4 hr4 => ?_
    have H4 := H3.rely hr4
    have hobj := H4.obj _ _ hlk
    have hrd := H4.rd _ _ hlk rfl
    have hwr := H4.wr _ _ hlk rfl
    rw [hbl3] at hobj hrd hwr
    match hlo : w4.heap[w₁.heap.size + 1]?, hobj with
    | some (.loop lo), hobj =>
      obtain ⟨q1, q2, _⟩ := hobj
      have hend : RunsTo P (EvOk ft3) (Instr.endLoop (w₁.heap.size + 1)) w4 fun j w5 => j = pend ∧ w5 = { w4 with heap := w4.heap.setIfInBounds (w₁.heap.size + 1) (.loop { lo with state := .exhausted }) } := by
        unfold Instr.endLoop Instr.getLoop
        refine RunsTo.bind (RunsTo.bind (RunsTo.getObj hlo (fun _ _ _ e => by cases e) ⟨rfl, hrd, fun e => by cases e⟩ (RunsTo.pure ?_)))
        have : (lo.state == LoopState.busy) = false := by
          rw [q1]
          cases st <;> first | rfl | exact absurd rfl hst
        simp only [this]
        rw [if_neg (by simp)]
        exact RunsTo.bind (RunsTo.setObj hlo (fun _ _ _ e => by cases e) ⟨rfl, hrd, fun _ => hwr⟩ (RunsTo.pure ⟨q2, rfl⟩))
      obtain ⟨j, w5, es3, hr5, he5, rfl, hw5⟩ := hend #[] (by simp)
      have hes3 : ∀ e ∈ seen P b.fn es3, EvOk ft3 e := fun e hm => he5 e (mem_seen hm)
      have H5 := H4.clobber hlk rfl (.loop { lo with state := .exhausted })
      rw [hbl3, ← hw5] at H5
      have hst5 : Stays ft3 w4 w5 := by
        rw [hw5]
        refine ⟨fun y hy hny => ?_, by simp, rfl, rfl, rfl⟩
        show (w4.heap.setIfInBounds (w₁.heap.size + 1) _)[y]? = _
        rw [Array.getElem?_setIfInBounds, if_neg (fun e => hny (by rw [← e]; exact hwr))]
      have hsz5 : w5.heap.size = w4.heap.size := by rw [hw5]; simp
      refine ⟨G (b.at ⟨a.tmps, { target := .collected w₁.heap.size, args := #[] } :: a.defers⟩ ((j.map Item.code).toList ++ k)) cs, w5, seen P b.fn es3, ?_, rfl, hst5.guar hes3, ?_⟩
      · simp only [G, stepG, stepG.exec, FB.at, hr5, GStep.after]
        simp
      · rw [hsz5, Foot.ext_self]
        have hl5 : (h'.set (h.length + 1) .dead).length = h'.length := by simp
        have A5 : ActRel (h'.set (h.length + 1) .dead).length ρ' N ⟨f.r, h.length :: f.ds⟩ ⟨a.tmps, { target := .collected w₁.heap.size, args := #[] } :: a.defers⟩ := by rw [hl5]; exact A3
        have hu5 : Env.upto n0 ρ ρ' := Env.upto_le hu03 h6
        have hn5 : n0 ≤ (h'.set (h.length + 1) .dead).length := by rw [hl5]; omega
        unfold jumpQ at hj
        split at hj
        · exact hc _ _ _ _ _ _ _ hj A5 H5 hu5 hn5
        · have := hc _ _ _ _ _ _ _ hj A5 H5 hu5 hn5
          exact h3 _ _ _ _ _ this (.inl ⟨rfl, _, rfl⟩)
        · rename_i id
          have := hc _ _ _ _ _ _ _ hj A5 H5 hu5 hn5
          unfold AfterJ at this
          simp only at this
          cases he : exitTo id k with
          | some k' =>
            rw [he] at this
            exact hJ.ctrl rfl rfl (g' := G (b.at _ k') cs) (fun w => by simp [G, stepG, stepG.exec, FB.at, he]) this
          | none =>
            rw [he] at this
            exact h3 _ _ _ _ _ this (.inr (.inl ⟨id, k, rfl, rfl, he⟩))
        · exact hj.elim
theorem leave_round (hJ : Closed P main J) {l : Nat} {c : Frame} {n0 : Nat} {K : Value → List AObj → Prop} {jump : Option Code} {todo : List Item} (hro : b.ro = some (ρ.blk l)) (hk : b.kind = .normal) (hh : Heads jump todo) (H : HRel ρ h FC w ft)
    {st : LoopState} {pend : Option Code} {fn : FuncId} {r : Nat → Value} {size : Nat} {params : Array Tmp} {assign body : Code} {dfr : Nat} (hl : h[l]? = some (.loop st pend fn r size params assign body dfr))
    (hF : Fin n0 K jump.isNone (h.set l (.loop (if jump.isNone then .ready else .done) jump fn r size params assign body dfr))) (hn : n0 ≤ h.length)
    (hc : ∀ v h' ρ' w' ft' cv, K v h' → HRel ρ' h' FC w' ft' → Env.upto n0 ρ ρ' → n0 ≤ h'.length → VRel h'.length ρ' v cv → J (G (c.finish cv) cs) w' ft') : J (G (b.at a todo) (c :: cs)) w ft := by
  refine hJ.step rfl fun w₁ hr => ?_
  have H₁ := H.rely hr
  have hobj := H₁.obj _ _ hl
  have hrd := H₁.rd _ _ hl rfl
  have hwr := H₁.wr _ _ hl rfl
  match hlo : w₁.heap[ρ.blk l]?, hobj with
  | some (.loop lo), hobj =>
    have hobj' := hobj
    obtain ⟨q1, q2, q3, q4, q5, q6, q7, q8, q9, q10⟩ := hobj'
    have hend : RunsTo P (EvOk ft) (Instr.endRound (ρ.blk l) jump) w₁ fun v w5 => v = .bool jump.isNone ∧ w5 = { w₁ with heap := w₁.heap.setIfInBounds (ρ.blk l) (.loop { lo with state := if jump.isNone then .ready else .done, pending := jump }) } := by
      unfold Instr.endRound Instr.getLoop
      refine RunsTo.bind (RunsTo.bind (RunsTo.getObj hlo (fun _ _ _ e => by cases e) ⟨rfl, hrd, fun e => by cases e⟩ (RunsTo.pure ?_)))
      exact RunsTo.bind (RunsTo.setObj hlo (fun _ _ _ e => by cases e) ⟨rfl, hrd, fun _ => hwr⟩ (RunsTo.pure ⟨rfl, rfl⟩))
    obtain ⟨v, w5, es, hrun, he, rfl, hw5⟩ := hend #[] (by simp)
    have hes : ∀ e ∈ seen P b.fn es, EvOk ft e := fun e hm => he e (mem_seen hm)
    have G5 := H₁.setBlk hl rfl (o := .loop (if jump.isNone then .ready else .done) jump fn r size params assign body dfr) (x := .loop { lo with state := if jump.isNone then .ready else .done, pending := jump }) rfl
      ⟨rfl, rfl, q3, q4, q5, q6, q7, q8, q9, q10⟩
    rw [← hw5] at G5
    refine ⟨G (c.finish (.bool jump.isNone)) cs, w5, seen P b.fn es, ?_, rfl, G5.stays.guar hes, ?_⟩
    · rcases hh with ⟨rfl, k, rfl⟩ | ⟨id, k, rfl, rfl, hex⟩ | ⟨rfl, rfl⟩
      · simp only [G, stepG, stepG.exec, FB.at, hro, hrun]
        simp [doReturn, GStep.after, hk]
      · simp only [G, stepG, stepG.exec, FB.at, hro, hex, Option.elim, hrun]
        simp [doReturn, GStep.after, hk]
      · simp only [G, stepG, stepG.exec, FB.at, hro, hrun]
        simp [doReturn, GStep.after, hk]
    · rcases hF with hK | ⟨σ, h', g, hK⟩
      · exact hc _ _ _ _ _ _ hK G5.rel (Env.upto_refl _ _) (by rw [List.length_set]; exact hn) (.inr ⟨by simp [VOk], by simp [ren]⟩)
      · exact hc _ _ _ _ _ _ hK (g.rel G5.rel) g.upto g.le (.inr ⟨by simp [VOk], by simp [ren]⟩)
theorem good_round (hJ : Closed P main J) {l : Nat} {args : List Value} {K : Value → List AObj → Prop} {pend : Option Code} {r : Nat → Value} {size : Nat} {params : Array Tmp} {assign body : Code} {dfr : Nat}
    (hl : h[l]? = some (.loop .ready pend fn r size params assign body dfr)) (hn : params.size = args.length) (hp : ∀ t ∈ params.toList, t < size)
    (hs : heapOk h → Sem J size h.length (fn + 1000000) assign ⟨putAll r params.toList args, []⟩ h fun e f1 h1 => e = .normal ∧ ∃ pend fn' r' size' params' assign' body' dfr', h1[l]? = some (.loop .ready pend fn' r' size' params' assign' body' dfr') ∧
      Sem J size h.length (fn + 1000000) body f1 (h1.set l (.loop .busy pend fn' r' size' params' assign' body' dfr')) (roundQ l h.length K)) : Good P J (yid P l) args h K := by
  have hge : P.funcs.size ≤ yid P l := Nat.le_add_right _ _
  have hll : yid P l - P.funcs.size = l := by simp [yid]
  have hlt : l < h.length := (List.getElem?_eq_some_iff.1 hl).1
  refine .inl ⟨.inr ⟨hge, _, _, _, _, _, _, _, _, _, by rw [hll]; exact hl, hn⟩, fun ρ FC w ft cs c cargs fr H hr hlen hent hc => ?_⟩
  rcases hent with ⟨hlt, _⟩ | ⟨_, lo, hlo, hsz, rfl⟩
  · omega
  · rw [hll] at hlo
    rw [hll]
    have hobj := H.obj _ _ hl
    rw [hlo] at hobj
    obtain ⟨q1, q2, q3, q4, q5, q6, q7, q8, q9, q10⟩ := hobj
    subst q3
    have hreg := regs_putAll params.toList args cargs q4 (by rw [q5]; exact hp) hlen.symm hr
    have hz : (lo.params.zip ⟨cargs⟩).foldl (fun tmps (t, a) => tmps.setIfInBounds t a) lo.tmps = (params.toList.zip cargs).foldl (fun tmps (t, a) => tmps.setIfInBounds t a) lo.tmps := by
      rw [q6]
      exact zip_fold params.toList cargs lo.tmps
    rw [hz, q7, q8]
    have hfr : Frame.round (ρ.blk l) lo.fn ((params.toList.zip cargs).foldl (fun tmps (t, a) => tmps.setIfInBounds t a) lo.tmps) assign body .normal = FB.at ⟨lo.fn, .normal, some (ρ.blk l), []⟩ ⟨(params.toList.zip cargs).foldl (fun tmps (t, a) => tmps.setIfInBounds t a) lo.tmps, []⟩ [.code assign, .beginRound, .code body] := rfl
    rw [hfr]
    refine hs H.ok ⟨lo.fn, .normal, some (ρ.blk l), []⟩ _ [.beginRound, .code body] (c :: cs) (fun _ _ _ _ => False) ρ FC w ft rfl (by simp) (fun _ _ _ _ _ x _ => x.elim) ⟨hreg.1, by rw [hreg.2, q5], rfl, by simp⟩ H (Nat.le_refl _) ?_
    intro e f1 h1 ρ1 w1 ft1 a1 q A1 H1 hu1 hn1
    obtain ⟨rfl, pend', fn', r', size', params', assign', body', dfr', hl1, hb⟩ := q
    show J (G (FB.at ⟨lo.fn, .normal, some (ρ.blk l), []⟩ a1 [.beginRound, .code body]) (c :: cs)) w1 ft1
    refine hJ.step rfl fun w2 hr2 => ?_
    have H2 := H1.rely hr2
    have hbl : ρ1.blk l = ρ.blk l := (hu1 l hlt).1
    have hobj := H2.obj _ _ hl1
    have hrd := H2.rd _ _ hl1 rfl
    have hwr := H2.wr _ _ hl1 rfl
    match hlo2 : w2.heap[ρ1.blk l]?, hobj with
    | some (.loop lo2), hobj =>
      obtain ⟨p1, p2, p3, p4, p5, p6, p7, p8, p9, p10⟩ := hobj
      have hrun : RunsTo P (EvOk ft1) (do (some (ρ.blk l)).elim (stuck "beginRound: no round") Instr.beginRound; pure Next.skip) w2 fun nx w3 => nx = .skip ∧ w3 = { w2 with heap := w2.heap.setIfInBounds (ρ1.blk l) (.loop { lo2 with state := .busy }) } := by
        simp only [Option.elim]
        rw [← hbl]
        unfold Instr.beginRound Instr.getLoop
        refine RunsTo.bind (RunsTo.bind (RunsTo.bind (RunsTo.getObj hlo2 (fun _ _ _ e => by cases e) ⟨rfl, hrd, fun e => by cases e⟩ (RunsTo.pure ?_))))
        refine RunsTo.bind (RunsTo.setObj hlo2 (fun _ _ _ e => by cases e) ⟨rfl, hrd, fun _ => hwr⟩ ?_)
        rw [p1]
        exact RunsTo.pure (RunsTo.pure ⟨rfl, rfl⟩)
      obtain ⟨nx, w3, es, hr3, he3, rfl, hw3⟩ := hrun #[] (by simp)
      have hes : ∀ e ∈ seen P lo.fn es, EvOk ft1 e := fun e hm => he3 e (mem_seen hm)
      have G3 := H2.setBlk hl1 rfl (o := .loop .busy pend' fn' r' size' params' assign' body' dfr') (x := .loop { lo2 with state := .busy }) rfl ⟨rfl, p2, p3, p4, p5, p6, p7, p8, p9, p10⟩
      rw [← hw3] at G3
      refine ⟨G (FB.at ⟨lo.fn, .normal, some (ρ.blk l), []⟩ a1 [.code body]) (c :: cs), w3, seen P lo.fn es, ?_, rfl, G3.stays.guar hes, ?_⟩
      · simp only [G, stepG, stepG.exec, FB.at, stepG.apply, hr3, if_true]
        simp [GStep.after, Frame.finish]
      · have A3 := upto_act G3.upto G3.len A1
        refine hb ⟨lo.fn, .normal, some (ρ.blk l), []⟩ a1 [] (c :: cs) (fun jump a w ft => ∀ todo, Heads jump todo → J (G (FB.at ⟨lo.fn, .normal, some (ρ.blk l), []⟩ a todo) (c :: cs)) w ft) ρ1 FC w3 _ rfl (by simp) (fun _ _ _ _ _ x y => x _ y) A3 G3.rel (by rw [List.length_set]; exact hn1) ?_
        intro e f4 h4 ρ4 w4 ft4 a4 q A4 H4 hu4 hn4
        obtain ⟨st, pend, fn, r, size, params, assign, body, dfr, hl4, hq⟩ := q
        have hu : Env.upto h.length ρ ρ4 := Env.upto_trans hu1 hu4
        have hro : (⟨lo.fn, .normal, some (ρ.blk l), []⟩ : FB).ro = some (ρ4.blk l) := by rw [(hu l hlt).1]
        have fin : ∀ (jump : Option Code), Fin h.length K jump.isNone (h4.set l (.loop (if jump.isNone then .ready else .done) jump fn r size params assign body dfr)) → ∀ todo, Heads jump todo → J (G (FB.at ⟨lo.fn, .normal, some (ρ.blk l), []⟩ a4 todo) (c :: cs)) w4 ft4 :=
          fun jump hF todo hh => leave_round hJ hro rfl hh H4 hl4 hF hn4 fun v h' ρ' w' ft' cv k r1 r2 r3 r4 => hc v h' ρ' w' ft' cv k r1 (Env.upto_trans hu r2) r3 r4
        cases e with
        | normal => exact fin none hq [] (.inr (.inr ⟨rfl, rfl⟩))
        | exit id => exact fin (some (.exit id)) hq
        | ret => exact fin (some .ret) hq
        | goto l => exact hq.elim
        | panic l => exact hq.elim
        | outgrown => exact hq.elim
end
end Go.Proofs.Ythnccaajpdnndaa
namespace Go.Proofs.Ythnccaajpdnndaa
open Go.Conc Go.Proofs.Try
set_option maxRecDepth 100000
set_option maxHeartbeats 4000000
set_option linter.unusedVariables false
section
variable {main : Bool} {J : JT} {n0 : Nat} {h : List AObj} {K : Value → List AObj → Prop}
theorem at12 : prog.funcs[12]? = some f12 := by kernel_rfl
theorem body12 : f12.body = some (codeOf f12) := by kernel_rfl
def pl12 : Plans := []
def ct12 : Cuts := .bin (.go) (.bin (.go) (.bin (.go) (.bin (.go) (.bin (.go) (.bin (.go) (.bin (.bin (.go) (.cut (.go))) (.bin (.go) (.bin (.bin (.go) (.cut (.go))) (.bin (.bin (.go) (.bin (.bin (.go) (.bin (.go) (.cut (.go)))) (.go))) (.bin (.bin (.go) (.bin (.bin (.go) (.bin (.go) (.cut (.go)))) (.go))) (.bin (.bin (.go) (.bin (.bin (.go) (.bin (.go) (.cut (.go)))) (.go))) (.go))))))))))))
theorem pok12 : plansOk prog pl12 (codeOf f12) = true := by kernel_rfl
theorem e12 {a0 : Value} : W prog J 126 h.length 12 (codeOf f12) (RG.mk (regs [a0]) []) h (RetQ prog [.tmp 2] h.length K) =
(Good prog J 22 [a0] h fun v1 h2 =>
 Good prog J 24 [v1] h2 fun v3 h4 =>
 Good prog J 25 [v1, (vint 7)] h4 fun v5 h6 =>
 aAlloc [(vint 0), (vint 0), (vint 0), (vint 0), (vint 0), (vint 0)] h6 fun v7 h8 =>
 aAlloc [(vint 0), (vint 0), (vint 0)] h8 fun v9 h10 =>
 aStore 6 v7 v3 h10 fun h11 =>
 aStore 3 v9 v5 h11 fun h12 =>
 aOff v9 0 fun v13 =>
 aLoad false 1 v13 h12 fun v14 =>
 aBin prog .sub 3 v14 (vint 1) fun v15 =>
 Good prog J 26 [v1, v15] h12 fun v16 h17 =>
 aOff v9 0 fun v18 =>
 aLoad false 1 v18 h17 fun v19 =>
 aBin prog .sub 3 v19 v16 fun v20 =>
 Good prog J 23 [v1, (vint 1), v20] h17 fun v21 h22 =>
 aLoad true 6 v7 h22 fun v23 =>
 aLoad true 3 v9 h22 fun v24 =>
 Good prog J 33 [v23, v24, v16, v21] h22 fun v25 h26 =>
 aExt v25 0 fun v27 =>
 aExt v25 1 fun v28 =>
 aBin prog .neq 37 v28 (vint 0) fun v29 =>
 cnd v29
(Hold (W prog J 126 h.length 12 (subC [1, 1, 1, 1, 1, 1, 0, 1] (codeOf f12)) (RG.p (RG.p (RG.p (RG.p (RG.p (RG.p (RG.p (RG.p (RG.p (RG.p (RG.p (RG.p (RG.p (RG.p (RG.p (RG.p (RG.p (RG.p (RG.p (RG.p (RG.p (RG.p (RG.p (RG.p (RG.p (RG.p (RG.p (RG.p (RG.p (RG.p (RG.p (RG.p (RG.p (RG.p (RG.p (RG.p (RG.p (RG.p (RG.p (RG.p (RG.p (RG.p (RG.p (RG.p (RG.p (RG.mk (regs [a0]) []) 2 (Value.bool false)) 18 a0) 19 v1) 3 v1) 20 v1) 21 v3) 22 v1) 23 v5) 4 v7) 5 v9) 24 v1) 25 v13) 26 v14) 27 v15) 28 v16) 6 v16) 29 v1) 30 v18) 31 v19) 32 v16) 33 v20) 34 v21) 7 v21) 36 v23) 37 v24) 38 v16) 39 v21) 40 v25) 35 v25) 41 v27) 42 v28) 8 v27) 9 v28) 43 v28) 44 v29) 45 v29) 45 (Value.bool true)) 46 undef) 47 undef) 48 (Value.bool true)) 49 (Value.bool true)) 49 (Value.bool true)) 50 undef) 51 undef) 52 (Value.bool true)) h26 (contX pl12 prog J 126 h.length 12 ct12 [1, 1, 1, 1, 1, 1, 0, 1] (codeOf f12) [] (RetQ prog [.tmp 2] h.length K))))
(aBin prog .lss 3 v27 (vint 0) fun v30 =>
 cnd v30
(Hold (W prog J 126 h.length 12 (subC [1, 1, 1, 1, 1, 1, 0, 1] (codeOf f12)) (RG.p (RG.p (RG.p (RG.p (RG.p (RG.p (RG.p (RG.p (RG.p (RG.p (RG.p (RG.p (RG.p (RG.p (RG.p (RG.p (RG.p (RG.p (RG.p (RG.p (RG.p (RG.p (RG.p (RG.p (RG.p (RG.p (RG.p (RG.p (RG.p (RG.p (RG.p (RG.p (RG.p (RG.p (RG.p (RG.p (RG.p (RG.p (RG.p (RG.p (RG.p (RG.p (RG.p (RG.p (RG.p (RG.mk (regs [a0]) []) 2 (Value.bool false)) 18 a0) 19 v1) 3 v1) 20 v1) 21 v3) 22 v1) 23 v5) 4 v7) 5 v9) 24 v1) 25 v13) 26 v14) 27 v15) 28 v16) 6 v16) 29 v1) 30 v18) 31 v19) 32 v16) 33 v20) 34 v21) 7 v21) 36 v23) 37 v24) 38 v16) 39 v21) 40 v25) 35 v25) 41 v27) 42 v28) 8 v27) 9 v28) 43 v28) 44 v29) 45 v29) 45 (Value.bool false)) 46 v27) 47 v30) 48 v30) 49 v30) 49 (Value.bool true)) 50 undef) 51 undef) 52 (Value.bool true)) h26 (contX pl12 prog J 126 h.length 12 ct12 [1, 1, 1, 1, 1, 1, 0, 1] (codeOf f12) [] (RetQ prog [.tmp 2] h.length K))))
(aBin prog .gtr 3 v27 (vint 40) fun v31 =>
 Hold (W prog J 126 h.length 12 (subC [1, 1, 1, 1, 1, 1, 0, 1] (codeOf f12)) (RG.p (RG.p (RG.p (RG.p (RG.p (RG.p (RG.p (RG.p (RG.p (RG.p (RG.p (RG.p (RG.p (RG.p (RG.p (RG.p (RG.p (RG.p (RG.p (RG.p (RG.p (RG.p (RG.p (RG.p (RG.p (RG.p (RG.p (RG.p (RG.p (RG.p (RG.p (RG.p (RG.p (RG.p (RG.p (RG.p (RG.p (RG.p (RG.p (RG.p (RG.p (RG.p (RG.p (RG.p (RG.p (RG.mk (regs [a0]) []) 2 (Value.bool false)) 18 a0) 19 v1) 3 v1) 20 v1) 21 v3) 22 v1) 23 v5) 4 v7) 5 v9) 24 v1) 25 v13) 26 v14) 27 v15) 28 v16) 6 v16) 29 v1) 30 v18) 31 v19) 32 v16) 33 v20) 34 v21) 7 v21) 36 v23) 37 v24) 38 v16) 39 v21) 40 v25) 35 v25) 41 v27) 42 v28) 8 v27) 9 v28) 43 v28) 44 v29) 45 v29) 45 (Value.bool false)) 46 v27) 47 v30) 48 v30) 49 v30) 49 (Value.bool false)) 50 v27) 51 v31) 52 v31) h26 (contX pl12 prog J 126 h.length 12 ct12 [1, 1, 1, 1, 1, 1, 0, 1] (codeOf f12) [] (RetQ prog [.tmp 2] h.length K)))))) := top_eq pok12 ct12 (by kernel_rfl)
theorem s12_1 {f : RG} : W prog J 126 n0 12 (subC [1, 1, 1, 1, 1, 1, 0, 1] (codeOf f12)) f h (contX pl12 prog J 126 n0 12 ct12 [1, 1, 1, 1, 1, 1, 0, 1] (codeOf f12) [] (RetQ prog [.tmp 2] n0 K)) =
(cnd (f.r 52)
(retL n0 K f.ds [(Value.bool false)] h)
(aLoad true 6 (f.r 4) h fun v1 =>
 aLoad true 3 (f.r 5) h fun v2 =>
 Good prog J 54 [v1, v2, (f.r 8), (f.r 6), (f.r 7)] h fun v3 h4 =>
 aExt v3 0 fun v5 =>
 aExt v3 1 fun v6 =>
 aUn .not v5 fun v7 =>
 cnd v7
(Hold (W prog J 126 n0 12 (subC [1, 1, 1, 1, 1, 1, 1, 1, 0, 1] (codeOf f12)) (RG.p (RG.p (RG.p (RG.p (RG.p (RG.p (RG.p (RG.p (RG.p (RG.p (RG.p (RG.p (RG.p (RG.p (RG.p (RG.p (RG.p (RG.p f 54 v1) 55 v2) 56 (f.r 8)) 57 (f.r 6)) 58 (f.r 7)) 59 v3) 53 v3) 60 v5) 61 v6) 10 v5) 11 v6) 62 v5) 63 v7) 64 v7) 64 (Value.bool true)) 65 undef) 66 undef) 67 (Value.bool true)) h4 (contX pl12 prog J 126 n0 12 ct12 [1, 1, 1, 1, 1, 1, 1, 1, 0, 1] (codeOf f12) [] (RetQ prog [.tmp 2] n0 K))))
(aUn .not v6 fun v8 =>
 Hold (W prog J 126 n0 12 (subC [1, 1, 1, 1, 1, 1, 1, 1, 0, 1] (codeOf f12)) (RG.p (RG.p (RG.p (RG.p (RG.p (RG.p (RG.p (RG.p (RG.p (RG.p (RG.p (RG.p (RG.p (RG.p (RG.p (RG.p (RG.p (RG.p f 54 v1) 55 v2) 56 (f.r 8)) 57 (f.r 6)) 58 (f.r 7)) 59 v3) 53 v3) 60 v5) 61 v6) 10 v5) 11 v6) 62 v5) 63 v7) 64 v7) 64 (Value.bool false)) 65 v6) 66 v8) 67 v8) h4 (contX pl12 prog J 126 n0 12 ct12 [1, 1, 1, 1, 1, 1, 1, 1, 0, 1] (codeOf f12) [] (RetQ prog [.tmp 2] n0 K)))))) := sub_eq pok12 ct12 (by kernel_rfl)
theorem s12_2 {f : RG} : W prog J 126 n0 12 (subC [1, 1, 1, 1, 1, 1, 1, 1, 0, 1] (codeOf f12)) f h (contX pl12 prog J 126 n0 12 ct12 [1, 1, 1, 1, 1, 1, 1, 1, 0, 1] (codeOf f12) [] (RetQ prog [.tmp 2] n0 K)) =
(cnd (f.r 67)
(retL n0 K f.ds [(Value.bool false)] h)
(aBin prog .lss 3 (f.r 8) (vint 40) fun v1 =>
 cnd v1
(aLoad true 6 (f.r 4) h fun v2 =>
 aLoad true 3 (f.r 5) h fun v3 =>
 aBin prog .add 3 (f.r 8) (vint 1) fun v4 =>
 Good prog J 54 [v2, v3, v4, (f.r 6), (f.r 7)] h fun v5 h6 =>
 aExt v5 0 fun v7 =>
 aExt v5 1 fun v8 =>
 cnd v7
(Hold (W prog J 126 n0 12 (subC [1, 1, 1, 1, 1, 1, 1, 1, 1, 0, 1, 0, 1, 1] (codeOf f12)) (RG.p (RG.p (RG.p (RG.p (RG.p (RG.p (RG.p (RG.p (RG.p (RG.p (RG.p (RG.p (RG.p (RG.p (RG.p (RG.p (RG.p (RG.p (RG.p (RG.p f 68 (f.r 8)) 69 v1) 71 v2) 72 v3) 73 (f.r 8)) 74 v4) 75 (f.r 6)) 76 (f.r 7)) 77 v5) 70 v5) 78 v7) 79 v8) 12 v7) 13 v8) 80 v7) 81 v7) 81 (Value.bool true)) 82 undef) 83 undef) 84 (Value.bool true)) h6 (contX pl12 prog J 126 n0 12 ct12 [1, 1, 1, 1, 1, 1, 1, 1, 1, 0, 1, 0, 1, 1] (codeOf f12) [] (RetQ prog [.tmp 2] n0 K))))
(aUn .not v8 fun v9 =>
 Hold (W prog J 126 n0 12 (subC [1, 1, 1, 1, 1, 1, 1, 1, 1, 0, 1, 0, 1, 1] (codeOf f12)) (RG.p (RG.p (RG.p (RG.p (RG.p (RG.p (RG.p (RG.p (RG.p (RG.p (RG.p (RG.p (RG.p (RG.p (RG.p (RG.p (RG.p (RG.p (RG.p (RG.p f 68 (f.r 8)) 69 v1) 71 v2) 72 v3) 73 (f.r 8)) 74 v4) 75 (f.r 6)) 76 (f.r 7)) 77 v5) 70 v5) 78 v7) 79 v8) 12 v7) 13 v8) 80 v7) 81 v7) 81 (Value.bool false)) 82 v8) 83 v9) 84 v9) h6 (contX pl12 prog J 126 n0 12 ct12 [1, 1, 1, 1, 1, 1, 1, 1, 1, 0, 1, 0, 1, 1] (codeOf f12) [] (RetQ prog [.tmp 2] n0 K)))))
(aBin prog .gtr 3 (f.r 7) (vint 1) fun v10 =>
 cnd v10
(aLoad true 6 (f.r 4) h fun v11 =>
 aLoad true 3 (f.r 5) h fun v12 =>
 aBin prog .sub 3 (f.r 7) (vint 1) fun v13 =>
 Good prog J 33 [v11, v12, (f.r 6), v13] h fun v14 h15 =>
 aExt v14 0 fun v16 =>
 aExt v14 1 fun v17 =>
 aBin prog .neq 37 v17 (vint 0) fun v18 =>
 cnd v18
(Hold (W prog J 126 n0 12 (subC [1, 1, 1, 1, 1, 1, 1, 1, 1, 1, 0, 1, 0, 1, 1] (codeOf f12)) (RG.p (RG.p (RG.p (RG.p (RG.p (RG.p (RG.p (RG.p (RG.p (RG.p (RG.p (RG.p (RG.p (RG.p (RG.p (RG.p (RG.p (RG.p (RG.p (RG.p (RG.p (RG.p (RG.p f 68 (f.r 8)) 69 v1) 85 (f.r 7)) 86 v10) 88 v11) 89 v12) 90 (f.r 6)) 91 (f.r 7)) 92 v13) 93 v14) 87 v14) 94 v16) 95 v17) 14 v16) 15 v17) 96 v17) 97 v18) 98 v18) 98 (Value.bool true)) 99 undef) 100 undef) 101 undef) 102 (Value.bool true)) h15 (contX pl12 prog J 126 n0 12 ct12 [1, 1, 1, 1, 1, 1, 1, 1, 1, 1, 0, 1, 0, 1, 1] (codeOf f12) [] (RetQ prog [.tmp 2] n0 K))))
(aBin prog .lss 3 v16 (f.r 8) fun v19 =>
 Hold (W prog J 126 n0 12 (subC [1, 1, 1, 1, 1, 1, 1, 1, 1, 1, 0, 1, 0, 1, 1] (codeOf f12)) (RG.p (RG.p (RG.p (RG.p (RG.p (RG.p (RG.p (RG.p (RG.p (RG.p (RG.p (RG.p (RG.p (RG.p (RG.p (RG.p (RG.p (RG.p (RG.p (RG.p (RG.p (RG.p (RG.p f 68 (f.r 8)) 69 v1) 85 (f.r 7)) 86 v10) 88 v11) 89 v12) 90 (f.r 6)) 91 (f.r 7)) 92 v13) 93 v14) 87 v14) 94 v16) 95 v17) 14 v16) 15 v17) 96 v17) 97 v18) 98 v18) 98 (Value.bool false)) 99 v16) 100 (f.r 8)) 101 v19) 102 v19) h15 (contX pl12 prog J 126 n0 12 ct12 [1, 1, 1, 1, 1, 1, 1, 1, 1, 1, 0, 1, 0, 1, 1] (codeOf f12) [] (RetQ prog [.tmp 2] n0 K)))))
(aBin prog .add 3 (f.r 6) (f.r 7) fun v20 =>
 aOff (f.r 5) 0 fun v21 =>
 aLoad false 1 v21 h fun v22 =>
 aBin prog .lss 3 v20 v22 fun v23 =>
 cnd v23
(aLoad true 6 (f.r 4) h fun v24 =>
 aLoad true 3 (f.r 5) h fun v25 =>
 aBin prog .add 3 (f.r 6) (vint 1) fun v26 =>
 Good prog J 33 [v24, v25, v26, (f.r 7)] h fun v27 h28 =>
 aExt v27 0 fun v29 =>
 aExt v27 1 fun v30 =>
 aBin prog .neq 37 v30 (vint 0) fun v31 =>
 cnd v31
(Hold (W prog J 126 n0 12 (subC [1, 1, 1, 1, 1, 1, 1, 1, 1, 1, 1, 0, 1, 0, 1, 1] (codeOf f12)) (RG.p (RG.p (RG.p (RG.p (RG.p (RG.p (RG.p (RG.p (RG.p (RG.p (RG.p (RG.p (RG.p (RG.p (RG.p (RG.p (RG.p (RG.p (RG.p (RG.p (RG.p (RG.p (RG.p (RG.p (RG.p (RG.p (RG.p (RG.p (RG.p f 68 (f.r 8)) 69 v1) 85 (f.r 7)) 86 v10) 103 (f.r 6)) 104 (f.r 7)) 105 v20) 106 v21) 107 v22) 108 v23) 110 v24) 111 v25) 112 (f.r 6)) 113 v26) 114 (f.r 7)) 115 v27) 109 v27) 116 v29) 117 v30) 16 v29) 17 v30) 118 v30) 119 v31) 120 v31) 120 (Value.bool true)) 121 undef) 122 undef) 123 undef) 124 (Value.bool true)) h28 (contX pl12 prog J 126 n0 12 ct12 [1, 1, 1, 1, 1, 1, 1, 1, 1, 1, 1, 0, 1, 0, 1, 1] (codeOf f12) [] (RetQ prog [.tmp 2] n0 K))))
(aBin prog .lss 3 v29 (f.r 8) fun v32 =>
 Hold (W prog J 126 n0 12 (subC [1, 1, 1, 1, 1, 1, 1, 1, 1, 1, 1, 0, 1, 0, 1, 1] (codeOf f12)) (RG.p (RG.p (RG.p (RG.p (RG.p (RG.p (RG.p (RG.p (RG.p (RG.p (RG.p (RG.p (RG.p (RG.p (RG.p (RG.p (RG.p (RG.p (RG.p (RG.p (RG.p (RG.p (RG.p (RG.p (RG.p (RG.p (RG.p (RG.p (RG.p f 68 (f.r 8)) 69 v1) 85 (f.r 7)) 86 v10) 103 (f.r 6)) 104 (f.r 7)) 105 v20) 106 v21) 107 v22) 108 v23) 110 v24) 111 v25) 112 (f.r 6)) 113 v26) 114 (f.r 7)) 115 v27) 109 v27) 116 v29) 117 v30) 16 v29) 17 v30) 118 v30) 119 v31) 120 v31) 120 (Value.bool false)) 121 v29) 122 (f.r 8)) 123 v32) 124 v32) h28 (contX pl12 prog J 126 n0 12 ct12 [1, 1, 1, 1, 1, 1, 1, 1, 1, 1, 1, 0, 1, 0, 1, 1] (codeOf f12) [] (RetQ prog [.tmp 2] n0 K)))))
(Good prog J 21 [] h fun v33 h34 =>
 retL n0 K f.ds [v33] h34))))) := sub_eq pok12 ct12 (by kernel_rfl)
theorem s12_3 {f : RG} : W prog J 126 n0 12 (subC [1, 1, 1, 1, 1, 1, 1, 1, 1, 0, 1, 0, 1, 1] (codeOf f12)) f h (contX pl12 prog J 126 n0 12 ct12 [1, 1, 1, 1, 1, 1, 1, 1, 1, 0, 1, 0, 1, 1] (codeOf f12) [] (RetQ prog [.tmp 2] n0 K)) =
(cnd (f.r 84)
(retL n0 K f.ds [(Value.bool false)] h)
(aBin prog .gtr 3 (f.r 7) (vint 1) fun v1 =>
 cnd v1
(aLoad true 6 (f.r 4) h fun v2 =>
 aLoad true 3 (f.r 5) h fun v3 =>
 aBin prog .sub 3 (f.r 7) (vint 1) fun v4 =>
 Good prog J 33 [v2, v3, (f.r 6), v4] h fun v5 h6 =>
 aExt v5 0 fun v7 =>
 aExt v5 1 fun v8 =>
 aBin prog .neq 37 v8 (vint 0) fun v9 =>
 cnd v9
(Hold (W prog J 126 n0 12 (subC [1, 1, 1, 1, 1, 1, 1, 1, 1, 1, 0, 1, 0, 1, 1] (codeOf f12)) (RG.p (RG.p (RG.p (RG.p (RG.p (RG.p (RG.p (RG.p (RG.p (RG.p (RG.p (RG.p (RG.p (RG.p (RG.p (RG.p (RG.p (RG.p (RG.p (RG.p (RG.p f 85 (f.r 7)) 86 v1) 88 v2) 89 v3) 90 (f.r 6)) 91 (f.r 7)) 92 v4) 93 v5) 87 v5) 94 v7) 95 v8) 14 v7) 15 v8) 96 v8) 97 v9) 98 v9) 98 (Value.bool true)) 99 undef) 100 undef) 101 undef) 102 (Value.bool true)) h6 (contX pl12 prog J 126 n0 12 ct12 [1, 1, 1, 1, 1, 1, 1, 1, 1, 1, 0, 1, 0, 1, 1] (codeOf f12) [] (RetQ prog [.tmp 2] n0 K))))
(aBin prog .lss 3 v7 (f.r 8) fun v10 =>
 Hold (W prog J 126 n0 12 (subC [1, 1, 1, 1, 1, 1, 1, 1, 1, 1, 0, 1, 0, 1, 1] (codeOf f12)) (RG.p (RG.p (RG.p (RG.p (RG.p (RG.p (RG.p (RG.p (RG.p (RG.p (RG.p (RG.p (RG.p (RG.p (RG.p (RG.p (RG.p (RG.p (RG.p (RG.p (RG.p f 85 (f.r 7)) 86 v1) 88 v2) 89 v3) 90 (f.r 6)) 91 (f.r 7)) 92 v4) 93 v5) 87 v5) 94 v7) 95 v8) 14 v7) 15 v8) 96 v8) 97 v9) 98 v9) 98 (Value.bool false)) 99 v7) 100 (f.r 8)) 101 v10) 102 v10) h6 (contX pl12 prog J 126 n0 12 ct12 [1, 1, 1, 1, 1, 1, 1, 1, 1, 1, 0, 1, 0, 1, 1] (codeOf f12) [] (RetQ prog [.tmp 2] n0 K)))))
(aBin prog .add 3 (f.r 6) (f.r 7) fun v11 =>
 aOff (f.r 5) 0 fun v12 =>
 aLoad false 1 v12 h fun v13 =>
 aBin prog .lss 3 v11 v13 fun v14 =>
 cnd v14
(aLoad true 6 (f.r 4) h fun v15 =>
 aLoad true 3 (f.r 5) h fun v16 =>
 aBin prog .add 3 (f.r 6) (vint 1) fun v17 =>
 Good prog J 33 [v15, v16, v17, (f.r 7)] h fun v18 h19 =>
 aExt v18 0 fun v20 =>
 aExt v18 1 fun v21 =>
 aBin prog .neq 37 v21 (vint 0) fun v22 =>
 cnd v22
(Hold (W prog J 126 n0 12 (subC [1, 1, 1, 1, 1, 1, 1, 1, 1, 1, 1, 0, 1, 0, 1, 1] (codeOf f12)) (RG.p (RG.p (RG.p (RG.p (RG.p (RG.p (RG.p (RG.p (RG.p (RG.p (RG.p (RG.p (RG.p (RG.p (RG.p (RG.p (RG.p (RG.p (RG.p (RG.p (RG.p (RG.p (RG.p (RG.p (RG.p (RG.p (RG.p f 85 (f.r 7)) 86 v1) 103 (f.r 6)) 104 (f.r 7)) 105 v11) 106 v12) 107 v13) 108 v14) 110 v15) 111 v16) 112 (f.r 6)) 113 v17) 114 (f.r 7)) 115 v18) 109 v18) 116 v20) 117 v21) 16 v20) 17 v21) 118 v21) 119 v22) 120 v22) 120 (Value.bool true)) 121 undef) 122 undef) 123 undef) 124 (Value.bool true)) h19 (contX pl12 prog J 126 n0 12 ct12 [1, 1, 1, 1, 1, 1, 1, 1, 1, 1, 1, 0, 1, 0, 1, 1] (codeOf f12) [] (RetQ prog [.tmp 2] n0 K))))
(aBin prog .lss 3 v20 (f.r 8) fun v23 =>
 Hold (W prog J 126 n0 12 (subC [1, 1, 1, 1, 1, 1, 1, 1, 1, 1, 1, 0, 1, 0, 1, 1] (codeOf f12)) (RG.p (RG.p (RG.p (RG.p (RG.p (RG.p (RG.p (RG.p (RG.p (RG.p (RG.p (RG.p (RG.p (RG.p (RG.p (RG.p (RG.p (RG.p (RG.p (RG.p (RG.p (RG.p (RG.p (RG.p (RG.p (RG.p (RG.p f 85 (f.r 7)) 86 v1) 103 (f.r 6)) 104 (f.r 7)) 105 v11) 106 v12) 107 v13) 108 v14) 110 v15) 111 v16) 112 (f.r 6)) 113 v17) 114 (f.r 7)) 115 v18) 109 v18) 116 v20) 117 v21) 16 v20) 17 v21) 118 v21) 119 v22) 120 v22) 120 (Value.bool false)) 121 v20) 122 (f.r 8)) 123 v23) 124 v23) h19 (contX pl12 prog J 126 n0 12 ct12 [1, 1, 1, 1, 1, 1, 1, 1, 1, 1, 1, 0, 1, 0, 1, 1] (codeOf f12) [] (RetQ prog [.tmp 2] n0 K)))))
(Good prog J 21 [] h fun v24 h25 =>
 retL n0 K f.ds [v24] h25)))) := sub_eq pok12 ct12 (by kernel_rfl)
theorem s12_4 {f : RG} : W prog J 126 n0 12 (subC [1, 1, 1, 1, 1, 1, 1, 1, 1, 1, 0, 1, 0, 1, 1] (codeOf f12)) f h (contX pl12 prog J 126 n0 12 ct12 [1, 1, 1, 1, 1, 1, 1, 1, 1, 1, 0, 1, 0, 1, 1] (codeOf f12) [] (RetQ prog [.tmp 2] n0 K)) =
(cnd (f.r 102)
(retL n0 K f.ds [(Value.bool false)] h)
(aBin prog .add 3 (f.r 6) (f.r 7) fun v1 =>
 aOff (f.r 5) 0 fun v2 =>
 aLoad false 1 v2 h fun v3 =>
 aBin prog .lss 3 v1 v3 fun v4 =>
 cnd v4
(aLoad true 6 (f.r 4) h fun v5 =>
 aLoad true 3 (f.r 5) h fun v6 =>
 aBin prog .add 3 (f.r 6) (vint 1) fun v7 =>
 Good prog J 33 [v5, v6, v7, (f.r 7)] h fun v8 h9 =>
 aExt v8 0 fun v10 =>
 aExt v8 1 fun v11 =>
 aBin prog .neq 37 v11 (vint 0) fun v12 =>
 cnd v12
(Hold (W prog J 126 n0 12 (subC [1, 1, 1, 1, 1, 1, 1, 1, 1, 1, 1, 0, 1, 0, 1, 1] (codeOf f12)) (RG.p (RG.p (RG.p (RG.p (RG.p (RG.p (RG.p (RG.p (RG.p (RG.p (RG.p (RG.p (RG.p (RG.p (RG.p (RG.p (RG.p (RG.p (RG.p (RG.p (RG.p (RG.p (RG.p (RG.p (RG.p f 103 (f.r 6)) 104 (f.r 7)) 105 v1) 106 v2) 107 v3) 108 v4) 110 v5) 111 v6) 112 (f.r 6)) 113 v7) 114 (f.r 7)) 115 v8) 109 v8) 116 v10) 117 v11) 16 v10) 17 v11) 118 v11) 119 v12) 120 v12) 120 (Value.bool true)) 121 undef) 122 undef) 123 undef) 124 (Value.bool true)) h9 (contX pl12 prog J 126 n0 12 ct12 [1, 1, 1, 1, 1, 1, 1, 1, 1, 1, 1, 0, 1, 0, 1, 1] (codeOf f12) [] (RetQ prog [.tmp 2] n0 K))))
(aBin prog .lss 3 v10 (f.r 8) fun v13 =>
 Hold (W prog J 126 n0 12 (subC [1, 1, 1, 1, 1, 1, 1, 1, 1, 1, 1, 0, 1, 0, 1, 1] (codeOf f12)) (RG.p (RG.p (RG.p (RG.p (RG.p (RG.p (RG.p (RG.p (RG.p (RG.p (RG.p (RG.p (RG.p (RG.p (RG.p (RG.p (RG.p (RG.p (RG.p (RG.p (RG.p (RG.p (RG.p (RG.p (RG.p f 103 (f.r 6)) 104 (f.r 7)) 105 v1) 106 v2) 107 v3) 108 v4) 110 v5) 111 v6) 112 (f.r 6)) 113 v7) 114 (f.r 7)) 115 v8) 109 v8) 116 v10) 117 v11) 16 v10) 17 v11) 118 v11) 119 v12) 120 v12) 120 (Value.bool false)) 121 v10) 122 (f.r 8)) 123 v13) 124 v13) h9 (contX pl12 prog J 126 n0 12 ct12 [1, 1, 1, 1, 1, 1, 1, 1, 1, 1, 1, 0, 1, 0, 1, 1] (codeOf f12) [] (RetQ prog [.tmp 2] n0 K)))))
(Good prog J 21 [] h fun v14 h15 =>
 retL n0 K f.ds [v14] h15))) := sub_eq pok12 ct12 (by kernel_rfl)
theorem s12_5 {f : RG} : W prog J 126 n0 12 (subC [1, 1, 1, 1, 1, 1, 1, 1, 1, 1, 1, 0, 1, 0, 1, 1] (codeOf f12)) f h (contX pl12 prog J 126 n0 12 ct12 [1, 1, 1, 1, 1, 1, 1, 1, 1, 1, 1, 0, 1, 0, 1, 1] (codeOf f12) [] (RetQ prog [.tmp 2] n0 K)) =
(cnd (f.r 124)
(retL n0 K f.ds [(Value.bool false)] h)
(Good prog J 21 [] h fun v1 h2 =>
 retL n0 K f.ds [v1] h2)) := sub_eq pok12 ct12 (by kernel_rfl)
end
section
variable {main : Bool} {J : JT} {n0 : Nat} {h : List AObj} {K : Value → List AObj → Prop}
theorem at24 : prog.funcs[24]? = some f24 := by kernel_rfl
theorem body24 : f24.body = some (codeOf f24) := by kernel_rfl
def pl24 : Plans := [(2, false, .take 0 (.take 1 (.take 2 (.take 3 (.take 4 (.take 5 (.take 7 (.take 8 (.take 9 (.take 10 (.take 11 (.take 12 (.last 6 true (.last 13 true (.last 14 true (.last 15 true (.take 16 (.last 17 false (.fin))))))))))))))))))),
  (4, false, .take 0 (.take 1 (.take 2 (.take 3 (.take 4 (.take 6 (.take 7 (.take 8 (.last 5 true (.last 9 true (.last 10 true (.last 11 true (.take 12 (.last 13 false (.fin)))))))))))))))]
def ct24 : Cuts := .go
theorem pok24 : plansOk prog pl24 (codeOf f24) = true := by kernel_rfl
theorem e24 {a0 : Value} : W prog J 55 h.length 24 (codeOf f24) (RG.mk (regs [a0]) []) h (RetQ prog [.cell 2 31] h.length K) =
(aAlloc [(vint 0), (vint 0), (vint 0), (vint 0), (vint 0), (vint 0)] h fun v1 h2 =>
 Good prog J 23 [a0, (vint 3), (vint 30)] h2 fun v3 h4 =>
(((3 * 1 : Nat) ≤ 16777216 ∧ (3 : Nat) ≤ 16777216 ∧ List.length [(vint 0)] = 1) ∧ aFill (zrep [(vint 0)] 3) [(0, 1, (vint 1)), (1, 1, (vint 1)), (2, 1, (vint 2))] fun c5 =>
 aNewS 3 c5 h4 fun v6 h7 =>
 Good prog J 69 [a0, (vint 0), v6] h7 fun v8 h9 =>
 Good prog J 26 [a0, (vint 5)] h9 fun v10 h11 =>
(((3 * 1 : Nat) ≤ 16777216 ∧ (3 : Nat) ≤ 16777216 ∧ List.length [(vint 0)] = 1) ∧ aFill (zrep [(vint 0)] 3) [(0, 1, (vint 1)), (1, 1, (vint 2)), (2, 1, v10)] fun c12 =>
 aNewS 3 c12 h11 fun v13 h14 =>
 Good prog J 69 [a0, (vint 0), v13] h14 fun v15 h16 =>
 aFill [(vint 0), (vint 0), (vint 0), (vint 0), (vint 0), (vint 0)] [(1, 1, v3), (2, 1, v8), (5, 1, v15)] fun c17 =>
 aAlloc [(vint 0), (vint 0), (vint 0), (vint 0), (vint 0), (vint 0)] h16 fun v18 h19 =>
 aStore 6 v18 (Value.agg ⟨c17⟩) h19 fun h20 =>
(∃ B, aOff v18 1 fun v21 =>
 aLoad false 1 v21 h20 fun v22 =>
 RdOk (some B) (ptrBlk v21) ∧ (aOff v18 1 fun v23 =>
 aLoad false 1 v23 h20 fun v24 =>
 RdOk (some B) (ptrBlk v23) ∧ (aOff v18 1 fun v25 =>
 aLoad false 1 v25 h20 fun v26 =>
 RdOk (some B) (ptrBlk v25) ∧ (aBin prog .quo 3 v26 (vint 2) fun v27 =>
 aOff v18 1 fun v28 =>
 aLoad false 1 v28 h20 fun v29 =>
 RdOk (some B) (ptrBlk v28) ∧ (Good prog J 26 [a0, v24] h20 fun v30 h31 =>
 SameB (some B) h20 h31 ∧ (Good prog J 23 [a0, v27, v29] h31 fun v32 h33 =>
 SameB (some B) h20 h33 ∧ ((((2 * 1 : Nat) ≤ 16777216 ∧ (2 : Nat) ≤ 16777216 ∧ List.length [(vint 0)] = 1) ∧ aFill (zrep [(vint 0)] 2) [(0, 1, v30), (1, 1, v32)] fun c34 =>
 aNewS 2 c34 h33 fun v35 h36 =>
 SameB (some B) h20 h36 ∧ (Good prog J 69 [a0, v22, v35] h36 fun v37 h38 =>
 SameB (some B) h20 h38 ∧ (aOff v18 0 fun v39 =>
 aStore 1 v39 v37 h38 fun h40 =>
 aOff v18 2 fun v41 =>
 aLoad false 1 v41 h40 fun v42 =>
 aOff v18 2 fun v43 =>
 aLoad false 1 v43 h40 fun v44 =>
 aBin prog .add 3 v44 (vint 5) fun v45 =>
 aMin (vint 9) [v45] fun v46 =>
 Good prog J 23 [a0, v42, v46] h40 fun v47 h48 =>
 aOff v18 3 fun v49 =>
 aStore 1 v49 v47 h48 fun h50 =>
(∃ B, aOff v18 1 fun v51 =>
 aLoad false 1 v51 h50 fun v52 =>
 RdOk (some B) (ptrBlk v51) ∧ (aBin prog .quo 3 v52 (vint 2) fun v53 =>
 aOff v18 1 fun v54 =>
 aLoad false 1 v54 h50 fun v55 =>
 RdOk (some B) (ptrBlk v54) ∧ (Good prog J 26 [a0, v53] h50 fun v56 h57 =>
 SameB (some B) h50 h57 ∧ (Good prog J 26 [a0, v55] h57 fun v58 h59 =>
 SameB (some B) h50 h59 ∧ ((((4 * 1 : Nat) ≤ 16777216 ∧ (4 : Nat) ≤ 16777216 ∧ List.length [(vint 0)] = 1) ∧ aFill (zrep [(vint 0)] 4) [(0, 1, (vint 1)), (1, 1, (vint 2)), (2, 1, v56), (3, 1, v58)] fun c60 =>
 aNewS 4 c60 h59 fun v61 h62 =>
 SameB (some B) h50 h62 ∧ (Good prog J 69 [a0, (vint 0), v61] h62 fun v63 h64 =>
 SameB (some B) h50 h64 ∧ (aOff v18 4 fun v65 =>
 aStore 1 v65 v63 h64 fun h66 =>
 aLoad true 6 v18 h66 fun v67 =>
 aStore 6 v1 v67 h66 fun h68 =>
 RetQ prog [.cell 2 31] h.length K .ret (RG.p (RG.p (RG.p (RG.p (RG.p (RG.p (RG.p (RG.p (RG.p (RG.p (RG.p (RG.p (RG.p (RG.p (RG.p (RG.p (RG.p (RG.p (RG.p (RG.p (RG.p (RG.p (RG.p (RG.p (RG.p (RG.p (RG.p (RG.p (RG.p (RG.p (RG.p (RG.p (RG.p (RG.p (RG.p (RG.p (RG.p (RG.p (RG.p (RG.p (RG.p (RG.p (RG.p (RG.p (RG.p (RG.p (RG.p (RG.p (RG.p (RG.p (RG.p (RG.p (RG.p (RG.mk (regs [a0]) []) 2 v1) 4 a0) 5 v3) 6 a0) 7 v6) 8 v8) 9 a0) 10 a0) 11 v10) 12 v13) 13 v15) 14 (Value.agg ⟨c17⟩)) 3 v18) 15 a0) 16 v21) 17 v22) 18 a0) 19 v23) 20 v24) 22 a0) 23 v25) 24 v26) 25 v27) 26 v28) 27 v29) 21 v30) 28 v32) 29 v35) 30 v37) 31 v39) 32 a0) 33 v41) 34 v42) 35 v43) 36 v44) 37 v45) 38 v46) 39 v47) 40 v49) 41 a0) 42 a0) 43 v51) 44 v52) 45 v53) 47 a0) 48 v54) 49 v55) 46 v56) 50 v58) 51 v61) 52 v63) 53 v65) 54 v67) h68))))))))))))))))))))) := top_eq pok24 ct24 (by kernel_rfl)
theorem g24 (hJ : Closed prog main J) {a0 : Value} (hs : heapOk h → W prog J 55 h.length 24 (codeOf f24) (RG.mk (regs [a0]) []) h (RetQ prog [.cell 2 31] h.length K)) : Good prog J 24 [a0] h K :=
  good_of_W hJ mixed at24 body24 (by kernel_rfl) (Nat.le_of_ble_eq_true rfl) hs
theorem at25 : prog.funcs[25]? = some f25 := by kernel_rfl
theorem body25 : f25.body = some (codeOf f25) := by kernel_rfl
def pl25 : Plans := [(2, false, .take 0 (.take 1 (.take 2 (.take 4 (.take 5 (.take 6 (.last 3 true (.take 8 (.last 7 true (.last 9 false (.take 10 (.last 11 false (.fin)))))))))))))]
def ct25 : Cuts := .go
theorem pok25 : plansOk prog pl25 (codeOf f25) = true := by kernel_rfl
theorem e25 {a0 a1 : Value} : W prog J 21 h.length 25 (codeOf f25) (RG.mk (regs [a0, a1]) []) h (RetQ prog [.cell 4 24] h.length K) =
(aAlloc [(vint 0), (vint 0), (vint 0)] h fun v1 h2 =>
 Good prog J 23 [a0, (vint 1), a1] h2 fun v3 h4 =>
 aFill [(vint 0), (vint 0), (vint 0)] [(0, 1, v3)] fun c5 =>
 aAlloc [(vint 0), (vint 0), (vint 0)] h4 fun v6 h7 =>
 aStore 3 v6 (Value.agg ⟨c5⟩) h7 fun h8 =>
(∃ B, aOff v6 0 fun v9 =>
 aLoad false 1 v9 h8 fun v10 =>
 RdOk (some B) (ptrBlk v9) ∧ (aOff v6 0 fun v11 =>
 aLoad false 1 v11 h8 fun v12 =>
 RdOk (some B) (ptrBlk v11) ∧ (Good prog J 23 [a0, (vint 1), v10] h8 fun v13 h14 =>
 SameB (some B) h8 h14 ∧ (aOff v6 1 fun v15 =>
 Good prog J 23 [a0, (vint 1), v12] h14 fun v16 h17 =>
 SameB (some B) h8 h17 ∧ (aStore 1 v15 v13 h17 fun h18 =>
 aOff v6 2 fun v19 =>
 aStore 1 v19 v16 h18 fun h20 =>
 aLoad true 3 v6 h20 fun v21 =>
 aStore 3 v1 v21 h20 fun h22 =>
 RetQ prog [.cell 4 24] h.length K .ret (RG.p (RG.p (RG.p (RG.p (RG.p (RG.p (RG.p (RG.p (RG.p (RG.p (RG.p (RG.p (RG.p (RG.p (RG.p (RG.p (RG.p (RG.mk (regs [a0, a1]) []) 4 v1) 6 a0) 7 a1) 8 v3) 9 (Value.agg ⟨c5⟩)) 5 v6) 10 a0) 11 v9) 12 v10) 14 a0) 15 v11) 16 v12) 13 v13) 18 v15) 17 v16) 19 v19) 20 v21) h22)))))) := top_eq pok25 ct25 (by kernel_rfl)
theorem g25 (hJ : Closed prog main J) {a0 a1 : Value} (hs : heapOk h → W prog J 21 h.length 25 (codeOf f25) (RG.mk (regs [a0, a1]) []) h (RetQ prog [.cell 4 24] h.length K)) : Good prog J 25 [a0, a1] h K :=
  good_of_W hJ mixed at25 body25 (by kernel_rfl) (Nat.le_of_ble_eq_true rfl) hs
end
end Go.Proofs.Ythnccaajpdnndaa
